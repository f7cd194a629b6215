/- slices.Clone, of elements of several cells. -/
import Derived.Test.YtpodedhnlicckaaGreatDoorTbEq
import Derived.Laws.Small
import Derived.Lib.SliceRun
import Derived.Test.YtpodedhnlicckaaGreatDoorTabF
import Derived.Laws.IdiomCopy
import Derived.Test.YtpodedhnlicckaaGreatDoorTbMp
namespace Go.Proofs.YtpodedhnlicckaaGreatDoor
open Go.RowKit
set_option linter.unusedVariables false
set_option linter.unusedSimpArgs false
/-- A slice of n elements of sz cells each, at the head of block b: its cells in a row. -/
def SlN (w : World) (v : Value) (b : Nat) (t : TypeId) (n sz : Nat) (V : Nat → Value) : Prop := ∃ a c, v = .slice a n c ∧ n ≤ c ∧ c ≤ maxLen ∧ (0 < n → a = some ⟨b, 0, none⟩ ∧ RowAt w b t (n * sz) V)
theorem SlN.of_own {w : World} {base n sz : Nat} {v : Value} {xs : List Value} {t : TypeId} {V : Nat → Value} (h : w.ownsRow base t sz v n xs) (hV : ∀ i, i < n * sz → xs[i]? = some (V i)) : ∃ b, SlN w v b t n sz V ∧ (0 < n → base ≤ b ∧ b < w.heap.size) := by
  rcases h.2 with ⟨rfl, h0⟩ | ⟨g, cap, cur, rfl, hb, hg, hn, hm, hs, htk⟩
  · subst h0; exact ⟨0, ⟨none, 0, rfl, by omega, by unfold maxLen; omega, fun hp => absurd hp (by omega)⟩, fun hp => absurd hp (by omega)⟩
  · refine ⟨g, ⟨_, cap, rfl, hn, hm, fun _ => ⟨rfl, cur, hg, ?_, fun i hi => ?_⟩⟩, fun _ => ⟨hb, heap_lt hg⟩⟩
    · have := Nat.mul_le_mul_right sz hn
      omega
    · have := hV i hi
      rw [← htk, List.getElem?_take, if_pos (by omega)] at this
      simpa using this
theorem SlN.slice {w : World} {v : Value} {b n sz : Nat} {t : TypeId} {V : Nat → Value} (h : SlN w v b t n sz V) : ∃ a c, v = .slice a n c ∧ n ≤ c ∧ c ≤ maxLen ∧ SliceAt w a (n * sz) V := by
  obtain ⟨a, c, h1, h2, h3, h4⟩ := h
  refine ⟨a, c, h1, h2, h3, ?_⟩
  by_cases hn : n = 0
  · subst hn; left; omega
  · obtain ⟨rfl, hr⟩ := h4 (by omega)
    exact .inr ⟨b, 0, rfl, hr.lt, fun i hi => by rw [Nat.zero_add]; exact hr.cell hi⟩
theorem SliceN.flat {w : World} {a : Option Addr} {n sz : Nat} {C : Nat → Nat → Value} (hs : 0 < sz) (h : SliceN w a n sz C) : SliceAt w a (n * sz) (fun q => C (q / sz) (q % sz)) := by
  rcases h with h | ⟨b, off, rfl, hb, hc⟩
  · left; rw [h, Nat.zero_mul]
  · refine .inr ⟨b, off, rfl, hb, fun q hq => ?_⟩
    have h1 : q / sz < n := Nat.div_lt_of_lt_mul (by rw [Nat.mul_comm]; exact hq)
    have := hc (q / sz) h1 (q % sz) (Nat.mod_lt _ hs)
    rw [← this]
    congr 2
    have := Nat.div_add_mod q sz
    rw [Nat.mul_comm] at this
    omega
theorem SliceAt.split {w : World} {a : Option Addr} {n sz : Nat} {V : Nat → Value} (hz : 0 < sz) (h : SliceAt w a (n * sz) V) : SliceN w a n sz (fun i j => V (i * sz + j)) := by
  rcases h with h | ⟨b, off, rfl, hb, hc⟩
  · left
    rcases Nat.mul_eq_zero.1 h with h | h
    · exact h
    · omega
  · refine .inr ⟨b, off, rfl, hb, fun i hi j hj => ?_⟩
    rw [Nat.add_assoc]
    refine hc _ ?_
    calc i * sz + j < i * sz + sz := by omega
      _ = (i + 1) * sz := by rw [Nat.succ_mul]
      _ ≤ n * sz := Nat.mul_le_mul_right _ hi
/-- What a clone leaves. -/
def ClnP (w : World) (t : TypeId) (n sz : Nat) (V : Nat → Value) (e : Ending) (w' : World) : Prop := ∃ v, e = .returned v ∧ (∃ b, SlN w' v b t n sz V ∧ (0 < n → w.heap.size ≤ b ∧ b < w'.heap.size)) ∧ Below w.heap.size w w'
theorem info_clone_int : (Tryz.prog.info? 3).map (fun i => (i.zero, i.size, i.bytes)) = some (some (.int .i64 0), 1, 8) := by kernel_rfl
set_option maxHeartbeats 2000000 in
theorem clone_int (a : Option Addr) (n c : Nat) (V : Nat → Value) (w : World) (hV : ∀ i, i < n * 1 → (V i).oneCell' = true) (hn : n ≤ 1000000) (hs : SliceAt w a (n * 1) V) :
    Calls Tryz.prog 26 #[.slice a n c] w (ClnP w 3 n 1 V) := by
  cases a with
  | none =>
    have hn0 : n * 1 = 0 := hs.elim id (fun h => by obtain ⟨b, off, h, _⟩ := h; cases h)
    obtain rfl : n = 0 := by omega
    have hk : ∀ w : World, (binOp .eql 22 (.slice none 0 c) (.slice none 0 0)).run Tryz.prog w = .ok (.bool true) w := fun w => Lib.run_eql_slice_nil w _ _ none 0 c 0 0 Tryz.underlying22
    clear hs hV
    go_enter Tryz.func26, Tryz.ntmps26
    go_wp2_with fail
    go_ret
    exact ⟨_, rfl, ⟨0, ⟨none, 0, rfl, Nat.le_refl _, by unfold maxLen; omega, fun hp => absurd hp (by omega)⟩, fun hp => absurd hp (by omega)⟩, Below.refl _ _⟩
  | some ad =>
    obtain ⟨i0, hi, hz0, hz1, hz2⟩ := tb_info info_clone_int
    have HIn := Lib.hid hi; have HZ0 := Lib.hid hz0; have HZ1 := Lib.hid hz1; have HZ2 := Lib.hid hz2
    have HS := Lib.hid hs
    have HV := Lib.hid hV
    clear hi hz0 hz1 hz2 hs hV
    have hk : ∀ w : World, (binOp .eql 22 (.slice (some ad) n c) (.slice none 0 0)).run Tryz.prog w = .ok (.bool false) w := fun w => Lib.run_eql_slice_nil w _ _ (some ad) n c 0 0 Tryz.underlying22
    go_enter Tryz.func26, Tryz.ntmps26
    have hown : ((w.alloc (.cells #[] 3)).ownsRow w.heap.size 3 1 (.slice (some ⟨w.heap.size, 0, none⟩) 0 0) 0 []) := ⟨rfl, .inr ⟨w.heap.size, 0, #[], rfl, Nat.le_refl _, heap_alloc_new _ _, Nat.le_refl _, by unfold maxLen; omega, rfl, rfl⟩⟩
    go_wp2_with (at_builtin; refine wpList_append_own _ rfl _ _ 22 rfl w.heap.size 3 i0 (.int .i64 0) 1 8 Tryz.underlying22 HIn.out HZ0.out HZ1.out HZ2.out rfl (by decide) _ 0 [] rfl hown ad n c ((List.range (n * 1)).map V) rfl (by simp) ?c1 ?c2 ?c3 ?c4 ?c5 ?_)
    case c1 =>
      intro j u h
      have hj : j < n * 1 := by
        by_cases e : j < n * 1
        · exact e
        · rw [List.getElem?_eq_none (by simp; omega)] at h; cases h
      obtain ⟨b', off, e, hlt, hc⟩ := HS.out.at (by omega)
      cases e
      rw [Go.WideShapes.add_plain, (Below.refl _ w).alloc (Nat.le_refl _) _ |>.cell hlt, hc j hj]
      rw [List.getElem?_map, List.getElem?_range hj] at h
      exact h
    case c2 => intro u hu; obtain ⟨i, hi, rfl⟩ := List.mem_map.1 hu; exact HV.out i (by simpa using hi)
    case c3 => unfold maxLen; omega
    case c4 => omega
    case c5 => simp
    intro v' w1 hown1 hgr _
    have hB : Hid (Below w.heap.size w w1) := ((Below.refl _ w).alloc (Nat.le_refl _) _).grown hgr (by simp) (fun k e => by simp [Value.ownBlock] at e; omega)
    try rw [Nat.zero_add] at hown1
    try rw [List.nil_append] at hown1
    have hSl := Lib.hid (SlN.of_own (V := V) hown1 (fun i hi => by rw [List.getElem?_map, List.getElem?_range (by omega)]; rfl))
    clear hown1 hgr hown hk
    go_wp2_with fail
    go_ret
    exact ⟨_, rfl, hSl.out, hB.out⟩
theorem info_clone_rt : (Tryz.prog.info? 30).map (fun i => (i.zero, i.size, i.bytes)) = some (some (.agg #[.int .i64 0, .slice none 0 0, .slice none 0 0, .int .i64 0, .slice none 0 0, .int .u16 0]), 6, 96) := by kernel_rfl
set_option maxHeartbeats 2000000 in
theorem clone_rt (a : Option Addr) (n c : Nat) (V : Nat → Value) (w : World) (hV : ∀ i, i < n * 6 → (V i).oneCell' = true) (hn : n ≤ 1000000) (hs : SliceAt w a (n * 6) V) :
    Calls Tryz.prog 23 #[.slice a n c] w (ClnP w 30 n 6 V) := by
  cases a with
  | none =>
    have hn0 : n * 6 = 0 := hs.elim id (fun h => by obtain ⟨b, off, h, _⟩ := h; cases h)
    obtain rfl : n = 0 := by omega
    have hk : ∀ w : World, (binOp .eql 23 (.slice none 0 c) (.slice none 0 0)).run Tryz.prog w = .ok (.bool true) w := fun w => Lib.run_eql_slice_nil w _ _ none 0 c 0 0 Tryz.underlying23
    clear hs hV
    go_enter Tryz.func23, Tryz.ntmps23
    go_wp2_with fail
    go_ret
    exact ⟨_, rfl, ⟨0, ⟨none, 0, rfl, Nat.le_refl _, by unfold maxLen; omega, fun hp => absurd hp (by omega)⟩, fun hp => absurd hp (by omega)⟩, Below.refl _ _⟩
  | some ad =>
    obtain ⟨i0, hi, hz0, hz1, hz2⟩ := tb_info info_clone_rt
    have HIn := Lib.hid hi; have HZ0 := Lib.hid hz0; have HZ1 := Lib.hid hz1; have HZ2 := Lib.hid hz2
    have HS := Lib.hid hs
    have HV := Lib.hid hV
    clear hi hz0 hz1 hz2 hs hV
    have hk : ∀ w : World, (binOp .eql 23 (.slice (some ad) n c) (.slice none 0 0)).run Tryz.prog w = .ok (.bool false) w := fun w => Lib.run_eql_slice_nil w _ _ (some ad) n c 0 0 Tryz.underlying23
    go_enter Tryz.func23, Tryz.ntmps23
    have hown : ((w.alloc (.cells #[] 30)).ownsRow w.heap.size 30 6 (.slice (some ⟨w.heap.size, 0, none⟩) 0 0) 0 []) := ⟨rfl, .inr ⟨w.heap.size, 0, #[], rfl, Nat.le_refl _, heap_alloc_new _ _, Nat.le_refl _, by unfold maxLen; omega, rfl, rfl⟩⟩
    go_wp2_with (at_builtin; refine wpList_append_own _ rfl _ _ 23 rfl w.heap.size 30 i0 (.agg #[.int .i64 0, .slice none 0 0, .slice none 0 0, .int .i64 0, .slice none 0 0, .int .u16 0]) 6 96 Tryz.underlying23 HIn.out HZ0.out HZ1.out HZ2.out rfl (by decide) _ 0 [] rfl hown ad n c ((List.range (n * 6)).map V) rfl (by simp) ?c1 ?c2 ?c3 ?c4 ?c5 ?_)
    case c1 =>
      intro j u h
      have hj : j < n * 6 := by
        by_cases e : j < n * 6
        · exact e
        · rw [List.getElem?_eq_none (by simp; omega)] at h; cases h
      obtain ⟨b', off, e, hlt, hc⟩ := HS.out.at (by omega)
      cases e
      rw [Go.WideShapes.add_plain, (Below.refl _ w).alloc (Nat.le_refl _) _ |>.cell hlt, hc j hj]
      rw [List.getElem?_map, List.getElem?_range hj] at h
      exact h
    case c2 => intro u hu; obtain ⟨i, hi, rfl⟩ := List.mem_map.1 hu; exact HV.out i (by simpa using hi)
    case c3 => unfold maxLen; omega
    case c4 => omega
    case c5 => simp
    intro v' w1 hown1 hgr _
    have hB : Hid (Below w.heap.size w w1) := ((Below.refl _ w).alloc (Nat.le_refl _) _).grown hgr (by simp) (fun k e => by simp [Value.ownBlock] at e; omega)
    try rw [Nat.zero_add] at hown1
    try rw [List.nil_append] at hown1
    have hSl := Lib.hid (SlN.of_own (V := V) hown1 (fun i hi => by rw [List.getElem?_map, List.getElem?_range (by omega)]; rfl))
    clear hown1 hgr hown hk
    go_wp2_with fail
    go_ret
    exact ⟨_, rfl, hSl.out, hB.out⟩
end Go.Proofs.YtpodedhnlicckaaGreatDoor
/- slices.DeleteFunc, of ints in a row of their own. -/
namespace Go.Proofs.YtpodedhnlicckaaGreatDoor
open Go.RowKit
set_option linter.unusedVariables false
set_option linter.unusedSimpArgs false
set_option maxHeartbeats 2000000 in
theorem indexG_int (v : Value) (l : List Int) (g : Nat) (lb : Array Value) (p : Int → Bool) (w : World) (h : IntsAt w v l) (eg : ∀ args w, (callFunc g args).run Tryz.prog w = .ok (.enter g args) w) (hp : Is_int g lb p l w) :
    Calls Tryz.prog 55 #[v, .func (.func g) #[] lb] w fun e w' => ((e = .returned (.int .i64 (-1)) ∧ ∀ j, j < l.length → p (l.getD j 0) = false) ∨ ∃ k : Nat, e = .returned (.int .i64 (k : Int)) ∧ k < l.length ∧ p (l.getD k 0) = true ∧ ∀ j, j < k → p (l.getD j 0) = false) ∧ Below w.heap.size w w' := by
  have hsz := h.size
  unfold maxLen at hsz
  obtain ⟨a, c, rfl, hlc, hcm, _⟩ := h.at_
  have H := Lib.hid h; have HP := Lib.hid hp
  clear h hp
  go_enter Tryz.func55, Tryz.ntmps55
  go_wp2_with fail
  go_loopw [8] (fun i wr => ∃ k : Nat, k ≤ l.length ∧ i = .int .i64 k ∧ (∀ j, j < k → p (l.getD j 0) = false) ∧ Below w.heap.size w wr) (fun i _ => l.length - (intOf i).toNat)
  case atStart => exact ⟨0, Nat.zero_le _, rfl, fun j hj => absurd hj (by omega), Below.refl _ _⟩
  case round =>
    obtain ⟨k, hk, rfl, hno, hb1⟩ := hrel
    obtain ⟨w1, rfl⟩ : ∃ w1 : World, w1 = wr := ⟨_, rfl⟩
    have NO := Lib.hid hno; have B1 := Lib.hid hb1
    clear hno hb1
    by_cases hlt : k < l.length
    · obtain ⟨b, off, rfl, hb, x0⟩ := (H.out.below B1.out).cell hlt
      have HC := Lib.hid (HP.out k hlt w1 B1.out)
      cases hx : p (l.getD k 0)
      case true =>
        have HT := Lib.hid hx
        have HLT := Lib.hid hlt
        rw [hx] at HC
        clear hx
        generalize hy : l.getD k 0 = y at *
        have HY := Lib.hid hy
        clear hy
        go_wp2_with fail
        refine HC.out.mono ?_
        rintro e w2 ⟨rfl, hb2⟩
        have B2 := Lib.hid (B1.out.trans (hb2.mono B1.out.size))
        clear hb2 x0
        go_wp2_with fail
        go_ret
        exact ⟨.inr ⟨k, rfl, HLT.out, by rw [HY.out]; exact HT.out, NO.out⟩, B2.out⟩
      case false =>
        rw [hx] at HC
        have HX := Lib.hid hx
        clear hx
        generalize hy : l.getD k 0 = y at *
        have HY := Lib.hid hy
        clear hy
        go_wp2_with fail
        refine HC.out.mono ?_
        rintro e w2 ⟨rfl, hb2⟩
        have B2 := Lib.hid (B1.out.trans (hb2.mono B1.out.size))
        clear hb2 x0
        go_wp2_with fail
        go_roundw
        case rel => exact ⟨k + 1, by omega, by go_num, fun j hj => (by
          by_cases e : j < k
          · exact NO.out j e
          · obtain rfl : j = k := by omega
            rw [HY.out]; exact HX.out), B2.out⟩
        case measure => simp [intOf]; omega
    · obtain rfl : k = l.length := by omega
      go_wp2_with fail
      go_ret
      exact ⟨.inl ⟨rfl, NO.out⟩, B1.out⟩
theorem row_sets {b n a : Nat} {t : TypeId} : ∀ (vs : List Value) (o : Nat) (w : World) (V : Nat → Value), RowAt w b t n V → a ≤ o → a ≤ n → RowAt (w.setCells b o vs) b t a V
  | [], o, w, V, h, ho, hn => by obtain ⟨cur, h1, h2, h3⟩ := h; exact ⟨cur, h1, by omega, fun i hi => h3 i (by omega)⟩
  | v :: r, o, w, V, h, ho, hn => by
    have k := row_sets (a := a) r (o + 1) (w.setCell ⟨b, o, none⟩ v) _ (h.set v) (by omega) hn
    exact k.congr fun i hi => by rw [if_neg (by omega)]
theorem only_sets {b : Nat} {w0 : World} : ∀ (vs : List Value) (o : Nat) (w : World), Only (fun i => i = b) w0 w → Only (fun i => i = b) w0 (w.setCells b o vs)
  | [], o, w, h => h
  | v :: r, o, w, h => only_sets r (o + 1) _ (h.set _ _ (.inr rfl))
/-- What is left of the first q. -/
def leftI (p : Int → Bool) (l : List Int) (q : Nat) : List Int := (l.take q).filter fun x => !p x
theorem leftI_succ {p : Int → Bool} {l : List Int} {q : Nat} (h : q < l.length) : leftI p l (q + 1) = if p (l.getD q 0) = true then leftI p l q else leftI p l q ++ [l.getD q 0] := by
  unfold leftI
  rw [List.take_add_one, List.filter_append, List.getD_eq_getElem?_getD, List.getElem?_eq_getElem h]
  simp only [Option.toList_some, Option.getD_some]
  cases hp : p l[q] <;> simp [hp]
theorem leftI_len (p : Int → Bool) (l : List Int) (q : Nat) : (leftI p l q).length ≤ q := by
  unfold leftI
  have := List.length_filter_le (fun x => !p x) (l.take q)
  rw [List.length_take] at this
  omega
theorem leftI_none {p : Int → Bool} {l : List Int} {q : Nat} (hq : q ≤ l.length) (h : ∀ j, j < q → p (l.getD j 0) = false) : leftI p l q = l.take q := by
  unfold leftI
  rw [List.filter_eq_self]
  intro x hx
  obtain ⟨i, hi, rfl⟩ := List.mem_iff_getElem.1 hx
  rw [List.length_take] at hi
  have := h i (by omega)
  rw [List.getD_eq_getElem?_getD, List.getElem?_eq_getElem (by omega)] at this
  rw [List.getElem_take]
  simpa using this
end Go.Proofs.YtpodedhnlicckaaGreatDoor
/- slices.DeleteFunc: the walk. -/
namespace Go.Proofs.YtpodedhnlicckaaGreatDoor
open Go.RowKit
set_option linter.unusedVariables false
set_option linter.unusedSimpArgs false
/-- What the function handed in answers, of the list's elements, whatever becomes of some blocks. -/
def PIs (g : Nat) (lb : Array Value) (p : Int → Bool) (l : List Int) (M : Nat → Prop) (w : World) : Prop :=
  ∀ i, i < l.length → ∀ W, Only M w W → Calls Tryz.prog g (#[.int .i64 (l.getD i 0)] ++ lb) W fun e w' => e = .returned (.bool (p (l.getD i 0))) ∧ Below W.heap.size W w'
def DelR (b n : Nat) (p : Int → Bool) (l : List Int) (q a : Nat) (W : World) : Prop := ∃ V, RowAt W b 3 n V ∧ (∀ t, t < a → V t = .int .i64 ((leftI p l q).getD t 0)) ∧ ∀ t, q ≤ t → t < n → V t = .int .i64 (l.getD t 0)
theorem getD_left {l r : List Int} {t : Nat} (h : t < l.length) : (l ++ r).getD t 0 = l.getD t 0 := by
  rw [List.getD_eq_getElem?_getD, List.getD_eq_getElem?_getD, List.getElem?_append_left h]
theorem getD_last {l : List Int} {x : Int} : (l ++ [x]).getD l.length 0 = x := by
  rw [List.getD_eq_getElem?_getD, List.getElem?_append_right (Nat.le_refl _)]; simp
set_option maxHeartbeats 4000000 in
theorem delF_any (b n c : Nat) (l : List Int) (g : Nat) (lb : Array Value) (p : Int → Bool) (w : World) (hl : n = l.length) (hn0 : 0 < n) (hnc : n ≤ c) (hcm : c ≤ maxLen) (hn : n ≤ 1000000)
    (hr : RowAt w b 3 n (fun i => .int .i64 (l.getD i 0))) (hok : ∀ i, i < l.length → i64ok (l.getD i 0)) (eg : ∀ args w, (callFunc g args).run Tryz.prog w = .ok (.enter g args) w) (hp : PIs g lb p l (fun i => i = b) w) :
    Calls Tryz.prog 25 #[.slice (some ⟨b, 0, none⟩) n c, .func (.func g) #[] lb] w fun e w' => e = .returned (.slice (some ⟨b, 0, none⟩) (leftI p l n).length c) ∧ RowAt w' b 3 (leftI p l n).length (fun i => .int .i64 ((leftI p l n).getD i 0)) ∧ Only (fun i => i = b) w w' := by
  have hI : IntsAt w (.slice (some ⟨b, 0, none⟩) n c) l := ⟨⟨_, c, by rw [hl], by omega, hcm, .inr ⟨b, 0, rfl, hr.lt, fun i hi => by rw [Nat.zero_add]; exact hr.cell (by omega)⟩⟩, hok⟩
  have HG := Lib.hid (indexG_int _ l g lb p w hI eg (fun i hi W hW => hp i hi W (Only.of_below _ hW)))
  have HR := Lib.hid hr; have HP := Lib.hid hp; have HLN := Lib.hid hl
  unfold maxLen at hcm
  clear hI hr hp hok hl
  go_enter Tryz.func25, Tryz.ntmps25
  go_wp2_with fail
  refine HG.out.mono ?_
  rintro e w2 ⟨hk, hb2⟩
  have HB2 := Lib.hid hb2
  rcases hk with ⟨rfl, hno⟩ | ⟨k, rfl, hkl, hpk, hno⟩
  · have hlf : leftI p l n = l := by
      rw [leftI_none (by rw [HLN.out]; exact Nat.le_refl _) (fun j hj => hno j (by rw [← HLN.out]; exact hj)), HLN.out, List.take_length]
    have HLF := Lib.hid hlf
    clear hlf hno hb2
    go_wp2_with fail
    go_ret
    rw [HLF.out, ← HLN.out]
    exact ⟨rfl, HR.out.same (HB2.out.block b HR.out.lt), Only.of_below _ HB2.out⟩
  · have hk2 : k < n := by rw [HLN.out]; exact hkl
    have t1 : ((k : Int) == -1) = false := beq_eq_false_iff_ne.2 (by omega)
    have hll : leftI p l (k + 1) = l.take k := by
      rw [leftI_succ hkl, if_pos hpk, leftI_none (Nat.le_of_lt hkl) hno]
    have HD : Hid (DelR b n p l (k + 1) k w2) := ⟨_, HR.out.same (hb2.block b HR.out.lt), fun t ht => by rw [hll, getD_take ht], fun t _ _ => rfl⟩
    have HLK : Hid (k = (leftI p l (k + 1)).length) := by show k = _; rw [hll, List.length_take]; omega
    have HKL := Lib.hid hkl
    clear hpk hno hll hb2 hkl HG
    go_wp2_with fail
    have HO2 : Hid (Only (fun x => x = b) w w2) := Only.of_below _ HB2.out
    clear HB2 HR
    go_loopw [5, 6] (fun i j wr => ∃ a q : Nat, i = .int .i64 (a : Int) ∧ j = .int .i64 (q : Int) ∧ a < q ∧ q ≤ n ∧ Hid (a = (leftI p l q).length) ∧ Hid (DelR b n p l q a wr) ∧ Hid (Only (fun x => x = b) w wr)) (fun i j _ => n - (intOf j).toNat)
    case atStart => exact ⟨k, k + 1, rfl, by go_num, by omega, by omega, HLK.out, HD.out, HO2.out⟩
    case round =>
      clear HO2 HLK HD HKL t1
      obtain ⟨a, q, rfl, rfl, haq, hqn, HA, HDR, HO⟩ := hrel
      rcases Nat.lt_or_ge q n with hq | hq
      case inl =>
        have t2 : decide (q < n) = true := decide_eq_true hq
        have hql : q < l.length := by rw [← HLN.out]; exact hq
        obtain ⟨V, hV, hV1, hV2⟩ := HDR.out
        have x0 : wr.cell? ⟨b, q, none⟩ = some (.int .i64 (l.getD q 0)) := by rw [hV.cell hq, hV2 q (Nat.le_refl _) hq]
        have HC := Lib.hid (HP.out q hql wr HO.out)
        have HS := Lib.hid (leftI_succ (p := p) hql)
        have HV := Lib.hid hV; have HV1 := Lib.hid hV1; have HV2 := Lib.hid hV2
        have lb := hV.lt
        clear hV hV1 hV2 HDR hql
        cases hx : p (l.getD q 0)
        case true =>
          rw [hx] at HC
          rw [hx, if_pos rfl] at HS
          clear hx
          generalize l.getD q 0 = y at *
          go_wp2_with fail
          refine HC.out.mono ?_
          rintro e w3 ⟨rfl, hb3⟩
          have R3 := Lib.hid (HV.out.same (hb3.block b lb))
          have O3 : Hid (Only (fun x => x = b) w w3) := HO.out.trans (Only.of_below _ hb3)
          clear hb3 x0 HC lb HV
          go_wp2_with fail
          refine ⟨⟨a, q + 1, rfl, by go_num, by omega, by omega, by show a = _; rw [HS.out]; exact HA.out, ⟨V, R3.out, fun t ht => by rw [HS.out]; exact HV1.out t ht, fun t h1 h2 => HV2.out t (by omega) h2⟩, O3⟩, ?_⟩
          simp [intOf]; omega
        case false =>
          rw [hx] at HC
          rw [hx, if_neg (by decide)] at HS
          clear hx
          generalize hy : l.getD q 0 = y at *
          have HY := Lib.hid hy
          clear hy
          go_wp2_with fail
          refine HC.out.mono ?_
          rintro e w3 ⟨rfl, hb3⟩
          have R3 := Lib.hid (HV.out.same (hb3.block b lb))
          have O3 : Hid (Only (fun x => x = b) w w3) := HO.out.trans (Only.of_below _ hb3)
          have l3 := R3.out.lt
          have ca : w3.cell? ⟨b, a, none⟩ = some (V a) := R3.out.cell (by omega)
          have fa := R3.out.frozen a
          have RS := Lib.hid (R3.out.set (i := a) (.int .i64 y))
          have OS : Hid (Only (fun x => x = b) w (w3.setCell ⟨b, a, none⟩ (.int .i64 y))) := O3.out.set _ _ (.inr rfl)
          have i0 : (0 : Int) ≤ (a : Int) := by omega
          have t5 : decide (a < n) = true := decide_eq_true (by omega)
          have han : a < n := by omega
          clear hb3 x0 HC lb HV
          go_wp2_with fail
          refine ⟨⟨a + 1, q + 1, by go_num, by go_num, by omega, by omega, by show a + 1 = _; rw [HS.out, List.length_append, ← HA.out]; rfl, ⟨_, RS.out, fun t ht => ?_, fun t h1 h2 => by rw [if_neg (by omega)]; exact HV2.out t (by omega) h2⟩, OS⟩, ?_⟩
          · rw [HS.out]
            by_cases e : t = a
            · rw [if_pos e, e, HA.out, getD_last]
            · rw [if_neg e, getD_left (by have := HA.out; omega)]
              exact HV1.out t (by omega)
          · simp [intOf]; omega
      case inr =>
        obtain rfl : q = n := by omega
        have t2 : decide (q < q) = false := decide_eq_false (by omega)
        obtain ⟨V, hV, hV1, hV2⟩ := HDR.out
        have hcl : ∀ ty, (Builtin.clear_ #[22] ty #[.slice (some ⟨b, a, none⟩) (q - a) (c - a)]).run Tryz.prog wr = .ok (.tuple #[]) (wr.setCells b a (List.replicate (q - a) (.int .i64 0))) :=
          fun ty => Lib.run_clear_slice wr _ _ ty _ Tryz.underlying22 Tryz.zeroValue3 rfl rfl b a _ _ (by omega) (fun t ht => by rw [hV.cell (by omega)]; rfl) (fun t ht => hV.frozen _)
        have RE := Lib.hid ((row_sets (a := a) (List.replicate (q - a) (.int .i64 0)) a wr V hV (Nat.le_refl _) (by omega)).congr (V' := fun t => .int .i64 ((leftI p l q).getD t 0)) fun t ht => hV1 t ht)
        have OE := Lib.hid (only_sets (List.replicate (q - a) (.int .i64 0)) a wr HO.out)
        have i0 : (0 : Int) ≤ (a : Int) := by omega
        have i1 : (a : Int) ≤ (q : Int) := by omega
        have i2 : (q : Int) ≤ (c : Int) := by omega
        have i3 : a ≤ q := by omega
        have i4 : a ≤ c := by omega
        clear hV hV1 hV2 HDR HP
        go_wp2_with fail
        go_ret
        rw [← HA.out]
        exact ⟨rfl, RE.out, OE.out⟩
end Go.Proofs.YtpodedhnlicckaaGreatDoor
/- A table with conflicts of its own: its routes in a row of their own. -/
namespace Go.Proofs.YtpodedhnlicckaaGreatDoor
open Go.RowKit
set_option linter.unusedVariables false
set_option linter.unusedSimpArgs false
def rtN (T : Tab) (c : Nat → List Int) (i : Nat) : Rt := { T.rts.getD i rt0 with con := c i }
structure Made (W : World) (T : Tab) (mb rb : Nat) (vp rv : Value) (VV : Nat → Value) (c : Nat → List Int) : Prop where
  box : W.heap[mb]? = some (.cells #[.int .i64 T.tracks, vp, .int .i64 T.sigs, rv] 25 (0, 0))
  pts : IntsAt W vp T.pts
  row : SlN W rv rb 30 T.rts.length 6 VV
  rts : ∀ i, i < T.rts.length → RtAt W (fun j => VV (i * 6 + j)) (rtN T c i)
  offP : ∀ b o k d, vp = .slice (some ⟨b, o, none⟩) k d → 0 < k → b ≠ rb
  offR : ∀ q, q < T.rts.length * 6 → ∀ b o k d, VV q = .slice (some ⟨b, o, none⟩) k d → 0 < k → b ≠ rb
  ne : mb ≠ rb
  trOk : i64ok T.tracks
  sgOk : i64ok T.sigs
theorem Made.tab {W : World} {T : Tab} {mb rb : Nat} {vp rv : Value} {VV : Nat → Value} {c : Nat → List Int} (h : Made W T mb rb vp rv VV c) : TabAt W (.agg #[.int .i64 T.tracks, vp, .int .i64 T.sigs, rv]) (withC T c) := by
  obtain ⟨a, cp, h1, h2, h3, h4⟩ := h.row
  refine ⟨⟨vp, rv, rfl, h.pts, ⟨⟨a, cp, fun i j => VV (i * 6 + j), by rw [h1, withC_len], by rw [withC_len]; exact h2, h3, ?_, fun i hi => ?_⟩⟩⟩, h.trOk, h.sgOk⟩
  · rw [withC_len]
    by_cases hm : T.rts.length = 0
    · exact .inl hm
    · obtain ⟨rfl, hr⟩ := h4 (by omega)
      refine .inr ⟨rb, 0, rfl, hr.lt, fun i hi j hj => ?_⟩
      rw [Nat.zero_add]
      exact hr.cell (by omega)
  · rw [withC_len] at hi
    rw [withC_get T c hi]
    exact h.rts i hi
theorem SlN.below {w w' : World} {v : Value} {b n sz : Nat} {t : TypeId} {V : Nat → Value} (h : SlN w v b t n sz V) (hb : Below w.heap.size w w') : SlN w' v b t n sz V := by
  obtain ⟨a, c, h1, h2, h3, h4⟩ := h
  exact ⟨a, c, h1, h2, h3, fun hp => ⟨(h4 hp).1, (h4 hp).2.same (hb.block _ (h4 hp).2.lt)⟩⟩
theorem Made.below {W W' : World} {T : Tab} {mb rb : Nat} {vp rv : Value} {VV : Nat → Value} {c : Nat → List Int} (h : Made W T mb rb vp rv VV c) (hb : Below W.heap.size W W') : Made W' T mb rb vp rv VV c :=
  ⟨tb_kept h.box hb, h.pts.below hb, h.row.below hb, fun i hi => (h.rts i hi).below hb, h.offP, h.offR, h.ne, h.trOk, h.sgOk⟩
theorem ints_set {W : World} {v x : Value} {l : List Int} {rb o : Nat} (h : IntsAt W v l) (hv : ∀ b o k d, v = .slice (some ⟨b, o, none⟩) k d → 0 < k → b ≠ rb) : IntsAt (W.setCell ⟨rb, o, none⟩ x) v l := by
  obtain ⟨⟨a, c, h1, h2, h3, h4⟩, h5⟩ := h
  refine ⟨⟨a, c, h1, h2, h3, ?_⟩, h5⟩
  by_cases h0 : l.length = 0
  · exact .inl h0
  rcases h4 with h4 | ⟨b, off, rfl, hb, hc⟩
  · exact .inl h4
  · have hne : b ≠ rb := hv b off _ _ h1 (by omega)
    have hB := (Only.refl (fun i => i = rb) W).set (g := rb) o x (.inr rfl)
    refine .inr ⟨b, off, rfl, Nat.lt_of_lt_of_le hb hB.size, fun i hi => ?_⟩
    rw [← hc i hi]
    exact World.cell?_setCell_other _ _ _ _ (fun e => hne (by cases e; rfl))
theorem pts_set {W : World} {v x : Value} {l : List (Int × Bool)} {rb o : Nat} (h : PtsAt W v l) (hv : ∀ b o k d, v = .slice (some ⟨b, o, none⟩) k d → 0 < k → b ≠ rb) : PtsAt (W.setCell ⟨rb, o, none⟩ x) v l := by
  obtain ⟨⟨a, c, h1, h2, h3, h4⟩, h5⟩ := h
  refine ⟨⟨a, c, h1, h2, h3, ?_⟩, h5⟩
  by_cases h0 : l.length = 0
  · exact .inl h0
  rcases h4 with h4 | ⟨b, off, rfl, hb, hc⟩
  · exact .inl h4
  · have hne : b ≠ rb := hv b off _ _ h1 (by omega)
    have hB := (Only.refl (fun i => i = rb) W).set (g := rb) o x (.inr rfl)
    refine .inr ⟨b, off, rfl, Nat.lt_of_lt_of_le hb hB.size, fun i hi j hj => ?_⟩
    rw [← hc i hi j hj]
    exact World.cell?_setCell_other _ _ _ _ (fun e => hne (by cases e; rfl))
/-- Another list of conflicts. -/
theorem Made.put {W : World} {T : Tab} {mb rb : Nat} {vp rv : Value} {VV : Nat → Value} {c : Nat → List Int} (h : Made W T mb rb vp rv VV c) {i : Nat} (hi : i < T.rts.length) {x : Value} {l : List Int} (hx : IntsAt W x l) (hxo : ∀ b o k d, x = .slice (some ⟨b, o, none⟩) k d → 0 < k → b ≠ rb) :
    Made (W.setCell ⟨rb, i * 6 + 4, none⟩ x) T mb rb vp rv (fun q => if q = i * 6 + 4 then x else VV q) (fun k => if k = i then l else c k) := by
  refine ⟨(heap_setCell_other _ _ _ _ h.ne).trans h.box, ints_set h.pts h.offP, ?_, fun k hk => ?_, h.offP, fun q hq b o k d e hk => ?_, h.ne, h.trOk, h.sgOk⟩
  · obtain ⟨a, cp, h1, h2, h3, h4⟩ := h.row
    exact ⟨a, cp, h1, h2, h3, fun hp => ⟨(h4 hp).1, (h4 hp).2.set x⟩⟩
  · have hr := h.rts k hk
    have o1 := h.offR (k * 6 + 1) (by omega); have o2 := h.offR (k * 6 + 2) (by omega); have o4 := h.offR (k * 6 + 4) (by omega)
    have n0 : ¬ k * 6 + 0 = i * 6 + 4 := by omega
    have n1 : ¬ k * 6 + 1 = i * 6 + 4 := by omega
    have n2 : ¬ k * 6 + 2 = i * 6 + 4 := by omega
    have n3 : ¬ k * 6 + 3 = i * 6 + 4 := by omega
    have n5 : ¬ k * 6 + 5 = i * 6 + 4 := by omega
    refine ⟨?_, ?_, ?_, ?_, ?_, ?_, hr.sigOk, hr.appOk, hr.holdOk⟩
    · show (if k * 6 + 0 = i * 6 + 4 then x else VV (k * 6 + 0)) = _
      rw [if_neg n0]; exact hr.sig
    · show IntsAt _ (if k * 6 + 1 = i * 6 + 4 then x else VV (k * 6 + 1)) _
      rw [if_neg n1]; exact ints_set hr.tr o1
    · show PtsAt _ (if k * 6 + 2 = i * 6 + 4 then x else VV (k * 6 + 2)) _
      rw [if_neg n2]; exact pts_set hr.pts o2
    · show (if k * 6 + 3 = i * 6 + 4 then x else VV (k * 6 + 3)) = _
      rw [if_neg n3]; exact hr.app
    · show IntsAt _ (if k * 6 + 4 = i * 6 + 4 then x else VV (k * 6 + 4)) (if k = i then l else c k)
      by_cases e : k = i
      · rw [if_pos (by omega), if_pos e]; exact ints_set hx hxo
      · rw [if_neg (by omega), if_neg e]; exact ints_set hr.con o4
    · show (if k * 6 + 5 = i * 6 + 4 then x else VV (k * 6 + 5)) = _
      rw [if_neg n5]; exact hr.hold
  · by_cases e2 : q = i * 6 + 4
    · rw [if_pos e2] at e; exact hxo b o k d e hk
    · rw [if_neg e2] at e; exact h.offR q hq b o k d e hk
theorem rt_one {w : World} {C : Nat → Value} {r : Rt} (h : RtAt w C r) : ∀ j, j < 6 → (C j).oneCell' = true := by
  intro j hj
  obtain ⟨ta, tc, e1, _⟩ := h.tr.at_
  obtain ⟨pa, pc, e2, _⟩ := h.pts.at_
  obtain ⟨ca, cc, e4, _⟩ := h.con.at_
  match j, hj with
  | 0, _ => rw [h.sig]; rfl
  | 1, _ => rw [e1]; rfl
  | 2, _ => rw [e2]; rfl
  | 3, _ => rw [h.app]; rfl
  | 4, _ => rw [e4]; rfl
  | 5, _ => rw [h.hold]; rfl
theorem ints_low {w : World} {v : Value} {l : List Int} (h : IntsAt w v l) : ∀ b o k d, v = .slice (some ⟨b, o, none⟩) k d → 0 < k → b < w.heap.size := by
  intro b o k d e hk
  obtain ⟨a, c, h1, _, _, h4⟩ := h.at_
  rw [e] at h1
  cases h1
  rcases h4 with h4 | ⟨b', off, e', hb, _⟩
  · omega
  · cases e'; exact hb
theorem pts_low {w : World} {v : Value} {l : List (Int × Bool)} (h : PtsAt w v l) : ∀ b o k d, v = .slice (some ⟨b, o, none⟩) k d → 0 < k → b < w.heap.size := by
  intro b o k d e hk
  obtain ⟨a, c, h1, _, _, h4⟩ := h.at_
  rw [e] at h1
  cases h1
  rcases h4 with h4 | ⟨b', off, e', hb, _⟩
  · omega
  · cases e'; exact hb
theorem rt_low {w : World} {C : Nat → Value} {r : Rt} (h : RtAt w C r) : ∀ j, j < 6 → ∀ b o k d, C j = .slice (some ⟨b, o, none⟩) k d → 0 < k → b < w.heap.size := by
  intro j hj b o k d e hk
  match j, hj with
  | 0, _ => rw [h.sig] at e; cases e
  | 1, _ => exact ints_low h.tr b o k d e hk
  | 2, _ => exact pts_low h.pts b o k d e hk
  | 3, _ => rw [h.app] at e; cases e
  | 4, _ => exact ints_low h.con b o k d e hk
  | 5, _ => rw [h.hold] at e; cases e
theorem rtN_self (T : Tab) (i : Nat) : rtN T (fun k => (T.rts.getD k rt0).con) i = T.rts.getD i rt0 := by
  show (⟨(T.rts.getD i rt0).sig, (T.rts.getD i rt0).tr, (T.rts.getD i rt0).pts, (T.rts.getD i rt0).app, (T.rts.getD i rt0).con, (T.rts.getD i rt0).hold⟩ : Rt) = T.rts.getD i rt0
  generalize T.rts.getD i rt0 = r
  cases r; rfl
theorem withC_congr (T : Tab) {c c' : Nat → List Int} (h : ∀ k, k < T.rts.length → c k = c' k) : withC T c = withC T c' := by
  unfold withC
  congr 1
  exact List.map_congr_left fun i hi => by rw [h i (List.mem_range.1 hi)]
end Go.Proofs.YtpodedhnlicckaaGreatDoor
