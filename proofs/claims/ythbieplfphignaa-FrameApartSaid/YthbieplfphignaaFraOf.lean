/- frame.Of and the document's. -/
import Derived.Test.YthbieplfphignaaFraFun
namespace Go.Proofs.Ythbieplfphignaa
open Go.RowKit Go.Shelf
set_option linter.unusedVariables false
theorem infoInt : (Try.prog.info? 3).map (fun i => (i.zero, i.size, i.bytes)) = some (some (.int .i64 0), 1, 8) := by kernel_rfl
def ofL (S : Nat → SlotR) (p : Int) : Nat → List Nat
  | 0 => []
  | n + 1 => if (S n).part = p then ofL S p n ++ [n] else ofL S p n
theorem ofL_len (S : Nat → SlotR) (p : Int) (n : Nat) : (ofL S p n).length ≤ n := by
  induction n with
  | zero => exact Nat.le_refl _
  | succ n ih =>
    unfold ofL; split
    · simp; omega
    · omega
def natVs (l : List Nat) : List Value := l.map fun (n : Nat) => Value.int .i64 (n : Int)
theorem natVs_snoc (l : List Nat) (n : Nat) : natVs (l ++ [n]) = natVs l ++ [.int .i64 (n : Int)] := by simp [natVs]
theorem ownBlock_ge {W : World} {base n : Nat} {e : TypeId} {size : Nat} {v : Value} {xs : List Value} (h : W.ownsRow base e size v n xs) : ∀ k, v.ownBlock = some k → base ≤ k := by
  intro k hk
  rcases h.2 with ⟨rfl, _⟩ | ⟨o, c, cur, rfl, ho, _⟩
  · simp [Value.ownBlock] at hk
  · simp [Value.ownBlock] at hk; omega
theorem new_one (W : World) (x : Value) (t : TypeId) : ∀ (j : Nat) (u : Value), [x][j]? = some u → (W.alloc (.cells #[x] t)).cell? ((⟨W.heap.size, 0, none⟩ : Addr).add j) = some u := by
  intro j u h
  rw [Go.WideShapes.add_plain, Nat.zero_add]
  refine cell_row (heap_alloc_new _ _) ?_
  match j, h with
  | 0, h => simpa using h
  | j + 1, h => simp at h
set_option maxHeartbeats 4000000 in
theorem of_any (L sw : Nat) (a : Option Addr) (len cap : Nat) (S : Nat → SlotR) (p : Int) (w : World) (hm : len ≤ 100000) (hS : SlotsAt w a len S) :
    Calls Try.prog 11 #[.agg #[.int .u32 (L : Int), .int .u32 (sw : Int), .slice a len cap], .int .i64 p] w fun e W' => ∃ v, e = .returned v ∧ W'.ownsRow (w.heap.size + 1) 3 1 v (ofL S p len).length (natVs (ofL S p len)) ∧ Below w.heap.size w W' := by
  have HI := Lib.hid hS
  clear hS
  obtain ⟨i0, hi, hz0, hz1, hz2⟩ := info_parts infoInt
  have HIn := Lib.hid hi; have HZ0 := Lib.hid hz0; have HZ1 := Lib.hid hz1; have HZ2 := Lib.hid hz2
  clear hi hz0 hz1 hz2
  go_enter Try.func11, Try.ntmps11
  go_wp2_with fail
  have hH := Lib.hid (Held.new w #[.int .u32 (L : Int), .int .u32 (sw : Int), .slice a len cap] 25)
  have hB := Lib.hid (below_box w (.cells #[.int .u32 (L : Int), .int .u32 (sw : Int), .slice a len cap] 25))
  go_loopw [5, 11] (fun v i wr => ∃ k : Nat, k ≤ len ∧ i = .int .i64 k ∧ wr.ownsRow (w.heap.size + 1) 3 1 v (ofL S p k).length (natVs (ofL S p k)) ∧ Held wr w.heap.size #[.int .u32 (L : Int), .int .u32 (sw : Int), .slice a len cap] 25 ∧ Below w.heap.size w wr) (fun _ i _ => len - (intOf i).toNat)
  case atStart => exact ⟨0, Nat.zero_le _, rfl, World.ownsRow_nil _ _ _ _, hH.out, hB.out⟩
  case round =>
    rename_i v i
    obtain ⟨k, hk, rfl, hO, h1, h2⟩ := hrel
    clear hH hB
    have hO := Lib.hid hO
    have hH := Lib.hid h1; have hB := Lib.hid h2
    have d2 : wr.cell? ⟨w.heap.size, 2, none⟩ = some (.slice a len cap) := h1.cell 2 _ rfl
    clear h1 h2
    have hne := hB.out.size
    have hlt0 := hH.out.lt
    have hlen := ofL_len S p k
    by_cases hlt : k < len
    · obtain ⟨b, off, rfl, hbl, hcells⟩ := HI.out.1.at (show 0 < len by omega)
      have c0 : wr.cell? ⟨b, off + k * 3, none⟩ = some (.int .i64 (S k).part) := by rw [hB.out.cell hbl]; exact hcells k hlt 0 (by omega)
      have c1 : wr.cell? ⟨b, off + k * 3 + 1, none⟩ = some (.int .u32 ((S k).start : Int)) := by rw [hB.out.cell hbl]; exact hcells k hlt 1 (by omega)
      have c2 : wr.cell? ⟨b, off + k * 3 + 2, none⟩ = some (.int .u32 ((S k).budget : Int)) := by rw [hB.out.cell hbl]; exact hcells k hlt 2 (by omega)
      clear hcells
      have i1 : (k : Int) < (len : Int) := by omega
      have hn1 : Hid ((S k).part = p → ofL S p (k + 1) = ofL S p k ++ [k]) := fun h => by show (if (S k).part = p then _ else _) = _; rw [if_pos h]
      have hn2 : Hid (¬ (S k).part = p → ofL S p (k + 1) = ofL S p k) := fun h => by show (if (S k).part = p then _ else _) = _; rw [if_neg h]
      generalize (S k).part = P at *
      generalize (S k).start = st at *
      generalize (S k).budget = bu at *
      generalize ofL S p k = l at *
      by_cases hp : P = p
      · have t1 : (P == p) = true := by simpa using hp
        have hn := Lib.hid (hn1.out hp)
        clear hp hn1 hn2
        go_wp2_with (at_builtin; refine wpList_append_own _ rfl _ _ 31 rfl (w.heap.size + 1) 3 i0 (.int .i64 0) 1 8 Try.underlying31 HIn.out HZ0.out HZ1.out HZ2.out rfl (by decide) _ l.length (natVs l) rfl ((hO.out.alloc _).alloc _) ⟨wr.heap.size + 1, 0, none⟩ 1 1 [.int .i64 (k : Int)] rfl rfl ?c1 ?c2 ?c3 ?c4 ?c5 ?_)
        case c1 => intro j u h; have := new_one (wr.alloc (.cells #[.int .i64 P, .int .u32 (st : Int), .int .u32 (bu : Int)] 39)) _ 3 j u h; rw [World.size_alloc] at this; exact this
        case c2 => intro u hu; simp at hu; rcases hu with rfl; rfl
        case c3 => unfold maxLen; omega
        case c4 => omega
        case c5 => first | omega | (simp; omega)
        intro v' w1 hown hgr _
        have hge := ownBlock_ge hO.out
        have G1 : Hid (Held w1 w.heap.size #[.int .u32 (L : Int), .int .u32 (sw : Int), .slice (some ⟨b, off, none⟩) len cap] 25) := Held.kept ((hH.out.alloc _).alloc _) hgr (fun e => by have := hge _ e.symm; omega)
        have G2 : Hid (Below w.heap.size w w1) := ((hB.out.alloc hne _).alloc (by first | omega | (simp; omega)) _).grown hgr (by first | omega | (simp; omega)) (fun k e => by have := hge k e; omega)
        have G3 : Hid (w1.ownsRow (w.heap.size + 1) 3 1 v' (l ++ [k]).length (natVs (l ++ [k]))) := by rw [natVs_snoc, List.length_append]; exact hown
        obtain ⟨o, cp, rfl⟩ : ∃ o cp, v' = .slice (some ⟨o, 0, none⟩) (l.length + 1) cp := by
          rcases hown.2 with ⟨_, h0⟩ | ⟨o, c, _, hv, _⟩
          · omega
          · exact ⟨o, c, hv⟩
        clear hown hgr hge
        go_wp2_with fail
        go_roundw
        case rel => exact ⟨k + 1, by omega, by go_num, by rw [hn.out]; exact G3.out, G1.out, G2.out⟩
        case measure => simp [intOf]; omega
      · have t1 : (P == p) = false := by simpa using hp
        have hn := Lib.hid (hn2.out hp)
        clear hp hn1 hn2
        go_wp2_with fail
        go_roundw
        case rel => exact ⟨k + 1, by omega, by go_num, by rw [hn.out]; exact hO.out.alloc _, hH.out.alloc _, hB.out.alloc hne _⟩
        case measure => simp [intOf]; omega
    · obtain rfl : k = len := by omega
      go_wp2_with fail
      go_ret
      exact ⟨_, rfl, hO.out, hB.out⟩
set_option maxHeartbeats 4000000 in
theorem refOf_any (L sw : Nat) (a : Option Addr) (len cap : Nat) (S : Nat → SlotR) (p : Int) (w : World) (hm : len ≤ 100000) (hS : SlotsAt w a len S) :
    Calls Try.prog 12 #[.agg #[.int .u32 (L : Int), .int .u32 (sw : Int), .slice a len cap], .int .i64 p] w fun e W' => ∃ v, e = .returned v ∧ W'.ownsRow (w.heap.size + 1) 3 1 v (ofL S p len).length (natVs (ofL S p len)) ∧ Below w.heap.size w W' := by
  have HI := Lib.hid hS
  clear hS
  obtain ⟨i0, hi, hz0, hz1, hz2⟩ := info_parts infoInt
  have HIn := Lib.hid hi; have HZ0 := Lib.hid hz0; have HZ1 := Lib.hid hz1; have HZ2 := Lib.hid hz2
  clear hi hz0 hz1 hz2
  go_enter Try.func12, Try.ntmps12
  go_wp2_with fail
  have hH := Lib.hid (Held.new w #[.int .u32 (L : Int), .int .u32 (sw : Int), .slice a len cap] 25)
  have hB := Lib.hid (below_box w (.cells #[.int .u32 (L : Int), .int .u32 (sw : Int), .slice a len cap] 25))
  go_loopw [5, 6] (fun v i wr => ∃ k : Nat, k ≤ len ∧ i = .int .i64 k ∧ wr.ownsRow (w.heap.size + 1) 3 1 v (ofL S p k).length (natVs (ofL S p k)) ∧ Held wr w.heap.size #[.int .u32 (L : Int), .int .u32 (sw : Int), .slice a len cap] 25 ∧ Below w.heap.size w wr) (fun _ i _ => len - (intOf i).toNat)
  case atStart => exact ⟨0, Nat.zero_le _, rfl, World.ownsRow_nil _ _ _ _, hH.out, hB.out⟩
  case round =>
    rename_i v i
    obtain ⟨k, hk, rfl, hO, h1, h2⟩ := hrel
    clear hH hB
    have hO := Lib.hid hO
    have hH := Lib.hid h1; have hB := Lib.hid h2
    have d2 : wr.cell? ⟨w.heap.size, 2, none⟩ = some (.slice a len cap) := h1.cell 2 _ rfl
    clear h1 h2
    have hne := hB.out.size
    have hlt0 := hH.out.lt
    have hlen := ofL_len S p k
    by_cases hlt : k < len
    · obtain ⟨b, off, rfl, hbl, hcells⟩ := HI.out.1.at (show 0 < len by omega)
      have c0 : wr.cell? ⟨b, off + k * 3, none⟩ = some (.int .i64 (S k).part) := by rw [hB.out.cell hbl]; exact hcells k hlt 0 (by omega)
      have c1 : wr.cell? ⟨b, off + k * 3 + 1, none⟩ = some (.int .u32 ((S k).start : Int)) := by rw [hB.out.cell hbl]; exact hcells k hlt 1 (by omega)
      have c2 : wr.cell? ⟨b, off + k * 3 + 2, none⟩ = some (.int .u32 ((S k).budget : Int)) := by rw [hB.out.cell hbl]; exact hcells k hlt 2 (by omega)
      clear hcells
      have i1 : (k : Int) < (len : Int) := by omega
      have hn1 : Hid ((S k).part = p → ofL S p (k + 1) = ofL S p k ++ [k]) := fun h => by show (if (S k).part = p then _ else _) = _; rw [if_pos h]
      have hn2 : Hid (¬ (S k).part = p → ofL S p (k + 1) = ofL S p k) := fun h => by show (if (S k).part = p then _ else _) = _; rw [if_neg h]
      generalize (S k).part = P at *
      generalize (S k).start = st at *
      generalize (S k).budget = bu at *
      generalize ofL S p k = l at *
      by_cases hp : P = p
      · have t1 : (P == p) = true := by simpa using hp
        have hn := Lib.hid (hn1.out hp)
        clear hp hn1 hn2
        go_wp2_with (at_builtin; refine wpList_append_own _ rfl _ _ 31 rfl (w.heap.size + 1) 3 i0 (.int .i64 0) 1 8 Try.underlying31 HIn.out HZ0.out HZ1.out HZ2.out rfl (by decide) _ l.length (natVs l) rfl ((hO.out).alloc _) ⟨wr.heap.size, 0, none⟩ 1 1 [.int .i64 (k : Int)] rfl rfl ?c1 ?c2 ?c3 ?c4 ?c5 ?_)
        case c1 => exact new_one _ _ _
        case c2 => intro u hu; simp at hu; rcases hu with rfl; rfl
        case c3 => unfold maxLen; omega
        case c4 => omega
        case c5 => first | omega | (simp; omega)
        intro v' w1 hown hgr _
        have hge := ownBlock_ge hO.out
        have G1 : Hid (Held w1 w.heap.size #[.int .u32 (L : Int), .int .u32 (sw : Int), .slice (some ⟨b, off, none⟩) len cap] 25) := Held.kept ((hH.out).alloc _) hgr (fun e => by have := hge _ e.symm; omega)
        have G2 : Hid (Below w.heap.size w w1) := ((hB.out).alloc (by first | omega | (simp; omega)) _).grown hgr (by first | omega | (simp; omega)) (fun k e => by have := hge k e; omega)
        have G3 : Hid (w1.ownsRow (w.heap.size + 1) 3 1 v' (l ++ [k]).length (natVs (l ++ [k]))) := by rw [natVs_snoc, List.length_append]; exact hown
        obtain ⟨o, cp, rfl⟩ : ∃ o cp, v' = .slice (some ⟨o, 0, none⟩) (l.length + 1) cp := by
          rcases hown.2 with ⟨_, h0⟩ | ⟨o, c, _, hv, _⟩
          · omega
          · exact ⟨o, c, hv⟩
        clear hown hgr hge
        go_wp2_with fail
        go_roundw
        case rel => exact ⟨k + 1, by omega, by go_num, by rw [hn.out]; exact G3.out, G1.out, G2.out⟩
        case measure => simp [intOf]; omega
      · have t1 : (P == p) = false := by simpa using hp
        have hn := Lib.hid (hn2.out hp)
        clear hp hn1 hn2
        go_wp2_with fail
        go_roundw
        case rel => exact ⟨k + 1, by omega, by go_num, by rw [hn.out]; exact hO.out, hH.out, hB.out⟩
        case measure => simp [intOf]; omega
    · obtain rfl : k = len := by omega
      go_wp2_with fail
      go_ret
      exact ⟨_, rfl, hO.out, hB.out⟩
end Go.Proofs.Ythbieplfphignaa
