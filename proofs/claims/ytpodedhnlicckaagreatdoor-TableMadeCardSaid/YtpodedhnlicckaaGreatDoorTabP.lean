/- A route's points' numbers. -/
import Derived.Test.YtpodedhnlicckaaGreatDoorTabS
namespace Go.Proofs.YtpodedhnlicckaaGreatDoor
open Go.RowKit
set_option linter.unusedVariables false
set_option linter.unusedSimpArgs false
theorem tb_info {t : TypeId} {z : Value} {s b : Nat} (h : (Tryz.prog.info? t).map (fun i => (i.zero, i.size, i.bytes)) = some (some z, s, b)) : ∃ i, Tryz.prog.info? t = some i ∧ i.zero = some z ∧ i.size = s ∧ i.bytes = b := by
  cases hi : Tryz.prog.info? t with
  | none => rw [hi] at h; simp at h
  | some i => rw [hi] at h; simp at h; exact ⟨i, rfl, h.1, h.2.1, h.2.2⟩
theorem infoI : (Tryz.prog.info? 3).map (fun i => (i.zero, i.size, i.bytes)) = some (some (.int .i64 0), 1, 8) := by kernel_rfl
theorem own_ints {w : World} {B e : Nat} {v : Value} {l : List Int} (h : w.ownsRow B e 1 v l.length (l.map fun x => .int .i64 x)) (ho : ∀ i, i < l.length → i64ok (l.getD i 0)) : IntsAt w v l := by
  refine ⟨?_, ho⟩
  rcases h.2 with ⟨rfl, h0⟩ | ⟨g, cap, cur, rfl, hg, hb, h1, h2, h3, h4⟩
  · exact ⟨none, 0, by rw [h0], by omega, by unfold maxLen; omega, .inl h0⟩
  · refine ⟨_, cap, rfl, h1, h2, .inr ⟨g, 0, rfl, heap_lt hb, fun i hi => ?_⟩⟩
    rw [Nat.zero_add]
    have : (l.map fun x => Value.int .i64 x)[i]? = cur[i]? := by rw [← h4, List.getElem?_take_of_lt (by omega), Array.getElem?_toList]
    refine cell_row hb (this.symm.trans ?_)
    unfold intV
    simp [hi]
def ownP (r : Rt) : List Int := r.pts.map fun p => p.1
theorem ownP_len (r : Rt) : (ownP r).length = r.pts.length := by simp [ownP]
theorem ownP_get (r : Rt) {i : Nat} (hi : i < r.pts.length) : (ownP r).getD i 0 = (r.pts.getD i (0, false)).1 := by simp [ownP, hi]
def ownVs (r : Rt) (k : Nat) : List Value := ((ownP r).take k).map fun x => .int .i64 x
theorem ownVs_len {r : Rt} {k : Nat} (hk : k ≤ r.pts.length) : (ownVs r k).length = k := by simp [ownVs, ownP_len, hk]
theorem ownP_take {r : Rt} {k : Nat} (hk : k < r.pts.length) : ownVs r (k + 1) = ownVs r k ++ [.int .i64 (r.pts.getD k (0, false)).1] := by
  unfold ownVs
  rw [List.take_add_one, List.map_append]
  congr 1
  simp [ownP, hk]
set_option maxHeartbeats 2000000 in
theorem points_any (v : Value) (r : Rt) (w : World) (h : RVal w v r) (hn : r.pts.length ≤ 1000000) :
    Calls Tryz.prog 76 #[v] w fun e w' => (∃ u, e = .returned u ∧ IntsAt w' u (ownP r)) ∧ Below w.heap.size w w' := by
  obtain ⟨⟨vt, vp, vc, rfl, _, hp, _⟩, _, _, _⟩ := h
  have HPO : Hid (∀ i, i < (ownP r).length → i64ok ((ownP r).getD i 0)) := fun i hi => by rw [ownP_len] at hi; rw [ownP_get r hi]; exact hp.ok i hi
  obtain ⟨a, c, rfl, hlc, hcm, _⟩ := hp.at_
  have HP := Lib.hid hp
  clear hp
  obtain ⟨w1, hw1⟩ : ∃ w1, w1 = w.alloc (.cells #[.int .i64 r.sig, vt, .slice a r.pts.length c, .int .i64 r.app, vc, .int .u16 (r.hold : Int)] 30) := ⟨_, rfl⟩
  have K1 : Hid (w1.heap[w.heap.size]? = some (.cells #[.int .i64 r.sig, vt, .slice a r.pts.length c, .int .i64 r.app, vc, .int .u16 (r.hold : Int)] 30 (0, 0))) := by rw [hw1]; exact heap_alloc_new _ _
  have B1 : Hid (Below w.heap.size w w1) := by rw [hw1]; exact tb_alloc_below _ _
  have HW1 := Lib.hid hw1
  clear hw1
  obtain ⟨i0, hi, hz0, hz1, hz2⟩ := tb_info infoI
  have HIn := Lib.hid hi; have HZ0 := Lib.hid hz0; have HZ1 := Lib.hid hz1; have HZ2 := Lib.hid hz2
  clear hi hz0 hz1 hz2
  go_enter Tryz.func76, Tryz.ntmps76
  go_upto_region 1 with fail
  rw [← HW1.out]
  have c2 := cell_row (j := 2) K1.out rfl
  have l1 := heap_lt K1.out
  go_wp2_with fail
  go_loopw [3, 9] (fun v3 i wr => ∃ (k : Nat) (u3 : Value), u3 = v3 ∧ k ≤ r.pts.length ∧ i = .int .i64 k ∧ wr.ownsRow w.heap.size 3 1 v3 k (ownVs r k) ∧ Below w.heap.size w wr) (fun _ i _ => r.pts.length - (intOf i).toNat)
  case atStart => exact ⟨0, _, rfl, Nat.zero_le _, rfl, ⟨rfl, .inl ⟨rfl, rfl⟩⟩, B1.out⟩
  case round =>
    obtain ⟨k, v3, rfl, hk, rfl, ho, hb⟩ := hrel
    have O2 := Lib.hid ho; have B2 := Lib.hid hb
    clear ho hb c2 l1
    obtain ⟨w2, rfl⟩ : ∃ w2 : World, w2 = wr := ⟨_, rfl⟩
    by_cases hlt : k < r.pts.length
    · obtain ⟨b, off, rfl, hb, x0, x1⟩ := (HP.out.below B2.out).cell hlt
      have HTK := Lib.hid (ownP_take hlt)
      generalize r.pts.getD k (0, false) = p at *
      obtain ⟨y, z⟩ := p
      simp only at x0 x1 HTK
      obtain ⟨w3, hw3⟩ : ∃ w3, w3 = w2.alloc (.cells #[.int .i64 y, .bool z] 57) := ⟨_, rfl⟩
      have K3 : Hid (w3.heap[w2.heap.size]? = some (.cells #[.int .i64 y, .bool z] 57 (0, 0))) := by rw [hw3]; exact heap_alloc_new _ _
      have B3 : Hid (Below w.heap.size w w3) := by rw [hw3]; exact B2.out.alloc B2.out.size _
      have O3 : Hid (w3.ownsRow w.heap.size 3 1 v3 k (ownVs r k)) := by rw [hw3]; exact O2.out.alloc _
      have HW3 := Lib.hid hw3
      clear hw3
      go_upto_region 5 with fail
      rw [← HW3.out]
      generalize hg : w2.heap.size = g at *
      clear x0 x1
      have x0 := cell_row (j := 0) K3.out rfl
      have l3 := heap_lt K3.out
      have HO := Lib.hid (O3.out.alloc (.cells #[.int .i64 y] 3))
      have HZ : Hid (w.heap.size ≤ w3.heap.size) := B3.out.size
      go_wp2_with (at_builtin; refine wpList_append_own_at _ rfl _ _ 22 rfl w.heap.size 3 i0 (.int .i64 0) 1 8 Tryz.underlying22 HIn.out HZ0.out HZ1.out HZ2.out rfl (by decide) v3 k _ rfl HO.out ⟨w3.heap.size, 0, none⟩ 1 1 [.int .i64 y] rfl rfl (cell_one_new _ _ _) (fun u hu => by simp at hu; subst hu; rfl) (by unfold maxLen; omega) (by omega) (by simp; have := HZ.out; omega) ?_)
      intro v4 w4 ho4 hg4 _ _
      have B4 : Hid (Below w.heap.size w w4) := (B3.out.alloc B3.out.size _).grown hg4 (by simp; have := HZ.out; omega) (fun k hk => (O3.out.lt k hk).1)
      rw [← HTK.out] at ho4
      have O4 := Lib.hid ho4
      clear ho4 hg4 HO O3 O2
      go_wp2_with fail
      go_roundw
      case rel => exact ⟨k + 1, _, rfl, by omega, by go_num, O4.out, B4.out⟩
      case measure => simp [intOf]; omega
    · obtain rfl : k = r.pts.length := by omega
      have HI : Hid (IntsAt w2 v3 (ownP r)) := own_ints (B := w.heap.size) (e := 3) (by
        have := O2.out
        unfold ownVs at this
        rw [show (ownP r).take r.pts.length = ownP r by rw [← ownP_len]; exact List.take_length] at this
        rw [ownP_len]; exact this) HPO.out
      go_wp2_with fail
      go_ret
      exact ⟨⟨_, rfl, HI.out⟩, B2.out⟩
/-- A route in memory: its cells, and its value. -/
theorem RtsAt.cells {w : World} {a : Option Addr} {n c : Nat} {l : List Rt} (h : RtsAt w (.slice a n c) l) {i : Nat} (hi : i < l.length) : ∃ b off C, a = some ⟨b, off, none⟩ ∧ b < w.heap.size ∧ (∀ j, j < 6 → w.cell? ⟨b, off + i * 6 + j, none⟩ = some (C j)) ∧ RtAt w C (l.getD i rt0) := by
  obtain ⟨a', c', C, e, _, _, hs, hr⟩ := h.at_
  cases e
  obtain ⟨b, off, rfl, hb, hc⟩ := hs.at (by omega)
  exact ⟨b, off, C i, rfl, hb, hc i hi, hr i hi⟩
theorem RtsAt.size {w : World} {v : Value} {l : List Rt} (h : RtsAt w v l) : l.length ≤ maxLen := by obtain ⟨a, c, C, _, h1, h2, _⟩ := h.at_; omega
end Go.Proofs.YtpodedhnlicckaaGreatDoor
