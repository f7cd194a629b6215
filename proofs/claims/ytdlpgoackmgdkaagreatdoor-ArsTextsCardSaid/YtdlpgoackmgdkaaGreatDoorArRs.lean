/- The document's Parse: a plan's text. -/
import Derived.Test.YtdlpgoackmgdkaaGreatDoorArRr
import Derived.Test.YtdlpgoackmgdkaaGreatDoorArPa
namespace Go.Proofs.YtdlpgoackmgdkaaGreatDoor
open Go.RowKit Go.Shelf
set_option linter.unusedVariables false
set_option linter.unusedSimpArgs false
/-- What the document's Parse gives. -/
def RParP (s : ByteArray) (e : Ending) (w' : World) : Prop :=
  ∃ L r, ParR s.data.toList L r ∧ L.length ≤ 30000 ∧ ((r = [] ∧ ∃ a c, e = .returned (.tuple #[.slice a L.length c, .int .i64 0]) ∧ PlsAt w' a L) ∨ (r ≠ [] ∧ e = .returned (.tuple #[.slice none 0 0, .int .i64 ((L.length : Int) + 1)])))
theorem isW_len {l w : List UInt8} (h : isW l w = true) : w.length ≤ l.length := by
  have := congrArg List.length (isW_yes h)
  rw [List.length_append] at this; omega
set_option maxHeartbeats 8000000 in
set_option maxRecDepth 100000 in
theorem rparse_any (s : ByteArray) (w : World) (hs : s.size ≤ 30000) :
    Calls Tryz.prog 37 #[.string s] w fun e w' => RParP s e w' ∧ Below w.heap.size w w' := by
  obtain ⟨i0, hi, hz0, hz1, hz2⟩ := info_parts (show (Tryz.prog.info? 76).map (fun i => (i.zero, i.size, i.bytes)) = some (some (.agg #[.int .u32 0, .int .i64 0]), 2, 16) by kernel_rfl)
  have HIn := Lib.hid hi; have HZ0 := Lib.hid hz0; have HZ1 := Lib.hid hz1; have HZ2 := Lib.hid hz2
  clear hi hz0 hz1 hz2
  go_enter Tryz.func37, Tryz.ntmps37
  go_wp2_with fail
  go_loopw [4, 5] (fun ov pv wr => ∃ (p : Nat) (L : List PL) (oa : Option Addr) (oc : Nat), p ≤ s.size ∧ pv = .int .i64 (p : Int) ∧ ov = .slice oa L.length oc ∧ L.length ≤ p ∧ Hid (s.data.toList = printT L ++ s.data.toList.drop p) ∧ Hid (∀ x ∈ L, x.good) ∧ Hid (wr.ownsRow w.heap.size 76 2 (.slice oa L.length oc) L.length (plVs L)) ∧ Hid (Below w.heap.size w wr)) (fun _ pv _ => s.size - (intOf pv).toNat)
  case atStart => exact ⟨0, [], none, 0, Nat.zero_le _, rfl, rfl, Nat.zero_le _, (by show _ = _; rfl), fun x hx => (by cases hx), World.ownsRow_nil _ _ _ _, Below.refl _ _⟩
  case round =>
    obtain ⟨p, L, oa, oc, hp, rfl, rfl, hLp, HT, HG, HO, BB⟩ := hrel
    have hLl : L.length ≤ 30000 := by omega
    rcases Nat.lt_or_ge p s.size with hp2 | hp2
    case inr =>
      obtain rfl : p = s.size := by omega
      have t2 : decide ((s.size : Int) < (s.size : Int)) = false := by simp
      have HF : Hid (ParR s.data.toList L []) := ⟨by have := HT.out; rw [show s.data.toList.drop s.size = [] from List.drop_eq_nil_of_le (by rw [size_list]; omega)] at this; exact this, HG.out, .inl rfl⟩
      obtain ⟨a5, c5, e5, _, _, hp5⟩ := pls_of_own (ls := L) HO.out
      injection e5 with e6 _ e7
      subst e6 e7
      have HP5 := Lib.hid hp5
      clear hp5
      go_wp2_with fail
      go_ret2
      exact ⟨⟨L, [], HF.out, hLl, .inl ⟨rfl, _, _, rfl, HP5.out⟩⟩, BB.out⟩
    have t2 : decide ((p : Int) < (s.size : Int)) = true := decide_eq_true (by omega)
    obtain ⟨l, hl⟩ : ∃ l, l = s.data.toList.drop p := ⟨_, rfl⟩
    have hll : l.length = s.size - p := by rw [hl, List.length_drop, size_list]
    have hl0 : l ≠ [] := fun e => by rw [e] at hll; simp at hll; omega
    have HNO := Lib.hid (fun h => doc_no hl0 h)
    have HERR : Hid (noLn l → ∀ W, RParP s (.returned (.tuple #[.slice none 0 0, .int .i64 ((L.length : Int) + 1)])) W) := fun h W =>
      ⟨L, l, ⟨by have := HT.out; rw [← hl] at this; exact this, HG.out, .inr h⟩, hLl, .inr ⟨h.1, rfl⟩⟩
    have HBW := Lib.hid (fun h1 h2 h3 h4 h5 => doc_bwd (l := l) h1 h2 h3 h4 h5)
    have HC1 := Lib.hid (ris_any s ⟨#[97, 116, 32]⟩ p wr (by omega) hp (by decide))
    rw [← hl] at HC1 HT
    change Hid (Calls _ _ _ _ fun e w' => e = .returned (.bool (isW l atS)) ∧ w' = wr) at HC1
    have HL := Lib.hid hl
    clear hl
    cases hw1 : isW l atS
    case false =>
      have HE := Lib.hid (HERR.out (HNO.out (fun h => absurd h (by rw [hw1]; decide))))
      rw [hw1] at HC1
      clear HERR HNO HBW hw1
      go_wp2_with fail
      refine HC1.out.mono ?_
      rintro e w2 ⟨rfl, rfl⟩
      clear HC1
      go_wp2_with fail
      go_ret2
      exact ⟨HE.out _, BB.out⟩
    rw [hw1] at HC1
    have hl3 : 3 ≤ l.length := isW_len hw1
    have HC2 := Lib.hid (rnum_any s (p + 3) 4294967295 wr (by omega) (by omega) (by decide))
    rw [show s.data.toList.drop (p + 3) = l.drop 3 by rw [HL.out, List.drop_drop]] at HC2
    change Hid (Calls _ _ _ _ fun e w' => e = .returned (.tuple #[.int .i64 (numV 4294967295 (dF l)), .int .i64 (((p + 3 : Nat) : Int) + ((dF l).length : Int))]) ∧ w' = wr) at HC2
    rw [show ((p + 3 : Nat) : Int) = (p : Int) + 3 by omega, show ((4294967295 : Nat) : Int) = 4294967295 from rfl] at HC2
    have hk1 := (runD_len (l.drop 3)).2.1
    have hk1 : (dF l).length ≤ l.length - 3 := by rw [List.length_drop] at hk1; exact hk1
    obtain ⟨q, hq⟩ : ∃ q, q = p + 3 + (dF l).length := ⟨_, rfl⟩
    have hqs : q ≤ s.size := by omega
    have HLB : Hid (s.data.toList.drop q = lB l) := by
      have e : ∀ x, s.data.toList.drop (p + 3 + x) = (l.drop 3).drop x := fun x => by rw [HL.out, List.drop_drop, List.drop_drop, Nat.add_assoc]
      show _ = _; rw [hq, e]; rfl
    rw [show (p : Int) + 3 + ((dF l).length : Int) = (q : Int) by omega] at HC2
    obtain ⟨F, hF⟩ : ∃ F, F = numV 4294967295 (dF l) := ⟨_, rfl⟩
    rw [← hF] at HC2
    have HF := Lib.hid hF
    clear hF
    go_wp2_with fail
    refine HC1.out.mono ?_
    rintro e w2 ⟨rfl, rfl⟩
    clear HC1
    go_wp2_with fail
    refine HC2.out.mono ?_
    rintro e w2 ⟨rfl, rfl⟩
    clear HC2
    have HQ := Lib.hid hq
    clear hq
    by_cases hf0 : F < 0
    case pos =>
      have t3 : decide (F < 0) = true := decide_eq_true hf0
      have HE := Lib.hid (HERR.out (HNO.out (fun _ h => absurd h (by rw [← HF.out]; omega))))
      clear HERR HNO HBW hw1
      go_wp2_with fail
      go_ret2
      exact ⟨HE.out _, BB.out⟩
    have t3 : decide (F < 0) = false := decide_eq_false hf0
    have HC3 := Lib.hid (ris_any s ⟨#[32, 114, 111, 117, 116, 101, 32]⟩ q w2 (by omega) hqs (by decide))
    rw [HLB.out] at HC3
    change Hid (Calls _ _ _ _ fun e w' => e = .returned (.bool (isW (lB l) roS)) ∧ w' = w2) at HC3
    cases hw3 : isW (lB l) roS
    case false =>
      have HE := Lib.hid (HERR.out (HNO.out (fun _ _ h => absurd h (by rw [hw3]; decide))))
      rw [hw3] at HC3
      clear HERR HNO HBW hw1 hw3
      go_wp2_with fail
      refine HC3.out.mono ?_
      rintro e w3 ⟨rfl, rfl⟩
      clear HC3
      go_wp2_with fail
      go_ret2
      exact ⟨HE.out _, BB.out⟩
    rw [hw3] at HC3
    have hl7 : 7 ≤ (lB l).length := isW_len hw3
    have hlb : (lB l).length = s.size - q := by rw [← HLB.out, List.length_drop, size_list]
    have HC4 := Lib.hid (rnum_any s (q + 7) 65535 w2 (by omega) (by omega) (by decide))
    rw [show s.data.toList.drop (q + 7) = (lB l).drop 7 by rw [← HLB.out, List.drop_drop]] at HC4
    change Hid (Calls _ _ _ _ fun e w' => e = .returned (.tuple #[.int .i64 (numV 65535 (dG l)), .int .i64 (((q + 7 : Nat) : Int) + ((dG l).length : Int))]) ∧ w' = w2) at HC4
    rw [show ((q + 7 : Nat) : Int) = (q : Int) + 7 by omega, show ((65535 : Nat) : Int) = 65535 from rfl] at HC4
    have hk2 := (runD_len ((lB l).drop 7)).2.1
    have hk2 : (dG l).length ≤ (lB l).length - 7 := by rw [List.length_drop] at hk2; exact hk2
    obtain ⟨z, hz⟩ : ∃ z, z = q + 7 + (dG l).length := ⟨_, rfl⟩
    have hzs : z ≤ s.size := by omega
    have HLC : Hid (s.data.toList.drop z = lC l) := by
      have e : ∀ x, s.data.toList.drop (q + 7 + x) = ((lB l).drop 7).drop x := fun x => by rw [← HLB.out, List.drop_drop, List.drop_drop, Nat.add_assoc]
      show _ = _; rw [hz, e]; rfl
    rw [show (q : Int) + 7 + ((dG l).length : Int) = (z : Int) by omega] at HC4
    obtain ⟨G, hG⟩ : ∃ G, G = numV 65535 (dG l) := ⟨_, rfl⟩
    rw [← hG] at HC4
    have HGG := Lib.hid hG
    clear hG
    have hpz : p < z := by have := HQ.out; omega
    go_wp2_with fail
    refine HC3.out.mono ?_
    rintro e w3 ⟨rfl, rfl⟩
    clear HC3
    go_wp2_with fail
    refine HC4.out.mono ?_
    rintro e w4 ⟨rfl, rfl⟩
    clear HC4 hz hlb hl7 hk1 hk2
    by_cases hg0 : G < 0
    case pos =>
      have t4 : decide (G < 0) = true := decide_eq_true hg0
      have HE := Lib.hid (HERR.out (HNO.out (fun _ _ _ h => absurd h (by rw [← HGG.out]; omega))))
      clear HERR HNO HBW hw1 hw3
      go_wp2_with fail
      go_ret2
      exact ⟨HE.out _, BB.out⟩
    have t4 : decide (G < 0) = false := decide_eq_false hg0
    have HC5 := Lib.hid (ris_any s ⟨#[10]⟩ z w4 (by omega) hzs (by decide))
    rw [HLC.out] at HC5
    change Hid (Calls _ _ _ _ fun e w' => e = .returned (.bool (isW (lC l) [10])) ∧ w' = w4) at HC5
    cases hw5 : isW (lC l) [10]
    case false =>
      have HE := Lib.hid (HERR.out (HNO.out (fun _ _ _ _ h => absurd h (by rw [hw5]; decide))))
      rw [hw5] at HC5
      clear HERR HNO HBW hw1 hw3 hw5
      go_wp2_with fail
      refine HC5.out.mono ?_
      rintro e w3 ⟨rfl, rfl⟩
      clear HC5
      go_wp2_with fail
      go_ret2
      exact ⟨HE.out _, BB.out⟩
    rw [hw5] at HC5
    have hl1 : 1 ≤ (lC l).length := isW_len hw5
    have hlc : (lC l).length = s.size - z := by rw [← HLC.out, List.length_drop, size_list]
    obtain ⟨v1, v3, hf1, hf3, hgd, hlt⟩ := HBW.out hw1 (by rw [← HF.out]; omega) hw3 (by rw [← HGG.out]; omega) hw5
    rw [← HF.out] at hf1
    rw [← HGG.out] at hf3
    subst hf1 hf3
    have HGD := Lib.hid hgd
    have hfl : v1 ≤ 4294967295 := hgd.1
    have hnl : v3 ≤ 65535 := by have : (v3 : Int) ≤ 65535 := hgd.2.2; omega
    have HLN : Hid (l = lineT ⟨v1, (v3 : Int)⟩ ++ s.data.toList.drop (z + 1)) := by
      show _ = _
      rw [← List.drop_drop, HLC.out]; exact hlt
    clear hgd hlt HERR HNO HBW hw1 hw3 hw5 hf0 hg0 HF HGG
    have k1 : (v1 : Int) % 4294967296 = (v1 : Int) := by omega
    have k2 : IntKind.u32.wrap (v1 : Int) = (v1 : Int) := by show (v1 : Int) % 4294967296 = _; omega
    go_wp2_with fail
    refine HC5.out.mono ?_
    rintro e w5 ⟨rfl, rfl⟩
    clear HC5
    go_upto_region 12 with fail
    have HW : Hid (∀ j u, [Value.int .u32 (v1 : Int), .int .i64 (v3 : Int)][j]? = some u → (w5.alloc (.cells #[.int .u32 (v1 : Int), .int .i64 (v3 : Int)] 76)).cell? ((⟨w5.heap.size, 0, none⟩ : Addr).add j) = some u) := fun j v hj => by
      rw [Go.WideShapes.add_plain, Nat.zero_add]
      match j, hj with
      | 0, hj => exact cell_row (heap_alloc_new _ _) hj
      | 1, hj => exact cell_row (heap_alloc_new _ _) hj
      | n + 2, hj => simp at hj
    have OA := Lib.hid (HO.out.alloc (.cells #[.int .u32 (v1 : Int), .int .i64 (v3 : Int)] 76))
    have HZ : Hid (w.heap.size ≤ w5.heap.size) := BB.out.size
    have HOL : Hid (∀ j, (Value.slice oa L.length oc).ownBlock = some j → w.heap.size ≤ j) := fun j hj => (HO.out.lt j hj).1
    go_wp2_with (at_builtin; refine wpList_append_own _ rfl _ _ 32 rfl w.heap.size 76 i0 (.agg #[.int .u32 0, .int .i64 0]) 2 16 Tryz.underlying32 HIn.out HZ0.out HZ1.out HZ2.out rfl (by decide) (.slice oa L.length oc) L.length _ rfl OA.out ⟨w5.heap.size, 0, none⟩ 1 1 [.int .u32 (v1 : Int), .int .i64 (v3 : Int)] rfl rfl HW.out (fun u hu => by simp at hu; rcases hu with rfl | rfl <;> rfl) (by unfold maxLen; omega) (by omega) (by simp; have := HZ.out; omega) ?_)
    intro v8 w8 ho8 hg8 _
    have B8 : Hid (Below w.heap.size w w8) := (BB.out.alloc BB.out.size _).grown hg8 (by simp; have := HZ.out; omega) (fun j hj => HOL.out j hj)
    have O8 : Hid (w8.ownsRow w.heap.size 76 2 v8 (L ++ [(⟨v1, (v3 : Int)⟩ : PL)]).length (plVs (L ++ [(⟨v1, (v3 : Int)⟩ : PL)]))) := by
      show World.ownsRow _ _ _ _ _ _ _
      unfold plVs at ho8 ⊢
      rw [List.flatMap_append, List.length_append]; exact ho8
    obtain ⟨oa8, oc8, hv8, _, _, _⟩ := pls_of_own (ls := L ++ [(⟨v1, (v3 : Int)⟩ : PL)]) O8.out
    subst hv8
    have HTN : Hid (s.data.toList = printT (L ++ [(⟨v1, (v3 : Int)⟩ : PL)]) ++ s.data.toList.drop (z + 1)) := by
      show _ = _
      have := HT.out
      rw [HLN.out] at this
      rw [printT_snoc, List.append_assoc]; exact this
    have HGN : Hid (∀ x ∈ L ++ [(⟨v1, (v3 : Int)⟩ : PL)], x.good) := fun x hx => by
      rcases List.mem_append.1 hx with h | h
      · exact HG.out x h
      · rw [List.mem_singleton.1 h]; exact HGD.out
    have hL9 : (L ++ [(⟨v1, (v3 : Int)⟩ : PL)]).length ≤ z + 1 := by simp; omega
    clear ho8 hg8 OA HW HO
    generalize L ++ [(⟨v1, (v3 : Int)⟩ : PL)] = L8 at *
    go_wp2_with fail
    refine ⟨⟨z + 1, L8, oa8, oc8, by omega, by go_num, rfl, hL9, HTN, HGN, O8, B8⟩, ?_⟩
    simp [intOf]; omega
end Go.Proofs.YtdlpgoackmgdkaaGreatDoor
