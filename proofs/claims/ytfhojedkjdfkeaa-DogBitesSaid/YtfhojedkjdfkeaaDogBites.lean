/- The walk of DogBites: it bites just if as many frames running as the limit are without a yield; once bitten nothing but a Reset helps. -/
import Derived.Test.YtfhojedkjdfkeaaDogLaws
namespace Go.Proofs.Ytfhojedkjdfkeaa
open Go.RowKit
set_option linter.unusedVariables false
/-- The most frames running without a yield. -/
def mx (l : List Bool) : Nat → Nat
  | 0 => 0
  | m + 1 => max (mx l m) (Dp.run l (m + 1))
theorem bit_mx (lim : Nat) (l : List Bool) (h : 0 < lim) (m : Nat) : Dp.bit lim l m = decide (lim ≤ mx l m) := by
  induction m with
  | zero => simp [Dp.bit, mx]
  | succ m ih =>
    have : lim ≤ mx l (m + 1) ↔ lim ≤ mx l m ∨ lim ≤ Dp.run l (m + 1) := by show lim ≤ max _ _ ↔ _; omega
    rw [show Dp.bit lim l (m + 1) = (Dp.bit lim l m || decide (lim ≤ Dp.run l (m + 1))) from rfl, ih, decide_eq_decide.2 this, Bool.decide_or]
theorem mx_le (l : List Bool) (m : Nat) : mx l m ≤ m := by
  induction m with
  | zero => simp [mx]
  | succ m ih => have := Dp.run_le l (m + 1); show max _ _ ≤ _; omega
theorem st_mx (lim : Nat) (l : List Bool) (h : 0 < lim) (m : Nat) : (Dp.st lim l m).2 = decide (lim ≤ mx l m) := by rw [(Dp.st_eq lim l h m).1, bit_mx lim l h]

set_option maxHeartbeats 8000000 in
set_option maxRecDepth 100000 in
theorem bites_main (lim more : Nat) (a : Option Addr) (len cap : Nat) (l : List Bool) (w : World) (hl0 : 0 < lim) (hl1 : lim + more ≤ 255) (hlen : l.length = len) (hs : len ≤ 1000) (hcap : len ≤ cap) (hmax : cap ≤ 9223372036854775807)
    (hsl : SliceAt w a len (boolV l)) :
    Calls Try.prog 4 #[.int .u8 (lim : Int), .slice a len cap, .int .u8 (more : Int)] w fun e w' => e = .returned (.bool true) ∧ Below w.heap.size w w' := by
  have HL := Lib.hid hsl; have HE := Lib.hid hlen
  clear hsl hlen
  have t1 : decide (1000 < (len : Int)) = false := by simp; omega
  have t2 : ((lim : Int) == 0) = false := by simp; omega
  have t3 : decide (255 < (lim : Int) + (more : Int)) = false := by simp; omega
  have HN := fun w1 => new_any (lim + more) w1 (by omega) (by omega)
  rw [Int.natCast_add] at HN
  have HN := Lib.hid HN
  go_enter Try.func4, Try.ntmps4
  go_wp2_with fail
  refine (known_any _).mono ?_
  rintro e w1 ⟨rfl, hb1⟩
  have B1 := Lib.hid hb1; clear hb1
  go_wp2_with fail
  refine (new_any lim w1 hl0 (by omega)).mono ?_
  rintro e w2 ⟨rfl, hd, hb, hz⟩
  have D2 := Lib.hid hd; have B2 : Hid (Below w.heap.size w w2) := B1.out.trans (hb.mono B1.out.size)
  have hg0 : w.heap.size ≤ w1.heap.size := B1.out.size
  clear hd hb
  go_wp2_with fail
  refine (HN.out w2).mono ?_
  rintro e w3 ⟨rfl, hd, hb, hz3⟩
  have D3 := Lib.hid (D2.out.below hb)
  have E3 := Lib.hid hd
  have B3 : Hid (Below w.heap.size w w3) := B2.out.trans (hb.mono B2.out.size)
  have hne : w1.heap.size < w2.heap.size := by omega
  clear hd hb hz hz3 HN
  generalize w1.heap.size = g at *
  generalize w2.heap.size = h at *
  go_wp2_with fail
  clear t1 t2 t3
  go_loopw [11, 12, 13, 55] (fun x m b i wr => ∃ k : Nat, k ≤ len ∧ i = .int .i64 k ∧ x = .int .i64 (Dp.run l k : Nat) ∧ m = .int .i64 (mx l k : Nat) ∧ b = .bool (decide (lim ≤ mx l k)) ∧ Below w.heap.size w wr ∧ DogAt wr g lim (Dp.st lim l k) ∧ DogAt wr h (lim + more) (Dp.st (lim + more) l k)) (fun _ _ _ i _ => len - (intOf i).toNat)
  case atStart => exact ⟨0, Nat.zero_le _, rfl, rfl, rfl, by simp [mx]; omega, B3.out, D3.out, E3.out⟩
  case round =>
    obtain ⟨k, hk, rfl, rfl, rfl, rfl, hB, hD, hE⟩ := hrel
    have HB := Lib.hid hB; have HD := Lib.hid hD; have HH := Lib.hid hE
    clear hB hD hE B1 D2 B2 D3 E3 B3
    by_cases hlt : k < len
    · obtain ⟨b, off, rfl, hbl, hcells⟩ := HL.out.at (by omega)
      have hcell : wr.cell? ⟨b, off + k, none⟩ = some (.bool (l.getD k false)) := by rw [HB.out.cell hbl]; exact hcells k hlt
      clear hcells
      have hkl : k < l.length := by rw [HE.out]; exact hlt
      have hyt : l.getD k true = l.getD k false := by simp [List.getD_eq_getElem?_getD, List.getElem?_eq_getElem hkl]
      have hs1 : Dp.step lim (Dp.st lim l k) (l.getD k false) = Dp.st lim l (k + 1) := by rw [Dp.st_succ, hyt]
      have hs2 : Dp.step (lim + more) (Dp.st (lim + more) l k) (l.getD k false) = Dp.st (lim + more) l (k + 1) := by rw [Dp.st_succ, hyt]
      have hq1 := st_mx lim l hl0 (k + 1)
      have hq2 := st_mx (lim + more) l (by omega) (k + 1)
      have hle1 := Dp.st_le lim l k
      have hle2 := Dp.st_le (lim + more) l k
      have hrk := Dp.run_le l k
      have hmk := mx_le l k
      have hmk1 := mx_le l (k + 1)
      have hmm : mx l (k + 1) = max (mx l k) (Dp.run l (k + 1)) := rfl
      have hrr : Dp.run l (k + 1) = if l.getD k false then 0 else Dp.run l k + 1 := by rw [← hyt]; rfl
      have C1 := Lib.hid (frame_any g lim (Dp.st lim l k) (Dp.st lim l (k + 1)) (l.getD k false) wr HD.out (by omega) (by omega) hs1)
      have C2 := Lib.hid (fun w' hd => frame_any h (lim + more) (Dp.st (lim + more) l k) (Dp.st (lim + more) l (k + 1)) (l.getD k false) w' hd (by omega) (by omega) hs2)
      rw [hq1] at C1
      rw [hq2] at C2
      generalize Dp.st lim l k = s1 at *
      generalize Dp.st (lim + more) l k = s2 at *
      generalize l.getD k false = y at *
      clear hyt hs1 hs2 hq1 hq2
      obtain ⟨M', hM⟩ : ∃ M', M' = mx l (k + 1) := ⟨_, rfl⟩
      obtain ⟨R', hR⟩ : ∃ R', R' = Dp.run l (k + 1) := ⟨_, rfl⟩
      have FM := Lib.hid hM; have FR := Lib.hid hR
      rw [← hM] at C1 C2 hmm hmk1
      rw [← hR] at hmm hrr
      clear hM hR
      generalize mx l k = M at *
      generalize Dp.run l k = R at *
      have key : ∃ c1 c2 c3 : Bool, decide (lim ≤ M) = c3 ∧ decide (lim ≤ M') = c1 ∧ decide (lim + more ≤ M') = c2 ∧ decide ((lim : Int) ≤ (M' : Int)) = c1 ∧ (c3 = true → c1 = true) ∧ (c2 = true → c1 = true) := by
        refine ⟨_, _, _, rfl, rfl, rfl, decide_eq_decide.2 (by omega), ?_, ?_⟩
        · intro h; have := of_decide_eq_true h; exact decide_eq_true (by omega)
        · intro h; have := of_decide_eq_true h; exact decide_eq_true (by omega)
      obtain ⟨c1, c2, c3, k1, k2, k3, k4, k5, k6⟩ := key
      rw [k2] at C1
      rw [k3] at C2
      rw [k1]
      have K1 := Lib.hid k1; have K2 := Lib.hid k2
      have K4 : Hid (∀ z : Int, z = (M' : Int) → decide ((lim : Int) ≤ z) = c1) := fun z hz => by rw [hz]; exact k4
      clear k1 k2 k3
      have HMM := Lib.hid hmm; have HRR := Lib.hid hrr
      have cases3 : (y = true ∧ R' = 0 ∧ M' = M) ∨ (y = false ∧ R' = R + 1 ∧ M < R + 1 ∧ M' = R + 1) ∨ (y = false ∧ R' = R + 1 ∧ R + 1 ≤ M ∧ M' = M) := by
        cases y
        · simp at hrr
          by_cases h : M < R + 1
          · exact .inr (.inl ⟨rfl, hrr, h, by omega⟩)
          · exact .inr (.inr ⟨rfl, hrr, by omega, by omega⟩)
        · simp at hrr
          exact .inl ⟨rfl, hrr, by omega⟩
      clear hmm hrr
      cases c1 with
      | true =>
        clear k5 k6
        cases c2 <;> cases c3
        all_goals
          rcases cases3 with ⟨rfl, rfl, rfl⟩ | ⟨rfl, rfl, hlt2, rfl⟩ | ⟨rfl, rfl, hle3, rfl⟩
          all_goals
            go_wp2_with fail
            refine C1.out.mono ?_
            rintro e w4 ⟨rfl, hd, hg⟩
            have D4 := Lib.hid hd
            have H4 := Lib.hid (HH.out.other hg (by omega))
            have B4 : Hid (Below w.heap.size w w4) := HB.out.grown hg HB.out.size (by intro k hk; simp at hk; omega)
            clear hd hg
            go_wp2_with fail
            refine (C2.out _ H4.out).mono ?_
            rintro e w5 ⟨rfl, hd, hg⟩
            have E5 := Lib.hid hd
            have D5 := Lib.hid (D4.out.other hg (by omega))
            have B5 : Hid (Below w.heap.size w w5) := B4.out.grown hg B4.out.size (by intro k hk; simp at hk; omega)
            clear hd hg
            have k2 := K2.out
            try (have k4 := K4.out ((R : Int) + 1) (by omega))
            go_wp2_with fail
            go_roundw
            case rel => exact ⟨k + 1, by omega, by go_num, by rw [← FR.out] <;> go_num, by rw [← FM.out] <;> go_num, by rw [← FM.out, K2.out], B5.out, D5.out, E5.out⟩
            case measure => simp [intOf]; omega
      | false =>
        have k5 : c3 = false := by cases c3 <;> simp_all
        have k6 : c2 = false := by cases c2 <;> simp_all
        subst k5 k6
        rcases cases3 with ⟨rfl, rfl, rfl⟩ | ⟨rfl, rfl, hlt2, rfl⟩ | ⟨rfl, rfl, hle3, rfl⟩
        all_goals
          go_wp2_with fail
          refine C1.out.mono ?_
          rintro e w4 ⟨rfl, hd, hg⟩
          have D4 := Lib.hid hd
          have H4 := Lib.hid (HH.out.other hg (by omega))
          have B4 : Hid (Below w.heap.size w w4) := HB.out.grown hg HB.out.size (by intro k hk; simp at hk; omega)
          clear hd hg
          go_wp2_with fail
          refine (C2.out _ H4.out).mono ?_
          rintro e w5 ⟨rfl, hd, hg⟩
          have E5 := Lib.hid hd
          have D5 := Lib.hid (D4.out.other hg (by omega))
          have B5 : Hid (Below w.heap.size w w5) := B4.out.grown hg B4.out.size (by intro k hk; simp at hk; omega)
          clear hd hg
          have k2 := K2.out
          try (have k4 := K4.out ((R : Int) + 1) (by omega))
          go_wp2_with fail
          go_roundw
          case rel => exact ⟨k + 1, by omega, by go_num, by rw [← FR.out] <;> go_num, by rw [← FM.out] <;> go_num, by rw [← FM.out, K2.out], B5.out, D5.out, E5.out⟩
          case measure => simp [intOf]; omega
    · obtain rfl : k = len := by omega
      have hle1 := Dp.st_le lim l k
      go_wp2_with fail
      refine (reset_any g lim _ _ HD.out).mono ?_
      rintro e w4 ⟨rfl, hd, hg⟩
      have D4 := Lib.hid hd
      have B4 : Hid (Below w.heap.size w w4) := HB.out.grown hg HB.out.size (by intro k hk; simp at hk; omega)
      clear hd hg
      go_wp2_with fail
      refine (bitten_any g lim (0, false) _ D4.out).mono ?_
      rintro e w5 ⟨rfl, rfl⟩
      go_wp2_with fail
      refine (left_any g lim (0, false) _ D4.out (by omega) (by show 0 ≤ _; omega)).mono ?_
      rintro e w6 ⟨rfl, hg⟩
      have B6 : Hid (Below w.heap.size w w6) := B4.out.grown hg B4.out.size (by simp)
      clear hg
      go_wp2_with fail
      go_ret
      exact ⟨rfl, B6.out⟩

theorem bites_walk (x : Int) (a : Option Addr) (len cap : Nat) (y : Int) (w : World) (wx : (Lit.int .u8 x).wf = true) (hr : ReadsC w 22 [.slice a len cap]) (wy : (Lit.int .u8 y).wf = true) :
    Calls Try.prog 4 #[.int .u8 x, .slice a len cap, .int .u8 y] w fun e w' => e = .returned (.bool true) ∧ Below w.heap.size w w' := by
  obtain ⟨h0, h1⟩ := bounds_u8 wx
  obtain ⟨r0, r1⟩ := bounds_u8 wy
  obtain ⟨l, hlen, hcap, hmax, hsl⟩ := reads_bools Try.underlying22 Try.underlying4 boolCells hr
  unfold maxLen at hmax
  by_cases hs : 1000 < len ∨ x = 0 ∨ 255 < x + y
  · exact bites_out a len cap x y w h0 h1 r0 r1 (by omega) hs
  · obtain ⟨lim, rfl⟩ := Int.eq_ofNat_of_zero_le h0
    obtain ⟨more, rfl⟩ := Int.eq_ofNat_of_zero_le r0
    exact bites_main lim more a len cap l w (by omega) (by omega) hlen (by omega) hcap hmax hsl
end Go.Proofs.Ytfhojedkjdfkeaa
