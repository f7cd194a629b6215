/- Same, are; the chapter's rows. -/
import Derived.Test.YtdelcndaogjngaaFieNew
namespace Go.Proofs.Ytdelcndaogjngaa
open Go.RowKit
set_option linter.unusedVariables false
set_option maxHeartbeats 2000000 in
theorem same_true (a b : Option Addr) (n ca cb : Nat) (X Y : Nat → Nat) (w : World) (hn : n ≤ 1000000) (hX : SliceAt w a n (uV X)) (hY : SliceAt w b n (uV Y)) (he : ∀ i, i < n → X i = Y i) :
    Calls Try.prog 20 #[.slice a n ca, .slice b n cb] w fun e w' => e = .returned (.bool true) ∧ Below w.heap.size w w' := by
  have HX := Lib.hid hX; have HY := Lib.hid hY; have HE := Lib.hid he
  clear hX hY he
  go_enter Try.func20, Try.ntmps20
  go_wp2_with fail
  go_loopw [5] (fun i wr => ∃ k : Nat, k ≤ n ∧ i = .int .i64 k ∧ Below w.heap.size w wr) (fun i _ => n - (intOf i).toNat)
  case atStart => exact ⟨0, Nat.zero_le _, rfl, Below.refl _ _⟩
  case round =>
    obtain ⟨k, hk, rfl, r1⟩ := hrel
    have B1 := Lib.hid r1
    clear r1
    by_cases hlt : k < n
    · obtain ⟨b1, o1, rfl, l1, x1⟩ := HX.out.at (by omega)
      obtain ⟨b2, o2, rfl, l2, x2⟩ := HY.out.at (by omega)
      have c1 : wr.cell? ⟨b1, o1 + k, none⟩ = some (.int .u32 ((X k : Nat) : Int)) := by rw [B1.out.cell l1]; exact x1 k hlt
      have c2 : wr.cell? ⟨b2, o2 + k, none⟩ = some (.int .u32 ((X k : Nat) : Int)) := by rw [B1.out.cell l2, HE.out k hlt]; exact x2 k hlt
      clear x1 x2
      have i1 : (k : Int) < (n : Int) := by omega
      generalize X k = xv at *
      go_wp2_with fail
      go_quiet (fail)
      go_wp2_with fail
      go_roundw
      case rel => exact ⟨k + 1, by omega, by go_num, ⟨B1.out.os, B1.out.tape, B1.out.output, B1.out.size, B1.out.block⟩⟩
      case measure => simp [intOf]; omega
    · obtain rfl : k = n := by omega
      go_wp2_with fail
      go_ret
      exact ⟨rfl, B1.out⟩
theorem are_true (a b : Option Addr) (n ca cb : Nat) (X Y : Nat → Nat) (w : World) (hn : n ≤ 1000000) (hX : SliceAt w a n (uV X)) (hY : SliceAt w b n (uV Y)) (he : ∀ i, i < n → X i = Y i) :
    Calls Try.prog 23 #[.slice a n ca, .slice b n cb] w fun e w' => e = .returned (.bool true) ∧ Below w.heap.size w w' := by
  have HX := Lib.hid hX; have HY := Lib.hid hY; have HE := Lib.hid he
  clear hX hY he
  go_enter Try.func23, Try.ntmps23
  go_wp2_with fail
  refine (same_true a b n ca cb X Y w hn HX.out HY.out HE.out).mono ?_
  rintro e w1 ⟨rfl, hb⟩
  have B1 := Lib.hid hb
  clear hb
  go_wp2_with fail
  go_ret
  exact ⟨rfl, B1.out⟩
def two (x y : Nat) (i : Nat) : Nat := if i = 0 then x else y
theorem two_at (w : World) (x y : Nat) : SliceAt (w.alloc (.cells #[.int .u32 (x : Int), .int .u32 (y : Int)] 23)) (some ⟨w.heap.size, 0, none⟩) 2 (uV (two x y)) := by
  refine .inr ⟨w.heap.size, 0, rfl, by simp, fun i hi => ?_⟩
  refine cell_row (heap_alloc_new _ _) ?_
  match i, hi with
  | 0, _ => rfl
  | 1, _ => rfl
theorem two_lt {x y : Nat} (hx : x < 4294967296) (hy : y < 4294967296) (i : Nat) : two x y i < 4294967296 := by unfold two; split <;> assumption
theorem outs_is (f : FS) (n : Nat) (X : Nat → Nat) (w : World) (h : FieldAt w f) (hn : f.nS = n) (hx : ∀ i, i < n → f.outs i = X i) :
    Calls Try.prog 22 #[.pointer (some ⟨f.g, 0, none⟩)] w fun e w' => ∃ a c, e = .returned (.slice a n c) ∧ SliceAt w' a n (uV X) ∧ Below w.heap.size w w' := by
  subst hn
  refine (outs_any f w h).mono ?_
  rintro e w1 ⟨v, rfl, ⟨b, hs⟩, hb⟩
  obtain ⟨a, c, rfl, -, -, h3⟩ := hs.slice
  exact ⟨a, c, rfl, h3.congr fun i hi => by unfold uV; rw [hx i hi], hb⟩
theorem ins_is (f : FS) (n : Nat) (X : Nat → Nat) (w : World) (h : FieldAt w f) (hn : f.nI = n) (hx : ∀ i, i < n → f.ins i = X i) :
    Calls Try.prog 21 #[.pointer (some ⟨f.g, 0, none⟩)] w fun e w' => ∃ a c, e = .returned (.slice a n c) ∧ SliceAt w' a n (uV X) ∧ Below w.heap.size w w' := by
  subst hn
  refine (ins_any f w h).mono ?_
  rintro e w1 ⟨v, rfl, ⟨b, hs⟩, hb⟩
  obtain ⟨a, c, rfl, -, -, h3⟩ := hs.slice
  exact ⟨a, c, rfl, h3.congr fun i hi => by unfold uV; rw [hx i hi], hb⟩
theorem outs_g (g : Nat) (f : FS) (hg : f.g = g) (n : Nat) (X : Nat → Nat) (w : World) (h : FieldAt w f) (hn : f.nS = n) (hx : ∀ i, i < n → f.outs i = X i) :
    Calls Try.prog 22 #[.pointer (some ⟨g, 0, none⟩)] w fun e w' => ∃ a c, e = .returned (.slice a n c) ∧ SliceAt w' a n (uV X) ∧ Below w.heap.size w w' := by subst hg; exact outs_is f n X w h hn hx
theorem ins_g (g : Nat) (f : FS) (hg : f.g = g) (n : Nat) (X : Nat → Nat) (w : World) (h : FieldAt w f) (hn : f.nI = n) (hx : ∀ i, i < n → f.ins i = X i) :
    Calls Try.prog 21 #[.pointer (some ⟨g, 0, none⟩)] w fun e w' => ∃ a c, e = .returned (.slice a n c) ∧ SliceAt w' a n (uV X) ∧ Below w.heap.size w w' := by subst hg; exact ins_is f n X w h hn hx
theorem latch_g (g : Nat) (f : FS) (hg : f.g = g) (n : Nat) (a : Option Addr) (c : Nat) (x : Nat → Nat) (w : World) (h : FieldAt w f) (hn : f.nI = n) (hx : SliceAt w a n (uV x)) (hlt : ∀ i, x i < 4294967296) :
    Calls Try.prog 11 #[.pointer (some ⟨g, 0, none⟩), .slice a n c] w fun e w' => e = .returned (.int .i64 0) ∧ FieldAt w' (f.latch x) ∧ Only f.M w w' := by subst hg; subst hn; exact latch_ok f a c x w h hx hlt
theorem latchbad_g (g : Nat) (f : FS) (hg : f.g = g) (a : Option Addr) (n c : Nat) (w : World) (h : FieldAt w f) (hn : n ≠ f.nI) (hm : n ≤ 9223372036854775807) :
    Calls Try.prog 11 #[.pointer (some ⟨g, 0, none⟩), .slice a n c] w fun e w' => e = .returned (.int .i64 2) ∧ w = w' := by subst hg; exact latch_bad f a n c w h hn hm
theorem in_g (g : Nat) (f : FS) (hg : f.g = g) (p n : Int) (X : Nat) (w : World) (h : FieldAt w f) (hE : inE f p n = 0) (hX : f.ins n.toNat = X) :
    Calls Try.prog 13 #[.pointer (some ⟨g, 0, none⟩), .int .i64 p, .int .i64 n] w fun e w' => e = .returned (.tuple #[.int .u32 (X : Int), .int .i64 0]) ∧ w = w' := by subst hg; subst hX; exact in_ok f p n w h hE
theorem inbad_g (g : Nat) (f : FS) (hg : f.g = g) (p n : Int) (w : World) (h : FieldAt w f) (hp1 : p ≤ 9223372036854775807) (hn0 : -9223372036854775808 ≤ n) (hn1 : n ≤ 9223372036854775807) (E : Int) (hE : inE f p n = E) (h0 : E ≠ 0) :
    Calls Try.prog 13 #[.pointer (some ⟨g, 0, none⟩), .int .i64 p, .int .i64 n] w fun e w' => e = .returned (.tuple #[.int .u32 0, .int .i64 E]) ∧ w = w' := by subst hg; exact in_bad f p n w h hp1 hn0 hn1 E hE h0
theorem out_g (g : Nat) (f : FS) (hg : f.g = g) (p n : Int) (x : Nat) (w : World) (h : FieldAt w f) (hx : x < 4294967296) (hE : outE f p n = 0) :
    Calls Try.prog 15 #[.pointer (some ⟨g, 0, none⟩), .int .i64 p, .int .i64 n, .int .u32 (x : Int)] w fun e w' => e = .returned (.int .i64 0) ∧ FieldAt w' (f.outP n.toNat x) ∧ Only f.M w w' := by subst hg; exact out_ok f p n x w h hx hE
theorem outbad_g (g : Nat) (f : FS) (hg : f.g = g) (p n x : Int) (w : World) (h : FieldAt w f) (hn0 : -9223372036854775808 ≤ n) (hn1 : n ≤ 9223372036854775807) (E : Int) (hE : outE f p n = E) (h0 : E ≠ 0) :
    Calls Try.prog 15 #[.pointer (some ⟨g, 0, none⟩), .int .i64 p, .int .i64 n, .int .u32 x] w fun e w' => e = .returned (.int .i64 E) ∧ w = w' := by subst hg; exact out_bad f p n x w h hn0 hn1 E hE h0
theorem commit_g (g : Nat) (f : FS) (hg : f.g = g) (b : Bool) (W : Nat → Nat) (w : World) (h : FieldAt w f) (hWd : W = if b then f.done else f.safe) :
    Calls Try.prog 17 #[.pointer (some ⟨g, 0, none⟩), .bool b] w fun e w' => e = .returned (.tuple #[]) ∧ FieldAt w' (f.commit W) ∧ Only f.M w w' := by subst hg; exact commit_any f b W w h hWd
/-- What stays of a field, whatever is done with it. -/
structure Like (f f' : FS) : Prop where
  g : f'.g = f.g
  lo : f'.lo = f.lo
  hi : f'.hi = f.hi
  nI : f'.nI = f.nI
  nS : f'.nS = f.nS
  rd : f'.rd = f.rd
  wr : f'.wr = f.wr
  safe : f'.safe = f.safe
  bs : f'.bs = f.bs
theorem Like.refl (f : FS) : Like f f := ⟨rfl, rfl, rfl, rfl, rfl, rfl, rfl, rfl, rfl⟩
theorem Like.trans {a b c : FS} (h : Like a b) (k : Like b c) : Like a c := ⟨k.g.trans h.g, k.lo.trans h.lo, k.hi.trans h.hi, k.nI.trans h.nI, k.nS.trans h.nS, k.rd.trans h.rd, k.wr.trans h.wr, k.safe.trans h.safe, k.bs.trans h.bs⟩
theorem Like.latch (f : FS) (x : Nat → Nat) : Like f (f.latch x) := ⟨rfl, rfl, rfl, rfl, rfl, rfl, rfl, rfl, rfl⟩
theorem Like.outP (f : FS) (n x : Nat) : Like f (f.outP n x) := ⟨rfl, rfl, rfl, rfl, rfl, rfl, rfl, rfl, rfl⟩
theorem Like.commit (f : FS) (W : Nat → Nat) : Like f (f.commit W) := ⟨rfl, rfl, rfl, rfl, rfl, rfl, rfl, rfl, rfl⟩
theorem latch_is (f : FS) (n : Nat) (a : Option Addr) (c : Nat) (x : Nat → Nat) (w : World) (h : FieldAt w f) (hn : f.nI = n) (hx : SliceAt w a n (uV x)) (hlt : ∀ i, x i < 4294967296) :
    Calls Try.prog 11 #[.pointer (some ⟨f.g, 0, none⟩), .slice a n c] w fun e w' => e = .returned (.int .i64 0) ∧ FieldAt w' (f.latch x) ∧ Only f.M w w' := by
  subst hn; exact latch_ok f a c x w h hx hlt
theorem in_is (f : FS) (p n : Int) (X : Nat) (w : World) (h : FieldAt w f) (hE : inE f p n = 0) (hX : f.ins n.toNat = X) :
    Calls Try.prog 13 #[.pointer (some ⟨f.g, 0, none⟩), .int .i64 p, .int .i64 n] w fun e w' => e = .returned (.tuple #[.int .u32 (X : Int), .int .i64 0]) ∧ w = w' := by
  subst hX; exact in_ok f p n w h hE
set_option maxHeartbeats 8000000 in
theorem known_any (w : World) : Calls Try.prog 5 #[] w fun e w' => e = .returned (.bool true) ∧ Below w.heap.size w w' := by
  have T0 : Hid (SliceAt (w.alloc (.cells #[.int .u32 9, .int .u32 8] 23)) (some ⟨w.heap.size, 0, none⟩) 2 (uV (two 9 8))) := two_at w 9 8
  have B0 : Hid (Below w.heap.size w (w.alloc (.cells #[.int .u32 9, .int .u32 8] 23))) := alloc_below _ _
  go_enter Try.func5, Try.ntmps5
  go_wp2_with fail
  refine (new_ok 2 (some ⟨w.heap.size, 0, none⟩) 2 2 1 1 (two 9 8) _ ⟨by omega, by omega, by omega, by omega, by omega, by omega⟩ T0.out (two_lt (by omega) (by omega))).mono ?_
  rintro e w1 ⟨f, rfl, hf, hn, hb⟩
  have F1 := Lib.hid hf
  have B1 : Hid (Below w.heap.size w w1) := B0.out.trans (hb.mono B0.out.size)
  have hnS : Hid (f.nS = 2) := hn.nS
  have N := Lib.hid hn
  clear hf hb hn
  generalize w.alloc (.cells #[.int .u32 9, .int .u32 8] 23) = w0 at *
  go_wp2_with fail
  have Kf : Hid (Like f f) := Like.refl f
  have hnI : Hid (f.nI = 2) := N.out.nI
  have hrd : Hid (f.rd = 1) := N.out.rd
  have hwr : Hid (f.wr = 1) := N.out.wr
  refine (outs_g f.g f Kf.out.g 2 (two 9 8) w1 F1.out (Kf.out.nS.trans hnS.out) (fun i _ => by rw [N.out.outs])).mono ?_
  rintro e w2 ⟨a2, c2, rfl, hs, hb⟩
  have S2 := Lib.hid hs
  have B2 : Hid (Below w.heap.size w w2) := B1.out.trans (hb.mono B1.out.size)
  have F2 : Hid (FieldAt w2 (f)) := F1.out.below hb
  clear hs hb
  go_wp2_with fail
  have Z2 : Hid (Below w.heap.size w (w2.alloc (.cells #[.int .u32 9, .int .u32 8] 23))) := B2.out.alloc B2.out.size _
  have T2 : Hid (SliceAt (w2.alloc (.cells #[.int .u32 9, .int .u32 8] 23)) (some ⟨w2.heap.size, 0, none⟩) 2 (uV (two 9 8))) := two_at w2 9 8
  refine (are_true a2 (some ⟨w2.heap.size, 0, none⟩) 2 c2 2 (two 9 8) (two 9 8) _ (by omega) (S2.out.below (alloc_below _ _)) T2.out (fun _ _ => rfl)).mono ?_
  rintro e w3 ⟨rfl, hb⟩
  have B3 : Hid (Below w.heap.size w w3) := Z2.out.trans (hb.mono Z2.out.size)
  have F3 : Hid (FieldAt w3 (f)) := (F2.out.below (alloc_below _ _)).below hb
  clear hb
  go_wp2_with fail
  have Z3 : Hid (Below w.heap.size w (w3.alloc (.cells #[.int .u32 5, .int .u32 6] 23))) := B3.out.alloc B3.out.size _
  have G3 : Hid (FieldAt (w3.alloc (.cells #[.int .u32 5, .int .u32 6] 23)) (f)) := F3.out.below (alloc_below _ _)
  have T3 : Hid (SliceAt (w3.alloc (.cells #[.int .u32 5, .int .u32 6] 23)) (some ⟨w3.heap.size, 0, none⟩) 2 (uV (two 5 6))) := two_at w3 5 6
  refine (latch_g f.g f rfl 2 (some ⟨w3.heap.size, 0, none⟩) 2 (two 5 6) _ G3.out hnI.out T3.out (two_lt (by omega) (by omega))).mono ?_
  rintro e w4 ⟨rfl, hf, ho⟩
  obtain ⟨f1, hfn⟩ : ∃ x, x = f.latch (two 5 6) := ⟨_, rfl⟩
  rw [← hfn] at hf
  have F4 := Lib.hid hf
  have B4 : Hid (Below w.heap.size w w4) := (Z3).out.trans (ho.below (Z3).out.size (fun i hi hm => by have h1 : (f).lo ≤ i := hm.1; have h4 := Kf.out.lo; have h2 := N.out.lo; have h3 := B0.out.size; omega))
  have Kf1 : Hid (Like f f1) := Kf.out.trans (by rw [hfn]; exact Like.latch _ _)
  have Ef1 := Lib.hid hfn
  clear hf ho hfn
  go_wp2_with fail
  refine (in_g f.g f1 Kf1.out.g 0 1 6 w4 F4.out (by unfold inE; rw [Kf1.out.rd, Kf1.out.nI, hrd.out, hnI.out]; decide) (by rw [Ef1.out]; rfl)).mono ?_
  rintro e w' ⟨rfl, rfl⟩
  go_wp2_with fail
  refine (inbad_g f.g f1 Kf1.out.g 1 1 w4 F4.out (by omega) (by omega) (by omega) 70 (by unfold inE; rw [Kf1.out.rd, Kf1.out.nI, hrd.out, hnI.out]; decide) (by decide)).mono ?_
  rintro e w' ⟨rfl, rfl⟩
  go_wp2_with fail
  refine (inbad_g f.g f1 Kf1.out.g 0 2 w4 F4.out (by omega) (by omega) (by omega) 5 (by unfold inE; rw [Kf1.out.rd, Kf1.out.nI, hrd.out, hnI.out]; decide) (by decide)).mono ?_
  rintro e w' ⟨rfl, rfl⟩
  go_wp2_with fail
  have O1 : Hid (f1.outs = two 9 8) := by show _ = _; rw [Ef1.out]; exact N.out.outs
  have A1 : Hid (f1.has = fun _ => false) := by show _ = _; rw [Ef1.out]; rfl
  refine (out_g f.g f1 Kf1.out.g 1 0 3 w4 F4.out (by omega) (by unfold outE; rw [Kf1.out.wr, Kf1.out.nS, hwr.out, hnS.out]; decide)).mono ?_
  rintro e w5 ⟨rfl, hf, ho⟩
  obtain ⟨f2, hfn⟩ : ∃ x, x = f1.outP (Int.toNat 0) 3 := ⟨_, rfl⟩
  rw [← hfn] at hf
  have F5 := Lib.hid hf
  have B5 : Hid (Below w.heap.size w w5) := (B4).out.trans (ho.below (B4).out.size (fun i hi hm => by have h1 : (f1).lo ≤ i := hm.1; have h4 := Kf1.out.lo; have h2 := N.out.lo; have h3 := B0.out.size; omega))
  have Kf2 : Hid (Like f f2) := Kf1.out.trans (by rw [hfn]; exact Like.outP _ _ _)
  have Ef2 := Lib.hid hfn
  clear hf ho hfn
  go_wp2_with fail
  have O2 : Hid (f2.outs = two 9 8) := by show _ = _; rw [Ef2.out]; exact O1.out
  have D2 : Hid (∀ i, f2.done i = two 3 8 i) := fun i => by
    unfold FS.done
    rw [Kf2.out.safe, N.out.safe, Ef2.out]
    show (if (if i = 0 then true else f1.has i) = true then (if i = 0 then 3 else f1.put i) else two 9 8 i) = two 3 8 i
    rw [A1.out]
    by_cases e : i = 0
    · rw [if_pos e]; simp [two, e]
    · rw [if_neg e]; simp [two, e]
  refine (outs_g f.g f2 Kf2.out.g 2 (two 9 8) w5 F5.out (Kf2.out.nS.trans hnS.out) (fun i _ => by rw [O2.out])).mono ?_
  rintro e w6 ⟨a6, c6, rfl, hs, hb⟩
  have S6 := Lib.hid hs
  have B6 : Hid (Below w.heap.size w w6) := B5.out.trans (hb.mono B5.out.size)
  have F6 : Hid (FieldAt w6 (f2)) := F5.out.below hb
  clear hs hb
  go_wp2_with fail
  have Z6 : Hid (Below w.heap.size w (w6.alloc (.cells #[.int .u32 9, .int .u32 8] 23))) := B6.out.alloc B6.out.size _
  have T6 : Hid (SliceAt (w6.alloc (.cells #[.int .u32 9, .int .u32 8] 23)) (some ⟨w6.heap.size, 0, none⟩) 2 (uV (two 9 8))) := two_at w6 9 8
  refine (are_true a6 (some ⟨w6.heap.size, 0, none⟩) 2 c6 2 (two 9 8) (two 9 8) _ (by omega) (S6.out.below (alloc_below _ _)) T6.out (fun _ _ => rfl)).mono ?_
  rintro e w7 ⟨rfl, hb⟩
  have B7 : Hid (Below w.heap.size w w7) := Z6.out.trans (hb.mono Z6.out.size)
  have F7 : Hid (FieldAt w7 (f2)) := (F6.out.below (alloc_below _ _)).below hb
  clear hb
  go_wp2_with fail
  refine (commit_g f.g f2 Kf2.out.g true f2.done w7 F7.out rfl).mono ?_
  rintro e w8 ⟨rfl, hf, ho⟩
  obtain ⟨f3, hfn⟩ : ∃ x, x = f2.commit f2.done := ⟨_, rfl⟩
  rw [← hfn] at hf
  have F8 := Lib.hid hf
  have B8 : Hid (Below w.heap.size w w8) := (B7).out.trans (ho.below (B7).out.size (fun i hi hm => by have h1 : (f2).lo ≤ i := hm.1; have h4 := Kf2.out.lo; have h2 := N.out.lo; have h3 := B0.out.size; omega))
  have Kf3 : Hid (Like f f3) := Kf2.out.trans (by rw [hfn]; exact Like.commit _ _)
  have Ef3 := Lib.hid hfn
  clear hf ho hfn
  go_wp2_with fail
  have O3 : Hid (∀ i, i < 2 → f3.outs i = two 3 8 i) := fun i hi => by
    rw [Ef3.out]
    show (if i < f2.nS then f2.done i else f2.outs i) = _
    rw [if_pos (by rw [Kf2.out.nS, hnS.out]; exact hi)]; exact D2.out i
  refine (outs_g f.g f3 Kf3.out.g 2 (two 3 8) w8 F8.out (Kf3.out.nS.trans hnS.out) O3.out).mono ?_
  rintro e w9 ⟨a9, c9, rfl, hs, hb⟩
  have S9 := Lib.hid hs
  have B9 : Hid (Below w.heap.size w w9) := B8.out.trans (hb.mono B8.out.size)
  have F9 : Hid (FieldAt w9 (f3)) := F8.out.below hb
  clear hs hb
  go_wp2_with fail
  have Z9 : Hid (Below w.heap.size w (w9.alloc (.cells #[.int .u32 3, .int .u32 8] 23))) := B9.out.alloc B9.out.size _
  have T9 : Hid (SliceAt (w9.alloc (.cells #[.int .u32 3, .int .u32 8] 23)) (some ⟨w9.heap.size, 0, none⟩) 2 (uV (two 3 8))) := two_at w9 3 8
  refine (are_true a9 (some ⟨w9.heap.size, 0, none⟩) 2 c9 2 (two 3 8) (two 3 8) _ (by omega) (S9.out.below (alloc_below _ _)) T9.out (fun _ _ => rfl)).mono ?_
  rintro e w10 ⟨rfl, hb⟩
  have B10 : Hid (Below w.heap.size w w10) := Z9.out.trans (hb.mono Z9.out.size)
  have F10 : Hid (FieldAt w10 (f3)) := (F9.out.below (alloc_below _ _)).below hb
  clear hb
  go_wp2_with fail
  refine (out_g f.g f3 Kf3.out.g 1 0 4 w10 F10.out (by omega) (by unfold outE; rw [Kf3.out.wr, Kf3.out.nS, hwr.out, hnS.out]; decide)).mono ?_
  rintro e w11 ⟨rfl, hf, ho⟩
  obtain ⟨f4, hfn⟩ : ∃ x, x = f3.outP (Int.toNat 0) 4 := ⟨_, rfl⟩
  rw [← hfn] at hf
  have F11 := Lib.hid hf
  have B11 : Hid (Below w.heap.size w w11) := (B10).out.trans (ho.below (B10).out.size (fun i hi hm => by have h1 : (f3).lo ≤ i := hm.1; have h4 := Kf3.out.lo; have h2 := N.out.lo; have h3 := B0.out.size; omega))
  have Kf4 : Hid (Like f f4) := Kf3.out.trans (by rw [hfn]; exact Like.outP _ _ _)
  have Ef4 := Lib.hid hfn
  clear hf ho hfn
  go_wp2_with fail
  refine (commit_g f.g f4 Kf4.out.g false f4.safe w11 F11.out rfl).mono ?_
  rintro e w12 ⟨rfl, hf, ho⟩
  obtain ⟨f5, hfn⟩ : ∃ x, x = f4.commit f4.safe := ⟨_, rfl⟩
  rw [← hfn] at hf
  have F12 := Lib.hid hf
  have B12 : Hid (Below w.heap.size w w12) := (B11).out.trans (ho.below (B11).out.size (fun i hi hm => by have h1 : (f4).lo ≤ i := hm.1; have h4 := Kf4.out.lo; have h2 := N.out.lo; have h3 := B0.out.size; omega))
  have Kf5 : Hid (Like f f5) := Kf4.out.trans (by rw [hfn]; exact Like.commit _ _)
  have Ef5 := Lib.hid hfn
  clear hf ho hfn
  go_wp2_with fail
  have O5 : Hid (∀ i, i < 2 → f5.outs i = two 9 8 i) := fun i hi => by
    rw [Ef5.out]
    show (if i < f4.nS then f4.safe i else f4.outs i) = _
    rw [if_pos (by rw [Kf4.out.nS, hnS.out]; exact hi), Kf4.out.safe, N.out.safe]
  refine (outs_g f.g f5 Kf5.out.g 2 (two 9 8) w12 F12.out (Kf5.out.nS.trans hnS.out) O5.out).mono ?_
  rintro e w13 ⟨a13, c13, rfl, hs, hb⟩
  have S13 := Lib.hid hs
  have B13 : Hid (Below w.heap.size w w13) := B12.out.trans (hb.mono B12.out.size)
  have F13 : Hid (FieldAt w13 (f5)) := F12.out.below hb
  clear hs hb
  go_wp2_with fail
  have Z13 : Hid (Below w.heap.size w (w13.alloc (.cells #[.int .u32 9, .int .u32 8] 23))) := B13.out.alloc B13.out.size _
  have T13 : Hid (SliceAt (w13.alloc (.cells #[.int .u32 9, .int .u32 8] 23)) (some ⟨w13.heap.size, 0, none⟩) 2 (uV (two 9 8))) := two_at w13 9 8
  refine (are_true a13 (some ⟨w13.heap.size, 0, none⟩) 2 c13 2 (two 9 8) (two 9 8) _ (by omega) (S13.out.below (alloc_below _ _)) T13.out (fun _ _ => rfl)).mono ?_
  rintro e w14 ⟨rfl, hb⟩
  have B14 : Hid (Below w.heap.size w w14) := Z13.out.trans (hb.mono Z13.out.size)
  have F14 : Hid (FieldAt w14 (f5)) := (F13.out.below (alloc_below _ _)).below hb
  clear hb
  go_wp2_with fail
  refine (outbad_g f.g f5 Kf5.out.g 0 0 1 w14 F14.out (by omega) (by omega) 70 (by unfold outE; rw [Kf5.out.wr, Kf5.out.nS, hwr.out, hnS.out]; decide) (by decide)).mono ?_
  rintro e w' ⟨rfl, rfl⟩
  go_wp2_with fail
  have Z14 : Hid (Below w.heap.size w (w14.alloc (.cells #[.int .u32 1] 23))) := B14.out.alloc B14.out.size _
  have G14 : Hid (FieldAt (w14.alloc (.cells #[.int .u32 1] 23)) (f5)) := F14.out.below (alloc_below _ _)
  refine (latchbad_g f.g f5 Kf5.out.g (some ⟨w14.heap.size, 0, none⟩) 1 1 _ G14.out (by rw [Kf5.out.nI, hnI.out]; decide) (by omega)).mono ?_
  rintro e w15 ⟨rfl, hw⟩
  have B15 : Hid (Below w.heap.size w w15) := by rw [← hw]; exact Z14.out
  clear hw
  go_wp2_with fail
  refine (commit_nil true w15).mono ?_
  rintro e w' ⟨rfl, rfl⟩
  go_wp2_with fail
  refine (in_nil 0 0 w15).mono ?_
  rintro e w' ⟨rfl, rfl⟩
  go_wp2_with fail
  refine (latch_nil none 0 0 w15).mono ?_
  rintro e w' ⟨rfl, rfl⟩
  go_wp2_with fail
  refine (out_nil 0 0 0 w15).mono ?_
  rintro e w' ⟨rfl, rfl⟩
  go_wp2_with fail
  refine (ins_nil w15).mono ?_
  rintro e w' ⟨rfl, rfl⟩
  go_wp2_with fail
  refine (outs_nil w15).mono ?_
  rintro e w' ⟨rfl, rfl⟩
  go_wp2_with fail
  refine (copy_nil w15).mono ?_
  rintro e w' ⟨rfl, rfl⟩
  go_wp2_with fail
  go_ret
  exact ⟨rfl, B15.out⟩
end Go.Proofs.Ytdelcndaogjngaa
