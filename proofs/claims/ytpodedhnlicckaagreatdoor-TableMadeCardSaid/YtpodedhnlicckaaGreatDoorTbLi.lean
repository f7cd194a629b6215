/- list: a word and numbers, each with what stands behind it. -/
import Derived.Test.YtpodedhnlicckaaGreatDoorTbNr
import Derived.Test.YtpodedhnlicckaaGreatDoorTabF
namespace Go.Proofs.YtpodedhnlicckaaGreatDoor
open Go.Shelf Go.RowKit
set_option linter.unusedVariables false
set_option linter.unusedSimpArgs false
/-- What holds while a text is put together: the table of powers was there, and what was there is kept. -/
structure PC (B : Nat) (w0 w : World) : Prop where
  tab : TabW w0
  low : w0.heap.size ≤ B
  bel : Below B w0 w
  sz : B ≤ w.heap.size
/-- What the writer's calls turn: blocks from B on, and of these no block that is not the writer's own and not of bytes. -/
structure Stp (B b : Nat) (w w' : World) : Prop where
  bel : Below B w w'
  kep : Lib.OthersKept 5 (some b) w w'
theorem Stp.refl (B b : Nat) (w : World) : Stp B b w w := ⟨Below.refl _ _, Lib.OthersKept.refl _ _ _⟩
theorem Stp.trans {B b : Nat} {w1 w2 w3 : World} (h : Stp B b w1 w2) (k : Stp B b w2 w3) : Stp B b w1 w3 := ⟨h.bel.trans k.bel, h.kep.trans k.kep⟩
theorem Stp.of_below {B b : Nat} {w w' : World} (hB : B ≤ w.heap.size) (hb : Below w.heap.size w w') : Stp B b w w' := ⟨hb.mono hB, kept_below hb⟩
theorem PC.step {B b : Nat} {w0 w w' : World} (h : PC B w0 w) (hb : Stp B b w w') : PC B w0 w' := ⟨h.tab, h.low, h.bel.trans hb.bel, Nat.le_trans h.sz hb.bel.size⟩
theorem PC.old {B : Nat} {w0 w : World} (h : PC B w0 w) : Below w0.heap.size w0 w := h.bel.mono h.low
theorem PC.tabW {B : Nat} {w0 w : World} (h : PC B w0 w) : TabW w := h.tab.below h.old
theorem TabW.glob {w : World} (h : TabW w) : GlobLow w.heap.size := by
  intro gn hg
  have hc := h.cell hg 0 (by decide)
  rcases Nat.lt_or_ge gn w.heap.size with e | e
  · exact e
  · exfalso
    have hn : w.heap[gn]? = none := Array.getElem?_eq_none e
    simp [World.cell?, hn] at hc
theorem PC.glob {B : Nat} {w0 w : World} (h : PC B w0 w) : GlobLow B := fun gn hg => Nat.lt_of_lt_of_le (h.tab.glob gn hg) h.low
theorem WrR.bad {B b N : Nat} {bad : Bool} {F : List UInt8} {w : World} (h : WrR B b bad F N w) : w.cell? ⟨b, 2, none⟩ = some (.bool bad) ∧ w.frozen? ⟨b, 2, none⟩ = false := by
  obtain ⟨l, ⟨hB, p, v, hp, hb, ho, hne⟩, _⟩ := h
  exact ⟨cell_row hb rfl, frozen_of_row _ _ _ _ _ hb⟩
theorem WrR.setBad {B b N : Nat} {bad : Bool} {F : List UInt8} {w : World} (h : WrR B b bad F N w) (x : Bool) (hx : x = false → bad = false) : WrR B b x F N (w.setCell ⟨b, 2, none⟩ (.bool x)) ∧ Stp B b w (w.setCell ⟨b, 2, none⟩ (.bool x)) := by
  obtain ⟨l, ⟨hB, p, v, hp, hb, ho, hne⟩, hl, hf⟩ := h
  exact ⟨⟨l, ⟨hB, p, v, hp, heap_setCell_same _ _ _ _ _ _ hb, ownF_set ho hne, hne⟩, hl, fun e => hf (hx e)⟩, ⟨(Below.refl B w).setCell (p := ⟨b, 2, none⟩) hB _, (Lib.OthersKept.refl _ _ w).setCell ⟨b, 2, none⟩ rfl _⟩⟩
theorem put_alloc1 (B b N : Nat) (bad : Bool) (F : List UInt8) (s : ByteArray) (w : World) (h : WrR B b bad F N w) (hB : B ≤ w.heap.size) (hs : s.size ≤ 22) (hN : N ≤ 10000000) :
    Calls Tryz.prog 83 #[.pointer (some ⟨b, 0, none⟩), .slice (some ⟨w.heap.size, 0, none⟩) 1 1] (w.alloc (.cells #[.string s] 9)) fun e w' => e = .returned (.tuple #[]) ∧ WrR B b bad (putW F [s.data.toList]) (N + 50) w' ∧ Stp B b w w' := by
  have hlt := h.lt
  have hb1 : Below w.heap.size w (w.alloc (.cells #[.string s] 9)) := (Below.refl _ _).alloc (Nat.le_refl _) _
  refine (putR_any B b N w.heap.size bad F [s] 1 _ (h.kept hb1) hN (heap_alloc_new _ _) (by omega) (show 1 ≤ 2 by omega) (fun x hx => by obtain rfl := List.mem_singleton.1 hx; exact hs) (Nat.le_trans hB hb1.size)).mono ?_
  rintro e w' ⟨rfl, h1, h2, h3⟩
  exact ⟨rfl, h1, (Stp.of_below hB hb1).trans ⟨h2, h3⟩⟩
theorem plain_any (n : Int) (w : World) : Calls Tryz.prog 42 #[.int .i64 n] w fun e w' => e = .returned (.tuple #[.int .i64 n, .string ⟨#[]⟩]) ∧ w = w' := by
  go_enter Tryz.func42, Tryz.ntmps42
  go_wp2_with fail
  go_ret2
  exact ⟨rfl, rfl⟩
def sgB (b : Bool) : ByteArray := ⟨#[if b then 45 else 43]⟩
theorem sign_any (n : Int) (b : Bool) (w : World) : Calls Tryz.prog 49 #[.agg #[.int .i64 n, .bool b]] w fun e w' => e = .returned (.tuple #[.int .i64 n, .string (sgB b)]) ∧ Below w.heap.size w w' := by
  have HB : Hid (Below w.heap.size w (w.alloc (.cells #[.int .i64 n, .bool b] 57))) := (Below.refl _ _).alloc (Nat.le_refl _) _
  cases b with
  | true =>
    go_enter Tryz.func49, Tryz.ntmps49
    go_wp2_with fail
    go_ret2
    exact ⟨rfl, HB.out⟩
  | false =>
    go_enter Tryz.func49, Tryz.ntmps49
    go_wp2_with fail
    go_ret2
    exact ⟨rfl, HB.out⟩
theorem any_take {α : Type} {l : List α} {k : Nat} {d : α} (p : α → Bool) (h : k < l.length) : (l.take (k + 1)).any p = ((l.take k).any p || p (l.getD k d)) := by
  rw [take_snocG (d := d) h, List.any_append]; simp
theorem putW_step {α : Type} {l : List α} {k : Nat} {d : α} (F u : List UInt8) (f : α → List UInt8) (h : k < l.length) : putW F (u :: (l.take (k + 1)).map f) = putW (putW F (u :: (l.take k).map f)) [f (l.getD k d)] := by
  rw [take_snocG (d := d) h, List.map_append]
  unfold putW
  rw [← List.foldl_append, List.cons_append]; rfl
theorem app_nilB (a : ByteArray) : a ++ ⟨#[]⟩ = a := by apply ByteArray.ext; apply Array.toList_inj.1; simp
set_option maxHeartbeats 4000000 in
set_option maxRecDepth 100000 in
theorem listI_any (B b N : Nat) (bad : Bool) (F : List UInt8) (word : ByteArray) (v : Value) (l : List Int) (w0 w : World) (h : WrR B b bad F N w) (hv : IntsAt w0 v l) (hP : PC B w0 w) (hN : N + 50 * l.length ≤ 9000000) (hw : word.size ≤ 20) :
    Calls Tryz.prog 47 #[.pointer (some ⟨b, 0, none⟩), .string word, v, .func (.func 42) #[] #[]] w fun e w' => e = .returned (.tuple #[]) ∧ WrR B b (bad || l.any offR) (putW F (word.data.toList :: l.map Lib.itoa)) (N + 50 + 50 * l.length) w' ∧ Stp B b w w' := by
  obtain ⟨a, c, rfl, _⟩ := hv.at_
  have HV := Lib.hid hv; have HP := Lib.hid hP
  have HOK : Hid (∀ k, k < l.length → i64ok (l.getD k 0)) := hv.ok
  obtain ⟨FK, hFK⟩ : ∃ FK : Nat → List UInt8, FK = fun k => putW F (word.data.toList :: (l.take k).map Lib.itoa) := ⟨_, rfl⟩
  obtain ⟨BK, hBK⟩ : ∃ BK : Nat → Bool, BK = fun k => bad || (l.take k).any offR := ⟨_, rfl⟩
  have HF0 : Hid (FK 0 = putW F [word.data.toList]) := by show _ = _; rw [hFK]; rfl
  have HB0 : Hid (BK 0 = bad) := by show _ = _; rw [hBK]; simp
  have HFS : Hid (∀ k, k < l.length → FK (k + 1) = putW (FK k) [Lib.itoa (l.getD k 0)]) := fun k hk => by rw [hFK]; exact putW_step F _ _ hk
  have HBS : Hid (∀ k, k < l.length → BK (k + 1) = (BK k || offR (l.getD k 0))) := fun k hk => by rw [hBK]; show (bad || (l.take (k + 1)).any offR) = (bad || (l.take k).any offR || offR (l.getD k 0)); rw [any_take offR hk, Bool.or_assoc]
  have HFM : Hid (FK l.length = putW F (word.data.toList :: l.map Lib.itoa)) := by show _ = _; rw [hFK]; show putW F (_ :: (l.take l.length).map _) = _; rw [List.take_length]
  have HBM : Hid (BK l.length = (bad || l.any offR)) := by show _ = _; rw [hBK]; show (bad || (l.take l.length).any _) = _; rw [List.take_length]
  have HPU := Lib.hid (put_alloc1 B b N bad F word w h hP.sz (by omega) (by omega))
  clear h hv hP hFK hBK
  go_enter Tryz.func47, Tryz.ntmps47
  go_wp2_with fail
  refine HPU.out.mono ?_
  rintro e w1 ⟨rfl, hr1, hb1⟩
  have HR1 : Hid (WrR B b (BK 0) (FK 0) (N + 50 + 50 * 0) w1) := by show WrR _ _ _ _ _ _; rw [HF0.out, HB0.out]; exact hr1
  have HB1 := Lib.hid hb1
  clear hr1 hb1 HPU
  go_wp2_with fail
  go_loopw [18] (fun i wr => ∃ k : Nat, k ≤ l.length ∧ i = .int .i64 (k : Int) ∧ Hid (WrR B b (BK k) (FK k) (N + 50 + 50 * k) wr) ∧ Hid (Stp B b w wr)) (fun i _ => l.length - (intOf i).toNat)
  case atStart => exact ⟨0, Nat.zero_le _, rfl, HR1, HB1⟩
  case round =>
    obtain ⟨k, hk, rfl, HR, BB⟩ := hrel
    rcases Nat.lt_or_ge k l.length with hk2 | hk2
    case inr =>
      obtain rfl : k = l.length := by omega
      have t2 : decide ((l.length : Int) < (l.length : Int)) = false := by simp
      have HE : Hid (WrR B b (bad || l.any offR) (putW F (word.data.toList :: l.map Lib.itoa)) (N + 50 + 50 * l.length) wr) := by show WrR _ _ _ _ _ _; rw [← HFM.out, ← HBM.out]; exact HR.out
      go_wp2_with fail
      go_end0
      exact ⟨rfl, HE.out, BB.out⟩
    have HVr := HV.out.below (HP.out.step BB.out).old
    obtain ⟨ba, off, rfl, hlt, x0⟩ := HVr.cell hk2
    obtain ⟨y0, y1⟩ := HOK.out k hk2
    have HF := Lib.hid (HFS.out k hk2); have HBK := Lib.hid (HBS.out k hk2)
    clear HVr HOK HFS HBS HFM HBM HF0 HB0 HR1 HB1
    generalize l.getD k 0 = y at *
    generalize hBk : BK k = bd at *
    clear hBk
    have HEQ : Hid (itoaB y ++ ⟨#[]⟩ = itoaB y) := app_nilB _
    have HSZ : Hid ((itoaB y).size ≤ 22) := by have := itoaB_size y y0 y1; show _ ≤ _; omega
    cases bd with
    | true =>
      have HX : Hid ((true || offR y) = true) := by show _ = _; rfl
      go_wp2_with fail
      refine (plain_any _ _).mono ?_
      rintro e w9 ⟨rfl, rfl⟩
      obtain ⟨c2, e2⟩ := HR.out.bad
      have HST := HR.out.setBad true (by first | (intro _; rfl) | (intro e; cases e))
      have HS1 := Lib.hid HST.1; have HS2 := Lib.hid (BB.out.trans HST.2)
      clear HST
      go_upto_region 6 with fail
      generalize wr.setCell ⟨b, 2, none⟩ (.bool true) = w3 at *
      have HP3 : Hid (PC B w0 w3) := HP.out.step HS2.out
      clear c2 e2 BB HR
      go_wp2_with fail
      refine (itoa_any y y0 y1 w3 HP3.out.tabW).mono ?_
      rintro e w4 ⟨rfl, hb4⟩
      have HR4 := Lib.hid (HS1.out.kept hb4)
      have HB4 := Lib.hid (HS2.out.trans (Stp.of_below HP3.out.sz hb4))
      have HZ4 : Hid (B ≤ w4.heap.size) := (HP.out.step HB4.out).sz
      have hz1 := itoaB_size y y0 y1
      clear hb4 HS1 HS2 HP3
      go_wp2_with fail
      try rw [HEQ.out]
      refine (put_alloc1 B b (N + 50 + 50 * k) _ _ _ w4 HR4.out HZ4.out HSZ.out (by omega)).mono ?_
      rintro e w5 ⟨rfl, hr5, hb5⟩
      have HR5 : Hid (WrR B b (BK (k + 1)) (FK (k + 1)) (N + 50 + 50 * (k + 1)) w5) := by
        show WrR _ _ _ _ _ _
        rw [HF.out, HBK.out, HX.out]
        exact hr5
      have HB5 := Lib.hid (HB4.out.trans hb5)
      clear hr5 hb5 HR4 HB4 HZ4 HF HBK HX HEQ HSZ
      go_wp2_with fail
      go_roundw
      case rel => exact ⟨k + 1, by omega, by go_num, HR5, HB5⟩
      case measure => simp [intOf]; omega
    | false =>
      by_cases n0 : y < 0
      · have t3 : decide (y < 0) = true := decide_eq_true n0
        have HX : Hid ((false || offR y) = true) := by show _ = _; unfold offR; rw [t3]; rfl
        clear n0
        go_wp2_with fail
        refine (plain_any _ _).mono ?_
        rintro e w9 ⟨rfl, rfl⟩
        obtain ⟨c2, e2⟩ := HR.out.bad
        have HST := HR.out.setBad true (by first | (intro _; rfl) | (intro e; cases e))
        have HS1 := Lib.hid HST.1; have HS2 := Lib.hid (BB.out.trans HST.2)
        clear HST
        go_upto_region 6 with fail
        generalize wr.setCell ⟨b, 2, none⟩ (.bool true) = w3 at *
        have HP3 : Hid (PC B w0 w3) := HP.out.step HS2.out
        clear c2 e2 BB HR
        go_wp2_with fail
        refine (itoa_any y y0 y1 w3 HP3.out.tabW).mono ?_
        rintro e w4 ⟨rfl, hb4⟩
        have HR4 := Lib.hid (HS1.out.kept hb4)
        have HB4 := Lib.hid (HS2.out.trans (Stp.of_below HP3.out.sz hb4))
        have HZ4 : Hid (B ≤ w4.heap.size) := (HP.out.step HB4.out).sz
        have hz1 := itoaB_size y y0 y1
        clear hb4 HS1 HS2 HP3
        go_wp2_with fail
        try rw [HEQ.out]
        refine (put_alloc1 B b (N + 50 + 50 * k) _ _ _ w4 HR4.out HZ4.out HSZ.out (by omega)).mono ?_
        rintro e w5 ⟨rfl, hr5, hb5⟩
        have HR5 : Hid (WrR B b (BK (k + 1)) (FK (k + 1)) (N + 50 + 50 * (k + 1)) w5) := by
          show WrR _ _ _ _ _ _
          rw [HF.out, HBK.out, HX.out]
          exact hr5
        have HB5 := Lib.hid (HB4.out.trans hb5)
        clear hr5 hb5 HR4 HB4 HZ4 HF HBK HX HEQ HSZ
        go_wp2_with fail
        go_roundw
        case rel => exact ⟨k + 1, by omega, by go_num, HR5, HB5⟩
        case measure => simp [intOf]; omega
      have t3 : decide (y < 0) = false := decide_eq_false n0
      by_cases n1 : 65535 < y
      · have t4 : decide (65535 < y) = true := decide_eq_true n1
        have HX : Hid ((false || offR y) = true) := by show _ = _; unfold offR; rw [t3, t4]; rfl
        clear n0 n1
        go_wp2_with fail
        refine (plain_any _ _).mono ?_
        rintro e w9 ⟨rfl, rfl⟩
        obtain ⟨c2, e2⟩ := HR.out.bad
        have HST := HR.out.setBad true (by first | (intro _; rfl) | (intro e; cases e))
        have HS1 := Lib.hid HST.1; have HS2 := Lib.hid (BB.out.trans HST.2)
        clear HST
        go_upto_region 6 with fail
        generalize wr.setCell ⟨b, 2, none⟩ (.bool true) = w3 at *
        have HP3 : Hid (PC B w0 w3) := HP.out.step HS2.out
        clear c2 e2 BB HR
        go_wp2_with fail
        refine (itoa_any y y0 y1 w3 HP3.out.tabW).mono ?_
        rintro e w4 ⟨rfl, hb4⟩
        have HR4 := Lib.hid (HS1.out.kept hb4)
        have HB4 := Lib.hid (HS2.out.trans (Stp.of_below HP3.out.sz hb4))
        have HZ4 : Hid (B ≤ w4.heap.size) := (HP.out.step HB4.out).sz
        have hz1 := itoaB_size y y0 y1
        clear hb4 HS1 HS2 HP3
        go_wp2_with fail
        try rw [HEQ.out]
        refine (put_alloc1 B b (N + 50 + 50 * k) _ _ _ w4 HR4.out HZ4.out HSZ.out (by omega)).mono ?_
        rintro e w5 ⟨rfl, hr5, hb5⟩
        have HR5 : Hid (WrR B b (BK (k + 1)) (FK (k + 1)) (N + 50 + 50 * (k + 1)) w5) := by
          show WrR _ _ _ _ _ _
          rw [HF.out, HBK.out, HX.out]
          exact hr5
        have HB5 := Lib.hid (HB4.out.trans hb5)
        clear hr5 hb5 HR4 HB4 HZ4 HF HBK HX HEQ HSZ
        go_wp2_with fail
        go_roundw
        case rel => exact ⟨k + 1, by omega, by go_num, HR5, HB5⟩
        case measure => simp [intOf]; omega
      · have t4 : decide (65535 < y) = false := decide_eq_false n1
        have HX : Hid ((false || offR y) = false) := by show _ = _; unfold offR; rw [t3, t4]; rfl
        clear n0 n1
        go_wp2_with fail
        refine (plain_any _ _).mono ?_
        rintro e w9 ⟨rfl, rfl⟩
        obtain ⟨c2, e2⟩ := HR.out.bad
        have HST := HR.out.setBad false (by first | (intro _; rfl) | (intro e; cases e))
        have HS1 := Lib.hid HST.1; have HS2 := Lib.hid (BB.out.trans HST.2)
        clear HST
        go_upto_region 6 with fail
        generalize wr.setCell ⟨b, 2, none⟩ (.bool false) = w3 at *
        have HP3 : Hid (PC B w0 w3) := HP.out.step HS2.out
        clear c2 e2 BB HR
        go_wp2_with fail
        refine (itoa_any y y0 y1 w3 HP3.out.tabW).mono ?_
        rintro e w4 ⟨rfl, hb4⟩
        have HR4 := Lib.hid (HS1.out.kept hb4)
        have HB4 := Lib.hid (HS2.out.trans (Stp.of_below HP3.out.sz hb4))
        have HZ4 : Hid (B ≤ w4.heap.size) := (HP.out.step HB4.out).sz
        have hz1 := itoaB_size y y0 y1
        clear hb4 HS1 HS2 HP3
        go_wp2_with fail
        try rw [HEQ.out]
        refine (put_alloc1 B b (N + 50 + 50 * k) _ _ _ w4 HR4.out HZ4.out HSZ.out (by omega)).mono ?_
        rintro e w5 ⟨rfl, hr5, hb5⟩
        have HR5 : Hid (WrR B b (BK (k + 1)) (FK (k + 1)) (N + 50 + 50 * (k + 1)) w5) := by
          show WrR _ _ _ _ _ _
          rw [HF.out, HBK.out, HX.out]
          exact hr5
        have HB5 := Lib.hid (HB4.out.trans hb5)
        clear hr5 hb5 HR4 HB4 HZ4 HF HBK HX HEQ HSZ
        go_wp2_with fail
        go_roundw
        case rel => exact ⟨k + 1, by omega, by go_num, HR5, HB5⟩
        case measure => simp [intOf]; omega
def itoaP (p : Int × Bool) : List UInt8 := Lib.itoa p.1 ++ [if p.2 then 45 else 43]
def offP (p : Int × Bool) : Bool := offR p.1
theorem itoaP_data (G : List UInt8) (y : Int) (sg : Bool) : putW G [itoaP (y, sg)] = putW G [(itoaB y ++ sgB sg).data.toList] := by
  have e : (itoaB y ++ sgB sg).data.toList = itoaP (y, sg) := by
    unfold itoaP itoaB sgB
    simp
  rw [e]
set_option maxHeartbeats 4000000 in
set_option maxRecDepth 100000 in
theorem listP_any (B b N : Nat) (bad : Bool) (F : List UInt8) (word : ByteArray) (v : Value) (l : List (Int × Bool)) (w0 w : World) (h : WrR B b bad F N w) (hv : PtsAt w0 v l) (hP : PC B w0 w) (hN : N + 50 * l.length ≤ 9000000) (hw : word.size ≤ 20) :
    Calls Tryz.prog 48 #[.pointer (some ⟨b, 0, none⟩), .string word, v, .func (.func 49) #[] #[]] w fun e w' => e = .returned (.tuple #[]) ∧ WrR B b (bad || l.any offP) (putW F (word.data.toList :: l.map itoaP)) (N + 50 + 50 * l.length) w' ∧ Stp B b w w' := by
  obtain ⟨a, c, rfl, _⟩ := hv.at_
  have HV := Lib.hid hv; have HP := Lib.hid hP
  have HOK : Hid (∀ k, k < l.length → i64ok (l.getD k (0, false)).1) := hv.ok
  obtain ⟨FK, hFK⟩ : ∃ FK : Nat → List UInt8, FK = fun k => putW F (word.data.toList :: (l.take k).map itoaP) := ⟨_, rfl⟩
  obtain ⟨BK, hBK⟩ : ∃ BK : Nat → Bool, BK = fun k => bad || (l.take k).any offP := ⟨_, rfl⟩
  have HF0 : Hid (FK 0 = putW F [word.data.toList]) := by show _ = _; rw [hFK]; rfl
  have HB0 : Hid (BK 0 = bad) := by show _ = _; rw [hBK]; simp
  have HFS : Hid (∀ k, k < l.length → FK (k + 1) = putW (FK k) [itoaP (l.getD k (0, false))]) := fun k hk => by rw [hFK]; exact putW_step F _ _ hk
  have HBS : Hid (∀ k, k < l.length → BK (k + 1) = (BK k || offP (l.getD k (0, false)))) := fun k hk => by rw [hBK]; show (bad || (l.take (k + 1)).any offP) = (bad || (l.take k).any offP || offP (l.getD k (0, false))); rw [any_take offP hk, Bool.or_assoc]
  have HFM : Hid (FK l.length = putW F (word.data.toList :: l.map itoaP)) := by show _ = _; rw [hFK]; show putW F (_ :: (l.take l.length).map _) = _; rw [List.take_length]
  have HBM : Hid (BK l.length = (bad || l.any offP)) := by show _ = _; rw [hBK]; show (bad || (l.take l.length).any _) = _; rw [List.take_length]
  have HPU := Lib.hid (put_alloc1 B b N bad F word w h hP.sz (by omega) (by omega))
  clear h hv hP hFK hBK
  go_enter Tryz.func48, Tryz.ntmps48
  go_wp2_with fail
  refine HPU.out.mono ?_
  rintro e w1 ⟨rfl, hr1, hb1⟩
  have HR1 : Hid (WrR B b (BK 0) (FK 0) (N + 50 + 50 * 0) w1) := by show WrR _ _ _ _ _ _; rw [HF0.out, HB0.out]; exact hr1
  have HB1 := Lib.hid hb1
  clear hr1 hb1 HPU
  go_wp2_with fail
  go_loopw [18] (fun i wr => ∃ k : Nat, k ≤ l.length ∧ i = .int .i64 (k : Int) ∧ Hid (WrR B b (BK k) (FK k) (N + 50 + 50 * k) wr) ∧ Hid (Stp B b w wr)) (fun i _ => l.length - (intOf i).toNat)
  case atStart => exact ⟨0, Nat.zero_le _, rfl, HR1, HB1⟩
  case round =>
    obtain ⟨k, hk, rfl, HR, BB⟩ := hrel
    rcases Nat.lt_or_ge k l.length with hk2 | hk2
    case inr =>
      obtain rfl : k = l.length := by omega
      have t2 : decide ((l.length : Int) < (l.length : Int)) = false := by simp
      have HE : Hid (WrR B b (bad || l.any offP) (putW F (word.data.toList :: l.map itoaP)) (N + 50 + 50 * l.length) wr) := by show WrR _ _ _ _ _ _; rw [← HFM.out, ← HBM.out]; exact HR.out
      go_wp2_with fail
      go_end0
      exact ⟨rfl, HE.out, BB.out⟩
    have HVr := HV.out.below (HP.out.step BB.out).old
    obtain ⟨ba, off, rfl, hlt, x0, x1⟩ := HVr.cell hk2
    obtain ⟨y0, y1⟩ := HOK.out k hk2
    have HF := Lib.hid (HFS.out k hk2); have HBK := Lib.hid (HBS.out k hk2)
    clear HVr HOK HFS HBS HFM HBM HF0 HB0 HR1 HB1
    obtain ⟨y, sg, hy⟩ : ∃ y sg, l.getD k (0, false) = (y, sg) := ⟨_, _, rfl⟩
    rw [hy] at x0 x1 y0 y1 HF HBK
    clear hy
    simp only at x0 x1 y0 y1
    have HF : Hid (FK (k + 1) = putW (FK k) [(itoaB y ++ sgB sg).data.toList]) := by show _ = _; rw [HF.out]; exact itoaP_data _ _ _
    have HBK : Hid (BK (k + 1) = (BK k || offR y)) := HBK.out
    generalize hBk : BK k = bd at *
    clear hBk
    have HEQ : Hid (itoaB y ++ sgB sg = itoaB y ++ sgB sg) := rfl
    have hs1 : (sgB sg).size = 1 := rfl
    have HSZ : Hid ((itoaB y ++ sgB sg).size ≤ 22) := by have := itoaB_size y y0 y1; show _ ≤ _; rw [ByteArray.size_append]; omega
    cases bd with
    | true =>
      have HX : Hid ((true || offR y) = true) := by show _ = _; rfl
      go_wp2_with fail
      refine (sign_any _ _ _).mono ?_
      rintro e w9 ⟨rfl, hb9⟩
      have hbA : Below wr.heap.size wr (wr.alloc (.cells #[.int .i64 y, .bool sg] 57)) := (Below.refl _ _).alloc (Nat.le_refl _) _
      have hb9 := hbA.trans (hb9.mono hbA.size)
      clear hbA
      have HR9 := Lib.hid (HR.out.kept hb9)
      have BB9 := Lib.hid (BB.out.trans (Stp.of_below (HP.out.step BB.out).sz hb9))
      clear hb9
      obtain ⟨c2, e2⟩ := HR9.out.bad
      have HST := HR9.out.setBad true (by first | (intro _; rfl) | (intro e; cases e))
      have HS1 := Lib.hid HST.1; have HS2 := Lib.hid (BB9.out.trans HST.2)
      clear HST
      go_upto_region 6 with fail
      generalize w9.setCell ⟨b, 2, none⟩ (.bool true) = w3 at *
      have HP3 : Hid (PC B w0 w3) := HP.out.step HS2.out
      clear c2 e2 BB9 HR9
      go_wp2_with fail
      refine (itoa_any y y0 y1 w3 HP3.out.tabW).mono ?_
      rintro e w4 ⟨rfl, hb4⟩
      have HR4 := Lib.hid (HS1.out.kept hb4)
      have HB4 := Lib.hid (HS2.out.trans (Stp.of_below HP3.out.sz hb4))
      have HZ4 : Hid (B ≤ w4.heap.size) := (HP.out.step HB4.out).sz
      have hz1 := itoaB_size y y0 y1
      clear hb4 HS1 HS2 HP3
      go_wp2_with fail
      try rw [HEQ.out]
      refine (put_alloc1 B b (N + 50 + 50 * k) _ _ _ w4 HR4.out HZ4.out HSZ.out (by omega)).mono ?_
      rintro e w5 ⟨rfl, hr5, hb5⟩
      have HR5 : Hid (WrR B b (BK (k + 1)) (FK (k + 1)) (N + 50 + 50 * (k + 1)) w5) := by
        show WrR _ _ _ _ _ _
        rw [HF.out, HBK.out, HX.out]
        exact hr5
      have HB5 := Lib.hid (HB4.out.trans hb5)
      clear hr5 hb5 HR4 HB4 HZ4 HF HBK HX HEQ HSZ
      go_wp2_with fail
      go_roundw
      case rel => exact ⟨k + 1, by omega, by go_num, HR5, HB5⟩
      case measure => simp [intOf]; omega
    | false =>
      by_cases n0 : y < 0
      · have t3 : decide (y < 0) = true := decide_eq_true n0
        have HX : Hid ((false || offR y) = true) := by show _ = _; unfold offR; rw [t3]; rfl
        clear n0
        go_wp2_with fail
        refine (sign_any _ _ _).mono ?_
        rintro e w9 ⟨rfl, hb9⟩
        have hbA : Below wr.heap.size wr (wr.alloc (.cells #[.int .i64 y, .bool sg] 57)) := (Below.refl _ _).alloc (Nat.le_refl _) _
        have hb9 := hbA.trans (hb9.mono hbA.size)
        clear hbA
        have HR9 := Lib.hid (HR.out.kept hb9)
        have BB9 := Lib.hid (BB.out.trans (Stp.of_below (HP.out.step BB.out).sz hb9))
        clear hb9
        obtain ⟨c2, e2⟩ := HR9.out.bad
        have HST := HR9.out.setBad true (by first | (intro _; rfl) | (intro e; cases e))
        have HS1 := Lib.hid HST.1; have HS2 := Lib.hid (BB9.out.trans HST.2)
        clear HST
        go_upto_region 6 with fail
        generalize w9.setCell ⟨b, 2, none⟩ (.bool true) = w3 at *
        have HP3 : Hid (PC B w0 w3) := HP.out.step HS2.out
        clear c2 e2 BB9 HR9
        go_wp2_with fail
        refine (itoa_any y y0 y1 w3 HP3.out.tabW).mono ?_
        rintro e w4 ⟨rfl, hb4⟩
        have HR4 := Lib.hid (HS1.out.kept hb4)
        have HB4 := Lib.hid (HS2.out.trans (Stp.of_below HP3.out.sz hb4))
        have HZ4 : Hid (B ≤ w4.heap.size) := (HP.out.step HB4.out).sz
        have hz1 := itoaB_size y y0 y1
        clear hb4 HS1 HS2 HP3
        go_wp2_with fail
        try rw [HEQ.out]
        refine (put_alloc1 B b (N + 50 + 50 * k) _ _ _ w4 HR4.out HZ4.out HSZ.out (by omega)).mono ?_
        rintro e w5 ⟨rfl, hr5, hb5⟩
        have HR5 : Hid (WrR B b (BK (k + 1)) (FK (k + 1)) (N + 50 + 50 * (k + 1)) w5) := by
          show WrR _ _ _ _ _ _
          rw [HF.out, HBK.out, HX.out]
          exact hr5
        have HB5 := Lib.hid (HB4.out.trans hb5)
        clear hr5 hb5 HR4 HB4 HZ4 HF HBK HX HEQ HSZ
        go_wp2_with fail
        go_roundw
        case rel => exact ⟨k + 1, by omega, by go_num, HR5, HB5⟩
        case measure => simp [intOf]; omega
      have t3 : decide (y < 0) = false := decide_eq_false n0
      by_cases n1 : 65535 < y
      · have t4 : decide (65535 < y) = true := decide_eq_true n1
        have HX : Hid ((false || offR y) = true) := by show _ = _; unfold offR; rw [t3, t4]; rfl
        clear n0 n1
        go_wp2_with fail
        refine (sign_any _ _ _).mono ?_
        rintro e w9 ⟨rfl, hb9⟩
        have hbA : Below wr.heap.size wr (wr.alloc (.cells #[.int .i64 y, .bool sg] 57)) := (Below.refl _ _).alloc (Nat.le_refl _) _
        have hb9 := hbA.trans (hb9.mono hbA.size)
        clear hbA
        have HR9 := Lib.hid (HR.out.kept hb9)
        have BB9 := Lib.hid (BB.out.trans (Stp.of_below (HP.out.step BB.out).sz hb9))
        clear hb9
        obtain ⟨c2, e2⟩ := HR9.out.bad
        have HST := HR9.out.setBad true (by first | (intro _; rfl) | (intro e; cases e))
        have HS1 := Lib.hid HST.1; have HS2 := Lib.hid (BB9.out.trans HST.2)
        clear HST
        go_upto_region 6 with fail
        generalize w9.setCell ⟨b, 2, none⟩ (.bool true) = w3 at *
        have HP3 : Hid (PC B w0 w3) := HP.out.step HS2.out
        clear c2 e2 BB9 HR9
        go_wp2_with fail
        refine (itoa_any y y0 y1 w3 HP3.out.tabW).mono ?_
        rintro e w4 ⟨rfl, hb4⟩
        have HR4 := Lib.hid (HS1.out.kept hb4)
        have HB4 := Lib.hid (HS2.out.trans (Stp.of_below HP3.out.sz hb4))
        have HZ4 : Hid (B ≤ w4.heap.size) := (HP.out.step HB4.out).sz
        have hz1 := itoaB_size y y0 y1
        clear hb4 HS1 HS2 HP3
        go_wp2_with fail
        try rw [HEQ.out]
        refine (put_alloc1 B b (N + 50 + 50 * k) _ _ _ w4 HR4.out HZ4.out HSZ.out (by omega)).mono ?_
        rintro e w5 ⟨rfl, hr5, hb5⟩
        have HR5 : Hid (WrR B b (BK (k + 1)) (FK (k + 1)) (N + 50 + 50 * (k + 1)) w5) := by
          show WrR _ _ _ _ _ _
          rw [HF.out, HBK.out, HX.out]
          exact hr5
        have HB5 := Lib.hid (HB4.out.trans hb5)
        clear hr5 hb5 HR4 HB4 HZ4 HF HBK HX HEQ HSZ
        go_wp2_with fail
        go_roundw
        case rel => exact ⟨k + 1, by omega, by go_num, HR5, HB5⟩
        case measure => simp [intOf]; omega
      · have t4 : decide (65535 < y) = false := decide_eq_false n1
        have HX : Hid ((false || offR y) = false) := by show _ = _; unfold offR; rw [t3, t4]; rfl
        clear n0 n1
        go_wp2_with fail
        refine (sign_any _ _ _).mono ?_
        rintro e w9 ⟨rfl, hb9⟩
        have hbA : Below wr.heap.size wr (wr.alloc (.cells #[.int .i64 y, .bool sg] 57)) := (Below.refl _ _).alloc (Nat.le_refl _) _
        have hb9 := hbA.trans (hb9.mono hbA.size)
        clear hbA
        have HR9 := Lib.hid (HR.out.kept hb9)
        have BB9 := Lib.hid (BB.out.trans (Stp.of_below (HP.out.step BB.out).sz hb9))
        clear hb9
        obtain ⟨c2, e2⟩ := HR9.out.bad
        have HST := HR9.out.setBad false (by first | (intro _; rfl) | (intro e; cases e))
        have HS1 := Lib.hid HST.1; have HS2 := Lib.hid (BB9.out.trans HST.2)
        clear HST
        go_upto_region 6 with fail
        generalize w9.setCell ⟨b, 2, none⟩ (.bool false) = w3 at *
        have HP3 : Hid (PC B w0 w3) := HP.out.step HS2.out
        clear c2 e2 BB9 HR9
        go_wp2_with fail
        refine (itoa_any y y0 y1 w3 HP3.out.tabW).mono ?_
        rintro e w4 ⟨rfl, hb4⟩
        have HR4 := Lib.hid (HS1.out.kept hb4)
        have HB4 := Lib.hid (HS2.out.trans (Stp.of_below HP3.out.sz hb4))
        have HZ4 : Hid (B ≤ w4.heap.size) := (HP.out.step HB4.out).sz
        have hz1 := itoaB_size y y0 y1
        clear hb4 HS1 HS2 HP3
        go_wp2_with fail
        try rw [HEQ.out]
        refine (put_alloc1 B b (N + 50 + 50 * k) _ _ _ w4 HR4.out HZ4.out HSZ.out (by omega)).mono ?_
        rintro e w5 ⟨rfl, hr5, hb5⟩
        have HR5 : Hid (WrR B b (BK (k + 1)) (FK (k + 1)) (N + 50 + 50 * (k + 1)) w5) := by
          show WrR _ _ _ _ _ _
          rw [HF.out, HBK.out, HX.out]
          exact hr5
        have HB5 := Lib.hid (HB4.out.trans hb5)
        clear hr5 hb5 HR4 HB4 HZ4 HF HBK HX HEQ HSZ
        go_wp2_with fail
        go_roundw
        case rel => exact ⟨k + 1, by omega, by go_num, HR5, HB5⟩
        case measure => simp [intOf]; omega
end Go.Proofs.YtpodedhnlicckaaGreatDoor
