/- The yard's does. -/
import Derived.Test.YtnjeiigdfdjccaaYrdE
namespace Go.Proofs.Ytnjeiigdfdjccaa
open Go.RowKit
set_option linter.unusedVariables false
set_option linter.unusedSimpArgs false
def FeedAt (w : World) (fb : Nat) (f : FD) : Prop := w.heap[fb]? = some (.cells #[.int .u32 (f.cl : Int), .int .u32 (f.no : Int), .int .u32 (f.re : Int), .int .u32 (f.ak : Int), .int .u32 (f.ca : Int), .int .u32 (f.rq : Int)] 85 (0, 0))
/-- A block off the yard. -/
def OffY (y : Yd) (fb : Nat) : Prop := ¬ y.M fb ∧ y.u.w0.heap.size ≤ fb ∧ fb ≠ y.u.g
/-- The yard and the feed are turned. -/
structure TurnF (y : Yd) (fb : Nat) (w : World) (Y : YS) (f : FD) (w' : World) : Prop where
  at_ : YdAt w' y Y
  fd : FeedAt w' fb f
  o : Only (fun b => y.M b ∨ b = fb) w w'
theorem TurnF.of_turn {y : Yd} {fb : Nat} {w w1 w2 : World} {Y Y' : YS} {f : FD} (h : TurnF y fb w Y f w1) (hO : OffY y fb) (k : TurnY y w1 Y' w2) : TurnF y fb w Y' f w2 :=
  ⟨k.1, (k.2.block _ (heap_lt h.fd) hO.1).trans h.fd, h.o.trans (k.2.mono fun i _ hi => .inl hi)⟩
theorem TurnF.below {y : Yd} {fb : Nat} {w w1 w2 : World} {Y : YS} {f : FD} (h : TurnF y fb w Y f w1) (hb : Below w1.heap.size w1 w2) : TurnF y fb w Y f w2 :=
  ⟨h.at_.below hb, tb_kept h.fd hb, h.o.trans (Only.of_below _ hb)⟩
theorem YdAt.off {w w' : World} {y : Yd} {Y : YS} {fb : Nat} (h : YdAt w y Y) (hO : OffY y fb) (ho : Only (fun b => b = fb) w w') : YdAt w' y Y := by
  have a := h.ap
  have n1 : fb ≠ y.g := fun e => hO.1 (.inl e)
  have n2 : fb ≠ y.tb := fun e => hO.1 (.inr (.inl e))
  have n3 : fb ≠ y.pb := fun e => hO.1 (.inr (.inr (.inl e)))
  have n4 : fb ≠ y.u.rb := fun e => hO.1 (.inr (.inr (.inr (.inl e))))
  have n5 : fb ≠ y.u.pb := fun e => hO.1 (.inr (.inr (.inr (.inr e))))
  exact ⟨(ho.block _ (heap_lt h.obj) (Ne.symm n1)).trans h.obj, h.tp, h.tr, h.bel.trans (ho.below h.bel.size (fun i hi hm => by have := a.z; have := hO.2.1; omega)), h.ts.same (ho.block _ h.ts.lt (Ne.symm n2)), h.ps.same (ho.block _ h.ps.lt (Ne.symm n3)),
    h.au.only ho (fun b hb => by rw [hb]; exact hO.2.1) (fun e => hO.2.2 e.symm) (fun e => n4 e.symm) (fun _ e => n5 e.symm), a⟩
/-- A bit is put into the feed. -/
theorem TurnF.ask {y : Yd} {fb : Nat} {w w1 : World} {Y : YS} {f : FD} (h : TurnF y fb w Y f w1) (hO : OffY y fb) (x : Nat) : TurnF y fb w Y { f with ak := x } (w1.setCell ⟨fb, 3, none⟩ (.int .u32 (x : Int))) :=
  ⟨h.at_.off hO ((Only.refl _ _).set _ _ (.inr rfl)), heap_setCell_same w1 fb 3 _ _ (.int .u32 (x : Int)) h.fd, h.o.set _ _ (.inr (.inr rfl))⟩
theorem TurnF.cancel {y : Yd} {fb : Nat} {w w1 : World} {Y : YS} {f : FD} (h : TurnF y fb w Y f w1) (hO : OffY y fb) (x : Nat) : TurnF y fb w Y { f with ca := x } (w1.setCell ⟨fb, 4, none⟩ (.int .u32 (x : Int))) :=
  ⟨h.at_.off hO ((Only.refl _ _).set _ _ (.inr rfl)), heap_setCell_same w1 fb 4 _ _ (.int .u32 (x : Int)) h.fd, h.o.set _ _ (.inr (.inr rfl))⟩
set_option maxRecDepth 100000 in
set_option maxHeartbeats 16000000 in
theorem ydoes_any (y : Yd) (Y : YS) (f : FD) (fb kd : Nat) (z : Int) (w : World) (H : YdAt w y Y) (hf : FeedAt w fb f) (hO : OffY y fb) (hT : TOk y.u.T) (hS : Y.A.Ok) (hpr : Y.L.pr < 4294967296) (hfo : f.Ok) (hkd : kd < 256) (hz : i64ok z)
    (hx : ∀ n, n < y.u.T.rts.length → (Y.tn n).tl ≤ 1000 ∧ (Y.tn n).hd ≤ 1000) :
    Calls Try.prog 29 #[.pointer (some ⟨y.g, 0, none⟩), .agg #[.int .u8 (kd : Int), .int .i64 z], .pointer (some ⟨fb, 0, none⟩)] w fun e w' =>
      e = .returned (.int .i64 (ansN y.u.T Y ⟨kd, z⟩ : Int)) ∧ TurnF y fb w (moveY y.u.T Y ⟨kd, z⟩) (moveF y.u.T Y f ⟨kd, z⟩) w' := by
  have HT := Lib.hid hT; have HX := Lib.hid hx; have HFO := Lib.hid hfo; have HS := Lib.hid hS; have HOF := Lib.hid hO; have HPR := Lib.hid hpr
  have hN := hT.n; have hP := hT.p
  have HN0 := Lib.hid (show y.u.T.rts.length ≤ 16 from hN); have HP0 := Lib.hid (show y.u.T.pts.length ≤ 12 from hP)
  obtain ⟨w1, hw1⟩ : ∃ w1, w1 = w.alloc (.cells #[.int .u8 (kd : Int), .int .i64 z] 56) := ⟨_, rfl⟩
  have B1 : Hid (Below w.heap.size w w1) := by rw [hw1]; exact tb_alloc_below _ _
  have M1 : Hid (w1.heap[w.heap.size]? = some (.cells #[.int .u8 (kd : Int), .int .i64 z] 56 (0, 0))) := by rw [hw1]; exact heap_alloc_new _ _
  have HW1 := Lib.hid hw1
  have H1 : Hid (TurnF y fb w Y f w1) := TurnF.below ⟨H, hf, Only.refl _ _⟩ B1.out
  obtain ⟨q, hq⟩ : ∃ q, q = ansN y.u.T Y ⟨kd, z⟩ := ⟨_, rfl⟩
  obtain ⟨Z, hZ⟩ : ∃ Z, Z = moveY y.u.T Y ⟨kd, z⟩ := ⟨_, rfl⟩
  obtain ⟨G, hG⟩ : ∃ Z, Z = moveF y.u.T Y f ⟨kd, z⟩ := ⟨_, rfl⟩
  rw [← hq, ← hZ, ← hG]
  have HQ := Lib.hid hq; have HZ := Lib.hid hZ; have HG := Lib.hid hG
  have HREF : Hid (q ≠ 0 → Z = Y ∧ G = f) := fun h => by
    have h' : ansN y.u.T Y ⟨kd, z⟩ ≠ 0 := by rw [← HQ.out]; exact h
    exact ⟨by rw [HZ.out]; unfold moveY; rw [if_neg h'], by rw [HG.out]; unfold moveF; rw [if_neg h']⟩
  have HDO : Hid (q = 0 → Z = doY y.u.T Y ⟨kd, z⟩ ∧ G = doF f ⟨kd, z⟩) := fun h => by
    have h' : ansN y.u.T Y ⟨kd, z⟩ = 0 := by rw [← HQ.out]; exact h
    exact ⟨by rw [HZ.out]; unfold moveY; rw [if_pos h'], by rw [HG.out]; unfold moveF; rw [if_pos h']⟩
  clear hw1 hq hZ hG H hf hT hx hfo hS hO hpr
  go_enter Try.func29, Try.ntmps29
  go_upto_region 1 with fail
  rw [← HW1.out]
  obtain ⟨mb, hmb⟩ : ∃ b, b = w.heap.size := ⟨_, rfl⟩
  rw [← hmb] at M1 ⊢
  clear hmb HW1 B1
  have m0 := cell_row (j := 0) M1.out rfl; have m1 := cell_row (j := 1) M1.out rfl
  have gA := cell_row (j := 10) H1.out.at_.obj rfl; have gB := cell_row (j := 11) H1.out.at_.obj rfl
  have lm := heap_lt M1.out; have lg := heap_lt H1.out.at_.obj
  have hz0 := hz.1
  have hz1 := hz.2
  by_cases k0 : kd = 0
  case pos =>
    subst k0
    go_wp2_with fail
    go_ret
    have ha : q = 2 := by rw [HQ.out]; exact if_pos (.inl Nat.zero_lt_one)
    obtain ⟨e1, e2⟩ := HREF.out (by omega)
    rw [ha, e1, e2]
    exact ⟨rfl, H1.out⟩
  case neg =>
  by_cases k9 : 8 < kd
  case pos =>
    have d1 : decide ((kd : Int) < 1) = false := decide_eq_false (by omega)
    have d8 : decide ((8 : Int) < (kd : Int)) = true := decide_eq_true (by omega)
    have e7 : ((kd : Int) == 7) = false := by simpa using (show ¬ (kd : Int) = 7 by omega)
    have e8 : ((kd : Int) == 8) = false := by simpa using (show ¬ (kd : Int) = 8 by omega)
    go_wp2_with fail
    go_ret
    have ha : q = 2 := by rw [HQ.out]; exact if_pos (.inr k9)
    obtain ⟨e1, e2⟩ := HREF.out (by omega)
    rw [ha, e1, e2]
    exact ⟨rfl, H1.out⟩
  case neg =>
  have HM : Hid (q = if z < 0 ∨ (manyN y.u.T kd : Int) ≤ z then 4
      else if 4 ≤ kd ∧ kd ≤ 6 ∧ (Y.tn z.toNat).is = false then 4
      else if kd = 3 then (if enterB y.u.T Y z.toNat then 0 else 6)
      else if 4 ≤ kd ∧ kd ≤ 6 then (if stuckB ((y.u.T.rts.getD z.toNat rt0).tr.length - 1) (Y.tn z.toNat) (kd != 5) (kd != 4) then 6 else 0)
      else 0) := by show _ = _; rw [HQ.out]; exact if_neg (by show ¬ (kd < 1 ∨ 8 < kd); omega)
  by_cases k1 : kd = 1
  case pos =>
    subst k1
    have hM : manyN y.u.T 1 = y.u.T.rts.length := if_neg (by decide)
    rw [hM] at HM
    by_cases z0 : z < 0
    case pos =>
      have dz : decide (z < (0 : Int)) = true := decide_eq_true z0
      go_wp2_with fail
      go_ret
      have ha : q = 4 := by rw [HM.out]; exact if_pos (.inl z0)
      obtain ⟨e1, e2⟩ := HREF.out (by omega)
      rw [ha, e1, e2]
      exact ⟨rfl, H1.out⟩
    case neg =>
    obtain ⟨n, rfl⟩ := Int.eq_ofNat_of_zero_le (show 0 ≤ z by omega)
    by_cases zn : y.u.T.rts.length ≤ n
    case pos =>
      have dz : decide ((y.u.T.rts.length : Int) ≤ (n : Int)) = true := decide_eq_true (by omega)
      go_wp2_with fail
      go_ret
      have ha : q = 4 := by rw [HM.out]; exact if_pos (.inr (by omega))
      obtain ⟨e1, e2⟩ := HREF.out (by omega)
      rw [ha, e1, e2]
      exact ⟨rfl, H1.out⟩
    case neg =>
    have dz : decide ((y.u.T.rts.length : Int) ≤ (n : Int)) = false := decide_eq_false (by omega)
    have hn : n < y.u.T.rts.length := by omega
    rw [if_neg (by omega)] at HM
    have hq0 : Hid (q = 0) := by show _ = _; rw [HM.out]; rfl
    go_upto_region 8 with fail
    go_region
    have H2 : Hid (TurnF y fb w Y f w1.drew) := H1.out.below ⟨rfl, rfl, rfl, Nat.le_refl _, fun _ _ => rfl⟩
    have M2 : Hid (w1.drew.heap[mb]? = _) := M1.out
    generalize w1.drew = w2 at *
    clear m0 m1 gA gB lm lg H1 M1
    have m0 := cell_row (j := 0) M2.out rfl; have m1 := cell_row (j := 1) M2.out rfl
    have lm := heap_lt M2.out
    have y3 := cell_row (j := 3) H2.out.fd rfl
    have y3f : w2.frozen? ⟨fb, 3, none⟩ = false := frozen_of_row _ _ _ _ _ H2.out.fd
    have lf := heap_lt H2.out.fd
    go_upto_region 13 with fail
    go_region
    rw [or_bit f.ak n HFO.out.ak (by omega)]
    have H3 := Lib.hid ((H2.out.ask HOF.out (f.ak ||| 2 ^ n)).below (w2 := (w2.setCell ⟨fb, 3, none⟩ (.int .u32 ((f.ak ||| 2 ^ n : Nat) : Int))).drew) ⟨rfl, rfl, rfl, Nat.le_refl _, fun _ _ => rfl⟩)
    generalize (w2.setCell ⟨fb, 3, none⟩ (.int .u32 ((f.ak ||| 2 ^ n : Nat) : Int))).drew = w3 at *
    clear m0 m1 y3 y3f lm lf
    go_wp2_with fail
    go_ret
    obtain ⟨e1, e2⟩ := HDO.out hq0.out
    rw [hq0.out, e1, e2]
    exact ⟨rfl, H3.out⟩
  case neg =>
  by_cases k2 : kd = 2
  case pos =>
    subst k2
    have hM : manyN y.u.T 2 = y.u.T.rts.length := if_neg (by decide)
    rw [hM] at HM
    by_cases z0 : z < 0
    case pos =>
      have dz : decide (z < (0 : Int)) = true := decide_eq_true z0
      go_wp2_with fail
      go_ret
      have ha : q = 4 := by rw [HM.out]; exact if_pos (.inl z0)
      obtain ⟨e1, e2⟩ := HREF.out (by omega)
      rw [ha, e1, e2]
      exact ⟨rfl, H1.out⟩
    case neg =>
    obtain ⟨n, rfl⟩ := Int.eq_ofNat_of_zero_le (show 0 ≤ z by omega)
    by_cases zn : y.u.T.rts.length ≤ n
    case pos =>
      have dz : decide ((y.u.T.rts.length : Int) ≤ (n : Int)) = true := decide_eq_true (by omega)
      go_wp2_with fail
      go_ret
      have ha : q = 4 := by rw [HM.out]; exact if_pos (.inr (by omega))
      obtain ⟨e1, e2⟩ := HREF.out (by omega)
      rw [ha, e1, e2]
      exact ⟨rfl, H1.out⟩
    case neg =>
    have dz : decide ((y.u.T.rts.length : Int) ≤ (n : Int)) = false := decide_eq_false (by omega)
    have hn : n < y.u.T.rts.length := by omega
    rw [if_neg (by omega)] at HM
    have hq0 : Hid (q = 0) := by show _ = _; rw [HM.out]; rfl
    go_upto_region 8 with fail
    go_region
    have H2 : Hid (TurnF y fb w Y f w1.drew) := H1.out.below ⟨rfl, rfl, rfl, Nat.le_refl _, fun _ _ => rfl⟩
    have M2 : Hid (w1.drew.heap[mb]? = _) := M1.out
    generalize w1.drew = w2 at *
    clear m0 m1 gA gB lm lg H1 M1
    have m0 := cell_row (j := 0) M2.out rfl; have m1 := cell_row (j := 1) M2.out rfl
    have lm := heap_lt M2.out
    have y3 := cell_row (j := 4) H2.out.fd rfl
    have y3f : w2.frozen? ⟨fb, 4, none⟩ = false := frozen_of_row _ _ _ _ _ H2.out.fd
    have lf := heap_lt H2.out.fd
    go_upto_region 15 with fail
    go_region
    rw [or_bit f.ca n HFO.out.ca (by omega)]
    have H3 := Lib.hid ((H2.out.cancel HOF.out (f.ca ||| 2 ^ n)).below (w2 := (w2.setCell ⟨fb, 4, none⟩ (.int .u32 ((f.ca ||| 2 ^ n : Nat) : Int))).drew) ⟨rfl, rfl, rfl, Nat.le_refl _, fun _ _ => rfl⟩)
    generalize (w2.setCell ⟨fb, 4, none⟩ (.int .u32 ((f.ca ||| 2 ^ n : Nat) : Int))).drew = w3 at *
    clear m0 m1 y3 y3f lm lf
    go_wp2_with fail
    go_ret
    obtain ⟨e1, e2⟩ := HDO.out hq0.out
    rw [hq0.out, e1, e2]
    exact ⟨rfl, H3.out⟩
  case neg =>
  by_cases k3 : kd = 3
  case pos =>
    subst k3
    have hM : manyN y.u.T 3 = y.u.T.rts.length := if_neg (by decide)
    rw [hM] at HM
    by_cases z0 : z < 0
    case pos =>
      have dz : decide (z < (0 : Int)) = true := decide_eq_true z0
      go_wp2_with fail
      go_ret
      have ha : q = 4 := by rw [HM.out]; exact if_pos (.inl z0)
      obtain ⟨e1, e2⟩ := HREF.out (by omega)
      rw [ha, e1, e2]
      exact ⟨rfl, H1.out⟩
    case neg =>
    obtain ⟨n, rfl⟩ := Int.eq_ofNat_of_zero_le (show 0 ≤ z by omega)
    by_cases zn : y.u.T.rts.length ≤ n
    case pos =>
      have dz : decide ((y.u.T.rts.length : Int) ≤ (n : Int)) = true := decide_eq_true (by omega)
      go_wp2_with fail
      go_ret
      have ha : q = 4 := by rw [HM.out]; exact if_pos (.inr (by omega))
      obtain ⟨e1, e2⟩ := HREF.out (by omega)
      rw [ha, e1, e2]
      exact ⟨rfl, H1.out⟩
    case neg =>
    have dz : decide ((y.u.T.rts.length : Int) ≤ (n : Int)) = false := decide_eq_false (by omega)
    have hn : n < y.u.T.rts.length := by omega
    rw [if_neg (by omega)] at HM
    have hq0 : Hid (q = if enterB y.u.T Y n then 0 else 6) := HM.out
    go_upto_region 8 with fail
    go_region
    have H2 : Hid (TurnF y fb w Y f w1.drew) := H1.out.below ⟨rfl, rfl, rfl, Nat.le_refl _, fun _ _ => rfl⟩
    have M2 : Hid (w1.drew.heap[mb]? = _) := M1.out
    generalize w1.drew = w2 at *
    clear m0 m1 gA gB lm lg H1 M1
    have m0 := cell_row (j := 0) M2.out rfl; have m1 := cell_row (j := 1) M2.out rfl
    have lm := heap_lt M2.out
    have HE := Lib.hid (yenter_any y Y n w2 H2.out.at_ hn HT.out HS.out HPR.out)
    generalize enterB y.u.T Y n = E at *
    go_wp2_with fail
    refine HE.out.mono ?_
    rintro e w3 ⟨rfl, hk⟩
    have H3 := Lib.hid (H2.out.of_turn HOF.out hk)
    clear hk m0 m1 lm HE
    cases E
    case false =>
      go_wp2_with fail
      go_ret
      have ha : q = 6 := hq0.out
      obtain ⟨e1, e2⟩ := HREF.out (by omega)
      rw [ha, e1, e2]
      exact ⟨rfl, H3.out⟩
    case true =>
      go_wp2_with fail
      go_ret
      have ha : q = 0 := hq0.out
      obtain ⟨e1, e2⟩ := HDO.out ha
      rw [ha, e1, e2]
      exact ⟨rfl, H3.out⟩
  case neg =>
  by_cases k4 : kd = 4
  case pos =>
    subst k4
    have hM : manyN y.u.T 4 = y.u.T.rts.length := if_neg (by decide)
    rw [hM] at HM
    by_cases z0 : z < 0
    case pos =>
      have dz : decide (z < (0 : Int)) = true := decide_eq_true z0
      go_wp2_with fail
      go_ret
      have ha : q = 4 := by rw [HM.out]; exact if_pos (.inl z0)
      obtain ⟨e1, e2⟩ := HREF.out (by omega)
      rw [ha, e1, e2]
      exact ⟨rfl, H1.out⟩
    case neg =>
    obtain ⟨n, rfl⟩ := Int.eq_ofNat_of_zero_le (show 0 ≤ z by omega)
    by_cases zn : y.u.T.rts.length ≤ n
    case pos =>
      have dz : decide ((y.u.T.rts.length : Int) ≤ (n : Int)) = true := decide_eq_true (by omega)
      go_wp2_with fail
      go_ret
      have ha : q = 4 := by rw [HM.out]; exact if_pos (.inr (by omega))
      obtain ⟨e1, e2⟩ := HREF.out (by omega)
      rw [ha, e1, e2]
      exact ⟨rfl, H1.out⟩
    case neg =>
    have dz : decide ((y.u.T.rts.length : Int) ≤ (n : Int)) = false := decide_eq_false (by omega)
    have hn : n < y.u.T.rts.length := by omega
    rw [if_neg (by omega)] at HM
    obtain ⟨t0, _⟩ := H1.out.at_.tcell hn
    have lt := H1.out.at_.ts.lt
    have HX2 := HX.out n hn
    have hq0 : Hid (q = if (Y.tn n).is = false then 4 else if stuckB ((y.u.T.rts.getD n rt0).tr.length - 1) (Y.tn n) true false then 6 else 0) := by
      show _ = _
      rw [HM.out]
      show (if 4 ≤ 4 ∧ 4 ≤ 6 ∧ (Y.tn n).is = false then 4 else if 4 ≤ 4 ∧ 4 ≤ 6 then (if stuckB ((y.u.T.rts.getD n rt0).tr.length - 1) (Y.tn n) true false then 6 else 0) else 0) = _
      by_cases hi : (Y.tn n).is = false
      · rw [if_pos ⟨by omega, by omega, hi⟩, if_pos hi]
      · rw [if_neg (fun h => hi h.2.2), if_neg hi, if_pos ⟨by omega, by omega⟩]
    have HGO := Lib.hid (fun W (hW : YdAt W y Y) => ygoes_any y Y n true false W hW hn HT.out HX2)
    have HDY : Hid (doY y.u.T Y ⟨4, (n : Int)⟩ = Y.setT n (goneOn ((y.u.T.rts.getD n rt0).tr.length - 1) (Y.tn n) true false) ∧ doF f ⟨4, (n : Int)⟩ = f) := ⟨rfl, rfl⟩
    generalize (Y.tn n).is = I at *
    cases I
    case false =>
      go_upto_region 8 with fail
      go_region
      have H2 : Hid (TurnF y fb w Y f w1.drew) := H1.out.below ⟨rfl, rfl, rfl, Nat.le_refl _, fun _ _ => rfl⟩
      have M2 : Hid (w1.drew.heap[mb]? = _) := M1.out
      generalize w1.drew = w2 at *
      clear m0 m1 gA gB lm lg H1 M1
      have m0 := cell_row (j := 0) M2.out rfl; have m1 := cell_row (j := 1) M2.out rfl
      have lm := heap_lt M2.out
      clear t0 lt
      go_wp2_with fail
      go_ret
      have ha : q = 4 := hq0.out
      obtain ⟨e1, e2⟩ := HREF.out (by omega)
      rw [ha, e1, e2]
      exact ⟨rfl, H2.out⟩
    case true =>
    go_upto_region 8 with fail
    go_region
    have H2 : Hid (TurnF y fb w Y f w1.drew) := H1.out.below ⟨rfl, rfl, rfl, Nat.le_refl _, fun _ _ => rfl⟩
    have M2 : Hid (w1.drew.heap[mb]? = _) := M1.out
    generalize w1.drew = w2 at *
    clear m0 m1 gA gB lm lg H1 M1
    have m0 := cell_row (j := 0) M2.out rfl; have m1 := cell_row (j := 1) M2.out rfl
    have lm := heap_lt M2.out
    clear t0 lt
    have HGO2 := Lib.hid (HGO.out w2 H2.out.at_)
    clear HGO
    generalize stuckB ((y.u.T.rts.getD n rt0).tr.length - 1) (Y.tn n) true false = SB at *
    generalize goneOn ((y.u.T.rts.getD n rt0).tr.length - 1) (Y.tn n) true false = GO at *
    cases SB
    case false =>
      go_wp2_with fail
      refine HGO2.out.mono ?_
      rintro e w3 ⟨rfl, hk⟩
      have H3 := Lib.hid (H2.out.of_turn HOF.out hk)
      clear hk m0 m1 lm HGO2
      go_wp2_with fail
      go_ret
      have ha : q = 0 := hq0.out
      obtain ⟨e1, e2⟩ := HDO.out ha
      rw [ha, e1, e2, HDY.out.1, HDY.out.2]
      exact ⟨rfl, H3.out⟩
    case true =>
      go_wp2_with fail
      refine HGO2.out.mono ?_
      rintro e w3 ⟨rfl, hk⟩
      have H3 := Lib.hid (H2.out.of_turn HOF.out hk)
      clear hk m0 m1 lm HGO2
      go_wp2_with fail
      go_ret
      have ha : q = 6 := hq0.out
      obtain ⟨e1, e2⟩ := HREF.out (by omega)
      rw [ha, e1, e2]
      exact ⟨rfl, H3.out⟩
  case neg =>
  by_cases k5 : kd = 5
  case pos =>
    subst k5
    have hM : manyN y.u.T 5 = y.u.T.rts.length := if_neg (by decide)
    rw [hM] at HM
    by_cases z0 : z < 0
    case pos =>
      have dz : decide (z < (0 : Int)) = true := decide_eq_true z0
      go_wp2_with fail
      go_ret
      have ha : q = 4 := by rw [HM.out]; exact if_pos (.inl z0)
      obtain ⟨e1, e2⟩ := HREF.out (by omega)
      rw [ha, e1, e2]
      exact ⟨rfl, H1.out⟩
    case neg =>
    obtain ⟨n, rfl⟩ := Int.eq_ofNat_of_zero_le (show 0 ≤ z by omega)
    by_cases zn : y.u.T.rts.length ≤ n
    case pos =>
      have dz : decide ((y.u.T.rts.length : Int) ≤ (n : Int)) = true := decide_eq_true (by omega)
      go_wp2_with fail
      go_ret
      have ha : q = 4 := by rw [HM.out]; exact if_pos (.inr (by omega))
      obtain ⟨e1, e2⟩ := HREF.out (by omega)
      rw [ha, e1, e2]
      exact ⟨rfl, H1.out⟩
    case neg =>
    have dz : decide ((y.u.T.rts.length : Int) ≤ (n : Int)) = false := decide_eq_false (by omega)
    have hn : n < y.u.T.rts.length := by omega
    rw [if_neg (by omega)] at HM
    obtain ⟨t0, _⟩ := H1.out.at_.tcell hn
    have lt := H1.out.at_.ts.lt
    have HX2 := HX.out n hn
    have hq0 : Hid (q = if (Y.tn n).is = false then 4 else if stuckB ((y.u.T.rts.getD n rt0).tr.length - 1) (Y.tn n) false true then 6 else 0) := by
      show _ = _
      rw [HM.out]
      show (if 4 ≤ 5 ∧ 5 ≤ 6 ∧ (Y.tn n).is = false then 4 else if 4 ≤ 5 ∧ 5 ≤ 6 then (if stuckB ((y.u.T.rts.getD n rt0).tr.length - 1) (Y.tn n) false true then 6 else 0) else 0) = _
      by_cases hi : (Y.tn n).is = false
      · rw [if_pos ⟨by omega, by omega, hi⟩, if_pos hi]
      · rw [if_neg (fun h => hi h.2.2), if_neg hi, if_pos ⟨by omega, by omega⟩]
    have HGO := Lib.hid (fun W (hW : YdAt W y Y) => ygoes_any y Y n false true W hW hn HT.out HX2)
    have HDY : Hid (doY y.u.T Y ⟨5, (n : Int)⟩ = Y.setT n (goneOn ((y.u.T.rts.getD n rt0).tr.length - 1) (Y.tn n) false true) ∧ doF f ⟨5, (n : Int)⟩ = f) := ⟨rfl, rfl⟩
    generalize (Y.tn n).is = I at *
    cases I
    case false =>
      go_upto_region 8 with fail
      go_region
      have H2 : Hid (TurnF y fb w Y f w1.drew) := H1.out.below ⟨rfl, rfl, rfl, Nat.le_refl _, fun _ _ => rfl⟩
      have M2 : Hid (w1.drew.heap[mb]? = _) := M1.out
      generalize w1.drew = w2 at *
      clear m0 m1 gA gB lm lg H1 M1
      have m0 := cell_row (j := 0) M2.out rfl; have m1 := cell_row (j := 1) M2.out rfl
      have lm := heap_lt M2.out
      clear t0 lt
      go_wp2_with fail
      go_ret
      have ha : q = 4 := hq0.out
      obtain ⟨e1, e2⟩ := HREF.out (by omega)
      rw [ha, e1, e2]
      exact ⟨rfl, H2.out⟩
    case true =>
    go_upto_region 8 with fail
    go_region
    have H2 : Hid (TurnF y fb w Y f w1.drew) := H1.out.below ⟨rfl, rfl, rfl, Nat.le_refl _, fun _ _ => rfl⟩
    have M2 : Hid (w1.drew.heap[mb]? = _) := M1.out
    generalize w1.drew = w2 at *
    clear m0 m1 gA gB lm lg H1 M1
    have m0 := cell_row (j := 0) M2.out rfl; have m1 := cell_row (j := 1) M2.out rfl
    have lm := heap_lt M2.out
    clear t0 lt
    have HGO2 := Lib.hid (HGO.out w2 H2.out.at_)
    clear HGO
    generalize stuckB ((y.u.T.rts.getD n rt0).tr.length - 1) (Y.tn n) false true = SB at *
    generalize goneOn ((y.u.T.rts.getD n rt0).tr.length - 1) (Y.tn n) false true = GO at *
    cases SB
    case false =>
      go_wp2_with fail
      refine HGO2.out.mono ?_
      rintro e w3 ⟨rfl, hk⟩
      have H3 := Lib.hid (H2.out.of_turn HOF.out hk)
      clear hk m0 m1 lm HGO2
      go_wp2_with fail
      go_ret
      have ha : q = 0 := hq0.out
      obtain ⟨e1, e2⟩ := HDO.out ha
      rw [ha, e1, e2, HDY.out.1, HDY.out.2]
      exact ⟨rfl, H3.out⟩
    case true =>
      go_wp2_with fail
      refine HGO2.out.mono ?_
      rintro e w3 ⟨rfl, hk⟩
      have H3 := Lib.hid (H2.out.of_turn HOF.out hk)
      clear hk m0 m1 lm HGO2
      go_wp2_with fail
      go_ret
      have ha : q = 6 := hq0.out
      obtain ⟨e1, e2⟩ := HREF.out (by omega)
      rw [ha, e1, e2]
      exact ⟨rfl, H3.out⟩
  case neg =>
  by_cases k6 : kd = 6
  case pos =>
    subst k6
    have hM : manyN y.u.T 6 = y.u.T.rts.length := if_neg (by decide)
    rw [hM] at HM
    by_cases z0 : z < 0
    case pos =>
      have dz : decide (z < (0 : Int)) = true := decide_eq_true z0
      go_wp2_with fail
      go_ret
      have ha : q = 4 := by rw [HM.out]; exact if_pos (.inl z0)
      obtain ⟨e1, e2⟩ := HREF.out (by omega)
      rw [ha, e1, e2]
      exact ⟨rfl, H1.out⟩
    case neg =>
    obtain ⟨n, rfl⟩ := Int.eq_ofNat_of_zero_le (show 0 ≤ z by omega)
    by_cases zn : y.u.T.rts.length ≤ n
    case pos =>
      have dz : decide ((y.u.T.rts.length : Int) ≤ (n : Int)) = true := decide_eq_true (by omega)
      go_wp2_with fail
      go_ret
      have ha : q = 4 := by rw [HM.out]; exact if_pos (.inr (by omega))
      obtain ⟨e1, e2⟩ := HREF.out (by omega)
      rw [ha, e1, e2]
      exact ⟨rfl, H1.out⟩
    case neg =>
    have dz : decide ((y.u.T.rts.length : Int) ≤ (n : Int)) = false := decide_eq_false (by omega)
    have hn : n < y.u.T.rts.length := by omega
    rw [if_neg (by omega)] at HM
    obtain ⟨t0, _⟩ := H1.out.at_.tcell hn
    have lt := H1.out.at_.ts.lt
    have HX2 := HX.out n hn
    have hq0 : Hid (q = if (Y.tn n).is = false then 4 else if stuckB ((y.u.T.rts.getD n rt0).tr.length - 1) (Y.tn n) true true then 6 else 0) := by
      show _ = _
      rw [HM.out]
      show (if 4 ≤ 6 ∧ 6 ≤ 6 ∧ (Y.tn n).is = false then 4 else if 4 ≤ 6 ∧ 6 ≤ 6 then (if stuckB ((y.u.T.rts.getD n rt0).tr.length - 1) (Y.tn n) true true then 6 else 0) else 0) = _
      by_cases hi : (Y.tn n).is = false
      · rw [if_pos ⟨by omega, by omega, hi⟩, if_pos hi]
      · rw [if_neg (fun h => hi h.2.2), if_neg hi, if_pos ⟨by omega, by omega⟩]
    have HGO := Lib.hid (fun W (hW : YdAt W y Y) => ygoes_any y Y n true true W hW hn HT.out HX2)
    have HDY : Hid (doY y.u.T Y ⟨6, (n : Int)⟩ = Y.setT n (goneOn ((y.u.T.rts.getD n rt0).tr.length - 1) (Y.tn n) true true) ∧ doF f ⟨6, (n : Int)⟩ = f) := ⟨rfl, rfl⟩
    generalize (Y.tn n).is = I at *
    cases I
    case false =>
      go_upto_region 8 with fail
      go_region
      have H2 : Hid (TurnF y fb w Y f w1.drew) := H1.out.below ⟨rfl, rfl, rfl, Nat.le_refl _, fun _ _ => rfl⟩
      have M2 : Hid (w1.drew.heap[mb]? = _) := M1.out
      generalize w1.drew = w2 at *
      clear m0 m1 gA gB lm lg H1 M1
      have m0 := cell_row (j := 0) M2.out rfl; have m1 := cell_row (j := 1) M2.out rfl
      have lm := heap_lt M2.out
      clear t0 lt
      go_wp2_with fail
      go_ret
      have ha : q = 4 := hq0.out
      obtain ⟨e1, e2⟩ := HREF.out (by omega)
      rw [ha, e1, e2]
      exact ⟨rfl, H2.out⟩
    case true =>
    go_upto_region 8 with fail
    go_region
    have H2 : Hid (TurnF y fb w Y f w1.drew) := H1.out.below ⟨rfl, rfl, rfl, Nat.le_refl _, fun _ _ => rfl⟩
    have M2 : Hid (w1.drew.heap[mb]? = _) := M1.out
    generalize w1.drew = w2 at *
    clear m0 m1 gA gB lm lg H1 M1
    have m0 := cell_row (j := 0) M2.out rfl; have m1 := cell_row (j := 1) M2.out rfl
    have lm := heap_lt M2.out
    clear t0 lt
    have HGO2 := Lib.hid (HGO.out w2 H2.out.at_)
    clear HGO
    generalize stuckB ((y.u.T.rts.getD n rt0).tr.length - 1) (Y.tn n) true true = SB at *
    generalize goneOn ((y.u.T.rts.getD n rt0).tr.length - 1) (Y.tn n) true true = GO at *
    cases SB
    case false =>
      go_wp2_with fail
      refine HGO2.out.mono ?_
      rintro e w3 ⟨rfl, hk⟩
      have H3 := Lib.hid (H2.out.of_turn HOF.out hk)
      clear hk m0 m1 lm HGO2
      go_wp2_with fail
      go_ret
      have ha : q = 0 := hq0.out
      obtain ⟨e1, e2⟩ := HDO.out ha
      rw [ha, e1, e2, HDY.out.1, HDY.out.2]
      exact ⟨rfl, H3.out⟩
    case true =>
      go_wp2_with fail
      refine HGO2.out.mono ?_
      rintro e w3 ⟨rfl, hk⟩
      have H3 := Lib.hid (H2.out.of_turn HOF.out hk)
      clear hk m0 m1 lm HGO2
      go_wp2_with fail
      go_ret
      have ha : q = 6 := hq0.out
      obtain ⟨e1, e2⟩ := HREF.out (by omega)
      rw [ha, e1, e2]
      exact ⟨rfl, H3.out⟩
  case neg =>
  by_cases k7 : kd = 7
  case pos =>
    subst k7
    have hM : manyN y.u.T 7 = y.u.T.pts.length := if_pos (by decide)
    rw [hM] at HM
    by_cases z0 : z < 0
    case pos =>
      have dz : decide (z < (0 : Int)) = true := decide_eq_true z0
      go_wp2_with fail
      go_ret
      have ha : q = 4 := by rw [HM.out]; exact if_pos (.inl z0)
      obtain ⟨e1, e2⟩ := HREF.out (by omega)
      rw [ha, e1, e2]
      exact ⟨rfl, H1.out⟩
    case neg =>
    obtain ⟨n, rfl⟩ := Int.eq_ofNat_of_zero_le (show 0 ≤ z by omega)
    by_cases zn : y.u.T.pts.length ≤ n
    case pos =>
      have dz : decide ((y.u.T.pts.length : Int) ≤ (n : Int)) = true := decide_eq_true (by omega)
      go_wp2_with fail
      go_ret
      have ha : q = 4 := by rw [HM.out]; exact if_pos (.inr (by omega))
      obtain ⟨e1, e2⟩ := HREF.out (by omega)
      rw [ha, e1, e2]
      exact ⟨rfl, H1.out⟩
    case neg =>
    have dz : decide ((y.u.T.pts.length : Int) ≤ (n : Int)) = false := decide_eq_false (by omega)
    have hn : n < y.u.T.pts.length := by omega
    rw [if_neg (by omega)] at HM
    have hq0 : Hid (q = 0) := by show _ = _; rw [HM.out]; rfl
    have HDY : Hid (doY y.u.T Y ⟨7, (n : Int)⟩ = Y.setP n { Y.pn n with br := true } ∧ doF f ⟨7, (n : Int)⟩ = f) := ⟨rfl, rfl⟩
    go_upto_region 8 with fail
    go_region
    have H2 : Hid (TurnF y fb w Y f w1.drew) := H1.out.below ⟨rfl, rfl, rfl, Nat.le_refl _, fun _ _ => rfl⟩
    have M2 : Hid (w1.drew.heap[mb]? = _) := M1.out
    generalize w1.drew = w2 at *
    clear m0 m1 gA gB lm lg H1 M1
    have m0 := cell_row (j := 0) M2.out rfl; have m1 := cell_row (j := 1) M2.out rfl
    have lm := heap_lt M2.out
    have gB := cell_row (j := 11) H2.out.at_.obj rfl
    have lg := heap_lt H2.out.at_.obj
    obtain ⟨_, _, p2, pf⟩ := H2.out.at_.pcell hn
    have pff := pf (n * 3 + 2)
    have lp := H2.out.at_.ps.lt
    clear pf
    go_upto_region 24 with fail
    go_region
    have H3 := Lib.hid ((H2.out.of_turn HOF.out ((TurnY.refl H2.out.at_).set_br n true)).below (w2 := (w2.setCell ⟨y.pb, n * 3 + 2, none⟩ (.bool true)).drew) ⟨rfl, rfl, rfl, Nat.le_refl _, fun _ _ => rfl⟩)
    generalize (w2.setCell ⟨y.pb, n * 3 + 2, none⟩ (.bool true)).drew = w3 at *
    clear m0 m1 gB lg p2 pff lp lm
    go_wp2_with fail
    go_ret
    obtain ⟨e1, e2⟩ := HDO.out hq0.out
    rw [hq0.out, e1, e2, HDY.out.1, HDY.out.2]
    exact ⟨rfl, H3.out⟩
  case neg =>
  have k8 : kd = 8 := by omega
  subst k8
  have hM : manyN y.u.T 8 = y.u.T.pts.length := if_pos (by decide)
  rw [hM] at HM
  by_cases z0 : z < 0
  case pos =>
    have dz : decide (z < (0 : Int)) = true := decide_eq_true z0
    go_wp2_with fail
    go_ret
    have ha : q = 4 := by rw [HM.out]; exact if_pos (.inl z0)
    obtain ⟨e1, e2⟩ := HREF.out (by omega)
    rw [ha, e1, e2]
    exact ⟨rfl, H1.out⟩
  case neg =>
  obtain ⟨n, rfl⟩ := Int.eq_ofNat_of_zero_le (show 0 ≤ z by omega)
  by_cases zn : y.u.T.pts.length ≤ n
  case pos =>
    have dz : decide ((y.u.T.pts.length : Int) ≤ (n : Int)) = true := decide_eq_true (by omega)
    go_wp2_with fail
    go_ret
    have ha : q = 4 := by rw [HM.out]; exact if_pos (.inr (by omega))
    obtain ⟨e1, e2⟩ := HREF.out (by omega)
    rw [ha, e1, e2]
    exact ⟨rfl, H1.out⟩
  case neg =>
  have dz : decide ((y.u.T.pts.length : Int) ≤ (n : Int)) = false := decide_eq_false (by omega)
  have hn : n < y.u.T.pts.length := by omega
  rw [if_neg (by omega)] at HM
  have hq0 : Hid (q = 0) := by show _ = _; rw [HM.out]; rfl
  have HDY : Hid (doY y.u.T Y ⟨8, (n : Int)⟩ = Y.setP n { Y.pn n with br := false } ∧ doF f ⟨8, (n : Int)⟩ = f) := ⟨rfl, rfl⟩
  go_upto_region 8 with fail
  go_region
  have H2 : Hid (TurnF y fb w Y f w1.drew) := H1.out.below ⟨rfl, rfl, rfl, Nat.le_refl _, fun _ _ => rfl⟩
  have M2 : Hid (w1.drew.heap[mb]? = _) := M1.out
  generalize w1.drew = w2 at *
  clear m0 m1 gA gB lm lg H1 M1
  have m0 := cell_row (j := 0) M2.out rfl; have m1 := cell_row (j := 1) M2.out rfl
  have lm := heap_lt M2.out
  have gB := cell_row (j := 11) H2.out.at_.obj rfl
  have lg := heap_lt H2.out.at_.obj
  obtain ⟨_, _, p2, pf⟩ := H2.out.at_.pcell hn
  have pff := pf (n * 3 + 2)
  have lp := H2.out.at_.ps.lt
  clear pf
  go_upto_region 24 with fail
  go_region
  have H3 := Lib.hid ((H2.out.of_turn HOF.out ((TurnY.refl H2.out.at_).set_br n false)).below (w2 := (w2.setCell ⟨y.pb, n * 3 + 2, none⟩ (.bool false)).drew) ⟨rfl, rfl, rfl, Nat.le_refl _, fun _ _ => rfl⟩)
  generalize (w2.setCell ⟨y.pb, n * 3 + 2, none⟩ (.bool false)).drew = w3 at *
  clear m0 m1 gB lg p2 pff lp lm
  go_wp2_with fail
  go_ret
  obtain ⟨e1, e2⟩ := HDO.out hq0.out
  rw [hq0.out, e1, e2, HDY.out.1, HDY.out.2]
  exact ⟨rfl, H3.out⟩
end Go.Proofs.Ytnjeiigdfdjccaa
