/- Parse: a plan's text is read. -/
import Derived.Test.YtdlpgoackmgdkaaGreatDoorArNu
import Derived.Test.YtdlpgoackmgdkaaGreatDoorArJL
namespace Go.Proofs.YtdlpgoackmgdkaaGreatDoor
open Go.Shelf Go.RowKit
set_option linter.unusedVariables false
set_option linter.unusedSimpArgs false
theorem split10 (l : List UInt8) : 10 ∉ l ∨ ∃ p r, l = p ++ 10 :: r ∧ 10 ∉ p := by
  rcases index_cases l 10 with ⟨_, h⟩ | ⟨p, r, h1, h2, _⟩
  · exact .inl h
  · exact .inr ⟨p, r, h1, h2⟩
theorem own_only {w w' : World} {B e sz n : Nat} {v : Value} {xs : List Value} {M : Nat → Prop} (h : w.ownsRow B e sz v n xs) (O : Only M w w') (hM : ∀ g, M g → g < B) : w'.ownsRow B e sz v n xs := by
  refine ⟨h.1, ?_⟩
  rcases h.2 with h0 | ⟨g, cap, cur, rfl, hb, hg, r⟩
  · exact .inl h0
  · exact .inr ⟨g, cap, cur, rfl, hb, (O.block g (heap_lt hg) (fun m => absurd (hM g m) (by omega))).trans hg, r⟩
theorem set3 {w : World} {rk : Nat} {t : TypeId} {a b c a' b' c' : Value} (h : w.heap[rk]? = some (.cells #[a, b, c] t (0, 0))) :
    (((w.setCell ⟨rk, 0, none⟩ a').setCell ⟨rk, 1, none⟩ b').setCell ⟨rk, 2, none⟩ c').heap[rk]? = some (.cells #[a', b', c'] t (0, 0)) ∧
    Only (fun i => i = rk) w (((w.setCell ⟨rk, 0, none⟩ a').setCell ⟨rk, 1, none⟩ b').setCell ⟨rk, 2, none⟩ c') :=
  ⟨heap_setCell_same _ _ _ _ _ _ (heap_setCell_same _ _ _ _ _ _ (heap_setCell_same _ _ _ _ _ _ h)), (((Only.refl (fun i => i = rk) w).set 0 _ (.inr rfl)).set 1 _ (.inr rfl)).set 2 _ (.inr rfl)⟩
def strN (v : Value) : Nat := match v with | .string s => s.size | _ => 0
/-- What Parse gives. -/
def ArsP (base : Nat) (port : Int) (s : ByteArray) (w : World) (e : Ending) (w' : World) : Prop :=
  if 20000 < s.size then e = .returned (.tuple #[.agg #[.int .u32 0, .int .i64 0, .slice none 0 0], .int .i64 0, .int .i64 3])
  else ∃ L r, ParR s.data.toList L r ∧ L.length ≤ 20000 ∧ ((r = [] ∧ ∃ a c, e = .returned (.tuple #[.agg #[.int .u32 (base : Int), .int .i64 port, .slice a L.length c], .int .i64 0, .int .i64 0]) ∧ PlsAt w' a L) ∨ (r ≠ [] ∧ e = .returned (.tuple #[.agg #[.int .u32 0, .int .i64 0, .slice none 0 0], .int .i64 ((L.length : Int) + 1), .int .i64 262])))
theorem printT_long : ∀ (L : List PL), L.length ≤ (printT L).length
  | [] => Nat.le_refl _
  | x :: L => by
    have := printT_long L
    rw [show printT (x :: L) = lineT x ++ printT L from rfl, List.length_append, List.length_cons]
    have : 1 ≤ (lineT x).length := by unfold lineT; simp
    omega
set_option maxHeartbeats 8000000 in
set_option maxRecDepth 100000 in
theorem aparse_any (base : Nat) (port : Int) (s : ByteArray) (w : World) (hs : s.size ≤ 9223372036854775807) (hM : LibW w) :
    Calls Tryz.prog 34 #[.string s, .int .u32 (base : Int), .int .i64 port] w fun e w' => ArsP base port s w e w' ∧ Below w.heap.size w w' := by
  by_cases hbig : 20000 < s.size
  · have t1 : decide ((20000 : Int) < (s.size : Int)) = true := decide_eq_true (by omega)
    have HB : Hid (Below w.heap.size w (w.alloc (.cells #[.int .u32 0, .int .i64 0, .slice none 0 0] 25))) := alloc_below _ _
    have HF : Hid (∀ W, ArsP base port s w (.returned (.tuple #[.agg #[.int .u32 0, .int .i64 0, .slice none 0 0], .int .i64 0, .int .i64 3])) W) := fun W => by unfold ArsP; rw [if_pos hbig]
    go_enter Tryz.func34, Tryz.ntmps34
    go_wp2_with fail
    exact bodyPost_ret (v := .tuple #[.agg #[.int .u32 0, .int .i64 0, .slice none 0 0], .int .i64 0, .int .i64 3]) (by simp [results, Tryz.results34, go_sem]) rfl ⟨HF.out _, HB.out⟩
  have t1 : decide ((20000 : Int) < (s.size : Int)) = false := decide_eq_false (by omega)
  have HBG := Lib.hid hbig
  obtain ⟨i0, hi, hz0, hz1, hz2⟩ := info_parts (show (Tryz.prog.info? 71).map (fun i => (i.zero, i.size, i.bytes)) = some (some (.agg #[.int .u32 0, .int .i64 0]), 2, 16) by kernel_rfl)
  have HIn := Lib.hid hi; have HZ0 := Lib.hid hz0; have HZ1 := Lib.hid hz1; have HZ2 := Lib.hid hz2
  obtain ⟨w1, hw1⟩ : ∃ w1, w1 = w.alloc (.cells #[.int .u32 0, .int .i64 0, .slice none 0 0] 25) := ⟨_, rfl⟩
  have B1 : Hid (Below w.heap.size w w1) := by rw [hw1]; exact alloc_below _ _
  have RK1 : Hid (w1.heap[w.heap.size]? = some (.cells #[.int .u32 0, .int .i64 0, .slice none 0 0] 25 (0, 0))) := by rw [hw1]; exact heap_alloc_new _ _
  have HW1 := Lib.hid hw1
  have HM1 := Lib.hid (hM.below B1.out)
  have hsm : s.size ≤ 20000 := by omega
  clear hw1 hM hbig hi hz0 hz1 hz2 hs
  go_enter Tryz.func34, Tryz.ntmps34
  go_upto_region 3 with fail
  rw [← HW1.out]
  obtain ⟨rk, hrk⟩ : ∃ rk, rk = w.heap.size := ⟨_, rfl⟩
  rw [← hrk] at RK1 ⊢
  have HRKE := Lib.hid hrk
  clear hrk HW1
  obtain ⟨C, hC⟩ : ∃ C, C = w1.heap.size := ⟨_, rfl⟩
  have HB2 : Hid (Below C w1 (w1.alloc (.cells #[.int .u32 (base : Int), .int .i64 port, .slice none 0 0] 25))) := by rw [hC]; exact alloc_below _ _
  have HP2 : Hid ((w1.alloc (.cells #[.int .u32 (base : Int), .int .i64 port, .slice none 0 0] 25)).heap[C]? = some (.cells #[.int .u32 (base : Int), .int .i64 port, .slice none 0 0] 25 (0, 0))) := by rw [hC]; exact heap_alloc_new _ _
  have HCE := Lib.hid hC
  have HRK : Hid (rk < C) := by have := heap_lt RK1.out; show _ < _; omega
  go_upto_region 4 with fail
  rw [← hC]
  clear hC
  generalize w1.alloc (.cells #[.int .u32 (base : Int), .int .i64 port, .slice none 0 0] 25) = w2 at *
  go_wp2_with fail
  go_loopw [0] (fun sv wr => ∃ (cur : ByteArray) (L : List PL) (oa : Option Addr) (oc : Nat), sv = .string cur ∧ L.length + cur.size ≤ 20000 ∧ Hid (s.data.toList = printT L ++ cur.data.toList) ∧ Hid (∀ x ∈ L, x.good) ∧ Hid (wr.heap[C]? = some (.cells #[.int .u32 (base : Int), .int .i64 port, .slice oa L.length oc] 25 (0, 0))) ∧ Hid (wr.ownsRow (C + 1) 71 2 (.slice oa L.length oc) L.length (plVs L)) ∧ Hid (Below C w1 wr) ∧ Hid (C + 1 ≤ wr.heap.size)) (fun v _ => strN v)
  case atStart => exact ⟨s, [], none, 0, rfl, by simp; omega, by (show _ = _; rfl), fun x hx => (by cases hx), HP2, World.ownsRow_nil _ _ _ _, HB2, heap_lt HP2.out⟩
  case round =>
    clear HP2 HB2
    obtain ⟨cur, L, oa, oc, rfl, hlen, HT, HG, HP, HO, HB, HSZ⟩ := hrel
    have RKr : Hid (wr.heap[rk]? = some (.cells #[.int .u32 0, .int .i64 0, .slice none 0 0] 25 (0, 0))) := (HB.out.block rk HRK.out).trans RK1.out
    have HBF : Hid (Below w.heap.size w wr) := B1.out.trans (HB.out.mono (by rw [HCE.out]; exact B1.out.size))
    have hcl : L.length ≤ 20000 := by omega
    by_cases hc0 : cur.size = 0
    case pos =>
      have te := empty_is hc0
      have hcd : cur.data.toList = [] := by rw [← size_list] at hc0; exact List.eq_nil_of_length_eq_zero hc0
      have HF : Hid (ParR s.data.toList L []) := ⟨by have := HT.out; rw [hcd] at this; exact this, HG.out, .inl rfl⟩
      have c0 := cell_row (j := 0) HP.out rfl; have c1 := cell_row (j := 1) HP.out rfl; have c2 := cell_row (j := 2) HP.out rfl
      have lC := heap_lt HP.out
      -- the result is a plan of nothing
      have hB0 := cell_row (j := 0) RKr.out rfl; have hB1 := cell_row (j := 1) RKr.out rfl; have hB2 := cell_row (j := 2) RKr.out rfl
      have gB0 : wr.frozen? ⟨rk, 0, none⟩ = false := frozen_of_row _ _ _ _ _ RKr.out
      have gB1 : wr.frozen? ⟨rk, 1, none⟩ = false := frozen_of_row _ _ _ _ _ RKr.out
      have gB2 : wr.frozen? ⟨rk, 2, none⟩ = false := frozen_of_row _ _ _ _ _ RKr.out
      have lrk := heap_lt RKr.out
      clear hc0 hcd
      go_wp2_with fail
      have HS3 := Lib.hid (set3 (a' := .int .u32 (base : Int)) (b' := .int .i64 port) (c' := .slice oa L.length oc) RKr.out)
      clear hB0 hB1 hB2 gB0 gB1 gB2 c0 c1 c2 lrk lC
      generalize ((wr.setCell ⟨rk, 0, none⟩ (.int .u32 (base : Int))).setCell ⟨rk, 1, none⟩ (.int .i64 port)).setCell ⟨rk, 2, none⟩ (.slice oa L.length oc) = w5 at *
      have d0 := cell_row (j := 0) HS3.out.1 rfl; have d1 := cell_row (j := 1) HS3.out.1 rfl; have d2 := cell_row (j := 2) HS3.out.1 rfl
      have HO5 := own_only HO.out HS3.out.2 (fun g e => by have := HRK.out; omega)
      obtain ⟨a5, c5, e5, _, _, hp5⟩ := pls_of_own (ls := L) HO5
      have HB5 : Below w.heap.size w w5 := HBF.out.trans (HS3.out.2.below HBF.out.size (fun i hi e => by have := HRKE.out; omega))
      exact bodyPost_ret (v := .tuple #[.agg #[.int .u32 (base : Int), .int .i64 port, .slice oa L.length oc], .int .i64 0, .int .i64 0]) (by simp [results, Tryz.results34, go_sem, d0, d1, d2]) rfl ⟨by unfold ArsP; rw [if_neg HBG.out]; exact ⟨L, [], HF.out, hcl, .inl ⟨rfl, oa, oc, rfl, by injection e5 with e6 _ _; subst e6; exact hp5⟩⟩, HB5⟩
    have te := empty_no (s := cur) (by omega)
    have HNE : Hid (cur.data.toList ≠ []) := fun e => hc0 (by rw [← size_list, e]; rfl)
    have HERR : Hid (noLn cur.data.toList → ∀ W, ArsP base port s w (.returned (.tuple #[.agg #[.int .u32 0, .int .i64 0, .slice none 0 0], .int .i64 ((L.length : Int) + 1), .int .i64 262])) W) := fun h W => by
      unfold ArsP; rw [if_neg HBG.out]
      exact ⟨L, cur.data.toList, ⟨HT.out, HG.out, .inr h⟩, hcl, .inr ⟨h.1, rfl⟩⟩
    have HCU := Lib.hid (cut10_any cur wr (by omega) (HM1.out.below (HB.out.mono (Nat.le_of_eq HCE.out.symm))).max)
    go_wp2_with fail
    refine HCU.out.mono ?_
    rintro e w3 ⟨rfl, nd, hw3⟩
    have HB3 : Hid (Below wr.heap.size wr w3) := by show Below _ _ _; rw [hw3]; exact ⟨rfl, rfl, rfl, Nat.le_refl _, fun _ _ => rfl⟩
    have HO3 : Hid (w3.ownsRow (C + 1) 71 2 (.slice oa L.length oc) L.length (plVs L)) := own_below HO.out HB3.out
    clear hw3 HCU
    have HP3 := Lib.hid (kept HP.out HB3.out)
    have HBC3 : Hid (Below C w1 w3) := HB.out.trans (HB3.out.mono (by rw [HCE.out]; exact HB.out.size))
    have RK3 := Lib.hid (kept RKr.out HB3.out)
    have HBF3 : Hid (Below w.heap.size w w3) := HBF.out.trans (HB3.out.mono HBF.out.size)
    clear HO HP HB RKr HBF HB3
    rcases split10 cur.data.toList with hno | ⟨p, q, hpq, hno⟩
    case inl =>
      have HE := Lib.hid (HERR.out (no_10 hno HNE.out))
      rw [cutL_miss hno, bytesOf_of]
      have HSP := Lib.hid (split32_any cur w3 (by omega) (HM1.out.below (HBC3.out.mono (Nat.le_of_eq HCE.out.symm))).max)
      clear hno HERR HNE
      go_wp2_with fail
      refine HSP.out.mono ?_
      rintro e w4 ⟨rfl, hw4⟩
      have hb4 : Below w3.heap.size w3 w4 := by rw [hw4]; exact alloc_below _ _
      have RK4 := Lib.hid (kept RK3.out hb4)
      have HP4 := Lib.hid (kept HP3.out hb4)
      have HO4 : Hid (World.ownsRow w4 (C + 1) 71 2 (.slice oa L.length oc) L.length (plVs L)) := own_below HO3.out hb4
      have HBC4 : Hid (Below C w1 w4) := HBC3.out.trans ((hb4).mono (by rw [HCE.out]; exact HBC3.out.size))
      have HBF4 : Hid (Below w.heap.size w w4) := HBF3.out.trans ((hb4).mono HBF3.out.size)
      clear RK3 HP3 HO3 HBC3 HBF3
      clear hb4 hw4 HSP
      generalize (splB cur).length = nsp at *
      go_upto_region 8 with fail
      -- the result is a plan of nothing
      have hB0 := cell_row (j := 0) RK4.out rfl; have hB1 := cell_row (j := 1) RK4.out rfl; have hB2 := cell_row (j := 2) RK4.out rfl
      have gB0 : w4.frozen? ⟨rk, 0, none⟩ = false := frozen_of_row _ _ _ _ _ RK4.out
      have gB1 : w4.frozen? ⟨rk, 1, none⟩ = false := frozen_of_row _ _ _ _ _ RK4.out
      have gB2 : w4.frozen? ⟨rk, 2, none⟩ = false := frozen_of_row _ _ _ _ _ RK4.out
      have lrk := heap_lt RK4.out
      have p2 := cell_row (j := 2) HP4.out rfl
      have n1 : C ≠ rk := by have := HRK.out; omega
      have n2 : rk ≠ C := fun e => n1 e.symm
      go_region
      clear n1 n2
      go_wp2_with fail
      have HS3 := Lib.hid (set3 (a' := .int .u32 0) (b' := .int .i64 0) (c' := .slice none 0 0) RK4.out)
      clear hB0 hB1 hB2 gB0 gB1 gB2 p2 lrk
      generalize ((w4.setCell ⟨rk, 0, none⟩ (.int .u32 0)).setCell ⟨rk, 1, none⟩ (.int .i64 0)).setCell ⟨rk, 2, none⟩ (.slice none 0 0) = w5 at *
      have d0 := cell_row (j := 0) HS3.out.1 rfl; have d1 := cell_row (j := 1) HS3.out.1 rfl; have d2 := cell_row (j := 2) HS3.out.1 rfl
      have HB5 : Below w.heap.size w w5 := HBF4.out.trans (HS3.out.2.below HBF4.out.size (fun i hi e => by have := HRKE.out; omega))
      have HB5 := HB5.drew
      exact bodyPost_ret (v := .tuple #[.agg #[.int .u32 0, .int .i64 0, .slice none 0 0], .int .i64 ((L.length : Int) + 1), .int .i64 262]) (by simp [results, Tryz.results34, go_sem, d0, d1, d2]) rfl ⟨HE.out _, HB5⟩
    case inr =>
      have HNP := Lib.hid (fun h => HERR.out (by rw [hpq]; exact no_part (r := q) hno h))
      have hq1 : cur.size = p.length + 1 + q.length := by rw [← size_list, hpq]; simp; omega
      rw [show cutL cur.data.toList = (p, q, true) by rw [hpq]; exact cutL_hit hno]
      have hps : (bytesOf p).size = p.length := by unfold bytesOf; show p.toArray.size = _; simp
      have HSP := Lib.hid (split32_any (bytesOf p) w3 (by omega) (HM1.out.below (HBC3.out.mono (Nat.le_of_eq HCE.out.symm))).max)
      have HWS : Hid (splB (bytesOf p) = (partL 32 p).map bytesOf) := by show _ = _; rw [splB_part, bytesOf_data]
      have HWL : Hid ((splB (bytesOf p)).length = (partL 32 p).length) := by show _ = _; rw [HWS.out, List.length_map]
      have HPQ := Lib.hid hpq
      have HLO := Lib.hid (fun d1 d2 f n h1 h2 h3 => line_of (l := p) (d1 := d1) (d2 := d2) (f := f) (n := n) h1 h2 h3)
      clear hpq hno HERR HNE
      generalize bytesOf p = pb at *
      have HQS : Hid ((bytesOf q).size = q.length) := by show _ = _; unfold bytesOf; show q.toArray.size = _; simp
      have HQD : Hid ((bytesOf q).data.toList = q) := bytesOf_data q
      generalize bytesOf q = qb at *
      go_wp2_with fail
      refine HSP.out.mono ?_
      rintro e w4 ⟨rfl, hw4⟩
      have hb4 : Below w3.heap.size w3 w4 := by rw [hw4]; exact alloc_below _ _
      have HK4 : Hid (w4.heap[w3.heap.size]? = some (.cells ((splB pb).map Value.string).toArray 9 (0, 0))) := by rw [hw4]; exact heap_alloc_new _ _
      have RK4 := Lib.hid (kept RK3.out hb4)
      have HP4 := Lib.hid (kept HP3.out hb4)
      have HO4 : Hid (World.ownsRow w4 (C + 1) 71 2 (.slice oa L.length oc) L.length (plVs L)) := own_below HO3.out hb4
      have HBC4 : Hid (Below C w1 w4) := HBC3.out.trans ((hb4).mono (by rw [HCE.out]; exact HBC3.out.size))
      have HBF4 : Hid (Below w.heap.size w w4) := HBF3.out.trans ((hb4).mono HBF3.out.size)
      clear RK3 HP3 HO3 HBC3 HBF3
      clear hb4 hw4 HSP
      generalize w3.heap.size = g3 at *
      rw [HWL.out]
      by_cases h4 : (partL 32 p).length = 4
      case neg =>
        have HE := Lib.hid (HNP.out (fun x hx e => h4 (by rw [e]; rfl)))
        have t4 : (((partL 32 p).length : Int) == 4) = false := beq_eq_false_iff_ne.2 (by omega)
        clear HNP HK4 HLO HWS
        generalize (partL 32 p).length = np at *
        go_upto_region 8 with fail
        -- the result is a plan of nothing
        have hB0 := cell_row (j := 0) RK4.out rfl; have hB1 := cell_row (j := 1) RK4.out rfl; have hB2 := cell_row (j := 2) RK4.out rfl
        have gB0 : w4.frozen? ⟨rk, 0, none⟩ = false := frozen_of_row _ _ _ _ _ RK4.out
        have gB1 : w4.frozen? ⟨rk, 1, none⟩ = false := frozen_of_row _ _ _ _ _ RK4.out
        have gB2 : w4.frozen? ⟨rk, 2, none⟩ = false := frozen_of_row _ _ _ _ _ RK4.out
        have lrk := heap_lt RK4.out
        have p2 := cell_row (j := 2) HP4.out rfl
        have n1 : C ≠ rk := by have := HRK.out; omega
        have n2 : rk ≠ C := fun e => n1 e.symm
        go_region
        clear n1 n2
        go_wp2_with fail
        have HS3 := Lib.hid (set3 (a' := .int .u32 0) (b' := .int .i64 0) (c' := .slice none 0 0) RK4.out)
        clear hB0 hB1 hB2 gB0 gB1 gB2 p2 lrk
        generalize ((w4.setCell ⟨rk, 0, none⟩ (.int .u32 0)).setCell ⟨rk, 1, none⟩ (.int .i64 0)).setCell ⟨rk, 2, none⟩ (.slice none 0 0) = w5 at *
        have d0 := cell_row (j := 0) HS3.out.1 rfl; have d1 := cell_row (j := 1) HS3.out.1 rfl; have d2 := cell_row (j := 2) HS3.out.1 rfl
        have HB5 : Below w.heap.size w w5 := HBF4.out.trans (HS3.out.2.below HBF4.out.size (fun i hi e => by have := HRKE.out; omega))
        have HB5 := HB5.drew
        exact bodyPost_ret (v := .tuple #[.agg #[.int .u32 0, .int .i64 0, .slice none 0 0], .int .i64 ((L.length : Int) + 1), .int .i64 262]) (by simp [results, Tryz.results34, go_sem, d0, d1, d2]) rfl ⟨HE.out _, HB5⟩
      obtain ⟨x0, x1, x2, x3, hx⟩ : ∃ x0 x1 x2 x3, partL 32 p = [x0, x1, x2, x3] := by
        match hp : partL 32 p, h4 with
        | [x0, x1, x2, x3], _ => exact ⟨_, _, _, _, rfl⟩
      rw [HWS.out] at HK4
      rw [hx] at HK4 HNP HLO ⊢
      have hXZ : ∀ x ∈ partL 32 p, (bytesOf x).size ≤ 9223372036854775807 := fun x hm => by
        have h1 := part_len 32 p x hm
        have h2 : (bytesOf x).size = x.length := by unfold bytesOf; show x.toArray.size = _; simp
        omega
      have HXZ := Lib.hid hXZ
      have HD0 : Hid ((bytesOf x0).toList = x0) := by show _ = _; rw [ByteArray.toList_eq, bytesOf_data]
      have HD2 : Hid ((bytesOf x2).toList = x2) := by show _ = _; rw [ByteArray.toList_eq, bytesOf_data]
      have HD1 : Hid ((bytesOf x1).data.toList = x1) := bytesOf_data x1
      have HD3 : Hid ((bytesOf x3).data.toList = x3) := bytesOf_data x3
      have HXS1 : Hid ((bytesOf x1).size ≤ 9223372036854775807) := HXZ.out x1 (by rw [hx]; simp)
      have HXS3 : Hid ((bytesOf x3).size ≤ 9223372036854775807) := HXZ.out x3 (by rw [hx]; simp)
      have c0 : w4.cell? ⟨g3, 0, none⟩ = some (.string (bytesOf x0)) := cell_row (j := 0) HK4.out rfl
      have c1 : w4.cell? ⟨g3, 1, none⟩ = some (.string (bytesOf x1)) := cell_row (j := 1) HK4.out rfl
      have c2 : w4.cell? ⟨g3, 2, none⟩ = some (.string (bytesOf x2)) := cell_row (j := 2) HK4.out rfl
      have c3 : w4.cell? ⟨g3, 3, none⟩ = some (.string (bytesOf x3)) := cell_row (j := 3) HK4.out rfl
      have HK3 : Hid (w4.heap[g3]? = some (.cells #[.string (bytesOf x0), .string (bytesOf x1), .string (bytesOf x2), .string (bytesOf x3)] 9 (0, 0))) := HK4.out
      have lg3 := heap_lt HK3.out
      clear HWS HWL hx h4 HXZ HK4
      generalize bytesOf x0 = b0 at *
      generalize bytesOf x1 = b1 at *
      generalize bytesOf x2 = b2 at *
      generalize bytesOf x3 = b3 at *
      by_cases e0 : x0 = atB
      case neg =>
        have HE := Lib.hid (HNP.out (fun x hx e => e0 (by injection e)))
        have t5 : (b0.toList == [97, 116]) = false := by rw [HD0.out]; exact beq_eq_false_iff_ne.2 e0
        clear HNP HLO
        go_upto_region 8 with fail
        -- the result is a plan of nothing
        have hB0 := cell_row (j := 0) RK4.out rfl; have hB1 := cell_row (j := 1) RK4.out rfl; have hB2 := cell_row (j := 2) RK4.out rfl
        have gB0 : w4.frozen? ⟨rk, 0, none⟩ = false := frozen_of_row _ _ _ _ _ RK4.out
        have gB1 : w4.frozen? ⟨rk, 1, none⟩ = false := frozen_of_row _ _ _ _ _ RK4.out
        have gB2 : w4.frozen? ⟨rk, 2, none⟩ = false := frozen_of_row _ _ _ _ _ RK4.out
        have lrk := heap_lt RK4.out
        have p2 := cell_row (j := 2) HP4.out rfl
        have n1 : C ≠ rk := by have := HRK.out; omega
        have n2 : rk ≠ C := fun e => n1 e.symm
        go_region
        clear n1 n2
        go_wp2_with fail
        have HS3 := Lib.hid (set3 (a' := .int .u32 0) (b' := .int .i64 0) (c' := .slice none 0 0) RK4.out)
        clear hB0 hB1 hB2 gB0 gB1 gB2 p2 lrk
        generalize ((w4.setCell ⟨rk, 0, none⟩ (.int .u32 0)).setCell ⟨rk, 1, none⟩ (.int .i64 0)).setCell ⟨rk, 2, none⟩ (.slice none 0 0) = w5 at *
        have d0 := cell_row (j := 0) HS3.out.1 rfl; have d1 := cell_row (j := 1) HS3.out.1 rfl; have d2 := cell_row (j := 2) HS3.out.1 rfl
        have HB5 : Below w.heap.size w w5 := HBF4.out.trans (HS3.out.2.below HBF4.out.size (fun i hi e => by have := HRKE.out; omega))
        have HB5 := HB5.drew
        exact bodyPost_ret (v := .tuple #[.agg #[.int .u32 0, .int .i64 0, .slice none 0 0], .int .i64 ((L.length : Int) + 1), .int .i64 262]) (by simp [results, Tryz.results34, go_sem, d0, d1, d2]) rfl ⟨HE.out _, HB5⟩
      have t5 : (b0.toList == [97, 116]) = true := by rw [HD0.out, e0]; rfl
      by_cases e2 : x2 = roB
      case neg =>
        have HE := Lib.hid (HNP.out (fun x hx e => e2 (by injection e with _ e; injection e with _ e; injection e)))
        have t6 : (b2.toList == [114, 111, 117, 116, 101]) = false := by rw [HD2.out]; exact beq_eq_false_iff_ne.2 e2
        clear HNP HLO
        go_upto_region 8 with fail
        -- the result is a plan of nothing
        have hB0 := cell_row (j := 0) RK4.out rfl; have hB1 := cell_row (j := 1) RK4.out rfl; have hB2 := cell_row (j := 2) RK4.out rfl
        have gB0 : w4.frozen? ⟨rk, 0, none⟩ = false := frozen_of_row _ _ _ _ _ RK4.out
        have gB1 : w4.frozen? ⟨rk, 1, none⟩ = false := frozen_of_row _ _ _ _ _ RK4.out
        have gB2 : w4.frozen? ⟨rk, 2, none⟩ = false := frozen_of_row _ _ _ _ _ RK4.out
        have lrk := heap_lt RK4.out
        have p2 := cell_row (j := 2) HP4.out rfl
        have n1 : C ≠ rk := by have := HRK.out; omega
        have n2 : rk ≠ C := fun e => n1 e.symm
        go_region
        clear n1 n2
        go_wp2_with fail
        have HS3 := Lib.hid (set3 (a' := .int .u32 0) (b' := .int .i64 0) (c' := .slice none 0 0) RK4.out)
        clear hB0 hB1 hB2 gB0 gB1 gB2 p2 lrk
        generalize ((w4.setCell ⟨rk, 0, none⟩ (.int .u32 0)).setCell ⟨rk, 1, none⟩ (.int .i64 0)).setCell ⟨rk, 2, none⟩ (.slice none 0 0) = w5 at *
        have d0 := cell_row (j := 0) HS3.out.1 rfl; have d1 := cell_row (j := 1) HS3.out.1 rfl; have d2 := cell_row (j := 2) HS3.out.1 rfl
        have HB5 : Below w.heap.size w w5 := HBF4.out.trans (HS3.out.2.below HBF4.out.size (fun i hi e => by have := HRKE.out; omega))
        have HB5 := HB5.drew
        exact bodyPost_ret (v := .tuple #[.agg #[.int .u32 0, .int .i64 0, .slice none 0 0], .int .i64 ((L.length : Int) + 1), .int .i64 262]) (by simp [results, Tryz.results34, go_sem, d0, d1, d2]) rfl ⟨HE.out _, HB5⟩
      have t6 : (b2.toList == [114, 111, 117, 116, 101]) = true := by rw [HD2.out, e2]; rfl
      have HN1 := Lib.hid (anum_any b1 4294967295 w4 HXS1.out (by omega))
      go_wp2_with fail
      refine HN1.out.mono ?_
      rintro e w6 ⟨⟨v1, hv1, rfl, hf1⟩, hb6⟩
      rw [HD1.out] at hf1
      rw [HD1.out]
      have RK6 := Lib.hid (kept RK4.out hb6)
      have HP6 := Lib.hid (kept HP4.out hb6)
      have HO6 : Hid (World.ownsRow w6 (C + 1) 71 2 (.slice oa L.length oc) L.length (plVs L)) := own_below HO4.out hb6
      have HBC6 : Hid (Below C w1 w6) := HBC4.out.trans ((hb6).mono (by rw [HCE.out]; exact HBC4.out.size))
      have HBF6 : Hid (Below w.heap.size w w6) := HBF4.out.trans ((hb6).mono HBF4.out.size)
      clear RK4 HP4 HO4 HBC4 HBF4
      have HK6 := Lib.hid (kept HK3.out hb6)
      have c3 := cell_row (j := 3) HK6.out rfl
      have lg3 := heap_lt HK6.out
      have HN3 := Lib.hid (anum_any b3 65535 w6 HXS3.out (by omega))
      clear HN1 hb6 c0 c1 c2 HK3
      go_wp2_with fail
      refine HN3.out.mono ?_
      rintro e w7 ⟨⟨v3, hv3, rfl, hf3⟩, hb7⟩
      rw [HD3.out] at hf3
      rw [HD3.out]
      have RK7 := Lib.hid (kept RK6.out hb7)
      have HP7 := Lib.hid (kept HP6.out hb7)
      have HO7 : Hid (World.ownsRow w7 (C + 1) 71 2 (.slice oa L.length oc) L.length (plVs L)) := own_below HO6.out hb7
      have HBC7 : Hid (Below C w1 w7) := HBC6.out.trans ((hb7).mono (by rw [HCE.out]; exact HBC6.out.size))
      have HBF7 : Hid (Below w.heap.size w w7) := HBF6.out.trans ((hb7).mono HBF6.out.size)
      clear RK6 HP6 HO6 HBC6 HBF6
      clear HN3 hb7 c3 HK6
      cases hn1 : arN 4294967295 x1
      case none =>
        have HE := Lib.hid (HNP.out (fun x hx e => by
          injection e with _ e; injection e with e _
          rw [e, arN_dec hx.1 (by omega)] at hn1; cases hn1))
        clear HNP HLO hn1 hf1
        go_upto_region 12 with fail
        -- the result is a plan of nothing
        have hB0 := cell_row (j := 0) RK7.out rfl; have hB1 := cell_row (j := 1) RK7.out rfl; have hB2 := cell_row (j := 2) RK7.out rfl
        have gB0 : w7.frozen? ⟨rk, 0, none⟩ = false := frozen_of_row _ _ _ _ _ RK7.out
        have gB1 : w7.frozen? ⟨rk, 1, none⟩ = false := frozen_of_row _ _ _ _ _ RK7.out
        have gB2 : w7.frozen? ⟨rk, 2, none⟩ = false := frozen_of_row _ _ _ _ _ RK7.out
        have lrk := heap_lt RK7.out
        have p2 := cell_row (j := 2) HP7.out rfl
        have n1 : C ≠ rk := by have := HRK.out; omega
        have n2 : rk ≠ C := fun e => n1 e.symm
        go_region
        clear n1 n2
        go_wp2_with fail
        have HS3 := Lib.hid (set3 (a' := .int .u32 0) (b' := .int .i64 0) (c' := .slice none 0 0) RK7.out)
        clear hB0 hB1 hB2 gB0 gB1 gB2 p2 lrk
        generalize ((w7.setCell ⟨rk, 0, none⟩ (.int .u32 0)).setCell ⟨rk, 1, none⟩ (.int .i64 0)).setCell ⟨rk, 2, none⟩ (.slice none 0 0) = w5 at *
        have d0 := cell_row (j := 0) HS3.out.1 rfl; have d1 := cell_row (j := 1) HS3.out.1 rfl; have d2 := cell_row (j := 2) HS3.out.1 rfl
        have HB5 : Below w.heap.size w w5 := HBF7.out.trans (HS3.out.2.below HBF7.out.size (fun i hi e => by have := HRKE.out; omega))
        have HB5 := HB5.drew
        exact bodyPost_ret (v := .tuple #[.agg #[.int .u32 0, .int .i64 0, .slice none 0 0], .int .i64 ((L.length : Int) + 1), .int .i64 262]) (by simp [results, Tryz.results34, go_sem, d0, d1, d2]) rfl ⟨HE.out _, HB5⟩
      rename_i f
      cases hn3 : arN 65535 x3
      case none =>
        have HE := Lib.hid (HNP.out (fun x hx e => by
          injection e with _ e; injection e with _ e; injection e with _ e; injection e with e _
          rw [e, arN_dec (by have := hx.2.1; have := hx.2.2; omega) (by omega)] at hn3; cases hn3))
        clear HNP HLO hn1 hn3 hf1 hf3
        go_upto_region 12 with fail
        -- the result is a plan of nothing
        have hB0 := cell_row (j := 0) RK7.out rfl; have hB1 := cell_row (j := 1) RK7.out rfl; have hB2 := cell_row (j := 2) RK7.out rfl
        have gB0 : w7.frozen? ⟨rk, 0, none⟩ = false := frozen_of_row _ _ _ _ _ RK7.out
        have gB1 : w7.frozen? ⟨rk, 1, none⟩ = false := frozen_of_row _ _ _ _ _ RK7.out
        have gB2 : w7.frozen? ⟨rk, 2, none⟩ = false := frozen_of_row _ _ _ _ _ RK7.out
        have lrk := heap_lt RK7.out
        have p2 := cell_row (j := 2) HP7.out rfl
        have n1 : C ≠ rk := by have := HRK.out; omega
        have n2 : rk ≠ C := fun e => n1 e.symm
        go_region
        clear n1 n2
        go_wp2_with fail
        have HS3 := Lib.hid (set3 (a' := .int .u32 0) (b' := .int .i64 0) (c' := .slice none 0 0) RK7.out)
        clear hB0 hB1 hB2 gB0 gB1 gB2 p2 lrk
        generalize ((w7.setCell ⟨rk, 0, none⟩ (.int .u32 0)).setCell ⟨rk, 1, none⟩ (.int .i64 0)).setCell ⟨rk, 2, none⟩ (.slice none 0 0) = w5 at *
        have d0 := cell_row (j := 0) HS3.out.1 rfl; have d1 := cell_row (j := 1) HS3.out.1 rfl; have d2 := cell_row (j := 2) HS3.out.1 rfl
        have HB5 : Below w.heap.size w w5 := HBF7.out.trans (HS3.out.2.below HBF7.out.size (fun i hi e => by have := HRKE.out; omega))
        have HB5 := HB5.drew
        exact bodyPost_ret (v := .tuple #[.agg #[.int .u32 0, .int .i64 0, .slice none 0 0], .int .i64 ((L.length : Int) + 1), .int .i64 262]) (by simp [results, Tryz.results34, go_sem, d0, d1, d2]) rfl ⟨HE.out _, HB5⟩
      rename_i n
      obtain ⟨hl1, hl2⟩ := HLO.out x1 x3 f n (by rw [e0, e2]) hn1 hn3
      have hfv := hf1 f hn1
      have hnv := hf3 n hn3
      have hfl : v1 ≤ 4294967295 := by rw [hfv]; exact hl2.1
      have hnl : v3 ≤ 65535 := by rw [hnv]; exact (arN_inv hn3).2
      subst hfv hnv
      have HGD := Lib.hid hl2
      have HLB := Lib.hid hl1
      clear hl1 hl2 hf1 hf3 hn1 hn3 HNP HLO
      have k1 : (v1 : Int) % 4294967296 = (v1 : Int) := by omega
      have c2 := cell_row (j := 2) HP7.out rfl
      have lC := heap_lt HP7.out
      have fC : w7.frozen? ⟨C, 2, none⟩ = false := frozen_of_row _ _ _ _ _ HP7.out
      go_upto_region 13 with fail
      have HW : Hid (∀ j u, [Value.int .u32 (v1 : Int), .int .i64 (v3 : Int)][j]? = some u → (w7.alloc (.cells #[.int .u32 (v1 : Int), .int .i64 (v3 : Int)] 71)).cell? ((⟨w7.heap.size, 0, none⟩ : Addr).add j) = some u) := fun j v hj => by
        rw [Go.WideShapes.add_plain, Nat.zero_add]
        match j, hj with
        | 0, hj => exact cell_row (heap_alloc_new _ _) hj
        | 1, hj => exact cell_row (heap_alloc_new _ _) hj
        | n + 2, hj => simp at hj
      have OA := Lib.hid (HO7.out.alloc (.cells #[.int .u32 (v1 : Int), .int .i64 (v3 : Int)] 71))
      have HZ : Hid (C + 1 ≤ w7.heap.size) := heap_lt HP7.out
      have PA : Hid ((w7.alloc (.cells #[.int .u32 (v1 : Int), .int .i64 (v3 : Int)] 71)).heap[C]? = some (.cells #[.int .u32 (base : Int), .int .i64 port, .slice oa L.length oc] 25 (0, 0))) := kept HP7.out (alloc_below _ _)
      have BA : Hid (Below C w1 (w7.alloc (.cells #[.int .u32 (v1 : Int), .int .i64 (v3 : Int)] 71))) := HBC7.out.alloc (by have := HZ.out; omega) _
      go_wp2_with (at_builtin; refine wpList_append_own _ rfl _ _ 23 rfl (C + 1) 71 i0 (.agg #[.int .u32 0, .int .i64 0]) 2 16 Tryz.underlying23 HIn.out HZ0.out HZ1.out HZ2.out rfl (by decide) (.slice oa L.length oc) L.length _ rfl OA.out ⟨w7.heap.size, 0, none⟩ 1 1 [.int .u32 (v1 : Int), .int .i64 (v3 : Int)] rfl rfl HW.out (fun u hu => by simp at hu; rcases hu with rfl | rfl <;> rfl) (by unfold maxLen; omega) (by omega) (by simp; have := HZ.out; omega) ?_)
      intro v8 w8 ho8 hg8 _
      have HZ8 : Hid ((w7.alloc (.cells #[.int .u32 (v1 : Int), .int .i64 (v3 : Int)] 71)).heap.size = w7.heap.size + 1) := by show _ = _; simp
      have B8 : Hid (Below C w1 w8) := BA.out.grown hg8 (by have := HZ.out; have := HZ8.out; omega) (fun j hj => by have := (OA.out.lt j hj).1; omega)
      have P8 : Hid (w8.heap[C]? = some (.cells #[.int .u32 (base : Int), .int .i64 port, .slice oa L.length oc] 25 (0, 0))) := (hg8.block C (heap_lt PA.out) (fun e => by have := (OA.out.lt C e.symm).1; omega)).trans PA.out
      have O8 : Hid (w8.ownsRow (C + 1) 71 2 v8 (L ++ [(⟨v1, (v3 : Int)⟩ : PL)]).length (plVs (L ++ [(⟨v1, (v3 : Int)⟩ : PL)]))) := by
        show World.ownsRow _ _ _ _ _ _ _
        unfold plVs at ho8 ⊢
        rw [List.flatMap_append, List.length_append]; exact ho8
      obtain ⟨oa8, oc8, hv8, _, _, _⟩ := pls_of_own (ls := L ++ [(⟨v1, (v3 : Int)⟩ : PL)]) O8.out
      subst hv8
      have c2 := cell_row (j := 2) P8.out rfl
      have lC := heap_lt P8.out
      have fC : w8.frozen? ⟨C, 2, none⟩ = false := frozen_of_row _ _ _ _ _ P8.out
      have HLL : Hid ((L ++ [(⟨v1, (v3 : Int)⟩ : PL)]).length = L.length + 1) := by show _ = _; simp
      have HTN : Hid (s.data.toList = printT (L ++ [(⟨v1, (v3 : Int)⟩ : PL)]) ++ qb.data.toList) := by
        show _ = _
        rw [HT.out, HPQ.out, HLB.out, printT_snoc, line_eq HGD.out, HQD.out]; simp
      have HGN : Hid (∀ x ∈ L ++ [(⟨v1, (v3 : Int)⟩ : PL)], x.good) := fun x hx => by
        rcases List.mem_append.1 hx with h | h
        · exact HG.out x h
        · rw [List.mem_singleton.1 h]; exact HGD.out
      clear ho8 hg8 OA HW PA BA
      generalize hL8 : L ++ [(⟨v1, (v3 : Int)⟩ : PL)] = L8 at *
      clear hL8
      obtain ⟨w9, hw9⟩ : ∃ x, x = w8.setCell ⟨C, 2, none⟩ (.slice oa8 L8.length oc8) := ⟨_, rfl⟩
      have o9 : Only (fun i => i = C) w8 w9 := by rw [hw9]; exact (Only.refl (fun i => i = C) w8).set 2 _ (.inr rfl)
      have P9 : Hid (w9.heap[C]? = some (.cells #[.int .u32 (base : Int), .int .i64 port, .slice oa8 L8.length oc8] 25 (0, 0))) := by rw [hw9]; exact heap_setCell_same _ _ _ _ _ _ P8.out
      have O9 := Lib.hid (own_only O8.out o9 (fun g e => by omega))
      have B9 : Hid (Below C w1 w9) := by rw [hw9]; exact B8.out.setCell (Nat.le_refl _) _
      have HW9 := Lib.hid hw9
      have hq9 : qb.size < cur.size := by rw [HQS.out]; omega
      have hq8 : L8.length + qb.size ≤ 20000 := by rw [HQS.out, HLL.out]; omega
      clear hw9 o9 P8 O8 B8
      go_wp2_with fail
      rw [← HW9.out]
      exact ⟨⟨qb, L8, oa8, oc8, rfl, hq8, HTN, HGN, P9, O9, B9, heap_lt P9.out⟩, hq9⟩
end Go.Proofs.YtdlpgoackmgdkaaGreatDoor
