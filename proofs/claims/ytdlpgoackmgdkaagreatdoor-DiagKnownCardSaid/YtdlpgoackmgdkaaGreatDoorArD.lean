/- Build: a plan's program. -/
import Derived.Test.YtdlpgoackmgdkaaGreatDoorArAC
import Derived.Test.YtdlpgoackmgdkaaGreatDoorZAsmB
import Derived.Test.YtdlpgoackmgdkaaGreatDoorZAsmA
namespace Go.Proofs.YtdlpgoackmgdkaaGreatDoor
open Go.RowKit Go.Shelf
set_option linter.unusedVariables false
set_option linter.unusedSimpArgs false
theorem Bld.fresh (w : World) : Bld w.heap.size [] (w.alloc (.cells #[.pointer none, .slice none 0 0] 109)) := Lib.IsBuilderF.of (Lib.fresh_isBuilder _ _ w)
theorem own_low {w : World} {B B' : Nat} {e : TypeId} {size : Nat} {v : Value} {n : Nat} {xs : List Value} (h : w.ownsRow B e size v n xs) (hb : B' ≤ B) : w.ownsRow B' e size v n xs := by
  refine ⟨h.1, ?_⟩
  rcases h.2 with h | ⟨g, cap, cur, hv, hg, h⟩
  · exact .inl h
  · exact .inr ⟨g, cap, cur, hv, Nat.le_trans hb hg, h⟩
theorem pushT_len (u : Nat) (h : u < 18446744073709551616) : (pushT u).length ≤ 26 := by
  have h1 : (Lib.decDigits u).length ≤ 20 := decS_size u h
  simp [pushT]; omega
theorem countT_len (u : Nat) (h : u < 18446744073709551616) : (countT u).length ≤ 34 := by
  have h1 := pushT_len u h
  simp [countT]; omega
theorem bodT_len {base P i : Nat} {x : PL} (hb : base < 4294967296) (hP : P < 16) (hi : i < 1000) (hf : x.fr < 4294967296) (hr : x.ask < 4294967296) : (bodT base P i x).length ≤ 200 := by
  have h1 := countT_len base (by omega)
  have h2 := pushT_len x.fr (by omega)
  have h3 := pushT_len x.ask (by omega)
  have h4 : (Lib.decDigits i).length ≤ 20 := decS_size i (by omega)
  have h5 : (Lib.decDigits P).length ≤ 20 := decS_size P (by omega)
  simp [bodT, nL]; omega
theorem bodsT_len {base P : Nat} (hb : base < 4294967296) (hP : P < 16) : ∀ (l : List PL) (i : Nat), i + l.length ≤ 1000 → (∀ x ∈ l, x.fr < 4294967296 ∧ x.ask < 4294967296) → (bodsT base P i l).length ≤ 200 * l.length
  | [], _, _, _ => by simp [bodsT]
  | x :: r, i, hi, h => by
    rw [List.length_cons] at hi
    have h1 := bodsT_len hb hP r (i + 1) (by omega) (fun y hy => h y (List.mem_cons_of_mem _ hy))
    have h2 := bodT_len (x := x) hb hP (show i < 1000 by omega) (h x (by simp)).1 (h x (by simp)).2
    rw [bodsT, List.length_append, List.length_cons]; omega
set_option maxRecDepth 100000 in
set_option maxHeartbeats 8000000 in
theorem build_ok (ls : List PL) (a : Option Addr) (c base : Nat) (port : Int) (w : World) (hA : PlsAt w a ls) (hok : ∀ i, i < ls.length → (ls.getD i pl0).ok) (hm : ls.length ≤ 9223372036854775807) (hb0 : base < 4294967296) (hmay : mayB base port ls = true) (hL : LibW w) :
    Calls Tryz.prog 32 #[.agg #[.int .u32 (base : Int), .int .i64 port, .slice a ls.length c]] w fun e w' =>
      (∃ v, e = .returned (.tuple #[v, .int .i64 0]) ∧ w'.ownsRow w.heap.size 145 4 v (arsC base port.toNat ls).length (insVs (arsC base port.toNat ls))) ∧ Below w.heap.size w w' := by
  obtain ⟨hplan, hpp⟩ := mayB_ok hmay hok
  obtain ⟨P, hP⟩ : ∃ P, P = port.toNat := ⟨_, rfl⟩
  rw [← hP] at hplan hpp ⊢
  subst hpp
  have HPL := Lib.hid hplan
  have hP16 := hplan.port
  have hn500 := hplan.len
  have HLN := Lib.hid hplan.lines
  have HA := Lib.hid hA; have HLW := Lib.hid hL
  have HMAY := Lib.hid (fun W (h : PlsAt W a ls) => by have := amay_any ls a c base (P : Int) W h hok hm hb0; rw [hmay] at this; exact this)
  obtain ⟨n, hn⟩ : ∃ n, n = ls.length := ⟨_, rfl⟩
  rw [← hn] at hm hn500 HMAY ⊢
  have HN := Lib.hid hn
  obtain ⟨w1, hw1⟩ : ∃ x, x = w.alloc (.cells #[.int .u32 (base : Int), .int .i64 (P : Int), .slice a n c] 25) := ⟨_, rfl⟩
  have B1 : Hid (Below w.heap.size w w1) := by rw [hw1]; exact alloc_below _ _
  have K1 : Hid (w1.heap[w.heap.size]? = some (.cells #[.int .u32 (base : Int), .int .i64 (P : Int), .slice a n c] 25 (0, 0))) := by rw [hw1]; exact heap_alloc_new _ _
  have HW1 := Lib.hid hw1
  obtain ⟨g, hg⟩ : ∃ g, g = w.heap.size := ⟨_, rfl⟩
  rw [← hg] at K1
  have HG := Lib.hid hg
  have mf : ∀ (B : Nat) w', (Instr.makeFunc (.func 60) #[.pointer (some ⟨B, 0, none⟩)] #[]).run Tryz.prog w' = .ok (.func (.func 60) #[.pointer (some ⟨B, 0, none⟩)] #[]) w' := fun _ _ => rfl
  clear hA hok hn hw1 hg hmay hplan hL hP
  have q0 := cell_row (j := 0) K1.out rfl
  have q1 := cell_row (j := 1) K1.out rfl
  have q2 := cell_row (j := 2) K1.out rfl
  go_enter Tryz.func32, Tryz.ntmps32
  go_upto_region 1 with fail
  rw [← HW1.out, ← HG.out]
  clear HW1
  go_wp2_with fail
  refine (HMAY.out w1 (HA.out.below B1.out)).mono ?_
  rintro e w2 ⟨rfl, hb2⟩
  have HP0 : Hid (w2.cell? ⟨g, 0, none⟩ = some (.int .u32 (base : Int))) := (hb2.cell (heap_lt K1.out)).trans q0
  have HP1 : Hid (w2.cell? ⟨g, 1, none⟩ = some (.int .i64 (P : Int))) := (hb2.cell (heap_lt K1.out)).trans q1
  have HP2 : Hid (w2.cell? ⟨g, 2, none⟩ = some (.slice a n c)) := (hb2.cell (heap_lt K1.out)).trans q2
  have HGB : Hid (g < w2.heap.size) := Nat.lt_of_lt_of_le (heap_lt K1.out) hb2.size
  have B2 : Hid (Below w.heap.size w w2) := B1.out.trans (hb2.mono B1.out.size)
  clear hb2 q0 q1 q2 K1 B1 HMAY
  obtain ⟨B, hB⟩ : ∃ B, B = w2.heap.size := ⟨_, rfl⟩
  obtain ⟨w3, hw3⟩ : ∃ x, x = w2.alloc (.cells #[.pointer none, .slice none 0 0] 109) := ⟨_, rfl⟩
  have H3 : Hid (Bld B [] w3) := by rw [hB, hw3]; exact Bld.fresh w2
  have B3 : Hid (Below B w2 w3) := by rw [hB, hw3]; exact alloc_below _ _
  have HS3 : Hid (B + 1 ≤ w3.heap.size) := by rw [hB, hw3]; show _ ≤ _; simp
  rw [← hB] at HGB
  have HLX : Hid (∀ W, Below B w2 W → LibW W) := fun W hW => HLW.out.below (B2.out.trans (hW.mono (by rw [hB]; exact B2.out.size)))
  have HBW : Hid (w.heap.size ≤ B) := by rw [hB]; exact B2.out.size
  have HB := Lib.hid hB; have HW3 := Lib.hid hw3
  clear hB hw3
  go_upto_region 4 with fail
  rw [← HW3.out, ← HB.out]
  clear HW3
  have p0 := (B3.out).cell (p := ⟨g, 0, none⟩) HGB.out |>.trans HP0.out
  have p1 := (B3.out).cell (p := ⟨g, 1, none⟩) HGB.out |>.trans HP1.out
  have p2 := (B3.out).cell (p := ⟨g, 2, none⟩) HGB.out |>.trans HP2.out
  go_wp2_with fail
  refine (dig_any P (by omega) w3 (HLX.out _ B3.out).tab).mono ?_
  rintro e w4 ⟨rfl, hb4⟩
  have B4 : Hid (Below B w2 w4) := B3.out.trans (hb4.mono (by have := HS3.out; omega))
  have H4 : Hid (Bld B [] w4) := H3.out.below hb4
  have HS4 : Hid (B + 1 ≤ w4.heap.size) := Nat.le_trans HS3.out hb4.size
  clear hb4 B3 H3 HS3 p0 p1 p2
  have hdP := decS_data P
  have hsP : (decS P).size ≤ 20 := decS_size P (by omega)
  have p0 := (B4.out).cell (p := ⟨g, 0, none⟩) HGB.out |>.trans HP0.out
  have p1 := (B4.out).cell (p := ⟨g, 1, none⟩) HGB.out |>.trans HP1.out
  have p2 := (B4.out).cell (p := ⟨g, 2, none⟩) HGB.out |>.trans HP2.out
  generalize decS P = PS at *
  go_wp2_with fail
  refine (push32_any base hb0 w4 (HLX.out _ B4.out).tab).mono ?_
  rintro e w5 ⟨rfl, hb5⟩
  have B5 : Hid (Below B w2 w5) := B4.out.trans (hb5.mono (by have := HS4.out; omega))
  have H5 : Hid (Bld B [] w5) := H4.out.below hb5
  have HS5 : Hid (B + 1 ≤ w5.heap.size) := Nat.le_trans HS4.out hb5.size
  clear hb5 B4 H4 HS4 p0 p1 p2
  have hdB : (bytesOf (pushT base)).data.toList = pushT base := bytesOf_data _
  have hsB : (bytesOf (pushT base)).size ≤ 26 := by rw [bytes_size]; exact pushT_len base (by omega)
  generalize bytesOf (pushT base) = BS at *
  go_wp2_with fail
  have hdW : (({ data := #[112, 117, 115, 104, 32, 48, 10, 112, 117, 116, 32] } : ByteArray) ++ PS ++ { data := #[32, 48, 10] }).data.toList = begT P := by rw [data_app, data_app, hdP]; rfl
  have hsW : (({ data := #[112, 117, 115, 104, 32, 48, 10, 112, 117, 116, 32] } : ByteArray) ++ PS ++ { data := #[32, 48, 10] }).size ≤ 60 := by
    rw [← size_list, hdW]
    have h1 := hsP
    rw [← size_list, hdP] at h1
    simp [begT]; omega
  have hdC : (BS ++ ({ data := #[108, 111, 97, 100, 52, 32, 48, 10] } : ByteArray)).data.toList = countT base := by rw [data_app, hdB]; rfl
  have hsC : (BS ++ ({ data := #[108, 111, 97, 100, 52, 32, 48, 10] } : ByteArray)).size ≤ 40 := by rw [← size_list, hdC]; have := countT_len base (by omega); omega
  refine (bw_any B [] _ w5 H5.out (by simp only [List.length_nil]; omega) (by have := HS5.out; omega)).mono ?_
  rintro e w6 ⟨rfl, h6, hb6, ho6⟩
  rw [hdW, List.nil_append] at h6
  have H6 : Hid (Bld B (begT P ++ bodsT base P 0 (ls.take 0)) w6) := by show Bld _ _ _; rw [List.take_zero]; simpa [bodsT] using h6
  have B6 : Hid (Below B w2 w6) := B5.out.trans hb6
  have HS6 : Hid (B + 1 ≤ w6.heap.size) := Nat.le_trans HS5.out hb6.size
  generalize (({ data := #[112, 117, 115, 104, 32, 48, 10, 112, 117, 116, 32] } : ByteArray) ++ PS ++ { data := #[32, 48, 10] }) = WS at *
  generalize (BS ++ ({ data := #[108, 111, 97, 100, 52, 32, 48, 10] } : ByteArray)) = CS at *
  clear h6 hb6 ho6 B5 H5 HS5 hdW hsW hdB hsB
  have p0 := (B6.out).cell (p := ⟨g, 0, none⟩) HGB.out |>.trans HP0.out
  have p1 := (B6.out).cell (p := ⟨g, 1, none⟩) HGB.out |>.trans HP1.out
  have p2 := (B6.out).cell (p := ⟨g, 2, none⟩) HGB.out |>.trans HP2.out
  have hlen0 : (begT P).length ≤ 60 := by
    have h1 := hsP
    rw [← size_list, hdP] at h1
    simp [begT]; omega
  go_wp2_with fail
  clear p0 p1 p2
  go_loopw [38] (fun i wr => ∃ k : Nat, k ≤ n ∧ i = .int .i64 (k : Int) ∧ Hid (Bld B (begT P ++ bodsT base P 0 (ls.take k)) wr) ∧ Hid (Below B w2 wr) ∧ Hid (B + 1 ≤ wr.heap.size)) (fun i _ => n - (intOf i).toNat)
  case atStart => exact ⟨0, Nat.zero_le _, rfl, H6, B6, HS6⟩
  case round =>
    clear H6 B6 HS6
    obtain ⟨k, hk, rfl, HK, BB, HSK⟩ := hrel
    have hlenk : (bodsT base P 0 (ls.take k)).length ≤ 200 * k := by
      have := bodsT_len (base := base) (P := P) hb0 hP16 (ls.take k) 0 (by rw [List.length_take, ← HN.out]; omega) (fun x hx => by
        have := HLN.out x (List.mem_of_mem_take hx)
        unfold PL.ask; omega)
      rw [List.length_take, ← HN.out] at this
      rw [Nat.min_eq_left hk] at this; exact this
    rcases Nat.lt_or_ge k n with hk2 | hk2
    case inr =>
      obtain rfl : k = n := by omega
      have t2 : decide ((k : Int) < (k : Int)) = false := by simp
      have p0 := (BB.out).cell (p := ⟨g, 0, none⟩) HGB.out |>.trans HP0.out
      have p1 := (BB.out).cell (p := ⟨g, 1, none⟩) HGB.out |>.trans HP1.out
      have p2 := (BB.out).cell (p := ⟨g, 2, none⟩) HGB.out |>.trans HP2.out
      have HTE : Hid (ls.take k = ls) := by show _ = _; rw [HN.out, List.take_length]
      rw [HTE.out] at HK hlenk
      go_wp2_with fail
      refine (push32_any base hb0 wr (HLX.out _ BB.out).tab).mono ?_
      rintro e w8 ⟨rfl, hb8⟩
      have B8 : Hid (Below B w2 w8) := BB.out.trans (hb8.mono (by have := HSK.out; omega))
      have H8 := Lib.hid (HK.out.below hb8)
      have HS8 : Hid (B + 1 ≤ w8.heap.size) := Nat.le_trans HSK.out hb8.size
      clear hb8 BB HK HSK p0 p1 p2
      have hdB : (bytesOf (pushT base)).data.toList = pushT base := bytesOf_data _
      have hsB : (bytesOf (pushT base)).size ≤ 26 := by rw [bytes_size]; exact pushT_len base (by omega)
      generalize bytesOf (pushT base) = BS2 at *
      go_wp2_with fail
      have hdA : (({ data := #[115, 101, 110, 100, 32] } : ByteArray) ++ PS ++ { data := #[10] } ++ BS2).data.toList = [115, 101, 110, 100, 32] ++ Lib.decDigits P ++ [10] ++ pushT base := by
        rw [data_app, data_app, data_app, hdP, hdB]
      have hsA : (({ data := #[115, 101, 110, 100, 32] } : ByteArray) ++ PS ++ { data := #[10] } ++ BS2).size ≤ 200 := by
        rw [← size_list, hdA]
        have h1 := hsB; have h2 := hsP
        rw [← size_list, hdB] at h1; rw [← size_list, hdP] at h2
        simp; omega
      refine (bw_any B _ _ w8 H8.out (by rw [List.length_append]; omega) (by have := HS8.out; omega)).mono ?_
      rintro e w9 ⟨rfl, h9, hb9, ho9⟩
      rw [hdA] at h9
      have H9 := Lib.hid h9
      have B9 : Hid (Below B w2 w9) := B8.out.trans hb9
      have HS9 : Hid (B + 1 ≤ w9.heap.size) := Nat.le_trans HS8.out hb9.size
      have hsA2 : ([115, 101, 110, 100, 32] ++ Lib.decDigits P ++ [10] ++ pushT base).length ≤ 200 := by rw [← hdA, size_list]; exact hsA
      clear h9 hb9 ho9 B8 H8 HS8 hdA hsA hdB hsB
      go_wp2_with fail
      refine (push32_any 4294967295 (by decide) w9 (HLX.out _ B9.out).tab).mono ?_
      rintro e w10 ⟨rfl, hb10⟩
      have B10 : Hid (Below B w2 w10) := B9.out.trans (hb10.mono (by have := HS9.out; omega))
      have H10 := Lib.hid (H9.out.below hb10)
      have HS10 : Hid (B + 1 ≤ w10.heap.size) := Nat.le_trans HS9.out hb10.size
      clear hb10 B9 H9 HS9
      have hdL : (bytesOf (pushT 4294967295)).data.toList = pushT 4294967295 := bytesOf_data _
      have hsL : (bytesOf (pushT 4294967295)).size ≤ 26 := by rw [bytes_size]; exact pushT_len 4294967295 (by omega)
      generalize bytesOf (pushT 4294967295) = LS at *
      go_wp2_with fail
      have hdA : (CS ++ CS ++ LS ++ ({ data := #[108, 101, 115, 115, 10, 97, 100, 100, 10, 115, 116, 111, 114, 101, 52, 32, 48, 10, 121, 105, 101, 108, 100, 10] } : ByteArray)).data.toList = countT base ++ countT base ++ pushT 4294967295 ++ [108, 101, 115, 115, 10, 97, 100, 100, 10, 115, 116, 111, 114, 101, 52, 32, 48, 10, 121, 105, 101, 108, 100, 10] := by
        rw [data_app, data_app, data_app, hdC, hdL]
      have hsA : (CS ++ CS ++ LS ++ ({ data := #[108, 101, 115, 115, 10, 97, 100, 100, 10, 115, 116, 111, 114, 101, 52, 32, 48, 10, 121, 105, 101, 108, 100, 10] } : ByteArray)).size ≤ 200 := by
        rw [← size_list, hdA]
        have h1 := hsC; have h2 := hsL
        rw [← size_list, hdC] at h1; rw [← size_list, hdL] at h2
        simp; omega
      refine (bw_any B _ _ w10 H10.out (by rw [List.length_append, List.length_append]; omega) (by have := HS10.out; omega)).mono ?_
      rintro e w11 ⟨rfl, h11, hb11, ho11⟩
      rw [hdA] at h11
      have H11 : Hid (Bld B ((arsL base P ls).flatMap linL) w11) := by
        show Bld _ _ _
        rw [ars_text hP16]
        simpa [endT, List.append_assoc] using h11
      have B11 : Hid (Below B w2 w11) := B10.out.trans hb11
      have HS11 : Hid (B + 1 ≤ w11.heap.size) := Nat.le_trans HS10.out hb11.size
      clear h11 hb11 ho11 B10 H10 HS10 hdA hsA hsA2 hdL hsL
      have HPA := Lib.hid (ars_parse HPL.out)
      have hok := ars_ok HPL.out
      have HTL : Hid (((arsL base P ls).flatMap linL).length ≤ 524288) := by
        have h1 := flatM_len (f := linL) (m := 99) (arsL base P ls) (fun x hx => (lin_len (hok x hx).1 (hok x hx).2).2.2)
        rw [ars_len, ← HN.out] at h1
        show _ ≤ _; omega
      have HAOK : Hid (∀ i, i < (arsL base P ls).length → ((arsL base P ls).getD i al0).ok) := fun i hi => (hok _ (by rw [List.getD_eq_getElem?_getD, List.getElem?_eq_getElem hi]; exact List.getElem_mem hi)).2
      have HALN : Hid ((arsL base P ls).length ≤ 16384) := by show _ ≤ _; rw [ars_len, ← HN.out]; omega
      have HASM := Lib.hid (ars_asm HPL.out)
      obtain ⟨code, hcode⟩ : ∃ code, code = arsC base P ls := ⟨_, rfl⟩
      rw [← hcode] at HASM
      have HCD := Lib.hid hcode
      clear hcode
      generalize arsL base P ls = als at *
      obtain ⟨tx, htx⟩ : ∃ tx, tx = als.flatMap linL := ⟨_, rfl⟩
      rw [← htx] at HPA HTL H11
      clear htx hok
      go_wp2_with fail
      refine (bs_any B tx w11 H11.out (by have := HS11.out; omega)).mono ?_
      rintro e w12 ⟨rfl, hb12⟩
      have B12 : Hid (Below B w2 w12) := B11.out.trans hb12
      clear hb12 B11 H11
      have HPR := Lib.hid (parse_any (⟨tx.toArray⟩ : ByteArray) w12 (by rw [← size_list]; have := HTL.out; simp; omega) (HLX.out _ B12.out))
      rw [show (⟨tx.toArray⟩ : ByteArray).data.toList = tx by simp, HPA.out] at HPR
      generalize (⟨tx.toArray⟩ : ByteArray) = TXB at *
      go_wp2_with fail
      refine HPR.out.mono ?_
      rintro e w13 ⟨⟨v13, rfl, ho13⟩, hb13⟩
      obtain ⟨aa, ac, rfl, hac1, hac2, hAL⟩ := als_of_own ho13
      have HAL := Lib.hid hAL
      have B13 : Hid (Below w.heap.size w w13) := B2.out.trans ((B12.out.mono HBW.out).trans (hb13.mono (Nat.le_trans B2.out.size B12.out.size)))
      have HASS := Lib.hid (asm_any als aa ac w13 HAL.out HAOK.out (by have := HALN.out; omega))
      rw [HASM.out] at HASS
      unfold maxLen at hac2
      clear ho13 hb13 hAL HPR B12
      go_wp2_with fail
      refine HASS.out.mono ?_
      rintro e w14 ⟨⟨v14, rfl, ho14⟩, hb14⟩
      have B14 : Hid (Below w.heap.size w w14) := B13.out.trans (hb14.mono B13.out.size)
      have HO14 := Lib.hid (own_low ho14 B13.out.size)
      clear ho14 hb14 HASS
      go_wp2_with fail
      go_ret2
      rw [← HCD.out]
      exact ⟨⟨_, rfl, HO14.out⟩, B14.out⟩
    have t2 : decide ((k : Int) < (n : Int)) = true := decide_eq_true (by omega)
    obtain ⟨b, off, rfl, hb, hc⟩ := HA.out.at (by rw [← HN.out]; omega)
    have hN := HN.out
    have BW : Hid (Below w.heap.size w wr) := B2.out.trans (BB.out.mono HBW.out)
    have a0 : wr.cell? ⟨b, off + k * 2, none⟩ = some (.int .u32 ((ls.getD k pl0).fr : Int)) := (BW.out.cell hb).trans (hc k (by omega) 0 (by omega))
    have a1 : wr.cell? ⟨b, off + k * 2 + 1, none⟩ = some (.int .i64 (ls.getD k pl0).rt) := (BW.out.cell hb).trans (hc k (by omega) 1 (by omega))
    have hkl : k < ls.length := by omega
    have hmem : ls.getD k pl0 ∈ ls := by rw [List.getD_eq_getElem?_getD, List.getElem?_eq_getElem hkl]; exact List.getElem_mem hkl
    have hx := HLN.out _ hmem
    have HTK : Hid (bodsT base P 0 (ls.take (k + 1)) = bodsT base P 0 (ls.take k) ++ bodT base P k (ls.getD k pl0)) := by
      show _ = _
      rw [List.take_succ_eq_append_getElem hkl, show ls[k] = ls.getD k pl0 by rw [List.getD_eq_getElem?_getD, List.getElem?_eq_getElem hkl]; rfl, bodsT_snoc, List.length_take, Nat.min_eq_left (by omega), Nat.zero_add]
    clear hc hN hmem BW
    generalize ls.getD k pl0 = x at *
    obtain ⟨fr, rt⟩ := x
    simp only at a0 a1 hx
    obtain ⟨r, rfl⟩ : ∃ r : Nat, rt = (r : Int) := ⟨rt.toNat, by omega⟩
    have hr2 : r ≤ 65534 := by omega
    have hfr : fr < 4294967295 := hx.1
    clear hx
    obtain ⟨w7, hw7⟩ : ∃ z, z = wr.alloc (.cells #[.int .u32 (fr : Int), .int .i64 (r : Int)] 71) := ⟨_, rfl⟩
    have K7 : Hid (w7.heap[wr.heap.size]? = some (.cells #[.int .u32 (fr : Int), .int .i64 (r : Int)] 71 (0, 0))) := by rw [hw7]; exact heap_alloc_new _ _
    have H7 : Hid (Bld B (begT P ++ bodsT base P 0 (ls.take k)) w7) := HK.out.below (by rw [hw7]; exact alloc_below _ _)
    have B7 : Hid (Below B w2 w7) := by rw [hw7]; exact BB.out.alloc (by have := HSK.out; omega) _
    have HS7 : Hid (B + 1 ≤ w7.heap.size) := by rw [hw7]; show _ ≤ _; simp; have := HSK.out; omega
    have HW7 := Lib.hid hw7
    clear hw7 HK BB
    go_upto_region 12 with fail
    rw [← HW7.out]
    clear HW7 a0 a1
    obtain ⟨gl, hgl⟩ : ∃ x, x = wr.heap.size := ⟨_, rfl⟩
    rw [← hgl] at K7 HSK ⊢
    clear hgl
    go_wp2_with fail
    refine (dig_any k (by omega) w7 (HLX.out _ B7.out).tab).mono ?_
    rintro e w8 ⟨rfl, hb8⟩
    have K8 := Lib.hid (kept K7.out hb8)
    have B8 : Hid (Below B w2 w8) := B7.out.trans (hb8.mono (by have := HS7.out; omega))
    have H8 := Lib.hid (H7.out.below hb8)
    have HS8 : Hid (B + 1 ≤ w8.heap.size) := Nat.le_trans HS7.out hb8.size
    clear hb8 K7 B7 H7 HS7
    have hdk := decS_data k
    have hsk : (decS k).size ≤ 20 := decS_size k (by omega)
    generalize decS k = KS at *
    have c0 := cell_row (j := 0) K8.out rfl
    have c1 := cell_row (j := 1) K8.out rfl
    go_wp2_with fail
    refine (push32_any fr (by omega) w8 (HLX.out _ B8.out).tab).mono ?_
    rintro e w9 ⟨rfl, hb9⟩
    have K9 := Lib.hid (kept K8.out hb9)
    have B9 : Hid (Below B w2 w9) := B8.out.trans (hb9.mono (by have := HS8.out; omega))
    have H9 := Lib.hid (H8.out.below hb9)
    have HS9 : Hid (B + 1 ≤ w9.heap.size) := Nat.le_trans HS8.out hb9.size
    clear hb9 K8 B8 H8 HS8 c0 c1
    have hdF : (bytesOf (pushT fr)).data.toList = pushT fr := bytesOf_data _
    have hsF : (bytesOf (pushT fr)).size ≤ 26 := by rw [bytes_size]; exact pushT_len fr (by omega)
    generalize bytesOf (pushT fr) = FS at *
    go_wp2_with fail
    have hdN : (({ data := #[110] } : ByteArray) ++ KS).data.toList = nL k := by rw [data_app, hdk]; rfl
    have hsN : (({ data := #[110] } : ByteArray) ++ KS).size ≤ 24 := by
      rw [← size_list, hdN]
      have h1 := hsk
      rw [← size_list, hdk] at h1
      simp [nL]; omega
    generalize (({ data := #[110] } : ByteArray) ++ KS) = NX at *
    have hdA : (CS ++ FS ++ ({ data := #[101, 113, 10, 122, 101, 114, 111, 32] } : ByteArray) ++ NX ++ { data := #[10] }).data.toList = countT base ++ pushT fr ++ [101, 113, 10, 122, 101, 114, 111, 32] ++ nL k ++ [10] := by
      rw [data_app, data_app, data_app, data_app, hdC, hdF, hdN]
    have hsA : (CS ++ FS ++ ({ data := #[101, 113, 10, 122, 101, 114, 111, 32] } : ByteArray) ++ NX ++ { data := #[10] }).size ≤ 200 := by
      rw [← size_list, hdA]
      have h1 := hsC; have h2 := hsF; have h3 := hsN
      rw [← size_list, hdC] at h1; rw [← size_list, hdF] at h2; rw [← size_list, hdN] at h3
      simp; omega
    refine (bw_any B _ _ w9 H9.out (by rw [List.length_append]; omega) (by have := HS9.out; omega)).mono ?_
    rintro e w10 ⟨rfl, h10, hb10, ho10⟩
    rw [hdA] at h10
    have H10 := Lib.hid h10
    have K10 : Hid (w10.heap[gl]? = some (.cells #[.int .u32 (fr : Int), .int .i64 (r : Int)] 71 (0, 0))) := ho10 gl _ K9.out (fun e => by have := HSK.out; have e := Option.some.inj e; omega) (fun c fz e => by cases e)
    have B10 : Hid (Below B w2 w10) := B9.out.trans hb10
    have HS10 : Hid (B + 1 ≤ w10.heap.size) := Nat.le_trans HS9.out hb10.size
    clear h10 hb10 ho10 B9 H9 HS9 K9 hdA hsA hdF hsF
    have c1 := cell_row (j := 1) K10.out rfl
    have e1 : ((r : Int) + 1) % 4294967296 = ((r + 1 : Nat) : Int) := by omega
    obtain ⟨r1, hr1⟩ : ∃ r1, r1 = r + 1 := ⟨_, rfl⟩
    rw [← hr1] at e1
    have HR1 := Lib.hid hr1
    have hr3 : r1 < 4294967296 := by omega
    clear hr1
    go_wp2_with fail
    rw [show ((r : Int) + 1) = ((r1 : Nat) : Int) by have := HR1.out; omega]
    refine (push32_any r1 hr3 w10 (HLX.out _ B10.out).tab).mono ?_
    rintro e w11 ⟨rfl, hb11⟩
    have B11 : Hid (Below B w2 w11) := B10.out.trans (hb11.mono (by have := HS10.out; omega))
    have H11 := Lib.hid (H10.out.below hb11)
    have HS11 : Hid (B + 1 ≤ w11.heap.size) := Nat.le_trans HS10.out hb11.size
    clear hb11 K10 B10 H10 HS10 c1
    have hdQ : (bytesOf (pushT r1)).data.toList = pushT r1 := bytesOf_data _
    have hsQ : (bytesOf (pushT r1)).size ≤ 26 := by rw [bytes_size]; exact pushT_len r1 (by omega)
    generalize bytesOf (pushT r1) = QS at *
    go_wp2_with fail
    have hdZ : (QS ++ ({ data := #[112, 117, 116, 32] } : ByteArray) ++ PS ++ { data := #[32, 48, 10] } ++ NX ++ { data := #[58, 32] }).data.toList = pushT r1 ++ [112, 117, 116, 32] ++ Lib.decDigits P ++ [32, 48, 10] ++ nL k ++ [58, 32] := by
      rw [data_app, data_app, data_app, data_app, data_app, hdQ, hdP, hdN]
    have hsZ : (QS ++ ({ data := #[112, 117, 116, 32] } : ByteArray) ++ PS ++ { data := #[32, 48, 10] } ++ NX ++ { data := #[58, 32] }).size ≤ 200 := by
      rw [← size_list, hdZ]
      have h1 := hsQ; have h2 := hsP; have h3 := hsN
      rw [← size_list, hdQ] at h1; rw [← size_list, hdP] at h2; rw [← size_list, hdN] at h3
      simp; omega
    have hsA2 : (countT base ++ pushT fr ++ [101, 113, 10, 122, 101, 114, 111, 32] ++ nL k ++ [10]).length ≤ 200 := by
      have h1 := countT_len base (by omega); have h2 := pushT_len fr (by omega); have h3 := hsN
      rw [← size_list, hdN] at h3
      simp; omega
    refine (bw_any B _ _ w11 H11.out (by rw [List.length_append, List.length_append]; omega) (by have := HS11.out; omega)).mono ?_
    rintro e w12 ⟨rfl, h12, hb12, ho12⟩
    rw [hdZ] at h12
    have H12 : Hid (Bld B (begT P ++ bodsT base P 0 (ls.take (k + 1))) w12) := by
      show Bld _ _ _
      rw [HTK.out]
      have e3 : bodT base P k ⟨fr, (r : Int)⟩ = countT base ++ pushT fr ++ [101, 113, 10, 122, 101, 114, 111, 32] ++ nL k ++ [10] ++ (pushT r1 ++ [112, 117, 116, 32] ++ Lib.decDigits P ++ [32, 48, 10] ++ nL k ++ [58, 32]) := by
        unfold bodT PL.ask
        rw [HR1.out]; rfl
      rw [e3]
      simpa [List.append_assoc] using h12
    have B12 : Hid (Below B w2 w12) := B11.out.trans hb12
    have HS12 : Hid (B + 1 ≤ w12.heap.size) := Nat.le_trans HS11.out hb12.size
    clear h12 hb12 ho12 B11 H11 HS11 hdZ hsZ hsA2 hdQ hsQ hdN hsN hdk hsk e1
    go_wp2_with fail
    refine ⟨⟨k + 1, by omega, by go_num, H12, B12, HS12⟩, ?_⟩
    simp [intOf]; omega
end Go.Proofs.YtdlpgoackmgdkaaGreatDoor
