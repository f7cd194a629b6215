/- The writer's put, end. -/
import Derived.Test.YtpodedhnlicckaaGreatDoorTbBl
namespace Go.Proofs.YtpodedhnlicckaaGreatDoor
open Go.Shelf Go.RowKit
set_option linter.unusedVariables false
set_option linter.unusedSimpArgs false
def put1 (l s : List UInt8) : List UInt8 := (if l = [] ∨ l.getLast? = some 10 then l else l ++ [32]) ++ s
def putL (l : List UInt8) (ws : List ByteArray) : List UInt8 := ws.foldl (fun l s => put1 l s.data.toList) l
theorem putL_take {l : List UInt8} {ws : List ByteArray} {k : Nat} {s : ByteArray} (h : ws[k]? = some s) : putL l (ws.take (k + 1)) = put1 (putL l (ws.take k)) s.data.toList := by
  unfold putL
  rw [List.take_add_one, h, List.foldl_append]; rfl
def byteN (s : ByteArray) (k : Nat) : Nat := (s.data.toList.getD k 0).toNat
theorem byteN_lt (s : ByteArray) (k : Nat) : byteN s k < 256 := UInt8.toNat_lt _
theorem index_str (s : ByteArray) (k : Nat) (h : k < s.size) (t : TypeId) (ht : Tryz.prog.underlying t = some .string) (w : World) : (Instr.index t (.string s) (.int .i64 (k : Int))).run Tryz.prog w = .ok (.int .u8 ((byteN s k : Nat) : Int)) w := by
  rw [run_index_string w t s .i64 (k : Int) ht, dif_pos ⟨by omega, by omega⟩]
  have hk : k < s.data.toList.length := by simpa using h
  have e : byteN s k = (s.data.toList[k]).toNat := by unfold byteN; rw [List.getD_eq_getElem?_getD, List.getElem?_eq_getElem hk]; rfl
  rw [e]
  rfl
theorem strs_get {ws : List ByteArray} {k : Nat} {s : ByteArray} (h : ws[k]? = some s) : ((ws.map Value.string).toArray)[k]? = some (Value.string s) := by
  rw [List.getElem?_toArray, List.getElem?_map, h]; rfl
set_option maxHeartbeats 4000000 in
set_option maxRecDepth 100000 in
theorem put_any (B b gs : Nat) (l : List UInt8) (bad : Bool) (ws : List ByteArray) (c : Nat) (w : World) (h : WrAt B b l bad w) (hg : w.heap[gs]? = some (.cells (ws.map Value.string).toArray 9 (0, 0))) (hgb : gs ≠ b) (hn : ws.length ≤ 1000) (hlen : ∀ k, (putL l (ws.take k)).length ≤ 100000000) (hs : ∀ s ∈ ws, s.size ≤ 1000000) (hB : B ≤ w.heap.size) :
    Calls Tryz.prog 83 #[.pointer (some ⟨b, 0, none⟩), .slice (some ⟨gs, 0, none⟩) ws.length c] w fun e w' => e = .returned (.tuple #[]) ∧ WrAt B b (putL l ws) bad w' ∧ Below B w w' ∧ Lib.OthersKept 5 (some b) w w' := by
  have HW := Lib.hid h; have HG := Lib.hid hg; have HLN := Lib.hid hlen; have HS := Lib.hid hs
  have HEX : Hid (∀ k, k < ws.length → ∃ s, ws[k]? = some s ∧ s ∈ ws) := fun k hk => ⟨ws[k], List.getElem?_eq_getElem hk, List.getElem_mem hk⟩
  have HTA : Hid (∀ k s, ws[k]? = some s → putL l (ws.take (k + 1)) = put1 (putL l (ws.take k)) s.data.toList) := fun k s h => putL_take h
  have HFU : Hid (putL l (ws.take ws.length) = putL l ws) := by show _ = _; rw [List.take_length]
  have HZL : Hid (putL l (ws.take 0) = l) := by show _ = _; rfl
  have HCE := Lib.hid (fun k s (h : ws[k]? = some s) => strs_get h)
  clear h hg hlen hs
  generalize hN : ws.length = n at *
  have HB := Lib.hid hB
  clear hN hB
  go_enter Tryz.func83, Tryz.ntmps83
  go_wp2_with fail
  go_loopw [9] (fun i wr => ∃ k : Nat, k ≤ n ∧ i = .int .i64 (k : Int) ∧ Hid (WrAt B b (putL l (ws.take k)) bad wr) ∧ Hid (Below B w wr) ∧ Hid (Lib.OthersKept 5 (some b) w wr)) (fun i _ => n - (intOf i).toNat)
  case atStart => exact ⟨0, Nat.zero_le _, rfl, by show WrAt _ _ _ _ _; rw [HZL.out]; exact HW.out, Below.refl _ _, Lib.OthersKept.refl _ _ _⟩
  case round =>
    obtain ⟨k, hk, rfl, HR, BB, OK⟩ := hrel
    rcases Nat.lt_or_ge k n with hk2 | hk2
    case inr =>
      obtain rfl : k = n := by omega
      have t2 : decide ((k : Int) < (k : Int)) = false := by simp
      go_wp2_with fail
      go_end0
      exact ⟨rfl, by rw [← HFU.out]; exact HR.out, BB.out, OK.out⟩
    have t2 : decide ((k : Int) < (n : Int)) = true := decide_eq_true (by omega)
    obtain ⟨s, hk1, hk3⟩ := HEX.out k hk2
    have hss : s.size ≤ 1000000 := HS.out s hk3
    have G1 : Hid (wr.heap[gs]? = some (.cells (ws.map Value.string).toArray 9 (0, 0))) := OK.out gs _ HG.out (by intro e; exact hgb (Option.some.inj e)) (by intro c fz e; injection e with _ e2 _; exact absurd e2 (by decide))
    have c0 : wr.cell? ⟨gs, k, none⟩ = some (.string s) := cell_row G1.out (HCE.out k s hk1)
    have HT := Lib.hid (HTA.out k s hk1)
    have h1 : (putL l (ws.take k)).length ≤ 100000000 := HLN.out k
    have HLT := Lib.hid h1
    clear hk1 hk3 HEX HTA HCE HS
    generalize putL l (ws.take k) = L at *
    go_wp2_with fail
    refine (wl_any B b L bad wr HR.out).mono ?_
    rintro e w2 ⟨rfl, hw2⟩
    obtain rfl : wr = w2 := hw2.symm
    by_cases hL : L = []
    · subst hL
      have HP : Hid (putL l (ws.take (k + 1)) = [] ++ s.data.toList) := by show _ = _; rw [HT.out]; unfold put1; rw [if_pos (.inl rfl)]
      clear HT c0
      go_wp2_with fail
      refine (ws_any B b [] bad s wr HR.out (by omega) (Nat.le_trans HB.out BB.out.size)).mono ?_
      rintro e w3 ⟨rfl, hu, hb3, ho3⟩
      have HU : Hid (WrAt B b (putL l (ws.take (k + 1))) bad w3) := by show WrAt _ _ _ _ _; rw [HP.out]; exact hu.wr
      have B3 := Lib.hid (BB.out.trans hb3); have O3 := Lib.hid (OK.out.trans ho3)
      clear hu hb3 ho3
      go_wp2_with fail
      refine ⟨⟨k + 1, by omega, by go_num, HU, B3, O3⟩, ?_⟩
      simp [intOf]; omega
    · obtain ⟨p, x, rfl⟩ : ∃ p x, L = p ++ [x] := ⟨L.dropLast, L.getLast hL, (List.dropLast_concat_getLast hL).symm⟩
      have hlp : (p ++ [x]).length = p.length + 1 := by simp
      have HIX : Hid (∀ W, (Instr.index 9 (.string ⟨(p ++ [x]).toArray⟩) (.int .i64 (((p ++ [x]).length : Int) - 1))).run Tryz.prog W = .ok (.int .u8 ((x.toNat : Nat) : Int)) W) := fun W => by
        have h := index_str ⟨(p ++ [x]).toArray⟩ p.length (by show p.length < (p ++ [x]).toArray.size; simp) 9 Tryz.underlying9 W
        have e1 : byteN ⟨(p ++ [x]).toArray⟩ p.length = x.toNat := by unfold byteN; simp
        have e2 : (((p ++ [x]).length : Nat) : Int) - 1 = ((p.length : Nat) : Int) := by rw [hlp]; omega
        rw [e1] at h
        rw [e2]; exact h
      have HNE : Hid (p ++ [x] ≠ []) := hL
      have HGL : Hid ((p ++ [x]).getLast? = some x) := by show _ = _; simp
      have hm0 : 1 ≤ (p ++ [x]).length := by omega
      have HS1 := Lib.hid (wstr_any B b (p ++ [x]) bad wr HR.out hL (by omega))
      clear hL hlp
      generalize p ++ [x] = M at *
      generalize hml : M.length = m at *
      have HML := Lib.hid hml
      clear hml
      have t3 : decide ((0 : Int) < (m : Int)) = true := decide_eq_true (by omega)
      have hi := HIX.out
      generalize hSS : (⟨M.toArray⟩ : ByteArray) = SS at *
      clear hSS
      go_wp2_with fail
      refine HS1.out.mono ?_
      rintro e w3 ⟨rfl, hr3, hb3, ho3⟩
      have R3 := Lib.hid hr3; have B3 := Lib.hid (BB.out.trans hb3); have O3 := Lib.hid (OK.out.trans ho3)
      clear hr3 hb3 ho3 BB OK HR HS1 c0
      have HZ3 : Hid (B ≤ w3.heap.size) := Nat.le_trans HB.out B3.out.size
      by_cases hx : x = 10
      · have t4 : (((x.toNat : Nat) : Int) != 10) = false := by rw [hx]; rfl
        have HP : Hid (putL l (ws.take (k + 1)) = M ++ s.data.toList) := by show _ = _; rw [HT.out]; unfold put1; rw [if_pos (.inr (by rw [HGL.out, hx]))]
        clear HT HGL HNE hx
        go_wp2_with fail
        refine (ws_any B b M bad s w3 R3.out (by have := HML.out; omega) HZ3.out).mono ?_
        rintro e w4 ⟨rfl, hu, hb4, ho4⟩
        have HU : Hid (WrAt B b (putL l (ws.take (k + 1))) bad w4) := by show WrAt _ _ _ _ _; rw [HP.out]; exact hu.wr
        have B4 := Lib.hid (B3.out.trans hb4); have O4 := Lib.hid (O3.out.trans ho4)
        clear hu hb4 ho4
        go_wp2_with fail
        refine ⟨⟨k + 1, by omega, by go_num, HU, B4, O4⟩, ?_⟩
        simp [intOf]; omega
      · have t4 : (((x.toNat : Nat) : Int) != 10) = true := bne_iff_ne.2 (fun e => hx (UInt8.toNat_inj.1 (by show x.toNat = 10; omega)))
        have HP : Hid (putL l (ws.take (k + 1)) = (M ++ [32]) ++ s.data.toList) := by
          show _ = _
          rw [HT.out]; unfold put1
          rw [if_neg]
          rintro (e | e)
          · exact HNE.out e
          · rw [HGL.out] at e; exact hx (Option.some.inj e)
        have HWB := Lib.hid (wb_any B b M bad 32 w3 R3.out (by have := HML.out; omega) HZ3.out)
        clear HT HGL HNE hx R3
        go_wp2_with fail
        refine HWB.out.mono ?_
        rintro e w4 ⟨rfl, hu, hb4, ho4⟩
        have R4 := Lib.hid hu.wr
        have B4 := Lib.hid (B3.out.trans hb4); have O4 := Lib.hid (O3.out.trans ho4)
        have HZ4 : Hid (B ≤ w4.heap.size) := Nat.le_trans HB.out B4.out.size
        clear hu hb4 ho4 HWB B3 O3
        go_wp2_with fail
        refine (ws_any B b (M ++ [32]) bad s w4 R4.out (by have := HML.out; rw [List.length_append]; simp; omega) HZ4.out).mono ?_
        rintro e w5 ⟨rfl, hu, hb5, ho5⟩
        have HU : Hid (WrAt B b (putL l (ws.take (k + 1))) bad w5) := by show WrAt _ _ _ _ _; rw [HP.out]; exact hu.wr
        have B5 := Lib.hid (B4.out.trans hb5); have O5 := Lib.hid (O4.out.trans ho5)
        clear hu hb5 ho5
        go_wp2_with fail
        refine ⟨⟨k + 1, by omega, by go_num, HU, B5, O5⟩, ?_⟩
        simp [intOf]; omega
set_option maxRecDepth 100000 in
theorem wend_any (B b : Nat) (l : List UInt8) (bad : Bool) (w : World) (h : WrAt B b l bad w) (hlen : l.length ≤ 100000000) (hB : B ≤ w.heap.size) :
    Calls Tryz.prog 44 #[.pointer (some ⟨b, 0, none⟩)] w fun e w' => e = .returned (.tuple #[]) ∧ WrAt B b (l ++ [10]) bad w' ∧ Below B w w' ∧ Lib.OthersKept 5 (some b) w w' := by
  have H := Lib.hid (wb_any B b l bad 10 w h (by omega) hB)
  clear h
  go_enter Tryz.func44, Tryz.ntmps44
  go_wp2_with fail
  refine H.out.mono ?_
  rintro e w2 ⟨rfl, hu, hb, ho⟩
  have HU := Lib.hid hu.wr; have HB := Lib.hid hb; have HO := Lib.hid ho
  clear hu hb ho H
  go_wp2_with fail
  go_end0
  exact ⟨rfl, HU.out, HB.out, HO.out⟩
end Go.Proofs.YtpodedhnlicckaaGreatDoor
