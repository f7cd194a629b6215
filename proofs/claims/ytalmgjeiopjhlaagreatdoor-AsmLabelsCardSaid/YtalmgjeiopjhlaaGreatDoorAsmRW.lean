/- Plain: what a text is parsed as. -/
import Derived.Test.YtalmgjeiopjhlaaGreatDoorAsmP
import Derived.Test.YtalmgjeiopjhlaaGreatDoorAsmQ
import Derived.Deep.OwnRows
import Derived.Maps.AppendAt
namespace Go.Proofs.YtalmgjeiopjhlaaGreatDoor
set_option linter.unusedVariables false
set_option linter.unusedSimpArgs false
def bytesOf (l : List UInt8) : ByteArray := ⟨l.toArray⟩
theorem bytesOf_data (l : List UInt8) : (bytesOf l).data.toList = l := by simp [bytesOf]
theorem bytesOf_of (s : ByteArray) : bytesOf s.data.toList = s := by obtain ⟨⟨l⟩⟩ := s; rfl
def wordsB (l : List UInt8) : List ByteArray := (wordsL l).map bytesOf
theorem wordsB_len (l : List UInt8) : (wordsB l).length = (wordsL l).length := by simp [wordsB]
theorem map_bytes {bs : List ByteArray} {ls : List (List UInt8)} (h : bs.map (·.data.toList) = ls) : bs = ls.map bytesOf := by
  rw [← h, List.map_map]
  conv => lhs; rw [← List.map_id bs]
  apply List.map_congr_left
  intro b _
  exact (bytesOf_of b).symm
def parseG : Nat → List AL → List (List UInt8) → List AL × Nat × Nat
  | _, acc, [] => (acc, 0, 0)
  | n, acc, l :: ls =>
    if wordsL l = [] then parseG (n + 1) acc ls else
    if (lineS (wordsB l)).1 ≠ 0 then ([], n + 1, (lineS (wordsB l)).1) else
    if acc.length = 16384 then ([], n + 1, 3) else parseG (n + 1) (acc ++ [(lineS (wordsB l)).2]) ls
def parseS (l : List UInt8) : List AL × Nat × Nat := if 524288 < l.length then ([], 0, 3) else parseG 0 [] (partL 10 l)
theorem parseG_blank {n : Nat} {acc : List AL} {l : List UInt8} {ls : List (List UInt8)} (h : wordsL l = []) : parseG n acc (l :: ls) = parseG (n + 1) acc ls := by rw [parseG, if_pos h]
theorem parseG_bad {n : Nat} {acc : List AL} {l : List UInt8} {ls : List (List UInt8)} (h : wordsL l ≠ []) (he : (lineS (wordsB l)).1 ≠ 0) : parseG n acc (l :: ls) = ([], n + 1, (lineS (wordsB l)).1) := by rw [parseG, if_neg h, if_pos he]
theorem parseG_long {n : Nat} {acc : List AL} {l : List UInt8} {ls : List (List UInt8)} (h : wordsL l ≠ []) (he : (lineS (wordsB l)).1 = 0) (ha : acc.length = 16384) : parseG n acc (l :: ls) = ([], n + 1, 3) := by rw [parseG, if_neg h, if_neg (not_not_intro he), if_pos ha]
theorem parseG_line {n : Nat} {acc : List AL} {l : List UInt8} {ls : List (List UInt8)} (h : wordsL l ≠ []) (he : (lineS (wordsB l)).1 = 0) (ha : acc.length ≠ 16384) : parseG n acc (l :: ls) = parseG (n + 1) (acc ++ [(lineS (wordsB l)).2]) ls := by rw [parseG, if_neg h, if_neg (not_not_intro he), if_neg ha]
/-- The words' sizes. -/
theorem wordsB_size {l : List UInt8} (i : Nat) (h : i < (wordsB l).length) : 0 < ((wordsB l).getD i eS).size ∧ ((wordsB l).getD i eS).size ≤ l.length := by
  have hm : (wordsB l).getD i eS ∈ wordsB l := by
    rw [List.getD_eq_getElem?_getD, List.getElem?_eq_getElem h]; exact List.getElem_mem h
  obtain ⟨x, hx, he⟩ := List.mem_map.1 hm
  have := wordsL_nonempty hx
  rw [← he]
  have hs : (bytesOf x).size = x.length := by show x.toArray.size = _; simp
  rw [hs]
  exact ⟨List.length_pos_iff.2 this.1, this.2⟩
end Go.Proofs.YtalmgjeiopjhlaaGreatDoor
/- The document's Words. -/
namespace Go.Proofs.YtalmgjeiopjhlaaGreatDoor
open Go.Shelf Go.RowKit Go.WideMaps Go.Maps
set_option linter.unusedVariables false
set_option linter.unusedSimpArgs false
theorem sub_run (s : ByteArray) (i j : Nat) (hi : i ≤ j) (h : j ≤ s.size) (t : TypeId) (ht : Tryz.prog.underlying t = some .string) (w : World) : (Instr.sliceAt t (.string s) (some (.int .i64 (i : Int))) (some (.int .i64 (j : Int))) none).run Tryz.prog w = .ok (.string (s.extract i j)) w := by
  rw [run_sliceAt_string w t _ _ _ _ ht]
  simp [Instr.slice, run_underlying ht, Instr.sliceBounds, run_sliceBound, h, hi]
theorem one_byte_data (s : ByteArray) (k : Nat) (h : k < s.size) : (s.extract k (k + 1)).data.toList = [s.data.toList.getD k 0] := by
  have hl : s.data.toList.length = s.size := by rw [Array.length_toList]; rfl
  rw [Lib.extract_data, List.drop_eq_getElem_cons (by omega), Nat.add_sub_cancel_left, List.take_succ_cons, List.take_zero]
  rw [List.getD_eq_getElem?_getD, List.getElem?_eq_getElem (by omega)]; rfl
/-- A result that is a row of strings of the call's own. -/
structure OutW (base : Nat) (w' : World) (ws : List ByteArray) (e : Ending) : Prop where
  at_ : ∃ v, e = .returned v ∧ w'.ownsRow base 9 1 v ws.length (ws.map Value.string)
def rowsV1 (ls : List (List UInt8)) : List Value := (ls.map bytesOf).map Value.string
theorem rowsV1_snoc (ls : List (List UInt8)) (cur : ByteArray) : rowsV1 ls ++ [.string cur] = rowsV1 (ls ++ [cur.data.toList]) := by
  unfold rowsV1; simp [bytesOf_of]
theorem drop_byte {l : List UInt8} {k : Nat} (h : k < l.length) : l.drop k = l.getD k 0 :: l.drop (k + 1) := by
  rw [List.drop_eq_getElem_cons h, List.getD_eq_getElem?_getD, List.getElem?_eq_getElem h]; rfl
set_option maxRecDepth 100000 in
set_option maxHeartbeats 4000000 in
theorem rwords_any (s : ByteArray) (w : World) (hs : s.size ≤ 1000000) :
    Calls Tryz.prog 42 #[.string s] w fun e w' => OutW w.heap.size w' (wordsB s.data.toList) e ∧ Below w.heap.size w w' := by
  have HI : ∀ k, k < s.size → ∀ W, (Instr.index 9 (.string s) (.int .i64 (k : Int))).run Tryz.prog W = .ok (.int .u8 ((byteN s k : Nat) : Int)) W := fun k hk W => index_str s k hk 9 Tryz.underlying9 W
  have HSB := Lib.hid (fun k (hk : k < s.size) W => sub_run s k (k + 1) (by omega) (by omega) 9 Tryz.underlying9 W)
  have HOB := Lib.hid (fun k (hk : k < s.size) => one_byte_data s k hk)
  have HDB := Lib.hid (fun k (hk : k < s.size) => drop_byte (l := s.data.toList) (k := k) (by rw [size_list]; exact hk))
  have HEN : Hid (∀ k, s.size ≤ k → s.data.toList.drop k = []) := fun k hk => List.drop_of_length_le (by rw [size_list]; exact hk)
  have HBY : Hid (∀ k, byteN s k = (s.data.toList.getD k 0).toNat) := fun k => rfl
  have HRS : Hid (wordsB s.data.toList = (wordsL s.data.toList).map bytesOf) := rfl
  have HW0 : Hid (wordsL s.data.toList = [] ++ wordsG [] (aheadL 59 (s.data.toList.drop 0))) := rfl
  obtain ⟨i0, hi, hz0, hz1, hz2⟩ := info_parts (show (Tryz.prog.info? 9).map (fun i => (i.zero, i.size, i.bytes)) = some (some (.string ⟨#[]⟩), 1, 16) by kernel_rfl)
  have HIn := Lib.hid hi; have HZ0 := Lib.hid hz0; have HZ1 := Lib.hid hz1; have HZ2 := Lib.hid hz2
  clear hi hz0 hz1 hz2
  generalize hsz : s.size = sz at *
  generalize s.data.toList = l at HOB HDB HEN HBY HRS HW0
  go_enter Tryz.func42, Tryz.ntmps42
  go_wp2_with fail
  go_loopw [3, 4, 5] (fun v c i wr => ∃ (k : Nat) (cur : ByteArray) (out : List (List UInt8)), k ≤ sz ∧ c = .string cur ∧ i = .int .i64 (k : Int) ∧ out.length ≤ k ∧ cur.size ≤ k ∧ Hid (wordsL l = out ++ wordsG cur.data.toList (aheadL 59 (l.drop k))) ∧ Hid (wr.ownsRow w.heap.size 9 1 v out.length (rowsV1 out)) ∧ Hid (Below w.heap.size w wr)) (fun _ _ i _ => sz - (intOf i).toNat)
  case atStart => exact ⟨0, ⟨#[]⟩, [], Nat.zero_le _, rfl, rfl, Nat.zero_le _, Nat.le_refl _, HW0, World.ownsRow_nil _ _ _ _, Below.refl _ _⟩
  case round =>
    obtain ⟨k, cur, out, hk, rfl, rfl, hol, hcl, HV, HO, HB⟩ := hrel
    have E59 : Hid (∀ x : UInt8, x.toNat = 59 → x = 59) := fun x h => UInt8.toNat_inj.1 h
    have E32 : Hid (∀ x : UInt8, x.toNat = 32 → x = 32) := fun x h => UInt8.toNat_inj.1 h
    rcases Nat.lt_or_ge k sz with hk2 | hk2
    case inr =>
      obtain rfl : k = sz := by omega
      have t2 : decide ((k : Int) < (k : Int)) = false := by simp
      have HF : Hid (wordsL l = out ++ flushL cur.data.toList []) := by
        have := HV.out; rw [HEN.out k (Nat.le_refl _)] at this; exact this
      clear HV HI
      by_cases hz : cur.size = 0
      · have te := empty_is hz
        have HF2 : Hid (wordsL l = out) := by
          have := HF.out
          rw [← size_list] at hz
          rw [List.length_eq_zero_iff.1 hz] at this
          show _ = _
          rw [this]; exact List.append_nil _
        clear HF
        go_wp2_with fail
        go_ret
        refine ⟨⟨_, rfl, ?_⟩, HB.out⟩
        rw [HRS.out, HF2.out, List.length_map]; exact HO.out
      · have te := empty_no (Nat.pos_of_ne_zero hz)
        have HF2 : Hid (wordsL l = out ++ [cur.data.toList]) := by
          have := HF.out
          unfold flushL at this
          rw [if_neg (fun e => hz (by rw [← size_list, e]; rfl))] at this
          exact this
        clear HF
        -- the word CUR is appended
        have HW : Hid (∀ j u, [Value.string cur][j]? = some u → (wr.alloc (.cells #[.string cur] 9)).cell? ((⟨wr.heap.size, 0, none⟩ : Addr).add j) = some u) := cell_one_new _ _ _
        have OA := Lib.hid (HO.out.alloc (.cells #[.string cur] 9))
        have HZ : Hid (w.heap.size ≤ wr.heap.size) := HB.out.size
        go_wp2_with (at_builtin; refine wpList_append_own _ rfl _ _ 48 rfl w.heap.size 9 i0 (.string ⟨#[]⟩) 1 16 Tryz.underlying48 HIn.out HZ0.out HZ1.out HZ2.out rfl (by decide) u3 out.length _ rfl OA.out ⟨wr.heap.size, 0, none⟩ 1 1 [.string cur] rfl rfl HW.out (fun u hu => by simp at hu; rw [hu]; rfl) (by unfold maxLen; omega) (by omega) (by simp; have := HZ.out; omega) ?_)
        intro v2 w2 ho2 hg2 _
        have B2 : Hid (Below w.heap.size w w2) := (HB.out.alloc HB.out.size _).grown hg2 (by simp; have := HZ.out; omega) (fun j hj => (HO.out.lt j hj).1)
        have O2 : Hid (w2.ownsRow w.heap.size 9 1 v2 (out ++ [(cur).data.toList]).length (rowsV1 (out ++ [(cur).data.toList]))) := by
          show World.ownsRow _ _ _ _ _ _ _
          rw [← rowsV1_snoc, List.length_append]; exact ho2
        clear ho2 hg2 OA HW
        go_wp2_with fail
        go_ret
        refine ⟨⟨_, rfl, ?_⟩, B2.out⟩
        rw [HRS.out, HF2.out, List.length_map]; exact O2.out
    have t2 : decide ((k : Int) < (sz : Int)) = true := decide_eq_true (by omega)
    have hix := HI k hk2
    have HONE := Lib.hid (HOB.out k hk2)
    have HDR := Lib.hid (HDB.out k hk2)
    have hxb := HBY.out k
    clear HI
    generalize byteN s k = x at *
    generalize l.getD k 0 = bx at *
    have HXB := Lib.hid hxb
    clear hxb
    have hx : x < 256 := HXB.out ▸ UInt8.toNat_lt _
    by_cases h59 : x = 59
    · have HF : Hid (wordsL l = out ++ flushL cur.data.toList []) := by
        have := HV.out; rw [HDR.out, E59.out _ (HXB.out.symm.trans h59), ahead_hit] at this; exact this
      subst h59
      clear HV HONE
      by_cases hz : cur.size = 0
      · have te := empty_is hz
        have HF2 : Hid (wordsL l = out) := by
          have := HF.out
          rw [← size_list] at hz
          rw [List.length_eq_zero_iff.1 hz] at this
          show _ = _
          rw [this]; exact List.append_nil _
        clear HF
        go_wp2_with fail
        go_ret
        refine ⟨⟨_, rfl, ?_⟩, HB.out⟩
        rw [HRS.out, HF2.out, List.length_map]; exact HO.out
      · have te := empty_no (Nat.pos_of_ne_zero hz)
        have HF2 : Hid (wordsL l = out ++ [cur.data.toList]) := by
          have := HF.out
          unfold flushL at this
          rw [if_neg (fun e => hz (by rw [← size_list, e]; rfl))] at this
          exact this
        clear HF
        -- the word CUR is appended
        have HW : Hid (∀ j u, [Value.string cur][j]? = some u → (wr.alloc (.cells #[.string cur] 9)).cell? ((⟨wr.heap.size, 0, none⟩ : Addr).add j) = some u) := cell_one_new _ _ _
        have OA := Lib.hid (HO.out.alloc (.cells #[.string cur] 9))
        have HZ : Hid (w.heap.size ≤ wr.heap.size) := HB.out.size
        go_wp2_with (at_builtin; refine wpList_append_own _ rfl _ _ 48 rfl w.heap.size 9 i0 (.string ⟨#[]⟩) 1 16 Tryz.underlying48 HIn.out HZ0.out HZ1.out HZ2.out rfl (by decide) u3 out.length _ rfl OA.out ⟨wr.heap.size, 0, none⟩ 1 1 [.string cur] rfl rfl HW.out (fun u hu => by simp at hu; rw [hu]; rfl) (by unfold maxLen; omega) (by omega) (by simp; have := HZ.out; omega) ?_)
        intro v2 w2 ho2 hg2 _
        have B2 : Hid (Below w.heap.size w w2) := (HB.out.alloc HB.out.size _).grown hg2 (by simp; have := HZ.out; omega) (fun j hj => (HO.out.lt j hj).1)
        have O2 : Hid (w2.ownsRow w.heap.size 9 1 v2 (out ++ [(cur).data.toList]).length (rowsV1 (out ++ [(cur).data.toList]))) := by
          show World.ownsRow _ _ _ _ _ _ _
          rw [← rowsV1_snoc, List.length_append]; exact ho2
        clear ho2 hg2 OA HW
        go_wp2_with fail
        go_ret
        refine ⟨⟨_, rfl, ?_⟩, B2.out⟩
        rw [HRS.out, HF2.out, List.length_map]; exact O2.out
    have q59 : ((x : Int) != 59) = true := bne_iff_ne.2 (by omega)
    have HV : Hid (wordsL l = out ++ wordsG cur.data.toList (bx :: aheadL 59 (l.drop (k + 1)))) := by
      have := HV.out; rw [HDR.out, ahead_miss (fun e => h59 (by rw [HXB.out, e]; rfl))] at this; exact this
    by_cases h32 : x = 32
    · have HV : Hid (wordsL l = out ++ flushL cur.data.toList (wordsG [] (aheadL 59 (l.drop (k + 1))))) := by
        have := HV.out; rw [E32.out _ (HXB.out.symm.trans h32), wordsG, if_pos rfl] at this; exact this
      subst h32
      clear HONE
      by_cases hz : cur.size = 0
      · have te := empty_is hz
        have HV2 : Hid (wordsL l = out ++ wordsG (⟨#[]⟩ : ByteArray).data.toList (aheadL 59 (l.drop (k + 1)))) := by
          have := HV.out; rw [← size_list] at hz; rw [List.length_eq_zero_iff.1 hz] at this; exact this
        have hce : cur = ⟨#[]⟩ := bytes_ext (by rw [← size_list] at hz; exact List.length_eq_zero_iff.1 hz)
        go_wp2_with fail
        refine ⟨⟨k + 1, cur, out, by omega, rfl, by go_num, by omega, by omega, by rw [hce]; exact HV2, HO, HB⟩, ?_⟩
        simp [intOf]; omega
      · have te := empty_no (Nat.pos_of_ne_zero hz)
        have HV2 : Hid (wordsL l = (out ++ [cur.data.toList]) ++ wordsG (⟨#[]⟩ : ByteArray).data.toList (aheadL 59 (l.drop (k + 1)))) := by
          have := HV.out
          unfold flushL at this
          rw [if_neg (fun e => hz (by rw [← size_list, e]; rfl))] at this
          show _ = _
          rw [this, List.append_assoc]; rfl
        clear HV
        -- the word CUR is appended
        have HW : Hid (∀ j u, [Value.string cur][j]? = some u → (wr.alloc (.cells #[.string cur] 9)).cell? ((⟨wr.heap.size, 0, none⟩ : Addr).add j) = some u) := cell_one_new _ _ _
        have OA := Lib.hid (HO.out.alloc (.cells #[.string cur] 9))
        have HZ : Hid (w.heap.size ≤ wr.heap.size) := HB.out.size
        go_wp2_with (at_builtin; refine wpList_append_own _ rfl _ _ 48 rfl w.heap.size 9 i0 (.string ⟨#[]⟩) 1 16 Tryz.underlying48 HIn.out HZ0.out HZ1.out HZ2.out rfl (by decide) u3 out.length _ rfl OA.out ⟨wr.heap.size, 0, none⟩ 1 1 [.string cur] rfl rfl HW.out (fun u hu => by simp at hu; rw [hu]; rfl) (by unfold maxLen; omega) (by omega) (by simp; have := HZ.out; omega) ?_)
        intro v2 w2 ho2 hg2 _
        have B2 : Hid (Below w.heap.size w w2) := (HB.out.alloc HB.out.size _).grown hg2 (by simp; have := HZ.out; omega) (fun j hj => (HO.out.lt j hj).1)
        have O2 : Hid (w2.ownsRow w.heap.size 9 1 v2 (out ++ [(cur).data.toList]).length (rowsV1 (out ++ [(cur).data.toList]))) := by
          show World.ownsRow _ _ _ _ _ _ _
          rw [← rowsV1_snoc, List.length_append]; exact ho2
        clear ho2 hg2 OA HW
        go_wp2_with fail
        refine ⟨⟨k + 1, ⟨#[]⟩, out ++ [cur.data.toList], by omega, rfl, by go_num, by rw [List.length_append]; simp; omega, Nat.zero_le _, HV2, O2, B2⟩, ?_⟩
        simp [intOf]; omega
    have q32 : ((x : Int) != 32) = true := bne_iff_ne.2 (by omega)
    have HV2 : Hid (wordsL l = out ++ wordsG (cur ++ s.extract k (k + 1)).data.toList (aheadL 59 (l.drop (k + 1)))) := by
      have := HV.out
      rw [wordsG, if_neg (fun e => h32 (by rw [HXB.out, e]; rfl))] at this
      show _ = _
      rw [data_app, HONE.out]; exact this
    have h1 : (s.extract k (k + 1)).size = 1 := by rw [← size_list, HONE.out]; rfl
    have hcs : (cur ++ s.extract k (k + 1)).size = cur.size + 1 := by rw [← size_list, data_app, List.length_append, size_list, size_list, h1]
    have HCS := Lib.hid hcs
    have hone := Nat.le_of_eq h1
    clear HV h1 hcs HONE
    go_wp2_with fail
    refine ⟨⟨k + 1, cur ++ s.extract k (k + 1), out, by omega, rfl, by go_num, by omega, by rw [HCS.out]; omega, HV2, HO, HB⟩, ?_⟩
    simp [intOf]; omega
end Go.Proofs.YtalmgjeiopjhlaaGreatDoor
/- The document's Parse. -/
namespace Go.Proofs.YtalmgjeiopjhlaaGreatDoor
open Go.Shelf Go.RowKit Go.WideMaps Go.Maps
set_option linter.unusedVariables false
set_option linter.unusedSimpArgs false
structure OutA (base : Nat) (w' : World) (r : List AL × Nat × Nat) (e : Ending) : Prop where
  at_ : ∃ v, e = .returned (.tuple #[v, .int .i64 ((r.2.1 : Nat) : Int), .int .i64 ((r.2.2 : Nat) : Int)]) ∧ w'.ownsRow base 34 6 v r.1.length (alVs r.1)
theorem OutA.none (base : Nat) (w' : World) (k e : Nat) : OutA base w' ([], k, e) (.returned (.tuple #[.slice none 0 0, .int .i64 (k : Int), .int .i64 (e : Int)])) := ⟨_, rfl, World.ownsRow_nil _ _ _ _⟩
theorem OutA.low {b b' : Nat} {w' : World} {r : List AL × Nat × Nat} {e : Ending} (h : OutA b w' r e) (hb : b' ≤ b) : OutA b' w' r e := by
  obtain ⟨v, h1, h2, h3⟩ := h
  refine ⟨v, h1, h2, ?_⟩
  rcases h3 with h | ⟨g, cap, cur, hv, hg, h⟩
  · exact .inl h
  · exact .inr ⟨g, cap, cur, hv, Nat.le_trans hb hg, h⟩
theorem six_news (w : World) (x y z u v s : Value) (t : TypeId) : ∀ j r, [x, y, z, u, v, s][j]? = some r → (w.alloc (.cells #[x, y, z, u, v, s] t)).cell? ((⟨w.heap.size, 0, none⟩ : Addr).add j) = some r := by
  intro j r hj
  rw [Go.WideShapes.add_plain, Nat.zero_add]
  match j, hj with
  | 0, hj => exact cell_row (heap_alloc_new _ _) hj
  | 1, hj => exact cell_row (heap_alloc_new _ _) hj
  | 2, hj => exact cell_row (heap_alloc_new _ _) hj
  | 3, hj => exact cell_row (heap_alloc_new _ _) hj
  | 4, hj => exact cell_row (heap_alloc_new _ _) hj
  | 5, hj => exact cell_row (heap_alloc_new _ _) hj
  | n + 6, hj => simp at hj
theorem alVs_snoc (l : List AL) (x : AL) : alVs l ++ [.string x.lab, .int .u8 (x.i.op : Int), .int .u8 (x.i.a : Int), .int .u16 (x.i.b : Int), .int .u32 (x.i.c : Int), .string x.tgt] = alVs (l ++ [x]) := by simp [alVs, alC]
/-- A row of words as line and One take it. -/
theorem strs_of_own {w : World} {base : Nat} {v : Value} {ws : List ByteArray} (h : w.ownsRow base 9 1 v ws.length (ws.map Value.string)) : ∃ a c, v = .slice a ws.length c ∧ ws.length ≤ c ∧ c ≤ maxLen ∧ SliceAt w a ws.length (strV ws) := by
  rcases h.2 with ⟨rfl, h0⟩ | ⟨g, cap, cur, rfl, hb, hg, hn, hm, hs, htk⟩
  · exact ⟨none, 0, by rw [h0], by omega, by unfold maxLen; omega, .inl h0⟩
  · refine ⟨_, cap, rfl, hn, hm, .inr ⟨g, 0, rfl, heap_lt hg, fun i hi => ?_⟩⟩
    rw [Nat.zero_add]
    refine cell_row hg ?_
    have e : (ws.map Value.string)[i]? = some (strV ws i) := by
      unfold strV
      rw [List.getElem?_map, List.getElem?_eq_getElem hi, List.getD_eq_getElem?_getD, List.getElem?_eq_getElem hi]; rfl
    rw [← htk, List.getElem?_take, if_pos (by omega)] at e
    simpa using e
/-- Where the line that begins at k ends. -/
theorem line_end (l : List UInt8) (k : Nat) (h : k ≤ l.length) : ∃ e, k ≤ e ∧ e ≤ l.length ∧ (∀ j, k ≤ j → j < e → l.getD j 0 ≠ 10) ∧ (e < l.length → l.getD e 0 = 10) ∧ partL 10 (l.drop k) = (l.drop k).take (e - k) :: (if e < l.length then partL 10 (l.drop (e + 1)) else []) := by
  generalize hn : l.length - k = n
  induction n generalizing k with
  | zero =>
    refine ⟨k, Nat.le_refl _, h, fun j h1 h2 => by omega, fun h2 => by omega, ?_⟩
    rw [if_neg (by omega), Nat.sub_self, List.take_zero, List.drop_of_length_le (by omega)]; rfl
  | succ n ih =>
    have hd := drop_byte (l := l) (k := k) (by omega)
    by_cases hc : l.getD k 0 = 10
    · refine ⟨k, Nat.le_refl _, h, fun j h1 h2 => by omega, fun _ => hc, ?_⟩
      rw [if_pos (by omega), Nat.sub_self, List.take_zero, hd, hc, partL_hit]
    · obtain ⟨e, h1, h2, h3, h4, h5⟩ := ih (k + 1) (by omega) (by omega)
      refine ⟨e, by omega, h2, fun j j1 j2 => ?_, h4, ?_⟩
      · rcases Nat.lt_or_ge k j with hj | hj
        · exact h3 j (by omega) j2
        · rw [show j = k by omega]; exact hc
      · rw [hd, partL_miss hc h5, show e - k = (e - (k + 1)) + 1 by omega, List.take_succ_cons]
/-- What is left to parse from a place on. -/
def restL (l : List UInt8) (k : Nat) : List (List UInt8) := if k ≤ l.length then partL 10 (l.drop k) else []
theorem restL_0 (l : List UInt8) : restL l 0 = partL 10 l := by unfold restL; rw [if_pos (Nat.zero_le _), List.drop_zero]
theorem restL_end (l : List UInt8) {k : Nat} (h : l.length < k) : restL l k = [] := by unfold restL; rw [if_neg (by omega)]
theorem restL_line {l : List UInt8} {k e : Nat} (h : k ≤ l.length) (he : e ≤ l.length) (h5 : partL 10 (l.drop k) = (l.drop k).take (e - k) :: (if e < l.length then partL 10 (l.drop (e + 1)) else [])) : restL l k = (l.drop k).take (e - k) :: restL l (e + 1) := by
  unfold restL
  rw [if_pos h, h5]
  by_cases hl : e < l.length
  · rw [if_pos hl, if_pos (by omega)]
  · rw [if_neg hl, if_neg (by omega)]
theorem own_below {w w' : World} {B : Nat} {e : TypeId} {size : Nat} {v : Value} {n : Nat} {xs : List Value} (h : w.ownsRow B e size v n xs) (hb : Below w.heap.size w w') : w'.ownsRow B e size v n xs :=
  own_same h fun g hg => hb.block g (h.lt g hg).2
set_option maxRecDepth 100000 in
set_option maxHeartbeats 4000000 in
theorem rparse_any (s : ByteArray) (w : World) (hs : s.size ≤ 9223372036854775807) :
    Calls Tryz.prog 18 #[.string s] w fun e w' => OutA w.heap.size w' (parseS s.data.toList) e ∧ Below w.heap.size w w' := by
  by_cases hbig : 524288 < s.size
  · have t1 : decide ((524288 : Int) < (s.size : Int)) = true := decide_eq_true (by omega)
    have HR : parseS s.data.toList = ([], 0, 3) := by unfold parseS; rw [if_pos (by rw [size_list]; exact hbig)]
    rw [HR]
    go_enter Tryz.func18, Tryz.ntmps18
    go_wp2_with fail
    go_ret3
    exact ⟨OutA.none _ _ _ _, Below.refl _ _⟩
  have t1 : decide ((524288 : Int) < (s.size : Int)) = false := decide_eq_false (by omega)
  have HR : Hid (parseS s.data.toList = parseG 0 [] (restL s.data.toList 0)) := by show _ = _; unfold parseS; rw [if_neg (by rw [size_list]; exact hbig), restL_0]
  have HI : ∀ k, k < s.size → ∀ W, (Instr.index 9 (.string s) (.int .i64 (k : Int))).run Tryz.prog W = .ok (.int .u8 ((byteN s k : Nat) : Int)) W := fun k hk W => index_str s k hk 9 Tryz.underlying9 W
  have HIX := Lib.hid HI
  clear HI
  have HLE := Lib.hid (fun k (hk : k ≤ s.size) => line_end s.data.toList k (by rw [size_list]; exact hk))
  have HEX : Hid (∀ k e, (s.extract k e).data.toList = (s.data.toList.drop k).take (e - k)) := fun k e => Lib.extract_data s k e
  have HSZ : Hid (s.data.toList.length = s.size) := size_list s
  have HBY : Hid (∀ k, byteN s k = (s.data.toList.getD k 0).toNat) := fun k => rfl
  have hsm : s.size ≤ 524288 := by omega
  obtain ⟨i0, hi, hz0, hz1, hz2⟩ := info_parts (show (Tryz.prog.info? 34).map (fun i => (i.zero, i.size, i.bytes)) = some (some (.agg #[.string ⟨#[]⟩, .int .u8 0, .int .u8 0, .int .u16 0, .int .u32 0, .string ⟨#[]⟩]), 6, 40) by kernel_rfl)
  have HIn := Lib.hid hi; have HZ0 := Lib.hid hz0; have HZ1 := Lib.hid hz1; have HZ2 := Lib.hid hz2
  clear hi hz0 hz1 hz2 hbig hs
  generalize hsz : s.size = sz at *
  generalize s.data.toList = l at *
  go_enter Tryz.func18, Tryz.ntmps18
  go_wp2_with fail
  go_loopw [5, 6, 7] (fun v at_ n wr => ∃ (k q : Nat) (acc : List AL) (oa : Option Addr) (oc : Nat), v = .slice oa acc.length oc ∧ k ≤ sz + 1 ∧ q ≤ k ∧ acc.length ≤ 16384 ∧ at_ = .int .i64 (k : Int) ∧ n = .int .i64 ((q : Int) + 1) ∧ Hid (parseS l = parseG q acc (restL l k)) ∧ Hid (wr.ownsRow w.heap.size 34 6 (.slice oa acc.length oc) acc.length (alVs acc)) ∧ Hid (Below w.heap.size w wr)) (fun _ a _ _ => sz + 1 - (intOf a).toNat)
  case atStart => exact ⟨0, 0, [], none, 0, rfl, Nat.zero_le _, Nat.le_refl _, Nat.zero_le _, rfl, rfl, HR, World.ownsRow_nil _ _ _ _, Below.refl _ _⟩
  case round =>
    clear HR
    obtain ⟨k, q, acc, oa, oc, rfl, hk, hq, hacc, rfl, rfl, HV, HO, HB⟩ := hrel
    rcases Nat.lt_or_ge sz k with hk2 | hk2
    · have t2 : decide ((k : Int) ≤ (sz : Int)) = false := decide_eq_false (by omega)
      have HF : Hid (parseS l = (acc, 0, 0)) := by
        have := HV.out
        rw [restL_end l (by rw [HSZ.out]; exact hk2)] at this; exact this
      clear HV
      go_wp2_with fail
      go_ret3
      exact ⟨⟨_, by rw [HF.out]; rfl, by rw [HF.out]; exact HO.out⟩, HB.out⟩
    have t2 : decide ((k : Int) ≤ (sz : Int)) = true := decide_eq_true (by omega)
    obtain ⟨e, e1, e2, e3, e4, e5⟩ := HLE.out k hk2
    rw [HSZ.out] at e2 e4
    have HV2 : Hid (parseS l = parseG q acc ((l.drop k).take (e - k) :: restL l (e + 1))) := by
      have := HV.out
      rw [restL_line (by rw [HSZ.out]; exact hk2) (by rw [HSZ.out]; exact e2) e5] at this; exact this
    have E3 : Hid (∀ j, k ≤ j → j < e → byteN s j ≠ 10) := fun j h1 h2 h => e3 j h1 h2 (UInt8.toNat_inj.1 (by rw [← HBY.out, h]; rfl))
    have E4 : Hid (e < sz → byteN s e = 10) := fun h => by rw [HBY.out, e4 h]; rfl
    clear e3 e4 e5 HV HLE
    go_wp2_with fail
    go_loopw [8] (fun v wx => ∃ j : Nat, k ≤ j ∧ j ≤ e ∧ v = .int .i64 (j : Int) ∧ wx = wr) (fun v _ => e - (intOf v).toNat)
    case atStart => exact ⟨k, Nat.le_refl _, e1, rfl, rfl⟩
    case round =>
      obtain ⟨j, hj1, hj2, rfl, rfl⟩ := hrel
      rcases Nat.lt_or_ge j e with hje | hje
      · have t3 : decide ((j : Int) < (sz : Int)) = true := decide_eq_true (by omega)
        have hix := HIX.out j (by omega)
        have hne := E3.out j hj1 hje
        generalize byteN s j = x at *
        have t4 : ((x : Int) != 10) = true := bne_iff_ne.2 (by omega)
        clear hne
        go_wp2_with fail
        refine ⟨⟨j + 1, by omega, by omega, by go_num, by first | rfl | trivial⟩, ?_⟩
        simp [intOf]; omega
      · obtain rfl : j = e := by omega
        rcases Nat.lt_or_ge j sz with hjs | hjs
        · have t3 : decide ((j : Int) < (sz : Int)) = true := decide_eq_true (by omega)
          have hix := HIX.out j (by omega)
          rw [E4.out hjs] at hix
          clear E4 E3
          go_wp2_with fail
          have HWD := Lib.hid (rwords_any (s.extract k j) wr (by rw [← size_list, HEX.out, List.length_take, List.length_drop]; omega))
          refine HWD.out.mono ?_
          rintro e' w2 ⟨⟨v2, rfl, hown⟩, hb2⟩
          rw [HEX.out] at hown
          clear HWD
          have HLK : Hid (((l.drop k).take (j - k)).length ≤ 524288) := by show _ ≤ _; rw [List.length_take, List.length_drop, HSZ.out]; omega
          generalize (l.drop k).take (j - k) = lk at *
          have HWS : Hid (∀ i, i < (wordsB lk).length → 0 < ((wordsB lk).getD i eS).size ∧ ((wordsB lk).getD i eS).size ≤ 1000000) := fun i hi => by
            have := wordsB_size i hi
            have := HLK.out
            omega
          obtain ⟨wa, wcap, rfl, hwc, hwm, hsl⟩ := strs_of_own hown
          have HSL := Lib.hid hsl
          clear hown hsl
          have O2 := Lib.hid (own_below HO.out hb2)
          have B2 : Hid (Below w.heap.size w w2) := HB.out.trans (hb2.mono HB.out.size)
          clear HO HB hb2
          have HGB := Lib.hid (fun h => parseG_blank (n := q) (acc := acc) (l := lk) (ls := restL l (j + 1)) h)
          have HGX := Lib.hid (fun h1 h2 => parseG_bad (n := q) (acc := acc) (l := lk) (ls := restL l (j + 1)) h1 h2)
          have HGL := Lib.hid (fun h1 h2 h3 => parseG_long (n := q) (acc := acc) (l := lk) (ls := restL l (j + 1)) h1 h2 h3)
          have HGN := Lib.hid (fun h1 h2 h3 => parseG_line (n := q) (acc := acc) (l := lk) (ls := restL l (j + 1)) h1 h2 h3)
          have HWN : Hid ((wordsB lk).length = (wordsL lk).length) := wordsB_len lk
          generalize wordsB lk = ws at *
          by_cases hw0 : ws.length = 0
          · have HV3 : Hid (parseS l = parseG (q + 1) acc (restL l (j + 1))) := HV2.out.trans (HGB.out (List.eq_nil_of_length_eq_zero (HWN.out ▸ hw0)))
            have t5 : ((ws.length : Int) == 0) = true := beq_iff_eq.2 (by omega)
            clear HGB HGX HGL HGN HV2 HSL HWS HWN
            go_wp2_with fail
            refine ⟨⟨j + 1, q + 1, acc, oa, oc, rfl, by omega, by omega, hacc, by go_num, by go_num, HV3, O2, B2⟩, ?_⟩
            simp [intOf]; omega
          have hwne := Lib.hid (show wordsL lk ≠ [] from fun e => hw0 (by rw [HWN.out, e]; rfl))
          have t5 : ((ws.length : Int) == 0) = false := beq_eq_false_iff_ne.2 (by omega)
          have HON := Lib.hid (one_any ws wa wcap w2 HSL.out (Nat.pos_of_ne_zero hw0) hwc hwm HWS.out)
          clear HGB HSL HWS HWN
          generalize lineS ws = rl at *
          obtain ⟨rc, rx⟩ := rl
          go_wp2_with fail
          refine HON.out.mono ?_
          rintro e' w3 ⟨⟨x, rfl, hx⟩, hb3⟩
          have O3 := Lib.hid (own_below O2.out hb3)
          have B3 : Hid (Below w.heap.size w w3) := B2.out.trans (hb3.mono B2.out.size)
          have HX := Lib.hid hx
          clear hb3 hx O2 B2 HON
          obtain ⟨xl, ⟨xo, xa, xb, xc⟩, xt⟩ := x
          unfold AL.val AL.cells
          by_cases hrc : rc = 0
          · subst hrc
            by_cases hal : acc.length = 16384
            · have HV3 : Hid (parseS l = ([], q + 1, 3)) := HV2.out.trans (HGL.out hwne.out rfl hal)
              have t6 : ((acc.length : Int) == 16384) = true := beq_iff_eq.2 (by omega)
              clear HGX HGN HGL HV2 HX hal
              go_wp2_with fail
              go_ret3
              exact ⟨by rw [HV3.out]; exact OutA.none _ _ _ _, B3.out.alloc B3.out.size _⟩
            · have HRX : (⟨xl, ⟨xo, xa, xb, xc⟩, xt⟩ : AL) = rx := HX.out rfl
              have HV3 : Hid (parseS l = parseG (q + 1) (acc ++ [⟨xl, ⟨xo, xa, xb, xc⟩, xt⟩]) (restL l (j + 1))) := (HV2.out.trans (HGN.out hwne.out rfl hal)).trans (by rw [HRX])
              have t6 : ((acc.length : Int) == 16384) = false := beq_eq_false_iff_ne.2 (by omega)
              clear HGX HGN HGL HV2 HX HRX
              have G4 : Hid ((w3.alloc (.cells #[.string xl, .int .u8 (xo : Int), .int .u8 (xa : Int), .int .u16 (xb : Int), .int .u32 (xc : Int), .string xt] 34)).heap[w3.heap.size]? = some (.cells #[.string xl, .int .u8 (xo : Int), .int .u8 (xa : Int), .int .u16 (xb : Int), .int .u32 (xc : Int), .string xt] 34 (0, 0))) := heap_alloc_new _ _
              have O4 := Lib.hid (O3.out.alloc (.cells #[.string xl, .int .u8 (xo : Int), .int .u8 (xa : Int), .int .u16 (xb : Int), .int .u32 (xc : Int), .string xt] 34))
              have BB4 : Hid (Below w.heap.size w (w3.alloc (.cells #[.string xl, .int .u8 (xo : Int), .int .u8 (xa : Int), .int .u16 (xb : Int), .int .u32 (xc : Int), .string xt] 34))) := B3.out.alloc B3.out.size _
              go_upto_region 19 with fail
              generalize w3.alloc (.cells #[.string xl, .int .u8 (xo : Int), .int .u8 (xa : Int), .int .u16 (xb : Int), .int .u32 (xc : Int), .string xt] 34) = w4 at *
              generalize w3.heap.size = g at *
              have c0 := cell_row (j := 0) G4.out rfl
              have c1 := cell_row (j := 1) G4.out rfl
              have c2 := cell_row (j := 2) G4.out rfl
              have c3 := cell_row (j := 3) G4.out rfl
              have c4 := cell_row (j := 4) G4.out rfl
              have c5 := cell_row (j := 5) G4.out rfl
              -- the line lies in block g of w4; it is appended
              have HW : Hid (∀ j u, [Value.string xl, .int .u8 (xo : Int), .int .u8 (xa : Int), .int .u16 (xb : Int), .int .u32 (xc : Int), .string xt][j]? = some u → (w4.alloc (.cells #[.string xl, .int .u8 (xo : Int), .int .u8 (xa : Int), .int .u16 (xb : Int), .int .u32 (xc : Int), .string xt] 34)).cell? ((⟨w4.heap.size, 0, none⟩ : Addr).add j) = some u) := six_news _ _ _ _ _ _ _ _
              have OA := Lib.hid (O4.out.alloc (.cells #[.string xl, .int .u8 (xo : Int), .int .u8 (xa : Int), .int .u16 (xb : Int), .int .u32 (xc : Int), .string xt] 34))
              have HZ : Hid (w.heap.size ≤ w4.heap.size) := BB4.out.size
              go_wp2_with (at_builtin; refine wpList_append_own _ rfl _ _ 22 rfl (w.heap.size) 34 i0 (.agg #[.string ⟨#[]⟩, .int .u8 0, .int .u8 0, .int .u16 0, .int .u32 0, .string ⟨#[]⟩]) 6 40 Tryz.underlying22 HIn.out HZ0.out HZ1.out HZ2.out rfl (by decide) (.slice oa acc.length oc) acc.length _ rfl OA.out ⟨w4.heap.size, 0, none⟩ 1 1 [.string xl, .int .u8 (xo : Int), .int .u8 (xa : Int), .int .u16 (xb : Int), .int .u32 (xc : Int), .string xt] rfl rfl HW.out (fun u hu => by simp at hu; rcases hu with rfl | rfl | rfl | rfl | rfl | rfl <;> rfl) (by unfold maxLen; omega) (by omega) (by simp; have := HZ.out; omega) ?_)
              intro v6 w6 ho6 hg6 _
              have BB6 : Hid (Below (w.heap.size) w w6) := (BB4.out.alloc BB4.out.size _).grown hg6 (by simp; have := HZ.out; omega) (fun j hj => (O4.out.lt j hj).1)
              have O6 : Hid (w6.ownsRow (w.heap.size) 34 6 v6 (acc ++ [(⟨xl, ⟨xo, xa, xb, xc⟩, xt⟩ : AL)]).length (alVs (acc ++ [⟨xl, ⟨xo, xa, xb, xc⟩, xt⟩]))) := by
                show World.ownsRow _ _ _ _ _ _ _
                rw [← alVs_snoc, List.length_append]; exact ho6
              clear ho6 hg6 OA HW
              obtain ⟨oa6, oc6, hv6, _, _, _⟩ := als_of_own O6.out
              subst hv6
              go_wp2_with fail
              refine ⟨⟨j + 1, q + 1, acc ++ [⟨xl, ⟨xo, xa, xb, xc⟩, xt⟩], oa6, oc6, rfl, by omega, by omega, by rw [List.length_append]; simp; omega, by go_num, by go_num, HV3, O6, BB6⟩, ?_⟩
              simp [intOf]; omega
          · have HV3 : Hid (parseS l = ([], q + 1, rc)) := HV2.out.trans (HGX.out hwne.out hrc)
            have t6 : ((rc : Int) == 0) = false := beq_eq_false_iff_ne.2 (by omega)
            have t7 : ((rc : Int) != 0) = true := bne_iff_ne.2 (by omega)
            clear HGX HGN HGL HV2 HX
            go_wp2_with fail
            go_ret3
            exact ⟨by rw [HV3.out]; exact OutA.none _ _ _ _, B3.out.alloc B3.out.size _⟩
        · have t3 : decide ((j : Int) < (sz : Int)) = false := decide_eq_false (by omega)
          clear E4 E3
          go_wp2_with fail
          have HWD := Lib.hid (rwords_any (s.extract k j) wr (by rw [← size_list, HEX.out, List.length_take, List.length_drop]; omega))
          refine HWD.out.mono ?_
          rintro e' w2 ⟨⟨v2, rfl, hown⟩, hb2⟩
          rw [HEX.out] at hown
          clear HWD
          have HLK : Hid (((l.drop k).take (j - k)).length ≤ 524288) := by show _ ≤ _; rw [List.length_take, List.length_drop, HSZ.out]; omega
          generalize (l.drop k).take (j - k) = lk at *
          have HWS : Hid (∀ i, i < (wordsB lk).length → 0 < ((wordsB lk).getD i eS).size ∧ ((wordsB lk).getD i eS).size ≤ 1000000) := fun i hi => by
            have := wordsB_size i hi
            have := HLK.out
            omega
          obtain ⟨wa, wcap, rfl, hwc, hwm, hsl⟩ := strs_of_own hown
          have HSL := Lib.hid hsl
          clear hown hsl
          have O2 := Lib.hid (own_below HO.out hb2)
          have B2 : Hid (Below w.heap.size w w2) := HB.out.trans (hb2.mono HB.out.size)
          clear HO HB hb2
          have HGB := Lib.hid (fun h => parseG_blank (n := q) (acc := acc) (l := lk) (ls := restL l (j + 1)) h)
          have HGX := Lib.hid (fun h1 h2 => parseG_bad (n := q) (acc := acc) (l := lk) (ls := restL l (j + 1)) h1 h2)
          have HGL := Lib.hid (fun h1 h2 h3 => parseG_long (n := q) (acc := acc) (l := lk) (ls := restL l (j + 1)) h1 h2 h3)
          have HGN := Lib.hid (fun h1 h2 h3 => parseG_line (n := q) (acc := acc) (l := lk) (ls := restL l (j + 1)) h1 h2 h3)
          have HWN : Hid ((wordsB lk).length = (wordsL lk).length) := wordsB_len lk
          generalize wordsB lk = ws at *
          by_cases hw0 : ws.length = 0
          · have HV3 : Hid (parseS l = parseG (q + 1) acc (restL l (j + 1))) := HV2.out.trans (HGB.out (List.eq_nil_of_length_eq_zero (HWN.out ▸ hw0)))
            have t5 : ((ws.length : Int) == 0) = true := beq_iff_eq.2 (by omega)
            clear HGB HGX HGL HGN HV2 HSL HWS HWN
            go_wp2_with fail
            refine ⟨⟨j + 1, q + 1, acc, oa, oc, rfl, by omega, by omega, hacc, by go_num, by go_num, HV3, O2, B2⟩, ?_⟩
            simp [intOf]; omega
          have hwne := Lib.hid (show wordsL lk ≠ [] from fun e => hw0 (by rw [HWN.out, e]; rfl))
          have t5 : ((ws.length : Int) == 0) = false := beq_eq_false_iff_ne.2 (by omega)
          have HON := Lib.hid (one_any ws wa wcap w2 HSL.out (Nat.pos_of_ne_zero hw0) hwc hwm HWS.out)
          clear HGB HSL HWS HWN
          generalize lineS ws = rl at *
          obtain ⟨rc, rx⟩ := rl
          go_wp2_with fail
          refine HON.out.mono ?_
          rintro e' w3 ⟨⟨x, rfl, hx⟩, hb3⟩
          have O3 := Lib.hid (own_below O2.out hb3)
          have B3 : Hid (Below w.heap.size w w3) := B2.out.trans (hb3.mono B2.out.size)
          have HX := Lib.hid hx
          clear hb3 hx O2 B2 HON
          obtain ⟨xl, ⟨xo, xa, xb, xc⟩, xt⟩ := x
          unfold AL.val AL.cells
          by_cases hrc : rc = 0
          · subst hrc
            by_cases hal : acc.length = 16384
            · have HV3 : Hid (parseS l = ([], q + 1, 3)) := HV2.out.trans (HGL.out hwne.out rfl hal)
              have t6 : ((acc.length : Int) == 16384) = true := beq_iff_eq.2 (by omega)
              clear HGX HGN HGL HV2 HX hal
              go_wp2_with fail
              go_ret3
              exact ⟨by rw [HV3.out]; exact OutA.none _ _ _ _, B3.out.alloc B3.out.size _⟩
            · have HRX : (⟨xl, ⟨xo, xa, xb, xc⟩, xt⟩ : AL) = rx := HX.out rfl
              have HV3 : Hid (parseS l = parseG (q + 1) (acc ++ [⟨xl, ⟨xo, xa, xb, xc⟩, xt⟩]) (restL l (j + 1))) := (HV2.out.trans (HGN.out hwne.out rfl hal)).trans (by rw [HRX])
              have t6 : ((acc.length : Int) == 16384) = false := beq_eq_false_iff_ne.2 (by omega)
              clear HGX HGN HGL HV2 HX HRX
              have G4 : Hid ((w3.alloc (.cells #[.string xl, .int .u8 (xo : Int), .int .u8 (xa : Int), .int .u16 (xb : Int), .int .u32 (xc : Int), .string xt] 34)).heap[w3.heap.size]? = some (.cells #[.string xl, .int .u8 (xo : Int), .int .u8 (xa : Int), .int .u16 (xb : Int), .int .u32 (xc : Int), .string xt] 34 (0, 0))) := heap_alloc_new _ _
              have O4 := Lib.hid (O3.out.alloc (.cells #[.string xl, .int .u8 (xo : Int), .int .u8 (xa : Int), .int .u16 (xb : Int), .int .u32 (xc : Int), .string xt] 34))
              have BB4 : Hid (Below w.heap.size w (w3.alloc (.cells #[.string xl, .int .u8 (xo : Int), .int .u8 (xa : Int), .int .u16 (xb : Int), .int .u32 (xc : Int), .string xt] 34))) := B3.out.alloc B3.out.size _
              go_upto_region 19 with fail
              generalize w3.alloc (.cells #[.string xl, .int .u8 (xo : Int), .int .u8 (xa : Int), .int .u16 (xb : Int), .int .u32 (xc : Int), .string xt] 34) = w4 at *
              generalize w3.heap.size = g at *
              have c0 := cell_row (j := 0) G4.out rfl
              have c1 := cell_row (j := 1) G4.out rfl
              have c2 := cell_row (j := 2) G4.out rfl
              have c3 := cell_row (j := 3) G4.out rfl
              have c4 := cell_row (j := 4) G4.out rfl
              have c5 := cell_row (j := 5) G4.out rfl
              -- the line lies in block g of w4; it is appended
              have HW : Hid (∀ j u, [Value.string xl, .int .u8 (xo : Int), .int .u8 (xa : Int), .int .u16 (xb : Int), .int .u32 (xc : Int), .string xt][j]? = some u → (w4.alloc (.cells #[.string xl, .int .u8 (xo : Int), .int .u8 (xa : Int), .int .u16 (xb : Int), .int .u32 (xc : Int), .string xt] 34)).cell? ((⟨w4.heap.size, 0, none⟩ : Addr).add j) = some u) := six_news _ _ _ _ _ _ _ _
              have OA := Lib.hid (O4.out.alloc (.cells #[.string xl, .int .u8 (xo : Int), .int .u8 (xa : Int), .int .u16 (xb : Int), .int .u32 (xc : Int), .string xt] 34))
              have HZ : Hid (w.heap.size ≤ w4.heap.size) := BB4.out.size
              go_wp2_with (at_builtin; refine wpList_append_own _ rfl _ _ 22 rfl (w.heap.size) 34 i0 (.agg #[.string ⟨#[]⟩, .int .u8 0, .int .u8 0, .int .u16 0, .int .u32 0, .string ⟨#[]⟩]) 6 40 Tryz.underlying22 HIn.out HZ0.out HZ1.out HZ2.out rfl (by decide) (.slice oa acc.length oc) acc.length _ rfl OA.out ⟨w4.heap.size, 0, none⟩ 1 1 [.string xl, .int .u8 (xo : Int), .int .u8 (xa : Int), .int .u16 (xb : Int), .int .u32 (xc : Int), .string xt] rfl rfl HW.out (fun u hu => by simp at hu; rcases hu with rfl | rfl | rfl | rfl | rfl | rfl <;> rfl) (by unfold maxLen; omega) (by omega) (by simp; have := HZ.out; omega) ?_)
              intro v6 w6 ho6 hg6 _
              have BB6 : Hid (Below (w.heap.size) w w6) := (BB4.out.alloc BB4.out.size _).grown hg6 (by simp; have := HZ.out; omega) (fun j hj => (O4.out.lt j hj).1)
              have O6 : Hid (w6.ownsRow (w.heap.size) 34 6 v6 (acc ++ [(⟨xl, ⟨xo, xa, xb, xc⟩, xt⟩ : AL)]).length (alVs (acc ++ [⟨xl, ⟨xo, xa, xb, xc⟩, xt⟩]))) := by
                show World.ownsRow _ _ _ _ _ _ _
                rw [← alVs_snoc, List.length_append]; exact ho6
              clear ho6 hg6 OA HW
              obtain ⟨oa6, oc6, hv6, _, _, _⟩ := als_of_own O6.out
              subst hv6
              go_wp2_with fail
              refine ⟨⟨j + 1, q + 1, acc ++ [⟨xl, ⟨xo, xa, xb, xc⟩, xt⟩], oa6, oc6, rfl, by omega, by omega, by rw [List.length_append]; simp; omega, by go_num, by go_num, HV3, O6, BB6⟩, ?_⟩
              simp [intOf]; omega
          · have HV3 : Hid (parseS l = ([], q + 1, rc)) := HV2.out.trans (HGX.out hwne.out hrc)
            have t6 : ((rc : Int) == 0) = false := beq_eq_false_iff_ne.2 (by omega)
            have t7 : ((rc : Int) != 0) = true := bne_iff_ne.2 (by omega)
            clear HGX HGN HGL HV2 HX
            go_wp2_with fail
            go_ret3
            exact ⟨by rw [HV3.out]; exact OutA.none _ _ _ _, B3.out.alloc B3.out.size _⟩
end Go.Proofs.YtalmgjeiopjhlaaGreatDoor
