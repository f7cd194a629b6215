/- The document's Free, byte by byte. -/
import Derived.Test.YteekneicahfkpaaRigG
namespace Go.Proofs.Yteekneicahfkpaa
open Go.RowKit Go.Shelf
set_option linter.unusedVariables false
set_option linter.unusedSimpArgs false
def fstL (G : List (Nat × Nat)) : List Value := G.map fun g => .int .u32 (g.1 : Int)
def sndL (G : List (Nat × Nat)) : List Value := G.map fun g => .int .u32 (g.2 : Int)
theorem fstL_eq (G : List (Nat × Nat)) : fstL G = fstV G G.length := by unfold fstL fstV; rw [List.take_length]
theorem sndL_eq (G : List (Nat × Nat)) : sndL G = sndV G G.length := by unfold sndL sndV; rw [List.take_length]
/-- Two rows of numbers, apart: where stretches begin, and how long they are. -/
def TwoRows (B : Nat) (w : World) (v1 v2 : Value) (G : List (Nat × Nat)) : Prop :=
  w.ownsRow B 22 1 v1 G.length (fstL G) ∧ w.ownsRow B 22 1 v2 G.length (sndL G) ∧ ∀ k, v1.ownBlock = some k → v2.ownBlock ≠ some k
theorem TwoRows.below {B : Nat} {w w' : World} {v1 v2 : Value} {G : List (Nat × Nat)} (h : TwoRows B w v1 v2 G) (hb : Below w.heap.size w w') : TwoRows B w' v1 v2 G :=
  ⟨own_only h.1 (Only.of_below (fun _ => False) hb) (fun _ _ h => h), own_only h.2.1 (Only.of_below (fun _ => False) hb) (fun _ _ h => h), h.2.2⟩
theorem TwoRows.nil (B : Nat) (w : World) : TwoRows B w (.slice none 0 0) (.slice none 0 0) [] := ⟨⟨rfl, .inl ⟨rfl, rfl⟩⟩, ⟨rfl, .inl ⟨rfl, rfl⟩⟩, fun k h => by cases h⟩
/-- The last number of a row, otherwise. -/
theorem own_set_last {w : World} {B e n : Nat} {v x : Value} {xs : List Value} (h : w.ownsRow B e 1 v (n + 1) (xs ++ [x])) : ∃ g c, v = .slice (some ⟨g, 0, none⟩) (n + 1) c ∧ B ≤ g ∧ g < w.heap.size ∧ n + 1 ≤ c ∧ c ≤ maxLen ∧ w.cell? ⟨g, n, none⟩ = some x ∧ w.frozen? ⟨g, n, none⟩ = false ∧
    ∀ y : Value, (w.setCell ⟨g, n, none⟩ y).ownsRow B e 1 v (n + 1) (xs ++ [y]) := by
  have hl := h.1
  simp at hl
  rcases h.2 with ⟨_, h0⟩ | ⟨g, cap, cur, hv, hg, hb, h1, h2, h3, h4⟩
  · omega
  · rw [Nat.mul_one] at h3 h4
    have hx : cur[n]? = some x := by
      have : (xs ++ [x])[n]? = cur.toList[n]? := by rw [← h4, List.getElem?_take_of_lt (by omega)]
      rw [List.getElem?_append_right (by omega), hl, Nat.sub_self] at this
      rw [← Array.getElem?_toList, ← this]; rfl
    refine ⟨g, cap, hv, hg, heap_lt hb, h1, h2, cell_row hb hx, frozen_of_row _ _ _ _ _ hb, fun y => ⟨by simp [hl], .inr ⟨g, cap, cur.setIfInBounds n y, hv, hg, heap_setCell_same _ _ _ _ _ _ hb, h1, h2, by simp [h3], ?_⟩⟩⟩
    rw [Nat.mul_one]
    apply List.ext_getElem?
    intro j
    by_cases hj : j < n + 1
    · rw [List.getElem?_take_of_lt hj, Array.getElem?_toList, Array.getElem?_setIfInBounds]
      by_cases e : n = j
      · subst e
        rw [if_pos rfl, if_pos (by omega), List.getElem?_append_right (by omega), hl, Nat.sub_self]; rfl
      · rw [if_neg e, List.getElem?_append_left (by omega)]
        have : (xs ++ [x])[j]? = cur.toList[j]? := by rw [← h4, List.getElem?_take_of_lt hj]
        rw [List.getElem?_append_left (by omega)] at this
        rw [this, Array.getElem?_toList]
    · rw [List.getElem?_take_eq_none (by omega), List.getElem?_eq_none (by simp; omega)]
theorem fstL_snoc (G : List (Nat × Nat)) (x : Nat × Nat) : fstL (G ++ [x]) = fstL G ++ [.int .u32 (x.1 : Int)] := by simp [fstL]
theorem sndL_snoc (G : List (Nat × Nat)) (x : Nat × Nat) : sndL (G ++ [x]) = sndL G ++ [.int .u32 (x.2 : Int)] := by simp [sndL]
theorem TwoRows.inc {B : Nat} {w : World} {v1 v2 : Value} {G : List (Nat × Nat)} {a c : Nat} (h : TwoRows B w v1 v2 (G ++ [(a, c)])) : ∃ g cp, v2 = .slice (some ⟨g, 0, none⟩) (G.length + 1) cp ∧ B ≤ g ∧ g < w.heap.size ∧ G.length + 1 ≤ cp ∧ cp ≤ maxLen ∧ w.cell? ⟨g, G.length, none⟩ = some (.int .u32 (c : Int)) ∧ w.frozen? ⟨g, G.length, none⟩ = false ∧
    ∀ d : Nat, TwoRows B (w.setCell ⟨g, G.length, none⟩ (.int .u32 (d : Int))) v1 v2 (G ++ [(a, d)]) := by
  obtain ⟨h1, h2, h3⟩ := h
  have e : (G ++ [(a, c)]).length = G.length + 1 := by simp
  rw [e, sndL_snoc] at h2
  obtain ⟨g, cp, hv, hb, hl, h4, h5, hc, hf, hs⟩ := own_set_last h2
  refine ⟨g, cp, hv, hb, hl, h4, h5, hc, hf, fun d => ⟨?_, ?_, h3⟩⟩
  · rw [show (G ++ [(a, d)]).length = (G ++ [(a, c)]).length by simp, show fstL (G ++ [(a, d)]) = fstL (G ++ [(a, c)]) by simp [fstL]]
    refine own_only h1 ((Only.refl (fun i => i = g) w).set _ _ (.inr rfl)) (fun k hk hm => ?_)
    subst hm
    exact h3 _ hk (by rw [hv]; rfl)
  · rw [show (G ++ [(a, d)]).length = G.length + 1 by simp, sndL_snoc]
    exact hs _
theorem TwoRows.two {B : Nat} {w w3 w4 : World} {v1 v2 v1' v2' : Value} {G : List (Nat × Nat)} {a c : Nat} {o o2 : Obj} (h : TwoRows B w v1 v2 G) (h1 : w3.ownsRow B 22 1 v1' (G.length + 1) (fstL G ++ [.int .u32 (a : Int)])) (g1 : (w.alloc o).grownBy w3 v1.ownBlock)
    (t1 : v1'.ownBlock = v1.ownBlock ∨ v1'.ownBlock = some (w.heap.size + 1)) (h2 : w4.ownsRow B 22 1 v2' (G.length + 1) (sndL G ++ [.int .u32 (c : Int)])) (g2 : (w3.alloc o2).grownBy w4 v2.ownBlock) (t2 : v2'.ownBlock = v2.ownBlock ∨ v2'.ownBlock = some (w3.heap.size + 1)) : TwoRows B w4 v1' v2' (G ++ [(a, c)]) := by
  obtain ⟨k1, k2, k3⟩ := h
  have e : (G ++ [(a, c)]).length = G.length + 1 := by simp
  have z1 : (w.alloc o).heap.size = w.heap.size + 1 := Array.size_push _
  have z2 : (w3.alloc o2).heap.size = w3.heap.size + 1 := Array.size_push _
  have z3 := g1.size
  refine ⟨?_, ?_, ?_⟩
  · rw [e, fstL_snoc]
    refine (h1.alloc o2).kept g2 (.inr fun hh => ?_)
    cases hv : v1'.ownBlock with
    | none =>
      rw [hv] at hh
      rcases h1.2 with ⟨_, h0⟩ | ⟨g, cap, cur, hx, _⟩
      · omega
      · rw [hx] at hv; cases hv
    | some k =>
      rw [hv] at hh
      have l2 := (k2.lt k hh.symm).2
      rcases t1 with t | t
      · exact k3 k (t.symm.trans hv) hh.symm
      · rw [hv] at t; cases t; omega
  · rw [e, sndL_snoc]; exact h2
  · intro k hk hk2
    have l1 := (h1.lt k hk).2
    rcases t2 with t' | t'
    · rw [hk2] at t'
      have l2 := (k2.lt k t'.symm).2
      rcases t1 with t | t
      · exact k3 k (t.symm.trans hk) t'.symm
      · rw [hk] at t; cases t; omega
    · rw [hk2] at t'; cases t'; omega
theorem rst_bd (p : Nat → Bool) (b : Nat) : (rst p b).1.length ≤ b ∧ ∀ x ∈ (rst p b).1, x.1 + x.2 ≤ b := by
  have h := (rst_ok p b).1
  exact ⟨by have := runs_len (Nat.zero_le b) h; omega, runs_bd h⟩
theorem rst_going {p : Nat → Bool} {b : Nat} (h : (rst p b).2 = true) : ∃ G a c, (rst p b).1 = G ++ [(a, c)] ∧ c < b + 1 := by
  obtain ⟨x, hx, he⟩ := ((rst_ok p b).2.1 h)
  obtain ⟨G, hG⟩ := List.getLast?_eq_some_iff.1 hx
  exact ⟨G, x.1, x.2, hG, by omega⟩
theorem rst_new {p : Nat → Bool} {b : Nat} (hp : p b = true) (h : (rst p b).2 = false) : rst p (b + 1) = ((rst p b).1 ++ [(b, 1)], true) := by
  rw [show rst p (b + 1) = if p b then (if (rst p b).2 then bump (rst p b).1 else (rst p b).1 ++ [(b, 1)], true) else ((rst p b).1, false) from rfl, hp, h]; rfl
theorem rst_more {p : Nat → Bool} {b : Nat} (hp : p b = true) (h : (rst p b).2 = true) {G : List (Nat × Nat)} {a c : Nat} (hG : (rst p b).1 = G ++ [(a, c)]) : rst p (b + 1) = (G ++ [(a, c + 1)], true) := by
  rw [show rst p (b + 1) = if p b then (if (rst p b).2 then bump (rst p b).1 else (rst p b).1 ++ [(b, 1)], true) else ((rst p b).1, false) from rfl, hp, h, hG]
  simp [bump_snoc]
theorem rst_not {p : Nat → Bool} {b : Nat} (hp : p b = false) : rst p (b + 1) = ((rst p b).1, false) := by
  rw [show rst p (b + 1) = if p b then (if (rst p b).2 then bump (rst p b).1 else (rst p b).1 ++ [(b, 1)], true) else ((rst p b).1, false) from rfl, hp]; rfl
/-- Free of the first q regions. -/
def freeQ (L : Nat → Reg) (q b : Nat) : Bool := !(List.range q).any fun i => (L i).has b
theorem freeQ_succ (L : Nat → Reg) (q b : Nat) : freeQ L (q + 1) b = (freeQ L q b && !(L q).has b) := by
  unfold freeQ; rw [List.range_succ, List.any_append]; simp
set_option maxRecDepth 100000 in
set_option maxHeartbeats 8000000 in
theorem rfree_any (a : Option Addr) (len cap : Nat) (L : Nat → Reg) (mem : Nat) (w : World) (hn : len ≤ 100000) (hm : mem < 4294967296) (hL : RegsAt w a len L) :
    Calls Try.prog 14 #[.slice a len cap, .int .u32 (mem : Int)] w fun e w' => (∃ v1 v2, e = .returned (.tuple #[v1, v2]) ∧ TwoRows w.heap.size w' v1 v2 (frees L len mem)) ∧ Below w.heap.size w w' := by
  have HL := Lib.hid hL
  clear hL
  by_cases hbig : 262144 < mem
  · have t1 : decide (262144 < (mem : Int)) = true := by simp; omega
    have HN : Hid (TwoRows w.heap.size w (.slice none 0 0) (.slice none 0 0) (frees L len mem)) := by show TwoRows _ _ _ _ _; unfold frees; rw [if_pos hbig]; exact TwoRows.nil _ _
    go_enter Try.func14, Try.ntmps14
    go_wp2_with fail
    go_ret2
    exact ⟨⟨_, _, rfl, HN.out⟩, Below.refl _ _⟩
  · have t1 : decide (262144 < (mem : Int)) = false := by simp; omega
    obtain ⟨p, hp⟩ : ∃ p, p = freeB L len := ⟨_, rfl⟩
    have HN : Hid (frees L len mem = (rst p mem).1) := by show _ = _; unfold frees; rw [if_neg hbig, hp]; rfl
    rw [HN.out]
    have HP : Hid (∀ b, p b = freeQ L len b) := fun b => by rw [hp]; rfl
    have HM : Hid (mem ≤ 262144) := by show mem ≤ 262144; omega
    have HLk := Lib.hid (fun i => HL.out.2 i)
    clear hp HN hbig
    obtain ⟨i0, hi, hz0, hz1, hz2⟩ := info_parts infoU
    have HIn := Lib.hid hi; have HZ0 := Lib.hid hz0; have HZ1 := Lib.hid hz1; have HZ2 := Lib.hid hz2
    clear hi hz0 hz1 hz2
    go_enter Try.func14, Try.ntmps14
    go_wp2_with fail
    go_loopw [6, 7, 8, 9] (fun v6 v7 v8 v9 wr => ∃ (b : Nat) (u6 u7 : Value), u6 = v6 ∧ u7 = v7 ∧ b ≤ mem ∧ v9 = .int .u32 b ∧ v8 = .bool (rst p b).2 ∧ TwoRows w.heap.size wr v6 v7 (rst p b).1 ∧ Below w.heap.size w wr) (fun _ _ _ v9 _ => mem - (intOf v9).toNat)
    case atStart => exact ⟨0, _, _, rfl, rfl, Nat.zero_le _, rfl, rfl, TwoRows.nil _ _, Below.refl _ _⟩
    case round =>
      obtain ⟨b, v6, v7, rfl, rfl, hb, rfl, rfl, htw, hbl⟩ := hrel
      have TW1 := Lib.hid htw; have B1 := Lib.hid hbl
      clear htw hbl
      obtain ⟨w1, rfl⟩ : ∃ w1 : World, w1 = wr := ⟨_, rfl⟩
      by_cases hlt : b < mem
      · obtain ⟨gg, hgg⟩ : ∃ gg, gg = (rst p b).2 := ⟨_, rfl⟩
        rw [← hgg]
        have HGG := Lib.hid hgg
        clear hgg
        have hbm : b < 262144 := Nat.lt_of_lt_of_le hlt HM.out
        go_wp2_with fail
        go_loopw [10, 11] (fun v10 v11 wr => ∃ q : Nat, q ≤ len ∧ v11 = .int .i64 q ∧ v10 = .bool (freeQ L q b) ∧ TwoRows w.heap.size wr v6 v7 (rst p b).1 ∧ Below w.heap.size w wr) (fun _ v11 _ => len - (intOf v11).toNat)
        case atStart => exact ⟨0, Nat.zero_le _, rfl, rfl, TW1.out, B1.out⟩
        case round =>
          obtain ⟨q, hq, rfl, rfl, htw, hbl⟩ := hrel
          have TW2 := Lib.hid htw; have B2 := Lib.hid hbl
          clear htw hbl TW1 B1
          obtain ⟨w2, rfl⟩ : ∃ w2 : World, w2 = wr := ⟨_, rfl⟩
          by_cases hltq : q < len
          · have HFS := Lib.hid (freeQ_succ L q b)
            cases hfq : freeQ L q b
            case false =>
              have HX : Hid (freeQ L (q + 1) b = false) := by show _ = _; rw [HFS.out, hfq]; rfl
              clear hfq HFS
              go_wp2_with fail
              go_roundw
              case rel => exact ⟨q + 1, by omega, by go_num, by rw [HX.out], TW2.out, B2.out⟩
              case measure => simp [intOf]; omega
            case true =>
              have HX : Hid (freeQ L (q + 1) b = !(L q).has b) := by show _ = _; rw [HFS.out, hfq]; rfl
              clear hfq HFS
              obtain ⟨sb, soff, rfl, hsl, hcells⟩ := HL.out.1.at (by omega)
              have x0 : w2.cell? ⟨sb, soff + q * 3, none⟩ = some (.int .u32 ((L q).base : Int)) := by rw [B2.out.cell hsl]; exact hcells q hltq 0 (by omega)
              have x1 : w2.cell? ⟨sb, soff + q * 3 + 1, none⟩ = some (.int .u32 ((L q).size : Int)) := by rw [B2.out.cell hsl]; exact hcells q hltq 1 (by omega)
              have x2 : w2.cell? ⟨sb, soff + q * 3 + 2, none⟩ = some (.int .u8 ((L q).rt : Int)) := by rw [B2.out.cell hsl]; exact hcells q hltq 2 (by omega)
              clear hcells
              have HH := Lib.hid (fun W => has_any (L q) b W (HL.out.2 q) (by omega))
              unfold Reg.val at HH
              have hbw : ((b : Int) % 18446744073709551616) = (b : Int) := by omega
              go_wp2_with fail
              (with_reducible refine (HH.out w2).mono ?_)
              rintro e w3 ⟨rfl, hb3⟩
              have B3 := Lib.hid (B2.out.trans (hb3.mono B2.out.size))
              have TW3 := Lib.hid (TW2.out.below hb3)
              clear hb3 x0 x1 x2
              go_wp2_with fail
              go_roundw
              case rel => exact ⟨q + 1, by omega, by go_num, by rw [HX.out], TW3.out, B3.out⟩
              case measure => simp [intOf]; omega
          · obtain rfl : q = len := by omega
            have HPB := Lib.hid (HP.out b)
            cases hfq : freeQ L q b
            case false =>
              have HR : Hid (rst p (b + 1) = ((rst p b).1, false)) := rst_not (by rw [HPB.out, hfq])
              clear hfq
              go_wp2_with fail
              go_roundw
              case rel => exact ⟨b + 1, _, _, rfl, rfl, by omega, by go_num, by rw [HR.out], by rw [HR.out]; exact TW2.out, B2.out⟩
              case measure => simp [intOf]; omega
            case true =>
              have hpb : p b = true := by rw [HPB.out, hfq]
              have HPT := Lib.hid hpb
              clear hfq hpb
              cases hgg : gg
              case true =>
                have hr2 : (rst p b).2 = true := by rw [← HGG.out, hgg]
                clear hgg
                obtain ⟨G, a1, c, hG, hc⟩ := rst_going hr2
                have HR := Lib.hid (rst_more HPT.out hr2 hG)
                have hTW := TW2.out
                rw [hG] at hTW
                have TW3 := Lib.hid hTW
                clear hTW hr2 hG TW2
                obtain ⟨g2, c2, hv2, hgb, hgl, hc1, hc2, hcell, hfro, hset⟩ := TW3.out.inc
                subst hv2
                have HST := Lib.hid (hset (c + 1))
                have HGB := Lib.hid hgb
                have HFR := Lib.hid hfro
                unfold maxLen at hc2
                generalize hgn : G.length = gn at *
                clear hset
                go_wp2_with fail
                have BF : Hid (Below w.heap.size w (w2.setCell ⟨g2, gn, none⟩ (.int .u32 ((c + 1 : Nat) : Int)))) := B2.out.setCell HGB.out _
                go_roundw
                case rel => exact ⟨b + 1, _, _, rfl, rfl, by omega, by go_num, by rw [HR.out], by rw [HR.out]; exact HST.out, BF.out⟩
                case measure => simp [intOf]; omega
              case false =>
                have hr2 : (rst p b).2 = false := by rw [← HGG.out, hgg]
                clear hgg
                have HR := Lib.hid (rst_new HPT.out hr2)
                have hbd := (rst_bd p b).1
                generalize (rst p b).1 = G at *
                clear hr2
                have hown1 := TW2.out.1.alloc (.cells #[.int .u32 (b : Int)] 22)
                have HO1 := Lib.hid hown1
                clear hown1
                have HZW : Hid (w.heap.size ≤ w2.heap.size) := B2.out.size
                go_upto_region 15 with (at_builtin; refine wpList_append_own_at _ rfl _ _ 30 rfl w.heap.size 22 i0 (.int .u32 0) 1 4 Try.underlying30 HIn.out HZ0.out HZ1.out HZ2.out rfl (by decide) v6 G.length (fstL G) rfl HO1.out ⟨w2.heap.size, 0, none⟩ 1 1 [.int .u32 (b : Int)] rfl rfl (cell_one_new _ _ _) (fun u hu => by simp at hu; subst hu; rfl) (by unfold maxLen; omega) (by omega) (by simp; have := HZW.out; omega) ?_)
                intro v8 w3 ho3 hg3 _ ht3
                have HO3 := Lib.hid ho3; have HG3 := Lib.hid hg3; have HT3 := Lib.hid ht3
                have H7 : Hid (w3.ownsRow w.heap.size 22 1 v7 G.length (sndL G)) := (TW2.out.2.1.alloc _).kept hg3 (by
                  cases hv : v7.ownBlock with
                  | none => exact .inl rfl
                  | some k => exact .inr fun hh => TW2.out.2.2 k hh.symm hv)
                have HB3 : Hid (Below w.heap.size w w3) := (B2.out.alloc B2.out.size _).grown hg3 (by simp; have := HZW.out; omega) (fun k hk => (TW2.out.1.lt k hk).1)
                clear ho3 hg3 ht3
                have HO7 := Lib.hid (H7.out.alloc (.cells #[.int .u32 0] 22))
                have HZ3 : Hid (w.heap.size ≤ w3.heap.size) := HB3.out.size
                go_upto_region 16 with (at_builtin; refine wpList_append_own_at _ rfl _ _ 30 rfl w.heap.size 22 i0 (.int .u32 0) 1 4 Try.underlying30 HIn.out HZ0.out HZ1.out HZ2.out rfl (by decide) v7 G.length (sndL G) rfl HO7.out ⟨w3.heap.size, 0, none⟩ 1 1 [.int .u32 0] rfl rfl (cell_one_new _ _ _) (fun u hu => by simp at hu; subst hu; rfl) (by unfold maxLen; omega) (by omega) (by simp; have := HZ3.out; omega) ?_)
                intro v9 w4 ho4 hg4 _ ht4
                have B4 : Hid (Below w.heap.size w w4) := (HB3.out.alloc HB3.out.size _).grown hg4 (by simp; have := HZ3.out; omega) (fun k hk => (H7.out.lt k hk).1)
                have TW4 : Hid (TwoRows w.heap.size w4 v8 v9 (G ++ [(b, 0)])) := TW2.out.two HO3.out HG3.out HT3.out ho4 hg4 ht4
                clear ho4 hg4 ht4 HO1 HO3 HG3 HT3 HO7 H7 TW2 HB3 HZ3 HZW
                obtain ⟨c, hc0⟩ : ∃ c, c = 0 := ⟨_, rfl⟩
                have HC := Lib.hid hc0
                rw [show ((b, 0) : Nat × Nat) = (b, c) by rw [hc0]] at TW4
                have hc : c < b + 1 := by omega
                rw [show ((b, 1) : Nat × Nat) = (b, c + 1) by rw [hc0]] at HR
                clear hc0
                obtain ⟨g2, c2, hv2, hgb, hgl, hc1, hc2, hcell, hfro, hset⟩ := TW4.out.inc
                subst hv2
                have HST := Lib.hid (hset (c + 1))
                have HGB := Lib.hid hgb
                have HFR := Lib.hid hfro
                unfold maxLen at hc2
                generalize hgn : G.length = gn at *
                clear hset
                go_wp2_with fail
                have BF : Hid (Below w.heap.size w (w4.setCell ⟨g2, gn, none⟩ (.int .u32 ((c + 1 : Nat) : Int)))) := B4.out.setCell HGB.out _
                go_roundw
                case rel => exact ⟨b + 1, _, _, rfl, rfl, by omega, by go_num, by rw [HR.out], by rw [HR.out]; exact HST.out, BF.out⟩
                case measure => simp [intOf]; omega
      · obtain rfl : b = mem := by omega
        go_wp2_with fail
        go_ret2
        exact ⟨⟨_, _, rfl, TW1.out⟩, B1.out⟩
end Go.Proofs.Yteekneicahfkpaa
