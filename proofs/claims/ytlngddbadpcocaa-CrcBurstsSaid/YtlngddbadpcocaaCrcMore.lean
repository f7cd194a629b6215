/- What crc.More, crc.Sum and the reference's functions return, at any bytes. -/
import Derived.Test.YtlngddbadpcocaaCrcHalves
import Derived.OpenShut
namespace Go.Proofs.Ytlngddbadpcocaa
open Go.RowKit
set_option linter.unusedVariables false

/-- The bytes l lie at the address a. -/
def BytesAt (w : World) (a : Option Addr) (l : List Nat) : Prop :=
  (∀ c ∈ l, c < 256) ∧ (l = [] ∨ ∃ b off, a = some ⟨b, off, none⟩ ∧ b < w.heap.size ∧ ∀ i, i < l.length → w.cell? ⟨b, off + i, none⟩ = some (.int .u8 (l.getD i 0 : Nat)))
theorem BytesAt.below {w w' : World} {a : Option Addr} {l : List Nat} (h : BytesAt w a l) (hb : Below w.heap.size w w') : BytesAt w' a l := by
  obtain ⟨h1, h2⟩ := h
  refine ⟨h1, ?_⟩
  rcases h2 with h2 | ⟨b, off, rfl, hlt, hc⟩
  · exact .inl h2
  · exact .inr ⟨b, off, rfl, Nat.lt_of_lt_of_le hlt hb.size, fun i hi => by rw [hb.cell hlt]; exact hc i hi⟩
theorem getD_mem_lt {l : List Nat} (h : ∀ c ∈ l, c < 256) (k : Nat) : l.getD k 0 < 256 := by
  rw [List.getD_eq_getElem?_getD]
  by_cases hk : k < l.length
  · simp only [List.getElem?_eq_getElem hk, Option.getD_some]; exact h _ (List.getElem_mem hk)
  · simp [List.getElem?_eq_none (Nat.le_of_not_lt hk)]
theorem take_snoc {l : List Nat} {k : Nat} (h : k < l.length) : l.take (k + 1) = l.take k ++ [l.getD k 0] := by
  rw [List.take_succ_eq_append_getElem h]; simp [List.getD_eq_getElem?_getD, h]
theorem take_mem {l : List Nat} (h : ∀ c ∈ l, c < 256) (k : Nat) : ∀ c ∈ l.take k, c < 256 := fun c hc => h c (List.mem_of_mem_take hc)

theorem not_u32 (s : Nat) (h : s < 4294967296) : bits .xor .u32 IntKind.u32.max (s : Int) = ((4294967295 - s : Nat) : Int) := by
  have e : IntKind.u32.max = ((4294967295 : Nat) : Int) := by decide
  rw [e, u32_xor_nat 4294967295 s (by omega) h]
  congr 1
  have h1 := BitVec.toNat_not (x := BitVec.ofNat 32 s)
  rw [← BitVec.allOnes_xor, BitVec.toNat_xor] at h1
  simpa [Nat.mod_eq_of_lt h] using h1
theorem tabRow_at (j : Nat) (h : j < 16) : (tabRow 16)[j]? = some (Value.int .u32 (Pl.tab j : Nat)) := by
  rw [tabRow_get 16 j h, if_pos h]

/-- A half byte's step, in the walk's own spelling. -/
theorem half_facts (n : Nat) (h : n < 4294967296) : ∃ i t m : Nat, i < 16 ∧ t = Pl.tab i ∧ m < 4294967296 ∧ bits .and .u32 (n : Int) 15 = (i : Int) ∧ bits .xor .u32 ((n : Int) / 16) (t : Int) = (m : Int) ∧ m = (n / 16) ^^^ Pl.tab (n % 16) ∧ i = n % 16 := by
  have ht := Pl.tab_lt (n % 16) (by omega)
  refine ⟨n % 16, Pl.tab (n % 16), (n / 16) ^^^ Pl.tab (n % 16), by omega, rfl, Pl.xor_lt32 (by omega) ht, ?_, ?_, rfl, rfl⟩
  · have := u32_and_nat n 15 h (by omega)
    rw [nat_mask4] at this; exact this
  · have := u32_xor_nat (n / 16) (Pl.tab (n % 16)) (by omega) ht
    exact_mod_cast this

set_option maxHeartbeats 1000000 in
theorem more_any (s : Nat) (a : Option Addr) (len cap : Nat) (l : List Nat) (w : World) (hs : s < 4294967296) (hlen : l.length = len) (hmax : len ≤ 140737488355328) (hl : BytesAt w a l) :
    Calls Try.prog 11 #[.int .u32 (s : Int), .slice a len cap] w fun e w' => e = .returned (.int .u32 (Pl.more s l : Nat)) ∧ Below w.heap.size w w' := by
  have HL := Lib.hid hl; have HE := Lib.hid hlen
  have hx := not_u32 s hs
  clear hl hlen
  go_enter Try.func11, Try.ntmps11
  go_wp2_with (first
    | (go_at_call 14; refine (halves_any _).mono ?_; rintro e w1 ⟨rfl, hb1⟩; have HB := Lib.hid hb1; clear hb1)
    | (refine wpList_store_row rfl 32 _ _ rfl w1.heap.size (tabRow 16) rfl rfl 32 (tabRow 0) (by rw [tabRow_zero]; exact heap_alloc_new _ _) (infoTab 16) (tabSizes 0 16) (tabOnes 16) ?_))
  clear hx
  obtain ⟨w2, hw2⟩ : ∃ w2, w2 = World.setRow (World.alloc w1 (Obj.cells (tabRow 0) 32)) w1.heap.size (tabRow 16) := ⟨_, rfl⟩
  have hrow : w2.heap[w1.heap.size]? = some (.cells (tabRow 16) 32 (0, 0)) := by rw [hw2]; exact setRow_heap _ _ (tabRow 0) _ _ _ (heap_alloc_new _ _)
  have hbel : Below w.heap.size w w2 := by
    rw [hw2]; exact below_setRow (HB.out.alloc HB.out.size _) HB.out.size _
  rw [tabRow_zero] at hw2
  rw [← hw2]
  have hby := HL.out.below hbel
  have HR := Lib.hid hrow; have HB2 := Lib.hid hbel; have HY := Lib.hid hby
  clear hrow hbel hby hw2
  go_loop [6, 14] (fun r i => ∃ k : Nat, k ≤ len ∧ i = .int .i64 k ∧ r = .int .u32 (Pl.rem (4294967295 - s) (l.take k) : Nat)) (fun _ i => len - (intOf i).toNat)
  case atStart => exact ⟨0, Nat.zero_le _, rfl, rfl⟩
  case round =>
    obtain ⟨k, hk, rfl, rfl⟩ := hrel
    by_cases hlt : k < len
    · have hmem := HL.out.1
      have hq : Pl.rem (4294967295 - s) (l.take k) < 4294967296 := Pl.rem_lt _ _ (by omega) (take_mem hmem k)
      have hc := getD_mem_lt hmem k
      have hfin : Pl.rem (4294967295 - s) (l.take (k + 1)) = Pl.btN 8 (Pl.rem (4294967295 - s) (l.take k) ^^^ l.getD k 0) := by rw [take_snoc (by rw [HE.out]; exact hlt), Pl.rem_snoc]
      obtain ⟨b, off, rfl, -, hcells⟩ : ∃ b off, a = some ⟨b, off, none⟩ ∧ b < w2.heap.size ∧ ∀ i, i < l.length → w2.cell? ⟨b, off + i, none⟩ = some (.int .u8 (l.getD i 0 : Nat)) := by
        rcases HY.out.2 with h0 | h0
        · exfalso; have := HE.out; rw [h0] at this; simp at this; omega
        · exact h0
      have hcell := hcells k (by rw [HE.out]; exact hlt)
      clear hcells hmem
      generalize Pl.rem (4294967295 - s) (l.take k) = q at *
      generalize l.getD k 0 = c at *
      have HF := Lib.hid hfin; clear hfin
      have hx1 : bits .xor .u32 (q : Int) (c : Int) = ((q ^^^ c : Nat) : Int) := u32_xor_nat q c hq (by omega)
      have hn1 : q ^^^ c < 4294967296 := Pl.xor_lt32 hq (by omega)
      have HN : Hid (∃ z, z = q ^^^ c) := ⟨_, rfl⟩
      obtain ⟨n1, hn⟩ := HN.out
      rw [← hn] at hx1 hn1
      have HN1 := Lib.hid hn; clear hn HN
      obtain ⟨i1, t1, n2, hi1, ht1, hn2, ha1, hx2, he1, hj1⟩ := half_facts n1 hn1
      obtain ⟨i2, t2, n3, hi2, ht2, hn3, ha2, hx3, he2, hj2⟩ := half_facts n2 hn2
      have hr1 : w2.cell? ⟨w1.heap.size, i1, none⟩ = some (.int .u32 (t1 : Int)) := by rw [ht1]; exact cell_row HR.out (tabRow_at i1 hi1)
      have hr2 : w2.cell? ⟨w1.heap.size, i2, none⟩ = some (.int .u32 (t2 : Int)) := by rw [ht2]; exact cell_row HR.out (tabRow_at i2 hi2)
      have HT1 := Lib.hid ht1; have HT2 := Lib.hid ht2; have HE1 := Lib.hid he1; have HE2 := Lib.hid he2; have HJ1 := Lib.hid hj1; have HJ2 := Lib.hid hj2
      clear ht1 ht2 he1 he2 hj1 hj2
      go_wp2
      go_round
      case rel =>
        refine ⟨k + 1, by omega, by go_num, ?_⟩
        have e : n3 = Pl.byteT q c := by
          unfold Pl.byteT
          rw [HE2.out, HE1.out, HN1.out]
        rw [HF.out, e, Pl.byteT_eq]
      case measure => simp [intOf]; omega
    · obtain rfl : k = len := by omega
      have hmem := HL.out.1
      have hq : Pl.rem (4294967295 - s) (l.take k) < 4294967296 := Pl.rem_lt _ _ (by omega) (take_mem hmem k)
      have hx := not_u32 (Pl.rem (4294967295 - s) (l.take k)) hq
      have HT : Hid (l.take k = l) := List.take_of_length_le (by rw [HE.out]; omega)
      clear hmem
      go_wp2
      go_ret
      refine ⟨?_, HB2.out⟩
      rw [HT.out]; rfl

theorem sum_any (a : Option Addr) (len cap : Nat) (l : List Nat) (w : World) (hlen : l.length = len) (hmax : len ≤ 140737488355328) (hl : BytesAt w a l) :
    Calls Try.prog 10 #[.slice a len cap] w fun e w' => e = .returned (.int .u32 (Pl.more 0 l : Nat)) ∧ Below w.heap.size w w' := by
  go_enter Try.func10, Try.ntmps10
  go_wp2_with (go_at_call 11; refine (more_any 0 a len cap l w (by omega) hlen hmax hl).mono ?_; rintro e w1 ⟨rfl, hb1⟩)
  go_ret
  exact ⟨rfl, hb1⟩

/-! ### the reference -/
theorem bit_any (r c : Nat) (w : World) (hr : r < 4294967296) (hc : c < 4294967296) :
    Calls Try.prog 16 #[.int .u32 (r : Int), .int .u32 (c : Int)] w fun e w' => e = .returned (.int .u32 (Pl.rbit r c : Nat)) ∧ w = w' := by
  by_cases h : r % 2 = c % 2
  · have h1 : ((r : Int) % 2 != (c : Int) % 2) = false := by simp; omega
    have hf : ((Pl.rbit r c : Nat) : Int) = (r : Int) / 2 := by unfold Pl.rbit; rw [if_pos h]; simp
    have HF := Lib.hid hf; clear hf h
    go_enter Try.func16, Try.ntmps16
    go_wp2
    go_ret
    exact ⟨by rw [HF.out]; rfl, rfl⟩
  · have h1 : ((r : Int) % 2 != (c : Int) % 2) = true := by simp; omega
    have hf : ((Pl.rbit r c : Nat) : Int) = bits .xor .u32 ((r : Int) / 2) 3988292384 := by
      unfold Pl.rbit; rw [if_neg h]
      have := u32_xor_nat (r / 2) 3988292384 (by omega) (by omega)
      exact this.symm
    have HF := Lib.hid hf; clear hf h
    go_enter Try.func16, Try.ntmps16
    go_wp2
    go_ret
    exact ⟨by rw [HF.out]; rfl, rfl⟩

theorem rbitN_lt (n : Nat) : ∀ r c, r < 4294967296 → Pl.rbitN n r c < 4294967296 := by
  induction n with
  | zero => intro r c h; exact h
  | succ n ih => intro r c h; exact ih _ _ (Pl.rbit_lt c h)
theorem rbitN_succ (n : Nat) : ∀ r c, Pl.rbitN (n + 1) r c = Pl.rbit (Pl.rbitN n r c) (c / 2 ^ n) := by
  induction n with
  | zero => intro r c; simp [Pl.rbitN]
  | succ n ih =>
    intro r c
    show Pl.rbitN (n + 1) (Pl.rbit r c) (c / 2) = _
    rw [ih, Nat.div_div_eq_div_mul, Nat.pow_succ, Nat.mul_comm 2]; rfl

set_option maxHeartbeats 1000000 in
theorem remainder_any (r : Nat) (a : Option Addr) (len cap : Nat) (l : List Nat) (w : World) (hr : r < 4294967296) (hlen : l.length = len) (hmax : len ≤ 140737488355328) (hl : BytesAt w a l) :
    Calls Try.prog 15 #[.int .u32 (r : Int), .slice a len cap] w fun e w' => e = .returned (.int .u32 (Pl.rem r l : Nat)) ∧ w = w' := by
  have HL := Lib.hid hl; have HE := Lib.hid hlen
  clear hl hlen
  go_enter Try.func15, Try.ntmps15
  go_wp2
  go_loop [0, 5] (fun x i => ∃ k : Nat, k ≤ len ∧ i = .int .i64 k ∧ x = .int .u32 (Pl.rem r (l.take k) : Nat)) (fun _ i => len - (intOf i).toNat)
  case atStart => exact ⟨0, Nat.zero_le _, rfl, rfl⟩
  case round =>
    obtain ⟨k, hk, rfl, rfl⟩ := hrel
    by_cases hlt : k < len
    · have hmem := HL.out.1
      have hq : Pl.rem r (l.take k) < 4294967296 := Pl.rem_lt _ _ (by omega) (take_mem hmem k)
      have hc := getD_mem_lt hmem k
      have hfin : Pl.rem r (l.take (k + 1)) = Pl.btN 8 (Pl.rem r (l.take k) ^^^ l.getD k 0) := by rw [take_snoc (by rw [HE.out]; exact hlt), Pl.rem_snoc]
      obtain ⟨b, off, rfl, -, hcells⟩ : ∃ b off, a = some ⟨b, off, none⟩ ∧ b < w.heap.size ∧ ∀ i, i < l.length → w.cell? ⟨b, off + i, none⟩ = some (.int .u8 (l.getD i 0 : Nat)) := by
        rcases HL.out.2 with h0 | h0
        · exfalso; have := HE.out; rw [h0] at this; simp at this; omega
        · exact h0
      have hcell := hcells k (by rw [HE.out]; exact hlt)
      clear hcells hmem
      generalize Pl.rem r (l.take k) = q at *
      generalize l.getD k 0 = c at *
      have HF := Lib.hid hfin; clear hfin
      go_wp2
      go_loop [0, 6, 7] (fun x y j => ∃ m : Nat, m ≤ 8 ∧ j = .int .i64 m ∧ x = .int .u32 (Pl.rbitN m q c : Nat) ∧ y = .int .u32 ((c / 2 ^ m : Nat) : Int)) (fun _ _ j => 8 - (intOf j).toNat)
      case atStart => exact ⟨0, Nat.zero_le _, rfl, rfl, by simp⟩
      case round =>
        obtain ⟨m, hm, rfl, rfl, rfl⟩ := hrel
        by_cases hmlt : m < 8
        · have hx := rbitN_lt m q c hq
          have hy : c / 2 ^ m < 4294967296 := Nat.lt_of_le_of_lt (Nat.div_le_self _ _) (by omega)
          have H1 : Hid (Pl.rbitN (m + 1) q c = Pl.rbit (Pl.rbitN m q c) (c / 2 ^ m)) := rbitN_succ m q c
          have H2 : Hid (((c / 2 ^ (m + 1) : Nat) : Int) = ((c / 2 ^ m : Nat) : Int) / 2) := by
            show ((c / 2 ^ (m + 1) : Nat) : Int) = _
            rw [Nat.pow_succ, ← Nat.div_div_eq_div_mul]; simp
          generalize Pl.rbitN m q c = x at *
          generalize c / 2 ^ m = y at *
          go_wp2_with (go_at_call 16; refine (bit_any x y _ hx hy).mono ?_; rintro e w1 ⟨rfl, rfl⟩)
          go_round
          case rel => exact ⟨m + 1, by omega, by go_num, by rw [H1.out], by rw [H2.out]⟩
          case measure => simp [intOf]; omega
        · obtain rfl : m = 8 := by omega
          go_wp2
          go_round
          case rel =>
            refine ⟨k + 1, by omega, by go_num, ?_⟩
            rw [HF.out, Pl.rbit8 q c hc]
          case measure => simp [intOf]; omega
    · obtain rfl : k = len := by omega
      have HT : Hid (l.take k = l) := List.take_of_length_le (by rw [HE.out]; omega)
      go_wp2
      go_ret
      exact ⟨by rw [HT.out]; rfl, rfl⟩

theorem refSum_any (a : Option Addr) (len cap : Nat) (l : List Nat) (w : World) (hlen : l.length = len) (hmax : len ≤ 140737488355328) (hl : BytesAt w a l) :
    Calls Try.prog 12 #[.slice a len cap] w fun e w' => e = .returned (.int .u32 (Pl.more 0 l : Nat)) ∧ w = w' := by
  have hq : Pl.rem 4294967295 l < 4294967296 := Pl.rem_lt _ _ (by omega) hl.1
  have HF : Hid (Pl.more 0 l = 4294967295 - Pl.rem 4294967295 l) := rfl
  go_enter Try.func12, Try.ntmps12
  go_wp2_with (go_at_call 15; refine (remainder_any 4294967295 a len cap l w (by omega) hlen hmax hl).mono ?_; rintro e w1 ⟨rfl, rfl⟩)
  go_ret
  exact ⟨congrArg (fun z => Ending.returned (.int .u32 z)) (show (4294967295 - (Pl.rem 4294967295 l : Nat) : Int) = (Pl.more 0 l : Nat) by rw [HF.out]; omega), rfl⟩

theorem refMore_any (s : Nat) (a : Option Addr) (len cap : Nat) (l : List Nat) (w : World) (hs : s < 4294967296) (hlen : l.length = len) (hmax : len ≤ 140737488355328) (hl : BytesAt w a l) :
    Calls Try.prog 13 #[.int .u32 (s : Int), .slice a len cap] w fun e w' => e = .returned (.int .u32 (Pl.more s l : Nat)) ∧ w = w' := by
  have hq : Pl.rem (4294967295 - s) l < 4294967296 := Pl.rem_lt _ _ (by omega) hl.1
  have HF : Hid (Pl.more s l = 4294967295 - Pl.rem (4294967295 - s) l) := rfl
  have hsub : (4294967295 - (s : Int)) = ((4294967295 - s : Nat) : Int) := by omega
  go_enter Try.func13, Try.ntmps13
  go_wp2_with (go_at_call 15; refine (remainder_any (4294967295 - s) a len cap l w (by omega) hlen hmax hl).mono ?_; rintro e w1 ⟨rfl, rfl⟩)
  go_ret
  exact ⟨congrArg (fun z => Ending.returned (.int .u32 z)) (show (4294967295 - (Pl.rem (4294967295 - s) l : Nat) : Int) = (Pl.more s l : Nat) by rw [HF.out]; omega), rfl⟩
end Go.Proofs.Ytlngddbadpcocaa
