/- A field's calls that only read, or write in place: In, Out, safe, done; the document's Bit. -/
import Derived.Test.YtdelcndaogjngaaFieBase
import Derived.Laws.BitsAllLaws
namespace Go.Proofs.Ytdelcndaogjngaa
open Go.RowKit
set_option linter.unusedVariables false
def bitN (rd p : Nat) : Nat := rd / 2 ^ p % 2
theorem and_bit (rd p : Nat) (h : rd < 4294967296) : bits .and .u32 ((rd : Int) / 2 ^ p) 1 = ((bitN rd p : Nat) : Int) := by
  have h1 : rd / 2 ^ p < 4294967296 := Nat.lt_of_le_of_lt (Nat.div_le_self _ _) h
  have h2 := u32_and_nat (rd / 2 ^ p) 1 h1 (by omega)
  rw [nat_mask1] at h2
  unfold bitN
  rw [← h2]; simp
theorem bitN_lt (rd p : Nat) : bitN rd p = 0 ∨ bitN rd p = 1 := by unfold bitN; omega
/-- What In answers. -/
def inE (f : FS) (p n : Int) : Int := if p < 0 ∨ 8 ≤ p ∨ bitN f.rd p.toNat = 0 then 70 else if n < 0 ∨ (f.nI : Int) ≤ n then 5 else 0
def inX (f : FS) (p n : Int) : Nat := if inE f p n = 0 then f.ins n.toNat else 0
set_option maxHeartbeats 2000000 in
theorem in_bad (f : FS) (p n : Int) (w : World) (h : FieldAt w f) (hp1 : p ≤ 9223372036854775807) (hn0 : -9223372036854775808 ≤ n) (hn1 : n ≤ 9223372036854775807) (E : Int) (hE : inE f p n = E) (h0 : E ≠ 0) :
    Calls Try.prog 13 #[.pointer (some ⟨f.g, 0, none⟩), .int .i64 p, .int .i64 n] w fun e w' => e = .returned (.tuple #[.int .u32 0, .int .i64 E]) ∧ w = w' := by
  have c2 : w.cell? ⟨f.g, 2, none⟩ = some (.int .u32 (f.rd : Int)) := h.cell 2 _ rfl
  have c4 : w.cell? ⟨f.g, 4, none⟩ = some f.vi := h.cell 4 _ rfl
  obtain ⟨a, c, hvi, h1, h2, h3⟩ := h.ins
  have hrd := h.ok.rd
  rw [hvi] at c4
  clear h3 h hvi
  unfold maxLen at h2
  unfold inE at hE
  by_cases q1 : p < 0
  · rw [if_pos (.inl q1)] at hE
    subst hE
    have t1 : decide (p < 0) = true := by simpa using q1
    clear q1
    go_enter Try.func13, Try.ntmps13
    go_wp2_with fail
    go_ret2
    exact ⟨rfl, rfl⟩
  have t1 : decide (p < 0) = false := by simpa using q1
  by_cases q2 : 8 ≤ p
  · rw [if_pos (.inr (.inl q2))] at hE
    subst hE
    have t2 : decide (8 ≤ p) = true := by simpa using q2
    clear q1 q2
    go_enter Try.func13, Try.ntmps13
    go_wp2_with fail
    go_ret2
    exact ⟨rfl, rfl⟩
  obtain ⟨p, rfl⟩ := Int.eq_ofNat_of_zero_le (show 0 ≤ p by omega)
  have hb := and_bit f.rd p (by omega)
  have hp8 : p < 8 := by omega
  have t2 : decide (8 ≤ (p : Int)) = false := by simpa using q2
  rcases bitN_lt f.rd p with q3 | q3
  · rw [if_pos (.inr (.inr (by simpa using q3)))] at hE
    subst hE
    have t3 : (bits .and .u32 ((f.rd : Int) / 2 ^ p) 1 == 0) = true := by rw [hb, q3]; rfl
    clear q1 q2 q3 hb
    go_enter Try.func13, Try.ntmps13
    go_wp2_with fail
    go_ret2
    exact ⟨rfl, rfl⟩
  · have t3 : (bits .and .u32 ((f.rd : Int) / 2 ^ p) 1 == 0) = false := by rw [hb, q3]; rfl
    rw [if_neg (by simp; omega)] at hE
    by_cases q4 : n < 0
    · rw [if_pos (.inl q4)] at hE
      subst hE
      have t4 : decide (n < 0) = true := by simpa using q4
      clear q1 q2 q3 q4 hb
      go_enter Try.func13, Try.ntmps13
      go_wp2_with fail
      go_ret2
      exact ⟨rfl, rfl⟩
    · by_cases q5 : (f.nI : Int) ≤ n
      · rw [if_pos (.inr q5)] at hE
        subst hE
        have t4 : decide (n < 0) = false := by simpa using q4
        have t5 : decide ((f.nI : Int) ≤ n) = true := by simpa using q5
        clear q1 q2 q3 q4 q5 hb
        go_enter Try.func13, Try.ntmps13
        go_wp2_with fail
        go_ret2
        exact ⟨rfl, rfl⟩
      · rw [if_neg (by omega)] at hE
        exact absurd hE.symm h0
set_option maxHeartbeats 2000000 in
theorem in_ok (f : FS) (p n : Int) (w : World) (h : FieldAt w f) (hE : inE f p n = 0) :
    Calls Try.prog 13 #[.pointer (some ⟨f.g, 0, none⟩), .int .i64 p, .int .i64 n] w fun e w' => e = .returned (.tuple #[.int .u32 (f.ins n.toNat : Nat), .int .i64 0]) ∧ w = w' := by
  have c2 : w.cell? ⟨f.g, 2, none⟩ = some (.int .u32 (f.rd : Int)) := h.cell 2 _ rfl
  have c4 : w.cell? ⟨f.g, 4, none⟩ = some f.vi := h.cell 4 _ rfl
  obtain ⟨a, c, hvi, h1, h2, h3⟩ := h.ins
  have hrd := h.ok.rd
  have hnI := h.ok.nI
  rw [hvi] at c4
  unfold maxLen at h2
  unfold inE at hE
  split at hE
  · exact absurd hE (by decide)
  split at hE
  · exact absurd hE (by decide)
  obtain ⟨p, rfl⟩ := Int.eq_ofNat_of_zero_le (show 0 ≤ p by omega)
  obtain ⟨n, rfl⟩ := Int.eq_ofNat_of_zero_le (show 0 ≤ n by omega)
  have hb := and_bit f.rd p (by omega)
  have hp8 : p < 8 := by omega
  have q3 : bitN f.rd p = 1 := by
    rename_i h4 _
    rcases bitN_lt f.rd p with q | q
    · exact absurd (.inr (.inr (by simpa using q))) h4
    · exact q
  have t1 : decide ((p : Int) < 0) = false := by simp
  have t2 : decide (8 ≤ (p : Int)) = false := by simp; omega
  have t3 : (bits .and .u32 ((f.rd : Int) / 2 ^ p) 1 == 0) = false := by rw [hb, q3]; rfl
  have t4 : decide ((n : Int) < 0) = false := by simp
  have t5 : decide (f.nI ≤ n) = false := by simp; omega
  have hn : n < f.nI := by omega
  obtain ⟨rfl, hr⟩ := h3 (by omega)
  have c5 : w.cell? ⟨f.bi, n, none⟩ = some (.int .u32 ((f.ins n : Nat) : Int)) := hr.cell hn
  have i1 : (n : Int) < (f.nI : Int) := by omega
  clear hb q3 hE hr hvi h3 h
  rw [Int.toNat_natCast]
  go_enter Try.func13, Try.ntmps13
  go_wp2_with fail
  go_ret2
  exact ⟨rfl, rfl⟩
def FS.outP (f : FS) (n x : Nat) : FS := { f with put := fun j => if j = n then x else f.put j, has := fun j => if j = n then true else f.has j }
def outE (f : FS) (p n : Int) : Int := if p ≠ f.wr then 70 else if n < 0 ∨ (f.nS : Int) ≤ n then 5 else 0
set_option maxHeartbeats 2000000 in
theorem out_bad (f : FS) (p n x : Int) (w : World) (h : FieldAt w f) (hn0 : -9223372036854775808 ≤ n) (hn1 : n ≤ 9223372036854775807) (E : Int) (hE : outE f p n = E) (h0 : E ≠ 0) :
    Calls Try.prog 15 #[.pointer (some ⟨f.g, 0, none⟩), .int .i64 p, .int .i64 n, .int .u32 x] w fun e w' => e = .returned (.int .i64 E) ∧ w = w' := by
  have c3 : w.cell? ⟨f.g, 3, none⟩ = some (.int .i64 f.wr) := h.cell 3 _ rfl
  have c5 : w.cell? ⟨f.g, 5, none⟩ = some f.vo := h.cell 5 _ rfl
  obtain ⟨a, c, hvi, h1, h2, h3⟩ := h.outs
  rw [hvi] at c5
  clear h3 h hvi
  unfold maxLen at h2
  unfold outE at hE
  by_cases q1 : p = f.wr
  · rw [if_neg (by simpa using q1)] at hE
    have t1 : (p == f.wr) = true := by simpa using q1
    have t1' : (p != f.wr) = false := by simpa using q1
    by_cases q4 : n < 0
    · rw [if_pos (.inl q4)] at hE
      subst hE
      have t4 : decide (n < 0) = true := by simpa using q4
      clear q1 q4
      go_enter Try.func15, Try.ntmps15
      go_wp2_with fail
      go_ret
      exact ⟨rfl, rfl⟩
    · by_cases q5 : (f.nS : Int) ≤ n
      · rw [if_pos (.inr q5)] at hE
        subst hE
        have t4 : decide (n < 0) = false := by simpa using q4
        have t5 : decide ((f.nS : Int) ≤ n) = true := by simpa using q5
        clear q1 q4 q5
        go_enter Try.func15, Try.ntmps15
        go_wp2_with fail
        go_ret
        exact ⟨rfl, rfl⟩
      · rw [if_neg (by omega)] at hE
        exact absurd hE.symm h0
  · rw [if_pos q1] at hE
    subst hE
    have t1 : (p == f.wr) = false := by simpa using q1
    have t1' : (p != f.wr) = true := by simpa using q1
    clear q1
    go_enter Try.func15, Try.ntmps15
    go_wp2_with fail
    go_ret
    exact ⟨rfl, rfl⟩
theorem FieldAt.out {w : World} {f : FS} (h : FieldAt w f) {n x : Nat} (hn : n < f.nS) (hx : x < 4294967296) : FieldAt ((w.setCell ⟨f.bp, n, none⟩ (.int .u32 (x : Int))).setCell ⟨f.bh, n, none⟩ (.bool true)) (f.outP n x) := by
  obtain ⟨k1, k2, k3, k4, k5, k6, k7, k8, k9, k10⟩ := h.ok.bS (by omega)
  have kI := h.ok.bIS
  have kG := h.ok.bi
  have two : ∀ b, b ≠ f.bp → b ≠ f.bh → ((w.setCell ⟨f.bp, n, none⟩ (.int .u32 (x : Int))).setCell ⟨f.bh, n, none⟩ (.bool true)).heap[b]? = w.heap[b]? := fun b h1 h2 => by rw [heap_setCell_other _ _ _ _ h2, heap_setCell_other _ _ _ _ h1]
  refine ⟨(two f.g (by omega) (by omega)).trans h.obj, ⟨h.ok.nI, h.ok.nS, h.ok.rd, h.ok.wr, h.ok.safe, h.ok.ins, h.ok.outs, fun i => ?_, h.ok.g, h.ok.bi, h.ok.bS, h.ok.bIS⟩, h.safe.same (fun _ => two f.bs (by omega) (by omega)),
    h.ins.same (fun hp => two f.bi (by have := kI hp (by omega); omega) (by have := kI hp (by omega); omega)), h.outs.same (fun _ => two f.bo (by omega) (by omega)), ?_, ?_, by show f.hi ≤ _; simpa [World.setCell] using h.hi⟩
  · show (if i = n then x else f.put i) < _
    split
    · exact hx
    · exact h.ok.put i
  · obtain ⟨a, c, e1, e2, e3, e4⟩ := h.put
    refine ⟨a, c, e1, e2, e3, fun hp => ⟨(e4 hp).1, (((e4 hp).2.set (i := n) (.int .u32 (x : Int))).other (b' := f.bh) (o := n) (by omega) _).congr fun i hi => ?_⟩⟩
    show (if i = n then (Value.int .u32 (x : Int)) else uV f.put i) = Value.int .u32 ((if i = n then x else f.put i : Nat) : Int)
    unfold uV
    split <;> rfl
  · obtain ⟨a, c, e1, e2, e3, e4⟩ := h.has
    refine ⟨a, c, e1, e2, e3, fun hp => ⟨(e4 hp).1, (((e4 hp).2.other (b' := f.bp) (o := n) (by omega) _).set (i := n) (.bool true)).congr fun i hi => ?_⟩⟩
    show (if i = n then (Value.bool true) else hV f.has i) = Value.bool (if i = n then true else f.has i)
    unfold hV
    split <;> rfl
theorem FieldAt.drew {w : World} {f : FS} (h : FieldAt w f) : FieldAt w.drew f := ⟨h.obj, h.ok, h.safe, h.ins, h.outs, h.put, h.has, h.hi⟩
set_option maxHeartbeats 2000000 in
theorem out_ok (f : FS) (p n : Int) (x : Nat) (w : World) (h : FieldAt w f) (hx : x < 4294967296) (hE : outE f p n = 0) :
    Calls Try.prog 15 #[.pointer (some ⟨f.g, 0, none⟩), .int .i64 p, .int .i64 n, .int .u32 (x : Int)] w fun e w' => e = .returned (.int .i64 0) ∧ FieldAt w' (f.outP n.toNat x) ∧ Only f.M w w' := by
  have H := Lib.hid h
  have c3 : w.cell? ⟨f.g, 3, none⟩ = some (.int .i64 f.wr) := h.cell 3 _ rfl
  have c5 : w.cell? ⟨f.g, 5, none⟩ = some f.vo := h.cell 5 _ rfl
  have c6 : w.cell? ⟨f.g, 6, none⟩ = some f.vp := h.cell 6 _ rfl
  have c7 : w.cell? ⟨f.g, 7, none⟩ = some f.vh := h.cell 7 _ rfl
  obtain ⟨a, c, hvo, h1, h2, h3⟩ := h.outs
  obtain ⟨a', c', hvp, h1', h2', h3'⟩ := h.put
  obtain ⟨a'', c'', hvh, h1'', h2'', h3''⟩ := h.has
  rw [hvo] at c5
  rw [hvp] at c6
  rw [hvh] at c7
  unfold maxLen at h2 h2' h2''
  unfold outE at hE
  split at hE
  · exact absurd hE (by decide)
  split at hE
  · exact absurd hE (by decide)
  have q1 : p = f.wr := by rename_i h4 _; exact Classical.byContradiction h4
  obtain ⟨n, rfl⟩ := Int.eq_ofNat_of_zero_le (show 0 ≤ n by omega)
  have hn : n < f.nS := by omega
  obtain ⟨rfl, hr⟩ := h3' (by omega)
  obtain ⟨rfl, hr'⟩ := h3'' (by omega)
  have d6 : w.cell? ⟨f.bp, n, none⟩ = some (.int .u32 ((f.put n : Nat) : Int)) := hr.cell hn
  have f6 : w.frozen? ⟨f.bp, n, none⟩ = false := hr.frozen n
  have d7 : w.cell? ⟨f.bh, n, none⟩ = some (.bool (f.has n)) := hr'.cell hn
  have f7 : w.frozen? ⟨f.bh, n, none⟩ = false := hr'.frozen n
  have hk := h.ok.bS (by omega)
  have hne : f.bp ≠ f.bh := by omega
  have hne' : f.bh ≠ f.bp := by omega
  have HK := Lib.hid hk
  have t1 : (p == f.wr) = true := by simpa using q1
  have t1' : (p != f.wr) = false := by simpa using q1
  have t4 : decide ((n : Int) < 0) = false := by simp
  have t5 : decide (f.nS ≤ n) = false := by simp; omega
  have i1 : (n : Int) < (f.nS : Int) := by omega
  clear hr hr' hvo hvp hvh h3 h3' h3'' h hE q1 hk
  go_enter Try.func15, Try.ntmps15
  go_wp2_with fail
  go_region
  all_goals
    go_wp2_with fail
    go_ret
    exact ⟨rfl, by rw [Int.toNat_natCast]; exact (H.out.out hn hx).drew, (((Only.refl f.M w).set n _ (.inr ⟨HK.out.2.1.1, HK.out.2.1.2.1⟩)).set n _ (.inr ⟨HK.out.2.2.1.1, HK.out.2.2.1.2.1⟩)).drew⟩
theorem safe_any (f : FS) (n : Nat) (w : World) (h : FieldAt w f) (hn : n < f.nS) :
    Calls Try.prog 26 #[.pointer (some ⟨f.g, 0, none⟩), .int .i64 (n : Int)] w fun e w' => e = .returned (.int .u32 (f.safe n : Nat)) ∧ w = w' := by
  have c1 : w.cell? ⟨f.g, 1, none⟩ = some f.vs := h.cell 1 _ rfl
  obtain ⟨a, c, hv, h1, h2, h3⟩ := h.safe
  have hnS := h.ok.nS
  rw [hv] at c1
  obtain ⟨rfl, hr⟩ := h3 (by omega)
  have c5 : w.cell? ⟨f.bs, n, none⟩ = some (.int .u32 ((f.safe n : Nat) : Int)) := hr.cell hn
  have i1 : (n : Int) < (f.nS : Int) := by omega
  clear hr hv h3 h
  go_enter Try.func26, Try.ntmps26
  go_wp2_with fail
  go_ret
  exact ⟨rfl, rfl⟩
def FS.done (f : FS) (n : Nat) : Nat := if f.has n then f.put n else f.safe n
theorem done_any (f : FS) (n : Nat) (w : World) (h : FieldAt w f) (hn : n < f.nS) :
    Calls Try.prog 27 #[.pointer (some ⟨f.g, 0, none⟩), .int .i64 (n : Int)] w fun e w' => e = .returned (.int .u32 (f.done n : Nat)) ∧ w = w' := by
  have H := Lib.hid h
  have c6 : w.cell? ⟨f.g, 6, none⟩ = some f.vp := h.cell 6 _ rfl
  have c7 : w.cell? ⟨f.g, 7, none⟩ = some f.vh := h.cell 7 _ rfl
  obtain ⟨a', c', hvp, h1', h2', h3'⟩ := h.put
  obtain ⟨a'', c'', hvh, h1'', h2'', h3''⟩ := h.has
  have hnS := h.ok.nS
  rw [hvp] at c6
  rw [hvh] at c7
  obtain ⟨rfl, hr⟩ := h3' (by omega)
  obtain ⟨rfl, hr'⟩ := h3'' (by omega)
  have d6 : w.cell? ⟨f.bp, n, none⟩ = some (.int .u32 ((f.put n : Nat) : Int)) := hr.cell hn
  have d7 : w.cell? ⟨f.bh, n, none⟩ = some (.bool (f.has n)) := hr'.cell hn
  have i1 : (n : Int) < (f.nS : Int) := by omega
  clear hr hr' hvp hvh h3' h3'' h
  cases hb : f.has n with
  | true =>
    have HD : Hid (f.done n = f.put n) := by show f.done n = f.put n; unfold FS.done; rw [hb]; rfl
    rw [hb] at d7
    clear hb
    go_enter Try.func27, Try.ntmps27
    go_wp2_with fail
    go_ret
    exact ⟨by rw [HD.out]; rfl, rfl⟩
  | false =>
    have HD : Hid (f.done n = f.safe n) := by show f.done n = f.safe n; unfold FS.done; rw [hb]; rfl
    rw [hb] at d7
    clear hb
    go_enter Try.func27, Try.ntmps27
    go_wp2_with fail
    refine (safe_any f n w H.out hn).mono ?_
    rintro e w1 ⟨rfl, rfl⟩
    go_wp2_with fail
    go_ret
    exact ⟨by rw [HD.out]; rfl, rfl⟩
end Go.Proofs.Ytdelcndaogjngaa
