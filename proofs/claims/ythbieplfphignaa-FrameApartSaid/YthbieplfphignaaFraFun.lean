/- The small functions of the frame: Great, Begin, the document's At and Begin. -/
import Derived.Test.YthbieplfphignaaFraAt
namespace Go.Proofs.Ythbieplfphignaa
open Go.RowKit Go.Shelf
set_option linter.unusedVariables false
theorem below_box (w : World) (o : Obj) : Below w.heap.size w (w.alloc o) := (Below.refl _ w).alloc (Nat.le_refl _) o
theorem great_any (L sw : Nat) (a : Option Addr) (len cap : Nat) (b : Bool) (w : World) (hb : decide (2000 < (len : Int)) = b) :
    Calls Try.prog 8 #[.agg #[.int .u32 (L : Int), .int .u32 (sw : Int), .slice a len cap]] w fun e W' => e = .returned (.bool b) ∧ Below w.heap.size w W' := by
  subst hb
  go_enter Try.func8, Try.ntmps8
  go_wp2_with fail
  go_ret
  exact ⟨rfl, below_box _ _⟩
def beginI (L : Nat) (S : Nat → SlotR) (len k : Nat) (n : Int) : Int := if 0 ≤ n ∧ n < (len : Int) then ((k * L + (S n.toNat).start) % 18446744073709551616 : Nat) else 0
set_option maxHeartbeats 2000000 in
theorem begin_any (L sw : Nat) (a : Option Addr) (len cap : Nat) (S : Nat → SlotR) (k : Nat) (n : Int) (w : World) (hm : len ≤ 9223372036854775807) (hL : L < 4294967296) (hk : k < 18446744073709551616) (hS : SlotsAt w a len S) :
    Calls Try.prog 15 #[.agg #[.int .u32 (L : Int), .int .u32 (sw : Int), .slice a len cap], .int .u64 (k : Int), .int .i64 n] w fun e W' => e = .returned (.int .u64 (beginI L S len k n)) ∧ Below w.heap.size w W' := by
  by_cases q1 : n < 0
  · have t1 : decide (n < 0) = true := by simpa using q1
    have hv : Hid (beginI L S len k n = 0) := by show beginI L S len k n = 0; unfold beginI; rw [if_neg (by omega)]
    go_enter Try.func15, Try.ntmps15
    go_wp2_with fail
    go_ret
    exact ⟨by rw [hv.out]; rfl, below_box _ _⟩
  · have t1 : decide (n < 0) = false := by simpa using q1
    by_cases q2 : (len : Int) ≤ n
    · have t2 : decide ((len : Int) ≤ n) = true := by simpa using q2
      have hv : Hid (beginI L S len k n = 0) := by show beginI L S len k n = 0; unfold beginI; rw [if_neg (by omega)]
      go_enter Try.func15, Try.ntmps15
      go_wp2_with fail
      go_ret
      exact ⟨by rw [hv.out]; rfl, below_box _ _⟩
    · obtain ⟨i, rfl⟩ := Int.eq_ofNat_of_zero_le (show 0 ≤ n by omega)
      have hi : i < len := by omega
      have t2 : decide ((len : Int) ≤ (i : Int)) = false := by simpa using q2
      have t3 : decide (len ≤ i) = false := by simp; omega
      obtain ⟨b, off, rfl, hbl, hcells⟩ := hS.1.at (show 0 < len by omega)
      obtain ⟨_, hs1, _⟩ := hS.2 i
      have c1 : (w.alloc (.cells #[.int .u32 (L : Int), .int .u32 (sw : Int), .slice (some ⟨b, off, none⟩) len cap] 25)).cell? ⟨b, off + i * 3 + 1, none⟩ = some (.int .u32 ((S i).start : Int)) := by
        rw [World.cell?_alloc_lt _ _ _ hbl]; exact hcells i hi 1 (by omega)
      have i1 : (i : Int) < (len : Int) := by omega
      have hv : Hid (beginI L S len k (i : Int) = ((k : Int) * (L : Int) + ((S i).start : Int)) % 18446744073709551616) := by
        show beginI L S len k (i : Int) = _; unfold beginI; rw [if_pos (by omega), Int.toNat_natCast, Int.natCast_emod, Int.natCast_add, Int.natCast_mul]; rfl
      clear hcells q1 q2 hS t1
      have t1 : decide ((i : Int) < 0) = false := by simp
      generalize (S i).start = st at *
      go_enter Try.func15, Try.ntmps15
      go_wp2_with fail
      go_quiet (fail)
      go_wp2_with fail
      go_ret
      refine ⟨?_, belowDrewN (below_box _ _)⟩
      rw [hv.out]
      simp [wrapU64]
set_option maxHeartbeats 2000000 in
theorem refBegin_any (L sw : Nat) (a : Option Addr) (len cap : Nat) (S : Nat → SlotR) (k : Nat) (n : Int) (w : World) (hm : len ≤ 9223372036854775807) (hL : L < 4294967296) (hk : k < 18446744073709551616) (hS : SlotsAt w a len S) :
    Calls Try.prog 16 #[.agg #[.int .u32 (L : Int), .int .u32 (sw : Int), .slice a len cap], .int .u64 (k : Int), .int .i64 n] w fun e W' => e = .returned (.int .u64 (beginI L S len k n)) ∧ Below w.heap.size w W' := by
  by_cases q1 : n < 0
  · have t1 : decide (n < 0) = true := by simpa using q1
    have hv : Hid (beginI L S len k n = 0) := by show beginI L S len k n = 0; unfold beginI; rw [if_neg (by omega)]
    go_enter Try.func16, Try.ntmps16
    go_wp2_with fail
    go_ret
    exact ⟨by rw [hv.out]; rfl, below_box _ _⟩
  · have t1 : decide (n < 0) = false := by simpa using q1
    by_cases q2 : (len : Int) ≤ n
    · have t2 : decide ((len : Int) ≤ n) = true := by simpa using q2
      have hv : Hid (beginI L S len k n = 0) := by show beginI L S len k n = 0; unfold beginI; rw [if_neg (by omega)]
      go_enter Try.func16, Try.ntmps16
      go_wp2_with fail
      go_ret
      exact ⟨by rw [hv.out]; rfl, below_box _ _⟩
    · obtain ⟨i, rfl⟩ := Int.eq_ofNat_of_zero_le (show 0 ≤ n by omega)
      have hi : i < len := by omega
      have t2 : decide ((len : Int) ≤ (i : Int)) = false := by simpa using q2
      have t3 : decide (len ≤ i) = false := by simp; omega
      obtain ⟨b, off, rfl, hbl, hcells⟩ := hS.1.at (show 0 < len by omega)
      obtain ⟨_, hs1, _⟩ := hS.2 i
      have c1 : (w.alloc (.cells #[.int .u32 (L : Int), .int .u32 (sw : Int), .slice (some ⟨b, off, none⟩) len cap] 25)).cell? ⟨b, off + i * 3 + 1, none⟩ = some (.int .u32 ((S i).start : Int)) := by
        rw [World.cell?_alloc_lt _ _ _ hbl]; exact hcells i hi 1 (by omega)
      have i1 : (i : Int) < (len : Int) := by omega
      have hv : Hid (beginI L S len k (i : Int) = ((L : Int) * (k : Int) + ((S i).start : Int)) % 18446744073709551616) := by
        show beginI L S len k (i : Int) = _; unfold beginI; rw [if_pos (by omega), Int.toNat_natCast, Nat.mul_comm, Int.natCast_emod, Int.natCast_add, Int.natCast_mul]; rfl
      clear hcells q1 q2 hS t1
      have t1 : decide ((i : Int) < 0) = false := by simp
      generalize (S i).start = st at *
      go_enter Try.func16, Try.ntmps16
      go_wp2_with fail
      go_quiet (fail)
      go_wp2_with fail
      go_ret
      refine ⟨?_, belowDrewN (below_box _ _)⟩
      rw [hv.out]
      simp [wrapU64]
set_option maxHeartbeats 2000000 in
theorem refAt_any (L sw : Nat) (a : Option Addr) (len cap : Nat) (S : Nat → SlotR) (tick : Nat) (w : World) (hm : len ≤ 9223372036854775807) (hL : L < 4294967296) (ht : tick < 18446744073709551616) (hS : SlotsAt w a len S) :
    Calls Try.prog 10 #[.agg #[.int .u32 (L : Int), .int .u32 (sw : Int), .slice a len cap], .int .u64 (tick : Int)] w fun e W' => e = .returned (.tuple #[.int .u64 ((tick / L : Nat) : Int), .int .i64 (if L = 0 then -1 else atN S (tick % L) len)]) ∧ Below w.heap.size w W' := by
  by_cases h0 : L = 0
  · subst h0
    rw [if_pos rfl, Nat.div_zero]
    go_enter Try.func10, Try.ntmps10
    go_wp2_with fail
    go_ret2
    exact ⟨rfl, below_box _ _⟩
  · rw [if_neg h0]
    have t0 : ((L : Int) == 0) = false := by simp; omega
    have hL0 : 0 < L := by omega
    have hmod : tick % L < L := Nat.mod_lt _ hL0
    have hdiv : tick / L ≤ tick := Nat.div_le_self _ _
    have hmul : tick / L * L ≤ tick := Nat.div_mul_le_self _ _
    have hsub : tick - tick / L * L = tick % L := by have := Nat.div_add_mod tick L; rw [Nat.mul_comm] at this; omega
    have HI := Lib.hid hS
    clear hS
    have hq : Hid (IntKind.u64.wrap ((tick : Int) / (L : Int)) = ((tick / L : Nat) : Int)) := by
      show IntKind.u64.wrap _ = _
      rw [← Int.natCast_ediv]; generalize tick / L = q at *; rw [wrapU64]; omega
    have hr : Hid (IntKind.u64.wrap ((tick : Int) - IntKind.u64.wrap (((tick / L : Nat) : Int) * (L : Int))) = ((tick % L : Nat) : Int)) := by
      show IntKind.u64.wrap _ = _
      rw [← Int.natCast_mul, ← hsub]; generalize tick / L * L = q at *; rw [wrapU64, wrapU64]; omega
    have hqi : Hid ((tick : Int) / (L : Int) = ((tick / L : Nat) : Int)) := by show _ = _; rw [Int.natCast_ediv]
    clear hsub hmul
    go_enter Try.func10, Try.ntmps10
    go_wp2_with fail
    rw [hq.out, hr.out]
    have hR32 : tick % L < 4294967296 := by omega
    generalize hRe : tick % L = R at *
    generalize hQe : tick / L = Q at *
    have HRe := Lib.hid hRe; have HQe := Lib.hid hQe
    clear hq hr hRe hQe
    go_loop [8] (fun i => ∃ m : Nat, m ≤ len ∧ ((m = 0 ∧ i = .int .i64 (-1)) ∨ (∃ m', m = m' + 1 ∧ i = .int .i64 (m' : Int))) ∧ ∀ j, m ≤ j → j < len → R < (S j).start) (fun i => (intOf i + 1).toNat)
    case atStart =>
      refine ⟨len, Nat.le_refl _, ?_, fun j h1 h2 => absurd h1 (by omega)⟩
      cases len with
      | zero => left; exact ⟨rfl, by go_num⟩
      | succ m' => right; exact ⟨m', rfl, by go_num⟩
    case round =>
      obtain ⟨m, hm2, hi, hN⟩ := hrel
      have HN := Lib.hid hN
      clear hN
      rcases hi with ⟨rfl, rfl⟩ | ⟨m', rfl, rfl⟩
      · have hA : Hid (atN S R len = -1) := atN_none fun i hi => HN.out i (Nat.zero_le _) hi
        go_wp2_with fail
        go_ret2
        exact ⟨by (try rw [hqi.out]); (try rw [HQe.out]); (try rw [HRe.out]); rw [hA.out]; rfl, below_box _ _⟩
      · obtain ⟨b, off, rfl, hbl, hcells⟩ := HI.out.1.at (show 0 < len by omega)
        obtain ⟨_, hs1, _⟩ := HI.out.2 m'
        have c1 : (w.alloc (.cells #[.int .u32 (L : Int), .int .u32 (sw : Int), .slice (some ⟨b, off, none⟩) len cap] 25)).cell? ⟨b, off + m' * 3 + 1, none⟩ = some (.int .u32 ((S m').start : Int)) := by
          rw [World.cell?_alloc_lt _ _ _ hbl]; exact hcells m' (by omega) 1 (by omega)
        clear hcells
        have i1 : (m' : Int) < (len : Int) := by omega
        by_cases hle : (S m').start ≤ R
        · have u1n : decide ((S m').start ≤ R) = true := by simpa using hle
          have u1 : decide (((S m').start : Int) ≤ (R : Int)) = true := by simp; omega
          have hA : Hid (atN S R len = (m' : Int)) := atN_some (by omega) hle fun i h1 h2 => HN.out i (by omega) h2
          generalize (S m').start = st at *
          clear hle
          go_wp2_with fail
          go_ret2
          exact ⟨by (try rw [hqi.out]); (try rw [HQe.out]); (try rw [HRe.out]); rw [hA.out]; rfl, below_box _ _⟩
        · have u1n : decide ((S m').start ≤ R) = false := by simpa using hle
          have u1 : decide (((S m').start : Int) ≤ (R : Int)) = false := by simp; omega
          have HN2 : Hid (∀ j, m' ≤ j → j < len → R < (S j).start) := by
            intro j h1 h2
            by_cases e : j = m'
            · subst e; omega
            · exact HN.out j (by omega) h2
          generalize (S m').start = st at *
          clear hle
          go_wp2_with fail
          go_round
          case rel =>
            refine ⟨m', by omega, ?_, HN2.out⟩
            cases m' with
            | zero => left; exact ⟨rfl, by go_num⟩
            | succ m'' => right; exact ⟨m'', rfl, by go_num⟩
          case measure => simp [intOf]
/-- What all slots take, at most what a word holds. -/
def loadM (sw : Nat) (S : Nat → SlotR) : Nat → Nat
  | 0 => 0
  | n + 1 => min (loadM sw S n + sw + (S n).budget) 4294967295
def loadT (S : Nat → SlotR) : Nat → Nat
  | 0 => 0
  | n + 1 => loadT S n + (S n).budget
theorem loadM_le (sw : Nat) (S : Nat → SlotR) (n : Nat) : loadM sw S n ≤ 4294967295 := by
  cases n with
  | zero => exact Nat.zero_le _
  | succ n => exact Nat.min_le_right _ _
theorem loadM_eq (sw : Nat) (S : Nat → SlotR) (n : Nat) : loadM sw S n = min (n * sw + loadT S n) 4294967295 := by
  induction n with
  | zero => simp [loadM, loadT]
  | succ n ih =>
    unfold loadM loadT
    rw [ih, Nat.succ_mul]
    omega
theorem loadT_le {S : Nat → SlotR} (h : ∀ i, (S i).ok) (n : Nat) : loadT S n ≤ n * 4294967296 := by
  induction n with
  | zero => exact Nat.zero_le _
  | succ n ih => unfold loadT; have := (h n).2.2; omega
set_option maxHeartbeats 2000000 in
theorem load_any (L sw : Nat) (a : Option Addr) (len cap : Nat) (S : Nat → SlotR) (w : World) (hm : len ≤ 9223372036854775807) (hsw : sw < 4294967296) (hS : SlotsAt w a len S) :
    Calls Try.prog 17 #[.agg #[.int .u32 (L : Int), .int .u32 (sw : Int), .slice a len cap]] w fun e W' => e = .returned (.int .u32 (loadM sw S len : Nat)) ∧ Below w.heap.size w W' := by
  have HI := Lib.hid hS
  clear hS
  go_enter Try.func17, Try.ntmps17
  go_wp2_with fail
  have hH := Lib.hid (Held.new w #[.int .u32 (L : Int), .int .u32 (sw : Int), .slice a len cap] 25)
  have hB := Lib.hid (below_box w (.cells #[.int .u32 (L : Int), .int .u32 (sw : Int), .slice a len cap] 25))
  go_loopw [3, 9] (fun s i wr => ∃ k : Nat, k ≤ len ∧ i = .int .i64 k ∧ s = .int .u64 (loadM sw S k : Nat) ∧ Held wr w.heap.size #[.int .u32 (L : Int), .int .u32 (sw : Int), .slice a len cap] 25 ∧ Below w.heap.size w wr) (fun _ i _ => len - (intOf i).toNat)
  case atStart => exact ⟨0, Nat.zero_le _, rfl, rfl, hH.out, hB.out⟩
  case round =>
    obtain ⟨k, hk, rfl, rfl, h1, h2⟩ := hrel
    clear hH hB
    have hH := Lib.hid h1; have hB := Lib.hid h2
    have d1 : wr.cell? ⟨w.heap.size, 1, none⟩ = some (.int .u32 (sw : Int)) := h1.cell 1 _ rfl
    clear h1 h2
    have hml := loadM_le sw S k
    by_cases hlt : k < len
    · obtain ⟨b, off, rfl, hbl, hcells⟩ := HI.out.1.at (show 0 < len by omega)
      obtain ⟨_, hs1, hs2⟩ := HI.out.2 k
      have c0 : wr.cell? ⟨b, off + k * 3, none⟩ = some (.int .i64 (S k).part) := by rw [hB.out.cell hbl]; exact hcells k hlt 0 (by omega)
      have c1 : wr.cell? ⟨b, off + k * 3 + 1, none⟩ = some (.int .u32 ((S k).start : Int)) := by rw [hB.out.cell hbl]; exact hcells k hlt 1 (by omega)
      have c2 : wr.cell? ⟨b, off + k * 3 + 2, none⟩ = some (.int .u32 ((S k).budget : Int)) := by rw [hB.out.cell hbl]; exact hcells k hlt 2 (by omega)
      clear hcells
      have hn : Hid (loadM sw S (k + 1) = min (loadM sw S k + sw + (S k).budget) 4294967295) := rfl
      generalize loadM sw S k = M at *
      generalize (S k).budget = B at *
      have hne := hB.out.size
      have hlt0 := hH.out.lt
      by_cases hcap2 : M + sw + B ≤ 4294967295
      · have u1 : decide ((4294967295 : Int) < (M : Int) + (sw : Int) + (B : Int)) = false := by simp; omega
        have u2 : ¬ ((4294967295 : Int) < (M : Int) + (sw : Int) + (B : Int)) := by omega
        have hn2 : Hid (loadM sw S (k + 1) = M + sw + B) := by show _ = _; rw [hn.out]; omega
        have hmin : ∀ w, (Builtin.min_ #[26, 26] 26 #[.int .u64 ((M : Int) + (sw : Int) + (B : Int)), .int .u64 4294967295]).run Try.prog w = .ok (.int .u64 ((M : Int) + (sw : Int) + (B : Int))) w := by
          intro w
          simp [Builtin.min_, Builtin.min2]
          omega
        go_wp2_with fail
        go_roundw
        case rel => exact ⟨k + 1, by omega, by go_num, by rw [hn2.out]; go_num, hH.out.alloc _, hB.out.alloc hne _⟩
        case measure => simp [intOf]; omega
      · have u1 : decide ((4294967295 : Int) < (M : Int) + (sw : Int) + (B : Int)) = true := by simp; omega
        have u2 : (4294967295 : Int) < (M : Int) + (sw : Int) + (B : Int) := by omega
        have hn2 : Hid (loadM sw S (k + 1) = 4294967295) := by show _ = _; rw [hn.out]; omega
        have hmin : ∀ w, (Builtin.min_ #[26, 26] 26 #[.int .u64 ((M : Int) + (sw : Int) + (B : Int)), .int .u64 4294967295]).run Try.prog w = .ok (.int .u64 4294967295) w := by
          intro w
          simp [Builtin.min_, Builtin.min2]
          omega
        go_wp2_with fail
        go_roundw
        case rel => exact ⟨k + 1, by omega, by go_num, by rw [hn2.out]; go_num, hH.out.alloc _, hB.out.alloc hne _⟩
        case measure => simp [intOf]; omega
    · obtain rfl : k = len := by omega
      go_wp2_with fail
      go_ret
      exact ⟨by go_num, hB.out⟩
set_option maxHeartbeats 2000000 in
theorem refLoad_any (L sw : Nat) (a : Option Addr) (len cap : Nat) (S : Nat → SlotR) (w : World) (hm : len ≤ 2000) (hsw : sw < 4294967296) (hS : SlotsAt w a len S) :
    Calls Try.prog 18 #[.agg #[.int .u32 (L : Int), .int .u32 (sw : Int), .slice a len cap]] w fun e W' => e = .returned (.int .u32 (loadM sw S len : Nat)) ∧ Below w.heap.size w W' := by
  have HI := Lib.hid hS
  have hml : len * sw ≤ 2000 * 4294967296 := Nat.mul_le_mul hm (by omega)
  have hT := Lib.hid (loadT_le hS.2)
  have hw0 : Hid ((len : Int) * (sw : Int) = ((len * sw : Nat) : Int)) := by show _ = _; rw [Int.natCast_mul]
  clear hS
  go_enter Try.func18, Try.ntmps18
  go_wp2_with fail
  rw [hw0.out]
  have hE := Lib.hid (loadM_eq sw S len)
  generalize len * sw = P at *
  go_loop [3, 4] (fun s i => ∃ k : Nat, k ≤ len ∧ i = .int .i64 k ∧ s = .int .u64 ((P + loadT S k : Nat) : Int)) (fun _ i => len - (intOf i).toNat)
  case atStart => exact ⟨0, Nat.zero_le _, rfl, rfl⟩
  case round =>
    obtain ⟨k, hk, rfl, rfl⟩ := hrel
    have hT1 := hT.out k
    by_cases hlt : k < len
    · obtain ⟨b, off, rfl, hbl, hcells⟩ := HI.out.1.at (show 0 < len by omega)
      obtain ⟨_, hs1, hs2⟩ := HI.out.2 k
      have c2 : (w.alloc (.cells #[.int .u32 (L : Int), .int .u32 (sw : Int), .slice (some ⟨b, off, none⟩) len cap] 25)).cell? ⟨b, off + k * 3 + 2, none⟩ = some (.int .u32 ((S k).budget : Int)) := by
        rw [World.cell?_alloc_lt _ _ _ hbl]; exact hcells k hlt 2 (by omega)
      clear hcells
      have i1 : (k : Int) < (len : Int) := by omega
      have hn : Hid (loadT S (k + 1) = loadT S k + (S k).budget) := rfl
      generalize loadT S k = M at *
      generalize (S k).budget = B at *
      go_wp2_with fail
      go_round
      case rel => exact ⟨k + 1, by omega, by go_num, by rw [hn.out]; go_num⟩
      case measure => simp [intOf]; omega
    · obtain rfl : k = len := by omega
      have hEo := hE.out
      have hZ : Hid (4294967295 < P + loadT S k → loadM sw S k = 4294967295) := fun h => by omega
      have hZ2 : Hid (¬ 4294967295 < P + loadT S k → loadM sw S k = P + loadT S k) := fun h => by omega
      clear hE hEo
      generalize loadT S k = M at *
      by_cases hg : 4294967295 < P + M
      · have u1 : decide ((4294967295 : Int) < (P : Int) + (M : Int)) = true := by simp; omega
        have hZ := Lib.hid (hZ.out hg)
        clear hZ2
        go_wp2_with fail
        go_ret
        exact ⟨by rw [hZ.out]; rfl, below_box _ _⟩
      · have u1 : decide ((4294967295 : Int) < (P : Int) + (M : Int)) = false := by simp; omega
        have hZ := Lib.hid (hZ2.out hg)
        clear hZ2
        go_wp2_with fail
        go_ret
        exact ⟨by rw [hZ.out]; go_num, below_box _ _⟩
end Go.Proofs.Ythbieplfphignaa
