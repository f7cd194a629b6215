/- The walk of FrameApart. -/
import Derived.Test.YthbieplfphignaaFraBeg3
import Derived.Test.YthbieplfphignaaFraApP
import Derived.Test.YthbieplfphignaaFraCls
namespace Go.Proofs.Ythbieplfphignaa
open Go.RowKit Go.Shelf
set_option linter.unusedVariables false
attribute [local go_sem] Oper.semAt_some
/-- What the body leaves as it lay, behind the blocks of its own. -/
structure KeptA (W w : World) (L sw : Nat) (a : Option Addr) (len cap k ch : Nat) : Prop where
  d : Held W w.heap.size #[.int .u32 (L : Int), .int .u32 (sw : Int), .slice a len cap] 25
  k : Boxed W (w.heap.size + 1) 26 (.int .u64 (k : Int))
  m : Boxed W (w.heap.size + 2) 22 (.int .u32 (ch : Int))
  r : Boxed W (w.heap.size + 3) 4 (.bool false)
  b : Below w.heap.size w W
  z : w.heap.size + 4 ≤ W.heap.size
theorem KeptA.grown {X Y w : World} {L sw len cap k ch : Nat} {row : Option Nat} {a : Option Addr} (h : KeptA X w L sw a len cap k ch) (hg : X.grownBy Y row) (hn : ∀ g, row = some g → w.heap.size + 4 ≤ g) : KeptA Y w L sw a len cap k ch :=
  ⟨h.d.kept hg (fun e => by have := hn _ e.symm; omega), h.k.kept hg (fun e => by have := hn _ e.symm; omega), h.m.kept hg (fun e => by have := hn _ e.symm; omega), h.r.kept hg (fun e => by have := hn _ e.symm; omega),
    h.b.trans ((Below.refl _ X).grown hg (by have := h.z; omega) (fun k e => by have := hn _ e; omega)), Nat.le_trans h.z hg.size⟩
theorem KeptA.below {X Y w : World} {L sw len cap k ch : Nat} {a : Option Addr} (h : KeptA X w L sw a len cap k ch) (hb : Below X.heap.size X Y) : KeptA Y w L sw a len cap k ch :=
  h.grown (grown_of_below hb (some X.heap.size)) (fun g e => by cases e; exact h.z)
theorem KeptA.alloc {X w : World} {L sw len cap k ch : Nat} {a : Option Addr} (h : KeptA X w L sw a len cap k ch) (o : Obj) : KeptA (X.alloc o) w L sw a len cap k ch :=
  h.below ((Below.refl _ X).alloc (Nat.le_refl _) o)
theorem KeptA.drew {X w : World} {L sw len cap k ch : Nat} {a : Option Addr} (h : KeptA X w L sw a len cap k ch) : KeptA X.drew w L sw a len cap k ch := ⟨h.d, h.k, h.m, h.r, h.b.drew, h.z⟩
theorem keptA_new (w : World) (L sw : Nat) (a : Option Addr) (len cap k ch : Nat) :
    KeptA ((((w.alloc (.cells #[.int .u32 (L : Int), .int .u32 (sw : Int), .slice a len cap] 25)).alloc (.cells #[.int .u64 (k : Int)] 26)).alloc (.cells #[.int .u32 (ch : Int)] 22)).alloc (.cells #[.bool false] 4)) w L sw a len cap k ch := by
  have h1 := (((Held.new w #[.int .u32 (L : Int), .int .u32 (sw : Int), .slice a len cap] 25).alloc (.cells #[.int .u64 (k : Int)] 26)).alloc (.cells #[.int .u32 (ch : Int)] 22)).alloc (.cells #[.bool false] 4)
  have h2 := (((Boxed.new (w.alloc (.cells #[.int .u32 (L : Int), .int .u32 (sw : Int), .slice a len cap] 25)) 26 (.int .u64 (k : Int))).alloc (.cells #[.int .u32 (ch : Int)] 22)).alloc (.cells #[.bool false] 4))
  have h3 := ((Boxed.new ((w.alloc (.cells #[.int .u32 (L : Int), .int .u32 (sw : Int), .slice a len cap] 25)).alloc (.cells #[.int .u64 (k : Int)] 26)) 22 (.int .u32 (ch : Int))).alloc (.cells #[.bool false] 4))
  have h4 := (Boxed.new (((w.alloc (.cells #[.int .u32 (L : Int), .int .u32 (sw : Int), .slice a len cap] 25)).alloc (.cells #[.int .u64 (k : Int)] 26)).alloc (.cells #[.int .u32 (ch : Int)] 22)) 4 (.bool false))
  simp only [World.size_alloc, Nat.add_assoc, Nat.reduceAdd] at h2 h3 h4
  exact ⟨h1, h2, h3, h4, ((((Below.refl _ w).alloc (Nat.le_refl _) _).alloc (by simp) _).alloc (by simp; omega) _).alloc (by simp; omega) _, by simp⟩
theorem bu_of {S : Nat → SlotR} {parts : Int} : ∀ {n : Nat}, slB S parts n = false → ∀ i, i < n → 1 ≤ (S i).budget := by
  intro n
  induction n with
  | zero => intro _ i hi; omega
  | succ n ih =>
    intro h i hi
    have h' : (slB S parts n || !slOk (S n) parts) = false := h
    simp only [Bool.or_eq_false_iff, Bool.not_eq_false'] at h'
    by_cases e : i = n
    · subst e
      have := h'.2
      unfold slOk at this
      simp only [Bool.and_eq_true, decide_eq_true_eq] at this
      exact this.1.2
    · exact ih h'.1 i (by omega)
/-- From a world to one behind it: what lies from B on and is no cells, and the blocks below B that Q names, are as they were. -/
def Moved (B : Nat) (Q : Nat → Prop) (W V : World) : Prop := KeepsFrom B W V ∧ KeepQ B Q W V
theorem Moved.refl {B : Nat} {Q : Nat → Prop} (W : World) : Moved B Q W W := ⟨KeepsFrom.refl _ _, Nat.le_refl _, fun _ _ _ => rfl⟩
theorem Moved.below {B : Nat} {Q : Nat → Prop} {W V V' : World} (h : Moved B Q W V) (hB : B ≤ V.heap.size) (hb : Below V.heap.size V V') : Moved B Q W V' := ⟨h.1.trans (keepsFrom_below hb), h.2.trans ⟨hb.size, fun b h1 _ => hb.block b (by omega)⟩⟩
theorem Moved.set {B : Nat} {Q : Nat → Prop} {W V : World} (h : Moved B Q W V) {g : Nat} (hg : g < B) (hq : ¬ Q g) (v : Value) : Moved B Q W (V.setCell ⟨g, 0, none⟩ v) :=
  ⟨h.1.trans (KeepsFrom.of_grownBy (grown_setCell (g := g) (grown_refl V _) _) (fun j e => by cases e; exact hg)), h.2.trans ⟨by simp [World.setCell], fun b _ h2 => heap_setCell_other _ _ _ _ (fun e => hq (by subst e; exact h2))⟩⟩
theorem Moved.drew {B : Nat} {Q : Nat → Prop} {W V : World} (h : Moved B Q W V) : Moved B Q W V.drew := ⟨⟨h.1.size, h.1.same⟩, h.2.1, h.2.2⟩
set_option maxRecDepth 100000 in
set_option maxHeartbeats 16000000 in
theorem apart_ok (n : Nat) (hn : 6 ≤ n) (L sw : Nat) (a : Option Addr) (len cap : Nat) (S : Nat → SlotR) (parts : Int) (k ch : Nat) (w : World) (hl : len ≤ 2000) (hL : L < 4294967296) (hsw : sw < 4294967296) (hq0 : -9223372036854775808 ≤ parts) (hq1 : parts ≤ 9223372036854775807) (hk : k < 549755813888) (hch : ch < 4294967296) (hS : SlotsAt w a len S) (hc : chkV S L sw len parts = 0) :
    CallsIn Fence.wide n Try.prog 6 #[.agg #[.int .u32 (L : Int), .int .u32 (sw : Int), .slice a len cap], .int .i64 parts, .int .u64 (k : Int), .int .u32 (ch : Int)] w fun e W' => e = .returned (.bool true) ∧ Below w.heap.size w W' := by
  have HC := Lib.hid (fun W hW => check_any L sw a len cap S parts W (by omega) hL hsw hq0 hq1 (hS.below hW))
  rw [hc] at HC
  obtain ⟨hl16, hL1, hL2, hslb, hfr⟩ := chk_zero hc
  have HBU := Lib.hid (bu_of hslb)
  clear hslb
  have HF := Lib.hid (fr_of hfr)
  clear hc hfr
  have t1 : decide (2000 < (len : Int)) = false := by simp; omega
  have T1 := Lib.hid t1
  clear t1
  have t3 : decide (549755813888 ≤ (k : Int)) = false := by simp; omega
  have hfm : (Try.prog).follows .mixedOrders = true := by kernel_rfl
  have KN := Lib.hid (keptA_new w L sw a len cap k ch)
  refine callsIn_of_wp_marks Try.func6 rfl trivial ?_ rfl
  simp only [Try.ntmps6, List.size_toArray, List.length_cons, List.length_nil, Nat.reduceAdd, Nat.reduceSub, Array.replicate_succ, Array.replicate_zero, List.push_toArray, List.append_toArray, List.nil_append, List.cons_append]
  gi_wp2_with (fail)
  generalize (((w.alloc (.cells #[.int .u32 (L : Int), .int .u32 (sw : Int), .slice a len cap] 25)).alloc (.cells #[.int .u64 (k : Int)] 26)).alloc (.cells #[.int .u32 (ch : Int)] 22)).alloc (.cells #[.bool false] 4) = w0 at *
  refine ⟨trivial, fun h => (by cases h), (callsIn_wide.2 (known_any w0)).mono ?_⟩
  rintro e w1 ⟨rfl, hb⟩
  have K1 := Lib.hid (KN.out.below hb)
  clear hb KN
  have d0 : w1.cell? ⟨w.heap.size, 0, none⟩ = some (.int .u32 (L : Int)) := K1.out.d.cell 0 _ rfl
  have d1 : w1.cell? ⟨w.heap.size, 1, none⟩ = some (.int .u32 (sw : Int)) := K1.out.d.cell 1 _ rfl
  have d2 : w1.cell? ⟨w.heap.size, 2, none⟩ = some (.slice a len cap) := K1.out.d.cell 2 _ rfl
  have d4 : w1.cell? ⟨w.heap.size + 1, 0, none⟩ = some (.int .u64 (k : Int)) := K1.out.k.cell
  gi_wp2_with (fail)
  clear d0 d1 d2 d4
  refine ⟨trivial, fun h => (by cases h), (callsIn_wide.2 (great_any L sw a len cap false w1 T1.out)).mono ?_⟩
  rintro e w2 ⟨rfl, hb⟩
  have K2 := Lib.hid (K1.out.below hb)
  clear hb K1
  have d0 : w2.cell? ⟨w.heap.size, 0, none⟩ = some (.int .u32 (L : Int)) := K2.out.d.cell 0 _ rfl
  have d1 : w2.cell? ⟨w.heap.size, 1, none⟩ = some (.int .u32 (sw : Int)) := K2.out.d.cell 1 _ rfl
  have d2 : w2.cell? ⟨w.heap.size, 2, none⟩ = some (.slice a len cap) := K2.out.d.cell 2 _ rfl
  have d4 : w2.cell? ⟨w.heap.size + 1, 0, none⟩ = some (.int .u64 (k : Int)) := K2.out.k.cell
  gi_wp2_with (fail)
  clear d0 d1 d2 d4
  refine ⟨trivial, fun h => (by cases h), (callsIn_wide.2 (HC.out w2 K2.out.b)).mono ?_⟩
  rintro e w3 ⟨rfl, hb⟩
  have K3 := Lib.hid (K2.out.below hb)
  clear hb K2
  have d0 : w3.cell? ⟨w.heap.size, 0, none⟩ = some (.int .u32 (L : Int)) := K3.out.d.cell 0 _ rfl
  have d1 : w3.cell? ⟨w.heap.size, 1, none⟩ = some (.int .u32 (sw : Int)) := K3.out.d.cell 1 _ rfl
  have d2 : w3.cell? ⟨w.heap.size, 2, none⟩ = some (.slice a len cap) := K3.out.d.cell 2 _ rfl
  have d4 : w3.cell? ⟨w.heap.size + 1, 0, none⟩ = some (.int .u64 (k : Int)) := K3.out.k.cell
  have hz2 := K3.out.z
  have z0 : w.heap.size < w3.heap.size := by omega
  have z1 : w.heap.size + 1 < w3.heap.size := by omega
  gi_wp2_with (fail)
  clear d0 d1 d2 d4 z0 z1
  refine ⟨trivial, fun h => (by cases h), (callsIn_wide.2 (begins_any L sw a len cap k _)).mono ?_⟩
  rintro e w' ⟨rfl, rfl⟩
  obtain ⟨eb, heb⟩ : ∃ eb, eb = w3.heap.size := ⟨_, rfl⟩
  have K4 := Lib.hid ((((K3.out.alloc (.cells #[.int .u64 0] 26)).alloc (.cells #[.int .i64 0] 3)).alloc (.cells #[.int .u32 (L : Int), .int .u32 (sw : Int), .slice a len cap] 25)).alloc (.cells #[.int .u64 (k : Int)] 26))
  have E4 := Lib.hid ((((Boxed.new w3 26 (.int .u64 0)).alloc (.cells #[.int .i64 0] 3)).alloc (.cells #[.int .u32 (L : Int), .int .u32 (sw : Int), .slice a len cap] 25)).alloc (.cells #[.int .u64 (k : Int)] 26))
  have I4 := Lib.hid (((Boxed.new (w3.alloc (.cells #[.int .u64 0] 26)) 3 (.int .i64 0)).alloc (.cells #[.int .u32 (L : Int), .int .u32 (sw : Int), .slice a len cap] 25)).alloc (.cells #[.int .u64 (k : Int)] 26))
  have D4 := Lib.hid ((Held.new ((w3.alloc (.cells #[.int .u64 0] 26)).alloc (.cells #[.int .i64 0] 3)) #[.int .u32 (L : Int), .int .u32 (sw : Int), .slice a len cap] 25).alloc (.cells #[.int .u64 (k : Int)] 26))
  have U4 := Lib.hid (Boxed.new (((w3.alloc (.cells #[.int .u64 0] 26)).alloc (.cells #[.int .i64 0] 3)).alloc (.cells #[.int .u32 (L : Int), .int .u32 (sw : Int), .slice a len cap] 25)) 26 (.int .u64 (k : Int)))
  have Z4 : Hid (((((w3.alloc (.cells #[.int .u64 0] 26)).alloc (.cells #[.int .i64 0] 3)).alloc (.cells #[.int .u32 (L : Int), .int .u32 (sw : Int), .slice a len cap] 25)).alloc (.cells #[.int .u64 (k : Int)] 26)).heap.size = eb + 1 + 1 + 1 + 1) := by show _ = _; simp [heb]
  simp only [World.size_alloc] at E4 I4 D4 U4 ⊢
  rw [← heb] at E4 I4 D4 U4 hz2 ⊢
  clear heb
  generalize (((w3.alloc (.cells #[.int .u64 0] 26)).alloc (.cells #[.int .i64 0] 3)).alloc (.cells #[.int .u32 (L : Int), .int .u32 (sw : Int), .slice a len cap] 25)).alloc (.cells #[.int .u64 (k : Int)] 26) = w4 at *
  clear K3 HC
  have S4 := Lib.hid (hS.below K4.out.b)
  have HS := Lib.hid hS
  have hab : Hid (0 < len → ∀ b off, a = some ⟨b, off, none⟩ → b < w.heap.size) := fun hp b off e => by
    rcases HS.out.1 with h | ⟨b', off', e', hlt, _⟩
    · omega
    · rw [e] at e'; cases e'; exact hlt
  clear hS
  gi_wp2_with (fail)
  have hzz := Z4.out
  have HQ := begins1_in (n - 1) L sw a len cap S k (2 * len + 2) (eb + 1 + 1) (eb + 1 + 1 + 1) w4 (fun b => b ≠ eb ∧ b ≠ eb + 1) (by omega) hL S4.out D4.out (by rw [Nat.mod_eq_of_lt (by omega)]; exact U4.out) (by omega)
    (fun hp b off e => by have := hab.out hp b off e; exact ⟨⟨by omega, by omega⟩, by omega⟩) (by show _ ∧ _; omega) (by show _ ∧ _; omega) (fun hp b off e => by have := hab.out hp b off e; omega)
  refine rangeFunc_b (ps := #[33, 34]) rfl (by omega) (gf := 23) (lb := #[.pointer (some ⟨eb + 1 + 1, 0, none⟩), .pointer (some ⟨eb + 1 + 1 + 1, 0, none⟩)]) rfl trivial (enters_of Try.func23 (by kernel_rfl) rfl)
    (kb := eb + 1 + 1 + 1) (N := 2 * len + 2) (by omega) HQ (fun h k => h.trans k) (fun W l o o' hl _ _ _ => KeepQ.put o' hl) (fun _ => rfl)
    (fun x W => (KeptA W w L sw a len cap k ch ∧ Boxed W eb 26 (.int .u64 (endN L S sw len k x : Nat)) ∧ Boxed W (eb + 1) 3 (.int .i64 (x : Int))) ∧ x ≤ 2 * len + 1 ∧ w4.heap.size ≤ W.heap.size)
    (fun c x W => KeptA W w L sw a len cap k ch ∧ c = .exit 0)
    (fun s X Y row h hg hr => ⟨⟨h.1.1.grown hg (fun g e => by have := (hr g e).1; omega), h.1.2.1.kept hg (fun e => by have := (hr _ e.symm).1; omega), h.1.2.2.kept hg (fun e => by have := (hr _ e.symm).1; omega)⟩, h.2.1, Nat.le_trans h.2.2 hg.size⟩)
    (fun c s X Y row h hg hr => ⟨h.1.grown hg (fun g e => by have := (hr g e).1; omega), h.2⟩)
    (fun s X Y h hg => ⟨⟨h.1.1.grown hg (fun g e => by cases e; omega), h.1.2.1.kept hg (fun e => by cases e), h.1.2.2.kept hg (fun e => by cases e)⟩, h.2.1, Nat.le_trans h.2.2 hg.size⟩)
    (fun c s X Y h hg => ⟨h.1.grown hg (fun g e => by cases e; omega), h.2⟩)
    (fun s X h => by have := h.2.1; omega) ⟨⟨K4.out, E4.out, I4.out⟩, Nat.zero_le _, Nat.le_refl _⟩ ?_ ?assign ?body ?done ?stop
  case assign =>
    intro l x W K hK
    unfold encB
    gi_wp2
    exact hK
  case body =>
    intro l x W hp hl' ⟨⟨hkp, hbe, hbx⟩, hx, hsz⟩
    have KW := Lib.hid hkp; have EW := Lib.hid hbe; have IW := Lib.hid hbx
    clear hkp hbe hbx
    have e2 : W.cell? ⟨w.heap.size, 2, none⟩ = some (.slice a len cap) := KW.out.d.cell 2 _ rfl
    have e5 : W.cell? ⟨eb + 1, 0, none⟩ = some (.int .i64 (x : Int)) := IW.out.cell
    have n0 : ¬ (len = 0) := by omega
    have n1 : ¬ ((len : Int) = 0) := by omega
    by_cases hlt : 2 * len < x
    · gi_wp2
      exact ⟨(KeepsOthers.refl _).from _, KW.out, rfl⟩
    · have hq2 : x / len ≤ 2 := Nat.div_le_of_le_mul (by omega)
      have hxn : x % len < len := Nat.mod_lt _ hp
      obtain ⟨b, off, rfl, hbl, hcells⟩ := HS.out.1.at hp
      have hoks := HS.out.2
      have htk : tk L S len k x < 9223372041200000000 := tk_lt hoks hL2 hk (by omega)
      have hend := end_next (k := k) HF.out hp x
      have hge := tk_ge L S len k x
      obtain ⟨-, hst, hbu⟩ := hoks (x % len)
      have g1 : (x : Int) % (len : Int) = ((x % len : Nat) : Int) := by rw [Int.natCast_emod]
      have hbg : beginI L S len ((k + x / len) % 18446744073709551616) ((x % len : Nat) : Int) = ((tk L S len k x : Nat) : Int) := by
        rw [Nat.mod_eq_of_lt (show k + x / len < 18446744073709551616 by omega)]
        unfold beginI
        rw [if_pos (by omega), Int.toNat_natCast]
        have h1 : (k + x / len) * L + (S (x % len)).start = tk L S len k x := rfl
        rw [h1, Nat.mod_eq_of_lt (by omega)]
      simp only [g1]
      rw [hbg]
      have hcell2 : Hid (∀ V : World, Below w.heap.size w V → V.cell? ⟨b, off + x % len * 3 + 2, none⟩ = some (.int .u32 ((S (x % len)).budget : Int))) := fun V hV => by rw [hV.cell hbl]; exact hcells _ hxn 2 (by omega)
      have g2 : (x : Int) / (len : Int) = ((x / len : Nat) : Int) := by rw [Int.natCast_ediv]
      have g4 : (x : Int).tmod (len : Int) = ((x % len : Nat) : Int) := by rw [Int.tmod_eq_emod_of_nonneg (by omega), Int.natCast_emod]
      have g5 : (x : Int).tdiv (len : Int) = ((x / len : Nat) : Int) := by rw [Int.tdiv_eq_ediv_of_nonneg (by omega), Int.natCast_ediv]
      have g6 : IntKind.i64.wrap ((x % len : Nat) : Int) = ((x % len : Nat) : Int) := wrapS _ (Nat.lt_trans hxn (by omega))
      have g7 : IntKind.i64.wrap ((x / len : Nat) : Int) = ((x / len : Nat) : Int) := wrapS _ (Nat.lt_of_le_of_lt hq2 (by omega))
      have g8 : IntKind.u64.wrap ((x / len : Nat) : Int) = ((x / len : Nat) : Int) := wrapN _ (Nat.lt_of_le_of_lt hq2 (by omega))
      have g9 : (k : Int) * (L : Int) = ((k * L : Nat) : Int) := by rw [Int.natCast_mul]
      have HE : Hid (endN L S sw len k (x + 1) = tk L S len k x + (sw + (S (x % len)).budget)) := rfl
      have HA : Hid (∀ V : World, Below w.heap.size w V → ∀ c, c < sw + (S (x % len)).budget → CallsIn (Fence.wide.inRound l) (n - 1 - 1 - 1) Try.prog 9 #[.agg #[.int .u32 (L : Int), .int .u32 (sw : Int), .slice (some ⟨b, off, none⟩) len cap], .int .u64 ((tk L S len k x + c : Nat) : Int)] V fun e W' => e = .returned (.tuple #[.int .u64 ((k + x / len : Nat) : Int), .int .i64 ((x % len : Nat) : Int)]) ∧ Below V.heap.size V W') := fun V hV c hc => by
        obtain ⟨h1, h2⟩ := at_tick (k := k) HF.out hp x c hc
        have h3 := end_le HF.out hxn
        have h4 := at_any L sw (some ⟨b, off, none⟩) len cap S (tk L S len k x + c) V (by omega) hL (by unfold endF at h3; omega) (HS.out.below hV)
        rw [if_neg (by omega), h1, h2] at h4
        exact CallsIn.inRound _ (callsIn_wide.2 h4)
      have hbu1 := HBU.out _ hxn
      clear hcells hoks hbg
      generalize x / len = qq at *
      generalize x % len = nn at *
      generalize endN L S sw len k x = E at *
      generalize endN L S sw len k (x + 1) = E2 at *
      generalize tk L S len k x = T at *
      generalize k * L = P at *
      generalize (S nn).start = st at *
      generalize (S nn).budget = bu at *
      have hz1 : Hid ((sw : Int) + (bu : Int) = ((sw + bu : Nat) : Int)) := by show _ = _; omega
      have hzb : 1 ≤ sw + bu := by omega
      have hz2 : sw + bu < 8589934592 := by omega
      generalize sw + bu = z at *
      have e0 : W.cell? ⟨w.heap.size, 0, none⟩ = some (.int .u32 (L : Int)) := KW.out.d.cell 0 _ rfl
      have e1 : W.cell? ⟨w.heap.size, 1, none⟩ = some (.int .u32 (sw : Int)) := KW.out.d.cell 1 _ rfl
      have e4 : W.cell? ⟨w.heap.size + 1, 0, none⟩ = some (.int .u64 (k : Int)) := KW.out.k.cell
      have e6 : W.cell? ⟨eb, 0, none⟩ = some (.int .u64 (E : Int)) := EW.out.cell
      have t5 : decide ((T : Int) < (E : Int)) = false := by simp; omega
      have t6 : decide ((T : Int) < (P : Int)) = false := by simp; omega
      have t7 : decide (T < E) = false := by simp; omega
      have t8 : decide (T < P) = false := by simp; omega
      have t9 : decide (len ≤ nn) = false := by simp; omega
      cases hx0 : decide (0 < x)
      all_goals
        gi_wp2
        clear e0 e1 e2 e4 e5 e6
        have i1 : (nn : Int) < (len : Int) := by omega
        have MW : Hid (Moved w4.heap.size (fun b => b ≠ eb ∧ b ≠ eb + 1) W W) := Moved.refl W
        have h10 : (sw : Int) + (bu : Int) = (z : Int) := hz1.out
        obtain ⟨U, f, hUn, hU1, hU2⟩ := class_of (fun V => KeptA V w L sw (some ⟨b, off, none⟩) len cap k ch ∧ Boxed V eb 26 (.int .u64 (E : Int)) ∧ Boxed V (eb + 1) 3 (.int .i64 (x : Int)) ∧ Moved w4.heap.size (fun b => b ≠ eb ∧ b ≠ eb + 1) W V) (W := W.drew) ⟨KW.out.drew, EW.out, IW.out, MW.out.drew⟩
        have q0 : ∀ u, (f u).cell? ⟨w.heap.size, 0, none⟩ = some (.int .u32 (L : Int)) := fun u => (hU1 u).1.d.cell 0 _ rfl
        have q1 : ∀ u, (f u).cell? ⟨w.heap.size, 1, none⟩ = some (.int .u32 (sw : Int)) := fun u => (hU1 u).1.d.cell 1 _ rfl
        have q2 : ∀ u, (f u).cell? ⟨w.heap.size, 2, none⟩ = some (.slice (some ⟨b, off, none⟩) len cap) := fun u => (hU1 u).1.d.cell 2 _ rfl
        have q3 : ∀ u, (f u).cell? ⟨w.heap.size + 1 + 1, 0, none⟩ = some (.int .u32 (ch : Int)) := fun u => (hU1 u).1.m.cell
        have q4 : ∀ u, (f u).cell? ⟨w.heap.size + 1, 0, none⟩ = some (.int .u64 (k : Int)) := fun u => (hU1 u).1.k.cell
        have q5 : ∀ u, (f u).cell? ⟨eb + 1, 0, none⟩ = some (.int .i64 (x : Int)) := fun u => (hU1 u).2.2.1.cell
        have q6 : ∀ u, (f u).cell? ⟨b, off + nn * 3 + 2, none⟩ = some (.int .u32 (bu : Int)) := fun u => hcell2.out _ (hU1 u).1.b
        have HU1 := Lib.hid hU1; have HU2 := Lib.hid hU2
        clear hU1 hU2
        refine wpIn_region_cls f (by kernel_rfl) hfm (by kernel_rfl) (HU2.out _ ⟨KW.out.drew, EW.out, IW.out, MW.out.drew⟩) ?_
        repeat (gi_big_quiet_step (fail))
        refine wpQuietIn_nil ?_
        rintro V ⟨u, rfl⟩
        obtain ⟨z1, z2, z3, z4⟩ := HU1.out u
        have KV := Lib.hid z1; have EV := Lib.hid z2; have IV := Lib.hid z3; have MV := Lib.hid z4
        clear z1 z2 z3 z4 q0 q1 q2 q3 q4 q5 q6 HU1 HU2
        generalize f u = V1 at *
        clear f hUn
        have e6 : V1.cell? ⟨eb, 0, none⟩ = some (.int .u64 (E : Int)) := EV.out.cell
        have f6 : V1.frozen? ⟨eb, 0, none⟩ = false := EV.out.frozen
        have h13 : (T : Int) + (z : Int) = (E2 : Int) := by rw [HE.out]; omega
        gi_wp2
        clear e6 f6
        have KX := Lib.hid (KV.out.grown (grown_setCell (g := eb) (o := 0) (grown_refl V1 _) (.int .u64 (E2 : Int))) (fun g e => by cases e; omega))
        have EX := Lib.hid (EV.out.set (.int .u64 (E2 : Int)))
        have IX := Lib.hid (IV.out.other (B' := eb) (by omega) (.int .u64 (E2 : Int)))
        have MX := Lib.hid (MV.out.set (g := eb) (by omega) (by simp) (.int .u64 (E2 : Int)))
        generalize V1.setCell ⟨eb, 0, none⟩ (.int .u64 (E2 : Int)) = X at *
        clear KV EV IV MV
        have hcz : ch % z < z := Nat.mod_lt _ hzb
        have c1 : (ch : Int) % (z : Int) = ((ch % z : Nat) : Int) := by rw [Int.natCast_emod]
        have c2 : (ch : Int).tmod (z : Int) = ((ch % z : Nat) : Int) := by rw [Int.tmod_eq_emod_of_nonneg (by omega), Int.natCast_emod]
        have c3 : (z == 0) = false := by simp; omega
        have c4 : ¬ (z = 0) := by omega
        have c5 : ¬ ((z : Int) = 0) := by omega
        have hkq : k + qq < 18446744073709551616 := by omega
        have HT := Lib.hid (fun V hV => HA.out V hV (ch % z) hcz)
        have c6 : (T : Int) + ((ch % z : Nat) : Int) = ((T + ch % z : Nat) : Int) := by omega
        have c7 : (k : Int) + (qq : Int) = ((k + qq : Nat) : Int) := by omega
        generalize ch % z = c at *
        generalize T + c = tt at *
        generalize k + qq = fq at *
        have hd1 : 1 ≤ n - 1 - 1 := by omega
        have hf1 : Fence.wide.fn 9 := trivial
        obtain ⟨U, f, hUn, hU1, hU2⟩ := class_of (fun V => KeptA V w L sw (some ⟨b, off, none⟩) len cap k ch ∧ Boxed V eb 26 (.int .u64 (E2 : Int)) ∧ Boxed V (eb + 1) 3 (.int .i64 (x : Int)) ∧ Moved w4.heap.size (fun b => b ≠ eb ∧ b ≠ eb + 1) W V) (W := X.drew) ⟨KX.out.drew, EX.out, IX.out, MX.out.drew⟩
        have q0 : ∀ u, (f u).cell? ⟨w.heap.size, 0, none⟩ = some (.int .u32 (L : Int)) := fun u => (hU1 u).1.d.cell 0 _ rfl
        have q1 : ∀ u, (f u).cell? ⟨w.heap.size, 1, none⟩ = some (.int .u32 (sw : Int)) := fun u => (hU1 u).1.d.cell 1 _ rfl
        have q2 : ∀ u, (f u).cell? ⟨w.heap.size, 2, none⟩ = some (.slice (some ⟨b, off, none⟩) len cap) := fun u => (hU1 u).1.d.cell 2 _ rfl
        have q3 : ∀ u, (f u).cell? ⟨w.heap.size + 1 + 1, 0, none⟩ = some (.int .u32 (ch : Int)) := fun u => (hU1 u).1.m.cell
        have q4 : ∀ u, (f u).cell? ⟨w.heap.size + 1, 0, none⟩ = some (.int .u64 (k : Int)) := fun u => (hU1 u).1.k.cell
        have q5 : ∀ u, (f u).cell? ⟨eb + 1, 0, none⟩ = some (.int .i64 (x : Int)) := fun u => (hU1 u).2.2.1.cell
        have q6 : ∀ u, (f u).cell? ⟨b, off + nn * 3 + 2, none⟩ = some (.int .u32 (bu : Int)) := fun u => hcell2.out _ (hU1 u).1.b
        have HU1 := Lib.hid hU1; have HU2 := Lib.hid hU2
        clear hU1 hU2
        refine wpIn_region_cls f (by kernel_rfl) hfm (by kernel_rfl) (HU2.out _ ⟨KX.out.drew, EX.out, IX.out, MX.out.drew⟩) ?_
        have HR : Hid (∀ u, CallsIn (Fence.wide.inRound l) (n - 1 - 1 - 1) Try.prog 9 #[.agg #[.int .u32 (L : Int), .int .u32 (sw : Int), .slice (some ⟨b, off, none⟩) len cap], .int .u64 (tt : Int)] (f u) fun e w' => e = .returned (.tuple #[.int .u64 (fq : Int), .int .i64 (nn : Int)]) ∧ ∃ u', w' = f u') := fun u =>
          (HT.out (f u) (HU1.out u).1.b).mono (fun e w' ⟨he, hb⟩ => ⟨he, HU2.out w' ⟨(HU1.out u).1.below hb, (hb.block _ (HU1.out u).2.1.lt).trans (HU1.out u).2.1, (hb.block _ (HU1.out u).2.2.1.lt).trans (HU1.out u).2.2.1, (HU1.out u).2.2.2.below (Nat.le_trans hsz (HU1.out u).2.2.2.2.1) hb⟩⟩)
        repeat (gi_big_quiet_step ((gi_at_call 9; exact HR.out _)))
        refine wpQuietIn_nil ?_
        rintro V ⟨u, rfl⟩
        clear HR
        obtain ⟨z1, z2, z3, z4⟩ := HU1.out u
        have KY := Lib.hid z1; have EY := Lib.hid z2; have IY := Lib.hid z3; have MY := Lib.hid z4
        clear z1 z2 z3 z4 q0 q1 q2 q3 q4 q5 q6 HU1 HU2
        generalize f u = V2 at *
        clear f hUn
        gi_wp2
        obtain ⟨U, f, hUn, hU1, hU2⟩ := class_of (fun V => KeptA V w L sw (some ⟨b, off, none⟩) len cap k ch ∧ Boxed V eb 26 (.int .u64 (E2 : Int)) ∧ Boxed V (eb + 1) 3 (.int .i64 (x : Int)) ∧ Moved w4.heap.size (fun b => b ≠ eb ∧ b ≠ eb + 1) W V) (W := V2.drew) ⟨KY.out.drew, EY.out, IY.out, MY.out.drew⟩
        have q0 : ∀ u, (f u).cell? ⟨w.heap.size, 0, none⟩ = some (.int .u32 (L : Int)) := fun u => (hU1 u).1.d.cell 0 _ rfl
        have q1 : ∀ u, (f u).cell? ⟨w.heap.size, 1, none⟩ = some (.int .u32 (sw : Int)) := fun u => (hU1 u).1.d.cell 1 _ rfl
        have q2 : ∀ u, (f u).cell? ⟨w.heap.size, 2, none⟩ = some (.slice (some ⟨b, off, none⟩) len cap) := fun u => (hU1 u).1.d.cell 2 _ rfl
        have q3 : ∀ u, (f u).cell? ⟨w.heap.size + 1 + 1, 0, none⟩ = some (.int .u32 (ch : Int)) := fun u => (hU1 u).1.m.cell
        have q4 : ∀ u, (f u).cell? ⟨w.heap.size + 1, 0, none⟩ = some (.int .u64 (k : Int)) := fun u => (hU1 u).1.k.cell
        have q5 : ∀ u, (f u).cell? ⟨eb + 1, 0, none⟩ = some (.int .i64 (x : Int)) := fun u => (hU1 u).2.2.1.cell
        have q6 : ∀ u, (f u).cell? ⟨b, off + nn * 3 + 2, none⟩ = some (.int .u32 (bu : Int)) := fun u => hcell2.out _ (hU1 u).1.b
        have HU1 := Lib.hid hU1; have HU2 := Lib.hid hU2
        clear hU1 hU2
        refine wpIn_region_cls f (by kernel_rfl) hfm (by kernel_rfl) (HU2.out _ ⟨KY.out.drew, EY.out, IY.out, MY.out.drew⟩) ?_
        repeat (gi_big_quiet_step (fail))
        refine wpQuietIn_nil ?_
        rintro V ⟨u, rfl⟩
        obtain ⟨z1, z2, z3, z4⟩ := HU1.out u
        have KZ := Lib.hid z1; have EZ := Lib.hid z2; have IZ := Lib.hid z3; have MZ := Lib.hid z4
        clear z1 z2 z3 z4 q0 q1 q2 q3 q4 q5 q6 HU1 HU2
        generalize f u = V3 at *
        clear f hUn
        have e5 : V3.cell? ⟨eb + 1, 0, none⟩ = some (.int .i64 (x : Int)) := IZ.out.cell
        have f5 : V3.frozen? ⟨eb + 1, 0, none⟩ = false := IZ.out.frozen
        gi_wp2
        have hM := MZ.out.set (g := eb + 1) (by omega) (by simp) (.int .i64 ((x : Int) + 1))
        have e6 : ((x + 1 : Nat) : Int) = (x : Int) + 1 := by omega
        refine ⟨hM.1, hM.2, ⟨KZ.out.grown (grown_setCell (g := eb + 1) (o := 0) (grown_refl V3 _) _) (fun g e => by cases e; omega), EZ.out.other (B' := eb + 1) (by omega) _, ?_⟩, by omega, Nat.le_trans hsz hM.2.1⟩
        rw [e6]; exact IZ.out.set _
  case done =>
    rintro D x W hD ⟨hz, rfl⟩ ⟨⟨hkp, hbe, hbx⟩, hx, hsz⟩ hK
    have KW := Lib.hid hkp
    clear hkp hbe hbx hz
    have hll := load_le HF.out
    have HLO := Lib.hid (fun V hV => load_any L sw a len cap S V (by omega) hsw (HS.out.below hV))
    obtain ⟨lv, hlv⟩ : ∃ lv, lv = loadM sw S len := ⟨_, rfl⟩
    rw [← hlv] at HLO hll
    by_cases hz : len = 0
    · obtain rfl : lv = 0 := by rw [hlv, hz]; rfl
      have m1 : decide ((0 : Int) < (len : Int)) = false := by simp; omega
      have m2 : decide (0 < len) = false := by simp; omega
      clear hlv hll hz
      have m3 : decide ((0 : Int) ≤ (L : Int)) = true := by simp
      gi_wp2
      obtain ⟨U, f, hUn, hU1, hU2⟩ := class_of (fun V => KeptA V w L sw a len cap k ch ∧ Below W.heap.size W V) (W := W.drew) ⟨KW.out.drew, (Below.refl _ W).drew⟩
      have q0 : ∀ u, (f u).cell? ⟨w.heap.size, 0, none⟩ = some (.int .u32 (L : Int)) := fun u => (hU1 u).1.d.cell 0 _ rfl
      have q1 : ∀ u, (f u).cell? ⟨w.heap.size, 1, none⟩ = some (.int .u32 (sw : Int)) := fun u => (hU1 u).1.d.cell 1 _ rfl
      have q2 : ∀ u, (f u).cell? ⟨w.heap.size, 2, none⟩ = some (.slice a len cap) := fun u => (hU1 u).1.d.cell 2 _ rfl
      have HU1 := Lib.hid hU1; have HU2 := Lib.hid hU2
      clear hU1 hU2
      have HR : Hid (∀ u, CallsIn Fence.wide (n - 1) Try.prog 17 #[.agg #[.int .u32 (L : Int), .int .u32 (sw : Int), .slice a len cap]] (f u) fun e w' => e = .returned (.int .u32 0) ∧ ∃ u', w' = f u') := fun u =>
        (callsIn_wide.2 (HLO.out (f u) (HU1.out u).1.b)).mono (fun e w' ⟨he, hb⟩ => ⟨he, HU2.out w' ⟨(HU1.out u).1.below hb, (HU1.out u).2.trans (hb.mono (HU1.out u).2.size)⟩⟩)
      have hf1 : Fence.wide.fn 17 := trivial
      have hd1 : 1 ≤ n := by omega
      refine wpIn_region_tail_at 18 f hfm rfl (by kernel_rfl) (HU2.out _ ⟨KW.out.drew, (Below.refl _ W).drew⟩) ?_
      simp only [List.take_succ_cons, List.take_zero, List.getD_cons_succ, List.getD_cons_zero]
      repeat (gi_big_quiet_step ((gi_at_call 17; exact HR.out _)))
      refine wpQuietIn_nil ?_
      intro u
      obtain ⟨z1, z2⟩ := HU1.out u
      have K5 := Lib.hid z1; have HX5 := Lib.hid z2
      clear z1 z2 q0 q1 q2 HU1 HU2 HR
      generalize f u = w5 at *
      clear f hUn
      have e6 : w5.cell? ⟨w.heap.size + 1 + 1 + 1, 0, none⟩ = some (.bool false) := K5.out.r.cell
      have f6 : w5.frozen? ⟨w.heap.size + 1 + 1 + 1, 0, none⟩ = false := K5.out.r.frozen
      unfold Oper.wpIn
      go_simp
      clear e6 f6
      gi_wp2
      have hK2 : w5.heap[D]? = some (.deferred (some [])) := (HX5.out.block D (Array.getElem?_eq_some_iff.1 hK).1).trans hK
      have hK' : (w5.setCell ⟨w.heap.size + 1 + 1 + 1, 0, none⟩ (.bool true)).heap[D]? = some (.deferred (some [])) := (heap_setCell_other _ _ _ _ (by show D ≠ w.heap.size + 1 + 1 + 1; omega)).trans hK2
      refine ⟨by simp, .inl ⟨_, _, rfl, run_takeDeferred hK', ?_⟩⟩
      have hc5 := cell_kept (show (w5.setCell ⟨w.heap.size + 1 + 1 + 1, 0, none⟩ (.bool true)).cell? ⟨w.heap.size + 1 + 1 + 1, 0, none⟩ = some (.bool true) from (K5.out.r.set (.bool true)).cell) (grownBy_putObj' _ D (.deferred none)) (fun r e => by cases e; exact ⟨_, hK', rfl⟩)
      refine ⟨.bool true, ?_, rfl, ?_⟩
      · simp [results, Try.f6, go_sem, hc5]
      · exact (K5.out.b.setCell (p := ⟨w.heap.size + 1 + 1 + 1, 0, none⟩) (by simp; omega) _).trans (belowK_b (w := w) (Nat.le_refl _) _ D _ _ (by omega) hK' rfl rfl)
    · clear hlv
      have m1 : decide ((0 : Int) < (len : Int)) = true := by simp; omega
      have m2 : decide (0 < len) = true := by simp; omega
      have m3 : decide ((lv : Int) ≤ (L : Int)) = true := by simp; omega
      have m4 : decide (lv ≤ L) = true := by simp; omega
      gi_wp2
      obtain ⟨U, f, hUn, hU1, hU2⟩ := class_of (fun V => KeptA V w L sw a len cap k ch ∧ Below W.heap.size W V) (W := W.drew) ⟨KW.out.drew, (Below.refl _ W).drew⟩
      have q0 : ∀ u, (f u).cell? ⟨w.heap.size, 0, none⟩ = some (.int .u32 (L : Int)) := fun u => (hU1 u).1.d.cell 0 _ rfl
      have q1 : ∀ u, (f u).cell? ⟨w.heap.size, 1, none⟩ = some (.int .u32 (sw : Int)) := fun u => (hU1 u).1.d.cell 1 _ rfl
      have q2 : ∀ u, (f u).cell? ⟨w.heap.size, 2, none⟩ = some (.slice a len cap) := fun u => (hU1 u).1.d.cell 2 _ rfl
      have HU1 := Lib.hid hU1; have HU2 := Lib.hid hU2
      clear hU1 hU2
      have HR : Hid (∀ u, CallsIn Fence.wide (n - 1) Try.prog 17 #[.agg #[.int .u32 (L : Int), .int .u32 (sw : Int), .slice a len cap]] (f u) fun e w' => e = .returned (.int .u32 (lv : Int)) ∧ ∃ u', w' = f u') := fun u =>
        (callsIn_wide.2 (HLO.out (f u) (HU1.out u).1.b)).mono (fun e w' ⟨he, hb⟩ => ⟨he, HU2.out w' ⟨(HU1.out u).1.below hb, (HU1.out u).2.trans (hb.mono (HU1.out u).2.size)⟩⟩)
      have hf1 : Fence.wide.fn 17 := trivial
      have hd1 : 1 ≤ n := by omega
      refine wpIn_region_tail_at 18 f hfm rfl (by kernel_rfl) (HU2.out _ ⟨KW.out.drew, (Below.refl _ W).drew⟩) ?_
      simp only [List.take_succ_cons, List.take_zero, List.getD_cons_succ, List.getD_cons_zero]
      repeat (gi_big_quiet_step ((gi_at_call 17; exact HR.out _)))
      refine wpQuietIn_nil ?_
      intro u
      obtain ⟨z1, z2⟩ := HU1.out u
      have K5 := Lib.hid z1; have HX5 := Lib.hid z2
      clear z1 z2 q0 q1 q2 HU1 HU2 HR
      generalize f u = w5 at *
      clear f hUn
      have e6 : w5.cell? ⟨w.heap.size + 1 + 1 + 1, 0, none⟩ = some (.bool false) := K5.out.r.cell
      have f6 : w5.frozen? ⟨w.heap.size + 1 + 1 + 1, 0, none⟩ = false := K5.out.r.frozen
      unfold Oper.wpIn
      go_simp
      clear e6 f6
      gi_wp2
      have hK2 : w5.heap[D]? = some (.deferred (some [])) := (HX5.out.block D (Array.getElem?_eq_some_iff.1 hK).1).trans hK
      have hK' : (w5.setCell ⟨w.heap.size + 1 + 1 + 1, 0, none⟩ (.bool true)).heap[D]? = some (.deferred (some [])) := (heap_setCell_other _ _ _ _ (by show D ≠ w.heap.size + 1 + 1 + 1; omega)).trans hK2
      refine ⟨by simp, .inl ⟨_, _, rfl, run_takeDeferred hK', ?_⟩⟩
      have hc5 := cell_kept (show (w5.setCell ⟨w.heap.size + 1 + 1 + 1, 0, none⟩ (.bool true)).cell? ⟨w.heap.size + 1 + 1 + 1, 0, none⟩ = some (.bool true) from (K5.out.r.set (.bool true)).cell) (grownBy_putObj' _ D (.deferred none)) (fun r e => by cases e; exact ⟨_, hK', rfl⟩)
      refine ⟨.bool true, ?_, rfl, ?_⟩
      · simp [results, Try.f6, go_sem, hc5]
      · exact (K5.out.b.setCell (p := ⟨w.heap.size + 1 + 1 + 1, 0, none⟩) (by simp; omega) _).trans (belowK_b (w := w) (Nat.le_refl _) _ D _ _ (by omega) hK' rfl rfl)
  case stop =>
    rintro D c x W hD hx ⟨hkp, rfl⟩ hK
    have KW := Lib.hid hkp
    clear hkp
    have hll := load_le HF.out
    have HLO := Lib.hid (fun V hV => load_any L sw a len cap S V (by omega) hsw (HS.out.below hV))
    obtain ⟨lv, hlv⟩ : ∃ lv, lv = loadM sw S len := ⟨_, rfl⟩
    rw [← hlv] at HLO hll
    by_cases hz : len = 0
    · obtain rfl : lv = 0 := by rw [hlv, hz]; rfl
      have m1 : decide ((0 : Int) < (len : Int)) = false := by simp; omega
      have m2 : decide (0 < len) = false := by simp; omega
      clear hlv hll hz
      have m3 : decide ((0 : Int) ≤ (L : Int)) = true := by simp
      gi_wp2
      obtain ⟨U, f, hUn, hU1, hU2⟩ := class_of (fun V => KeptA V w L sw a len cap k ch ∧ Below W.heap.size W V) (W := W.drew) ⟨KW.out.drew, (Below.refl _ W).drew⟩
      have q0 : ∀ u, (f u).cell? ⟨w.heap.size, 0, none⟩ = some (.int .u32 (L : Int)) := fun u => (hU1 u).1.d.cell 0 _ rfl
      have q1 : ∀ u, (f u).cell? ⟨w.heap.size, 1, none⟩ = some (.int .u32 (sw : Int)) := fun u => (hU1 u).1.d.cell 1 _ rfl
      have q2 : ∀ u, (f u).cell? ⟨w.heap.size, 2, none⟩ = some (.slice a len cap) := fun u => (hU1 u).1.d.cell 2 _ rfl
      have HU1 := Lib.hid hU1; have HU2 := Lib.hid hU2
      clear hU1 hU2
      have HR : Hid (∀ u, CallsIn Fence.wide (n - 1) Try.prog 17 #[.agg #[.int .u32 (L : Int), .int .u32 (sw : Int), .slice a len cap]] (f u) fun e w' => e = .returned (.int .u32 0) ∧ ∃ u', w' = f u') := fun u =>
        (callsIn_wide.2 (HLO.out (f u) (HU1.out u).1.b)).mono (fun e w' ⟨he, hb⟩ => ⟨he, HU2.out w' ⟨(HU1.out u).1.below hb, (HU1.out u).2.trans (hb.mono (HU1.out u).2.size)⟩⟩)
      have hf1 : Fence.wide.fn 17 := trivial
      have hd1 : 1 ≤ n := by omega
      refine wpIn_region_tail_at 18 f hfm rfl (by kernel_rfl) (HU2.out _ ⟨KW.out.drew, (Below.refl _ W).drew⟩) ?_
      simp only [List.take_succ_cons, List.take_zero, List.getD_cons_succ, List.getD_cons_zero]
      repeat (gi_big_quiet_step ((gi_at_call 17; exact HR.out _)))
      refine wpQuietIn_nil ?_
      intro u
      obtain ⟨z1, z2⟩ := HU1.out u
      have K5 := Lib.hid z1; have HX5 := Lib.hid z2
      clear z1 z2 q0 q1 q2 HU1 HU2 HR
      generalize f u = w5 at *
      clear f hUn
      have e6 : w5.cell? ⟨w.heap.size + 1 + 1 + 1, 0, none⟩ = some (.bool false) := K5.out.r.cell
      have f6 : w5.frozen? ⟨w.heap.size + 1 + 1 + 1, 0, none⟩ = false := K5.out.r.frozen
      unfold Oper.wpIn
      go_simp
      clear e6 f6
      gi_wp2
      have hK2 : w5.heap[D]? = some (.deferred (some [])) := (HX5.out.block D (Array.getElem?_eq_some_iff.1 hK).1).trans hK
      have hK' : (w5.setCell ⟨w.heap.size + 1 + 1 + 1, 0, none⟩ (.bool true)).heap[D]? = some (.deferred (some [])) := (heap_setCell_other _ _ _ _ (by show D ≠ w.heap.size + 1 + 1 + 1; omega)).trans hK2
      refine ⟨by simp, .inl ⟨_, _, rfl, run_takeDeferred hK', ?_⟩⟩
      have hc5 := cell_kept (show (w5.setCell ⟨w.heap.size + 1 + 1 + 1, 0, none⟩ (.bool true)).cell? ⟨w.heap.size + 1 + 1 + 1, 0, none⟩ = some (.bool true) from (K5.out.r.set (.bool true)).cell) (grownBy_putObj' _ D (.deferred none)) (fun r e => by cases e; exact ⟨_, hK', rfl⟩)
      refine ⟨.bool true, ?_, rfl, ?_⟩
      · simp [results, Try.f6, go_sem, hc5]
      · exact (K5.out.b.setCell (p := ⟨w.heap.size + 1 + 1 + 1, 0, none⟩) (by simp; omega) _).trans (belowK_b (w := w) (Nat.le_refl _) _ D _ _ (by omega) hK' rfl rfl)
    · clear hlv
      have m1 : decide ((0 : Int) < (len : Int)) = true := by simp; omega
      have m2 : decide (0 < len) = true := by simp; omega
      have m3 : decide ((lv : Int) ≤ (L : Int)) = true := by simp; omega
      have m4 : decide (lv ≤ L) = true := by simp; omega
      gi_wp2
      obtain ⟨U, f, hUn, hU1, hU2⟩ := class_of (fun V => KeptA V w L sw a len cap k ch ∧ Below W.heap.size W V) (W := W.drew) ⟨KW.out.drew, (Below.refl _ W).drew⟩
      have q0 : ∀ u, (f u).cell? ⟨w.heap.size, 0, none⟩ = some (.int .u32 (L : Int)) := fun u => (hU1 u).1.d.cell 0 _ rfl
      have q1 : ∀ u, (f u).cell? ⟨w.heap.size, 1, none⟩ = some (.int .u32 (sw : Int)) := fun u => (hU1 u).1.d.cell 1 _ rfl
      have q2 : ∀ u, (f u).cell? ⟨w.heap.size, 2, none⟩ = some (.slice a len cap) := fun u => (hU1 u).1.d.cell 2 _ rfl
      have HU1 := Lib.hid hU1; have HU2 := Lib.hid hU2
      clear hU1 hU2
      have HR : Hid (∀ u, CallsIn Fence.wide (n - 1) Try.prog 17 #[.agg #[.int .u32 (L : Int), .int .u32 (sw : Int), .slice a len cap]] (f u) fun e w' => e = .returned (.int .u32 (lv : Int)) ∧ ∃ u', w' = f u') := fun u =>
        (callsIn_wide.2 (HLO.out (f u) (HU1.out u).1.b)).mono (fun e w' ⟨he, hb⟩ => ⟨he, HU2.out w' ⟨(HU1.out u).1.below hb, (HU1.out u).2.trans (hb.mono (HU1.out u).2.size)⟩⟩)
      have hf1 : Fence.wide.fn 17 := trivial
      have hd1 : 1 ≤ n := by omega
      refine wpIn_region_tail_at 18 f hfm rfl (by kernel_rfl) (HU2.out _ ⟨KW.out.drew, (Below.refl _ W).drew⟩) ?_
      simp only [List.take_succ_cons, List.take_zero, List.getD_cons_succ, List.getD_cons_zero]
      repeat (gi_big_quiet_step ((gi_at_call 17; exact HR.out _)))
      refine wpQuietIn_nil ?_
      intro u
      obtain ⟨z1, z2⟩ := HU1.out u
      have K5 := Lib.hid z1; have HX5 := Lib.hid z2
      clear z1 z2 q0 q1 q2 HU1 HU2 HR
      generalize f u = w5 at *
      clear f hUn
      have e6 : w5.cell? ⟨w.heap.size + 1 + 1 + 1, 0, none⟩ = some (.bool false) := K5.out.r.cell
      have f6 : w5.frozen? ⟨w.heap.size + 1 + 1 + 1, 0, none⟩ = false := K5.out.r.frozen
      unfold Oper.wpIn
      go_simp
      clear e6 f6
      gi_wp2
      have hK2 : w5.heap[D]? = some (.deferred (some [])) := (HX5.out.block D (Array.getElem?_eq_some_iff.1 hK).1).trans hK
      have hK' : (w5.setCell ⟨w.heap.size + 1 + 1 + 1, 0, none⟩ (.bool true)).heap[D]? = some (.deferred (some [])) := (heap_setCell_other _ _ _ _ (by show D ≠ w.heap.size + 1 + 1 + 1; omega)).trans hK2
      refine ⟨by simp, .inl ⟨_, _, rfl, run_takeDeferred hK', ?_⟩⟩
      have hc5 := cell_kept (show (w5.setCell ⟨w.heap.size + 1 + 1 + 1, 0, none⟩ (.bool true)).cell? ⟨w.heap.size + 1 + 1 + 1, 0, none⟩ = some (.bool true) from (K5.out.r.set (.bool true)).cell) (grownBy_putObj' _ D (.deferred none)) (fun r e => by cases e; exact ⟨_, hK', rfl⟩)
      refine ⟨.bool true, ?_, rfl, ?_⟩
      · simp [results, Try.f6, go_sem, hc5]
      · exact (K5.out.b.setCell (p := ⟨w.heap.size + 1 + 1 + 1, 0, none⟩) (by simp; omega) _).trans (belowK_b (w := w) (Nat.le_refl _) _ D _ _ (by omega) hK' rfl rfl)
end Go.Proofs.Ythbieplfphignaa
