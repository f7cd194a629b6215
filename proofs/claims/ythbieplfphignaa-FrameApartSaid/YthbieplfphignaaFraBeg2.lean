/- The walk of FrameBegins. -/
import Derived.Test.YthbieplfphignaaFraBegs
import Derived.Test.YthbieplfphignaaFraTellsE
import Derived.IntWalk
namespace Go.Proofs.Ythbieplfphignaa
open Go.RowKit Go.Shelf
set_option linter.unusedVariables false
attribute [local go_sem] Oper.semAt_some
theorem begins_any (L sw : Nat) (a : Option Addr) (len cap k : Nat) (w : World) :
    Calls Try.prog 19 #[.agg #[.int .u32 (L : Int), .int .u32 (sw : Int), .slice a len cap], .int .u64 (k : Int)] w fun e W' => e = .returned (.func (.func 23) #[] #[.pointer (some ⟨w.heap.size, 0, none⟩), .pointer (some ⟨w.heap.size + 1, 0, none⟩)]) ∧ W' = (w.alloc (.cells #[.int .u32 (L : Int), .int .u32 (sw : Int), .slice a len cap] 25)).alloc (.cells #[.int .u64 (k : Int)] 26) := by
  have mf : ∀ w' c1 c2, (Instr.makeFunc (.func 23) #[] #[c1, c2]).run Try.prog w' = .ok (.func (.func 23) #[] #[c1, c2]) w' := fun _ _ _ => rfl
  go_enter Try.func19, Try.ntmps19
  go_wp2_with fail
  go_ret
  exact ⟨rfl, rfl⟩
/-- What the body leaves as it lay, behind the blocks of its own. -/
structure Kept (W w : World) (L sw : Nat) (a : Option Addr) (len cap k most : Nat) : Prop where
  d : Held W w.heap.size #[.int .u32 (L : Int), .int .u32 (sw : Int), .slice a len cap] 25
  k : Boxed W (w.heap.size + 1) 26 (.int .u64 (k : Int))
  m : Boxed W (w.heap.size + 2) 3 (.int .i64 (most : Int))
  r : Boxed W (w.heap.size + 3) 4 (.bool false)
  b : Below w.heap.size w W
  z : w.heap.size + 4 ≤ W.heap.size
theorem Kept.grown {X Y w : World} {L sw len cap k most : Nat} {row : Option Nat} {a : Option Addr} (h : Kept X w L sw a len cap k most) (hg : X.grownBy Y row) (hn : ∀ g, row = some g → w.heap.size + 4 ≤ g) : Kept Y w L sw a len cap k most :=
  ⟨h.d.kept hg (fun e => by have := hn _ e.symm; omega), h.k.kept hg (fun e => by have := hn _ e.symm; omega), h.m.kept hg (fun e => by have := hn _ e.symm; omega), h.r.kept hg (fun e => by have := hn _ e.symm; omega),
    h.b.trans ((Below.refl _ X).grown hg (by have := h.z; omega) (fun k e => by have := hn _ e; omega)), Nat.le_trans h.z hg.size⟩
theorem Kept.below {X Y w : World} {L sw len cap k most : Nat} {a : Option Addr} (h : Kept X w L sw a len cap k most) (hb : Below X.heap.size X Y) : Kept Y w L sw a len cap k most :=
  h.grown (grown_of_below hb (some X.heap.size)) (fun g e => by cases e; exact h.z)
theorem Kept.alloc {X w : World} {L sw len cap k most : Nat} {a : Option Addr} (h : Kept X w L sw a len cap k most) (o : Obj) : Kept (X.alloc o) w L sw a len cap k most :=
  h.below ((Below.refl _ X).alloc (Nat.le_refl _) o)
theorem Kept.drew {X w : World} {L sw len cap k most : Nat} {a : Option Addr} (h : Kept X w L sw a len cap k most) : Kept X.drew w L sw a len cap k most := ⟨h.d, h.k, h.m, h.r, h.b.drew, h.z⟩
theorem kept_new (w : World) (L sw : Nat) (a : Option Addr) (len cap k most : Nat) :
    Kept ((((w.alloc (.cells #[.int .u32 (L : Int), .int .u32 (sw : Int), .slice a len cap] 25)).alloc (.cells #[.int .u64 (k : Int)] 26)).alloc (.cells #[.int .i64 (most : Int)] 3)).alloc (.cells #[.bool false] 4)) w L sw a len cap k most := by
  have h1 := (((Held.new w #[.int .u32 (L : Int), .int .u32 (sw : Int), .slice a len cap] 25).alloc (.cells #[.int .u64 (k : Int)] 26)).alloc (.cells #[.int .i64 (most : Int)] 3)).alloc (.cells #[.bool false] 4)
  have h2 := (((Boxed.new (w.alloc (.cells #[.int .u32 (L : Int), .int .u32 (sw : Int), .slice a len cap] 25)) 26 (.int .u64 (k : Int))).alloc (.cells #[.int .i64 (most : Int)] 3)).alloc (.cells #[.bool false] 4))
  have h3 := ((Boxed.new ((w.alloc (.cells #[.int .u32 (L : Int), .int .u32 (sw : Int), .slice a len cap] 25)).alloc (.cells #[.int .u64 (k : Int)] 26)) 3 (.int .i64 (most : Int))).alloc (.cells #[.bool false] 4))
  have h4 := (Boxed.new (((w.alloc (.cells #[.int .u32 (L : Int), .int .u32 (sw : Int), .slice a len cap] 25)).alloc (.cells #[.int .u64 (k : Int)] 26)).alloc (.cells #[.int .i64 (most : Int)] 3)) 4 (.bool false))
  simp only [World.size_alloc, Nat.add_assoc, Nat.reduceAdd] at h2 h3 h4
  exact ⟨h1, h2, h3, h4, ((((Below.refl _ w).alloc (Nat.le_refl _) _).alloc (by simp) _).alloc (by simp; omega) _).alloc (by simp; omega) _, by simp⟩
theorem wrapS (n : Nat) (h : n < 9223372036854775808) : IntKind.i64.wrap (n : Int) = (n : Int) := IntWalk.i64_in _ (by omega)
theorem wrapN (n : Nat) (h : n < 18446744073709551616) : IntKind.u64.wrap (n : Int) = (n : Int) := by rw [wrapU64]; omega
set_option maxRecDepth 100000 in
set_option maxHeartbeats 16000000 in
theorem begins_ok (n : Nat) (hn : 4 ≤ n) (L sw : Nat) (a : Option Addr) (len cap : Nat) (S : Nat → SlotR) (k most : Nat) (w : World) (hl : len ≤ 2000) (hL : L < 4294967296) (hk : k < 18446744073709551616) (hmo : most ≤ 100) (hS : SlotsAt w a len S) :
    CallsIn Fence.wide n Try.prog 5 #[.agg #[.int .u32 (L : Int), .int .u32 (sw : Int), .slice a len cap], .int .u64 (k : Int), .int .i64 (most : Int)] w fun e W' => e = .returned (.bool true) ∧ Below w.heap.size w W' := by
  have t1 : decide (2000 < (len : Int)) = false := by simp; omega
  have T1 := Lib.hid t1
  clear t1
  have t2 : decide ((most : Int) < 0) = false := by simp
  have t3 : decide (100 < (most : Int)) = false := by simp; omega
  have hfm : (Try.prog).follows .mixedOrders = true := by kernel_rfl
  have KN := Lib.hid (kept_new w L sw a len cap k most)
  refine callsIn_of_wp_marks Try.func5 rfl trivial ?_ rfl
  simp only [Try.ntmps5, List.size_toArray, List.length_cons, List.length_nil, Nat.reduceAdd, Nat.reduceSub, Array.replicate_succ, Array.replicate_zero, List.push_toArray, List.append_toArray, List.nil_append, List.cons_append]
  gi_wp2_with (fail)
  generalize (((w.alloc (.cells #[.int .u32 (L : Int), .int .u32 (sw : Int), .slice a len cap] 25)).alloc (.cells #[.int .u64 (k : Int)] 26)).alloc (.cells #[.int .i64 (most : Int)] 3)).alloc (.cells #[.bool false] 4) = w0 at *
  refine ⟨trivial, fun h => (by cases h), (callsIn_wide.2 (known_any w0)).mono ?_⟩
  rintro e w1 ⟨rfl, hb⟩
  have K1 := Lib.hid (KN.out.below hb)
  clear hb KN
  have d0 : w1.cell? ⟨w.heap.size, 0, none⟩ = some (.int .u32 (L : Int)) := K1.out.d.cell 0 _ rfl
  have d1 : w1.cell? ⟨w.heap.size, 1, none⟩ = some (.int .u32 (sw : Int)) := K1.out.d.cell 1 _ rfl
  have d2 : w1.cell? ⟨w.heap.size, 2, none⟩ = some (.slice a len cap) := K1.out.d.cell 2 _ rfl
  have d3 : w1.cell? ⟨w.heap.size + 1 + 1, 0, none⟩ = some (.int .i64 (most : Int)) := K1.out.m.cell
  have d4 : w1.cell? ⟨w.heap.size + 1, 0, none⟩ = some (.int .u64 (k : Int)) := K1.out.k.cell
  gi_wp2_with (fail)
  clear d0 d1 d2 d3 d4
  refine ⟨trivial, fun h => (by cases h), (callsIn_wide.2 (great_any L sw a len cap false w1 T1.out)).mono ?_⟩
  rintro e w2 ⟨rfl, hb⟩
  have K2 := Lib.hid (K1.out.below hb)
  clear hb K1
  have d0 : w2.cell? ⟨w.heap.size, 0, none⟩ = some (.int .u32 (L : Int)) := K2.out.d.cell 0 _ rfl
  have d1 : w2.cell? ⟨w.heap.size, 1, none⟩ = some (.int .u32 (sw : Int)) := K2.out.d.cell 1 _ rfl
  have d2 : w2.cell? ⟨w.heap.size, 2, none⟩ = some (.slice a len cap) := K2.out.d.cell 2 _ rfl
  have d3 : w2.cell? ⟨w.heap.size + 1 + 1, 0, none⟩ = some (.int .i64 (most : Int)) := K2.out.m.cell
  have d4 : w2.cell? ⟨w.heap.size + 1, 0, none⟩ = some (.int .u64 (k : Int)) := K2.out.k.cell
  have hz2 := K2.out.z
  have z0 : w.heap.size < w2.heap.size := by omega
  have z1 : w.heap.size + 1 < w2.heap.size := by omega
  have z2 : w.heap.size + 1 + 1 < w2.heap.size := by omega
  gi_wp2_with (fail)
  clear d0 d1 d2 d3 d4 z0 z1 z2
  refine ⟨trivial, fun h => (by cases h), (callsIn_wide.2 (begins_any L sw a len cap k _)).mono ?_⟩
  rintro e w' ⟨rfl, rfl⟩
  obtain ⟨ib, hib⟩ : ∃ ib, ib = w2.heap.size := ⟨_, rfl⟩
  have K3 := Lib.hid (((K2.out.alloc (.cells #[.int .i64 0] 3)).alloc (.cells #[.int .u32 (L : Int), .int .u32 (sw : Int), .slice a len cap] 25)).alloc (.cells #[.int .u64 (k : Int)] 26))
  have I3 := Lib.hid (((Boxed.new w2 3 (.int .i64 0)).alloc (.cells #[.int .u32 (L : Int), .int .u32 (sw : Int), .slice a len cap] 25)).alloc (.cells #[.int .u64 (k : Int)] 26))
  have D3 := Lib.hid ((Held.new (w2.alloc (.cells #[.int .i64 0] 3)) #[.int .u32 (L : Int), .int .u32 (sw : Int), .slice a len cap] 25).alloc (.cells #[.int .u64 (k : Int)] 26))
  have U3 := Lib.hid (Boxed.new ((w2.alloc (.cells #[.int .i64 0] 3)).alloc (.cells #[.int .u32 (L : Int), .int .u32 (sw : Int), .slice a len cap] 25)) 26 (.int .u64 (k : Int)))
  have Z3 : Hid ((((w2.alloc (.cells #[.int .i64 0] 3)).alloc (.cells #[.int .u32 (L : Int), .int .u32 (sw : Int), .slice a len cap] 25)).alloc (.cells #[.int .u64 (k : Int)] 26)).heap.size = ib + 1 + 1 + 1) := by show _ = _; simp [hib]
  simp only [World.size_alloc] at I3 D3 U3 ⊢
  rw [← hib] at I3 D3 U3 hz2 ⊢
  have HI := Lib.hid hib
  clear hib
  generalize ((w2.alloc (.cells #[.int .i64 0] 3)).alloc (.cells #[.int .u32 (L : Int), .int .u32 (sw : Int), .slice a len cap] 25)).alloc (.cells #[.int .u64 (k : Int)] 26) = w3 at *
  clear K2 HI
  have S3 := Lib.hid (hS.below K3.out.b)
  have HS := Lib.hid hS
  have hab : Hid (0 < len → ∀ b off, a = some ⟨b, off, none⟩ → b < w.heap.size) := fun hp b off e => by
    rcases HS.out.1 with h | ⟨b', off', e', hlt, _⟩
    · omega
    · rw [e] at e'; cases e'; exact hlt
  clear hS
  gi_wp2_with (fail)
  have hzz := Z3.out
  have HQ := begins1_in (n - 1) L sw a len cap S k (most + 1) (ib + 1) (ib + 1 + 1) w3 (fun b => b ≠ ib) (by omega) hL S3.out D3.out (by rw [Nat.mod_eq_of_lt hk]; exact U3.out) (by omega)
    (fun hp b off e => by have := hab.out hp b off e; exact ⟨by omega, by omega⟩) (by show ib + 1 ≠ ib; omega) (by show ib + 1 + 1 ≠ ib; omega) (fun hp b off e => by have := hab.out hp b off e; omega)
  refine rangeFunc_b (ps := #[25, 26]) rfl (by omega) (gf := 23) (lb := #[.pointer (some ⟨ib + 1, 0, none⟩), .pointer (some ⟨ib + 1 + 1, 0, none⟩)]) rfl trivial (enters_of Try.func23 (by kernel_rfl) rfl)
    (kb := ib + 1 + 1) (N := most + 1) (by omega) HQ (fun h k => h.trans k) (fun W l o o' hl _ _ _ => KeepQ.put o' hl) (fun _ => rfl)
    (fun i W => (Kept W w L sw a len cap k most ∧ Boxed W ib 3 (.int .i64 (i : Int))) ∧ i ≤ most ∧ w3.heap.size ≤ W.heap.size)
    (fun c i W => (Kept W w L sw a len cap k most ∧ Boxed W ib 3 (.int .i64 (most : Int))) ∧ c = .exit 0)
    (fun s X Y row h hg hr => ⟨⟨h.1.1.grown hg (fun g e => by have := (hr g e).1; omega), h.1.2.kept hg (fun e => by have := (hr _ e.symm).1; omega)⟩, ⟨h.2.1, Nat.le_trans h.2.2 hg.size⟩⟩)
    (fun c s X Y row h hg hr => ⟨⟨h.1.1.grown hg (fun g e => by have := (hr g e).1; omega), h.1.2.kept hg (fun e => by have := (hr _ e.symm).1; omega)⟩, h.2⟩)
    (fun s X Y h hg => ⟨⟨h.1.1.grown hg (fun g e => by cases e; omega), h.1.2.kept hg (fun e => by cases e)⟩, ⟨h.2.1, Nat.le_trans h.2.2 hg.size⟩⟩)
    (fun c s X Y h hg => ⟨⟨h.1.1.grown hg (fun g e => by cases e; omega), h.1.2.kept hg (fun e => by cases e)⟩, h.2⟩)
    (fun s X h => by have := h.2.1; omega) ⟨⟨K3.out, I3.out⟩, Nat.zero_le _, Nat.le_refl _⟩ ?_ ?assign ?body ?done ?stop
  case assign =>
    intro l x W K hK
    unfold encB
    gi_wp2
    exact hK
  case body =>
    intro l x W hp hl' ⟨⟨hkp, hbx⟩, hx, hsz⟩
    have KW := Lib.hid hkp; have IW := Lib.hid hbx
    have e0 : W.cell? ⟨w.heap.size, 0, none⟩ = some (.int .u32 (L : Int)) := hkp.d.cell 0 _ rfl
    have e1 : W.cell? ⟨w.heap.size, 1, none⟩ = some (.int .u32 (sw : Int)) := hkp.d.cell 1 _ rfl
    have e2 : W.cell? ⟨w.heap.size, 2, none⟩ = some (.slice a len cap) := hkp.d.cell 2 _ rfl
    have e3 : W.cell? ⟨w.heap.size + 1 + 1, 0, none⟩ = some (.int .i64 (most : Int)) := hkp.m.cell
    have e4 : W.cell? ⟨w.heap.size + 1, 0, none⟩ = some (.int .u64 (k : Int)) := hkp.k.cell
    have e5 : W.cell? ⟨ib, 0, none⟩ = some (.int .i64 (x : Int)) := hbx.cell
    have f5 : W.frozen? ⟨ib, 0, none⟩ = false := hbx.frozen
    clear hkp hbx
    have n0 : ¬ (len = 0) := by omega
    have n1 : ¬ ((len : Int) = 0) := by omega
    by_cases hlt : x < most
    · have u1 : decide ((most : Int) ≤ (x : Int)) = false := by simp; omega
      have SW : Hid (SlotsAt W a len S) := HS.out.below KW.out.b
      have hkk : (k + x / len) % 18446744073709551616 < 18446744073709551616 := Nat.mod_lt _ (by omega)
      have g1 : (x : Int) % (len : Int) = ((x % len : Nat) : Int) := by rw [Int.natCast_emod]
      have g2 : (x : Int) / (len : Int) = ((x / len : Nat) : Int) := by rw [Int.natCast_ediv]
      have g3 : IntKind.u64.wrap ((k : Int) + ((x / len : Nat) : Int)) = (((k + x / len) % 18446744073709551616 : Nat) : Int) := by rw [wrapU64]; omega
      have g4 : (x : Int).tmod (len : Int) = ((x % len : Nat) : Int) := by rw [Int.tmod_eq_emod_of_nonneg (by omega), Int.natCast_emod]
      have g5 : (x : Int).tdiv (len : Int) = ((x / len : Nat) : Int) := by rw [Int.tdiv_eq_ediv_of_nonneg (by omega), Int.natCast_ediv]
      have g6 : IntKind.i64.wrap ((x % len : Nat) : Int) = ((x % len : Nat) : Int) := wrapS _ (Nat.lt_trans (Nat.mod_lt x hp) (by omega))
      have g7 : IntKind.i64.wrap ((x / len : Nat) : Int) = ((x / len : Nat) : Int) := wrapS _ (Nat.lt_of_le_of_lt (Nat.div_le_self x len) (by omega))
      have g8 : IntKind.u64.wrap ((x / len : Nat) : Int) = ((x / len : Nat) : Int) := wrapN _ (Nat.lt_of_le_of_lt (Nat.div_le_self x len) (by omega))
      simp only [g1]
      have hxl : x % len < len := Nat.mod_lt _ hp
      have hxq : x / len ≤ x := Nat.div_le_self _ _
      generalize (k + x / len) % 18446744073709551616 = kk at *
      generalize x / len = qq at *
      generalize x % len = nn at *
      have m1 : (len == 0) = false := by simpa using n0
      have hd1 : 1 ≤ n - 1 - 1 := by omega
      have hf1 : Fence.wide.fn 16 := trivial
      gi_wp2
      clear e0 e1 e2 e3 e4 e5 f5
      obtain ⟨U, f, hUn, hU1, hU2⟩ := class_of (fun V => Kept V w L sw a len cap k most ∧ Boxed V ib 3 (.int .i64 (x : Int)) ∧ Below W.heap.size W V) (W := W.drew) ⟨KW.out.drew, IW.out, (Below.refl _ W).drew⟩
      have q0 : ∀ u, (f u).cell? ⟨w.heap.size, 0, none⟩ = some (.int .u32 (L : Int)) := fun u => (hU1 u).1.d.cell 0 _ rfl
      have q1 : ∀ u, (f u).cell? ⟨w.heap.size, 1, none⟩ = some (.int .u32 (sw : Int)) := fun u => (hU1 u).1.d.cell 1 _ rfl
      have q2 : ∀ u, (f u).cell? ⟨w.heap.size, 2, none⟩ = some (.slice a len cap) := fun u => (hU1 u).1.d.cell 2 _ rfl
      have q4 : ∀ u, (f u).cell? ⟨w.heap.size + 1, 0, none⟩ = some (.int .u64 (k : Int)) := fun u => (hU1 u).1.k.cell
      have q5 : ∀ u, (f u).cell? ⟨ib, 0, none⟩ = some (.int .i64 (x : Int)) := fun u => (hU1 u).2.1.cell
      have HU1 := Lib.hid hU1; have HU2 := Lib.hid hU2
      clear hU1 hU2
      have HR : Hid (∀ u, CallsIn (Fence.wide.inRound l) (n - 1 - 1 - 1) Try.prog 16 #[.agg #[.int .u32 (L : Int), .int .u32 (sw : Int), .slice a len cap], .int .u64 (kk : Int), .int .i64 (nn : Int)] (f u) fun e w' => e = .returned (.int .u64 (beginI L S len kk (nn : Int))) ∧ ∃ u', w' = f u') := fun u =>
        (CallsIn.inRound _ (callsIn_wide.2 (refBegin_any L sw a len cap S kk (nn : Int) _ (by omega) hL hkk (HS.out.below (HU1.out u).1.b)))).mono (fun e w' ⟨he, hb⟩ => ⟨he, HU2.out w' ⟨(HU1.out u).1.below hb, (hb.block _ (HU1.out u).2.1.lt).trans (HU1.out u).2.1, (HU1.out u).2.2.trans (hb.mono (HU1.out u).2.2.size)⟩⟩)
      refine wpIn_region_cls f (by kernel_rfl) hfm (by kernel_rfl) (HU2.out _ ⟨KW.out.drew, IW.out, (Below.refl _ W).drew⟩) ?_
      repeat (gi_big_quiet_step ((gi_at_call 16; exact HR.out _)))
      refine wpQuietIn_nil ?_
      rintro W2 ⟨u, rfl⟩
      obtain ⟨k2, b2, bl2⟩ := HU1.out u
      have K4 := Lib.hid k2; have I4 := Lib.hid b2; have B4 := Lib.hid bl2
      have e5 : (f u).cell? ⟨ib, 0, none⟩ = some (.int .i64 (x : Int)) := b2.cell
      have f5 : (f u).frozen? ⟨ib, 0, none⟩ = false := b2.frozen
      clear k2 b2 bl2 q0 q1 q2 q4 q5
      generalize f u = W3 at *
      gi_wp2
      have e6 : ((x + 1 : Nat) : Int) = (x : Int) + 1 := by omega
      refine ⟨(keepsFrom_below B4.out).trans (KeepsFrom.of_grownBy (grown_setCell (g := ib) (grown_refl W3 _) _) (fun j e => by cases e; omega)), ⟨Nat.le_trans B4.out.size (by simp [World.setCell]), fun b hb hq => (heap_setCell_other _ _ _ _ hq).trans (B4.out.block b (by omega))⟩, ⟨K4.out.grown (grown_setCell (g := ib) (grown_refl W3 _) _) (fun g e => by cases e; omega), ?_⟩, by omega, Nat.le_trans hsz (Nat.le_trans B4.out.size (by simp [World.setCell]))⟩
      rw [e6]; exact I4.out.set _
    · have u1 : decide ((most : Int) ≤ (x : Int)) = true := by simp; omega
      obtain rfl : x = most := by omega
      gi_wp2
      exact ⟨(KeepsOthers.refl _).from _, ⟨KW.out, IW.out⟩, rfl⟩
  case done =>
    rintro D x W hD ⟨hz, rfl⟩ ⟨⟨hkp, hbx⟩, hx, hsz⟩ hK
    subst hz
    have KW := Lib.hid hkp
    have e2 : W.cell? ⟨w.heap.size, 2, none⟩ = some (.slice a 0 cap) := hkp.d.cell 2 _ rfl
    have e3 : W.cell? ⟨w.heap.size + 1 + 1, 0, none⟩ = some (.int .i64 (most : Int)) := hkp.m.cell
    have e5 : W.cell? ⟨ib, 0, none⟩ = some (.int .i64 0) := hbx.cell
    have e6 : W.cell? ⟨w.heap.size + 1 + 1 + 1, 0, none⟩ = some (.bool false) := hkp.r.cell
    have f5 : W.frozen? ⟨w.heap.size + 1 + 1 + 1, 0, none⟩ = false := hkp.r.frozen
    clear hkp hbx
    by_cases hm0 : most = 0
    · subst hm0
      gi_wp2
      have hK' : (W.setCell ⟨w.heap.size + 1 + 1 + 1, 0, none⟩ (.bool true)).heap[D]? = some (.deferred (some [])) := (heap_setCell_other _ _ _ _ (by show D ≠ w.heap.size + 1 + 1 + 1; omega)).trans hK
      refine ⟨by simp, .inl ⟨_, _, rfl, run_takeDeferred hK', ?_⟩⟩
      have hc5 := cell_kept (show (W.setCell ⟨w.heap.size + 1 + 1 + 1, 0, none⟩ (.bool true)).cell? ⟨w.heap.size + 1 + 1 + 1, 0, none⟩ = some (.bool true) from (KW.out.r.set (.bool true)).cell) (grownBy_putObj' _ D (.deferred none)) (fun r e => by cases e; exact ⟨_, hK', rfl⟩)
      refine ⟨.bool true, ?_, rfl, ?_⟩
      · simp [results, Try.f5, go_sem, hc5]
      · exact (KW.out.b.setCell (p := ⟨w.heap.size + 1 + 1 + 1, 0, none⟩) (by simp; omega) _).trans (belowK_b (w := w) (Nat.le_refl _) _ D _ _ (by omega) hK' rfl rfl)
    · have m2 : ((0 : Int) == (most : Int)) = false := by simp; omega
      gi_wp2
      have hK' : (W.setCell ⟨w.heap.size + 1 + 1 + 1, 0, none⟩ (.bool true)).heap[D]? = some (.deferred (some [])) := (heap_setCell_other _ _ _ _ (by show D ≠ w.heap.size + 1 + 1 + 1; omega)).trans hK
      refine ⟨by simp, .inl ⟨_, _, rfl, run_takeDeferred hK', ?_⟩⟩
      have hc5 := cell_kept (show (W.setCell ⟨w.heap.size + 1 + 1 + 1, 0, none⟩ (.bool true)).cell? ⟨w.heap.size + 1 + 1 + 1, 0, none⟩ = some (.bool true) from (KW.out.r.set (.bool true)).cell) (grownBy_putObj' _ D (.deferred none)) (fun r e => by cases e; exact ⟨_, hK', rfl⟩)
      refine ⟨.bool true, ?_, rfl, ?_⟩
      · simp [results, Try.f5, go_sem, hc5]
      · exact (KW.out.b.setCell (p := ⟨w.heap.size + 1 + 1 + 1, 0, none⟩) (by simp; omega) _).trans (belowK_b (w := w) (Nat.le_refl _) _ D _ _ (by omega) hK' rfl rfl)
  case stop =>
    rintro D c x W hD hx ⟨⟨hkp, hbx⟩, rfl⟩ hK
    have KW := Lib.hid hkp
    have e2 : W.cell? ⟨w.heap.size, 2, none⟩ = some (.slice a len cap) := hkp.d.cell 2 _ rfl
    have e3 : W.cell? ⟨w.heap.size + 1 + 1, 0, none⟩ = some (.int .i64 (most : Int)) := hkp.m.cell
    have e5 : W.cell? ⟨ib, 0, none⟩ = some (.int .i64 (most : Int)) := hbx.cell
    have e6 : W.cell? ⟨w.heap.size + 1 + 1 + 1, 0, none⟩ = some (.bool false) := hkp.r.cell
    have f5 : W.frozen? ⟨w.heap.size + 1 + 1 + 1, 0, none⟩ = false := hkp.r.frozen
    clear hkp hbx
    gi_wp2
    have hK' : (W.setCell ⟨w.heap.size + 1 + 1 + 1, 0, none⟩ (.bool true)).heap[D]? = some (.deferred (some [])) := (heap_setCell_other _ _ _ _ (by show D ≠ w.heap.size + 1 + 1 + 1; omega)).trans hK
    refine ⟨by simp, .inl ⟨_, _, rfl, run_takeDeferred hK', ?_⟩⟩
    have hc5 := cell_kept (show (W.setCell ⟨w.heap.size + 1 + 1 + 1, 0, none⟩ (.bool true)).cell? ⟨w.heap.size + 1 + 1 + 1, 0, none⟩ = some (.bool true) from (KW.out.r.set (.bool true)).cell) (grownBy_putObj' _ D (.deferred none)) (fun r e => by cases e; exact ⟨_, hK', rfl⟩)
    refine ⟨.bool true, ?_, rfl, ?_⟩
    · simp [results, Try.f5, go_sem, hc5]
    · exact (KW.out.b.setCell (p := ⟨w.heap.size + 1 + 1 + 1, 0, none⟩) (by simp; omega) _).trans (belowK_b (w := w) (Nat.le_refl _) _ D _ _ (by omega) hK' rfl rfl)
end Go.Proofs.Ythbieplfphignaa
