/- told: what Free tells. -/
import Derived.Test.YteekneicahfkpaaRigF2
import Derived.Test.YteekneicahfkpaaApp2
namespace Go.Proofs.Yteekneicahfkpaa
open Go.RowKit Go.Shelf
set_option linter.unusedVariables false
set_option linter.unusedSimpArgs false
attribute [local go_sem] Oper.semAt_some
theorem infoU : (Try.prog.info? 22).map (fun i => (i.zero, i.size, i.bytes)) = some (some (.int .u32 0), 1, 4) := by kernel_rfl
theorem free_any (a : Option Addr) (len cap mem : Nat) (w : World) :
    Calls Try.prog 16 #[.slice a len cap, .int .u32 (mem : Int)] w fun e w' => e = .returned (.func (.func 23) #[] #[.pointer (some ⟨w.heap.size + 1, 0, none⟩), .pointer (some ⟨w.heap.size, 0, none⟩)]) ∧ w' = (w.alloc (.cells #[.slice a len cap] 29)).alloc (.cells #[.int .u32 (mem : Int)] 22) := by
  go_enter Try.func16, Try.ntmps16
  go_wp2_with fail
  go_ret
  exact ⟨rfl, rfl⟩
theorem runs_len {p : Nat → Bool} {m : Nat} : ∀ {lo : Nat} {L : List (Nat × Nat)}, lo ≤ m → IsRuns p m lo L → lo + L.length ≤ m
  | lo, [], hl, _ => by simpa using hl
  | lo, (a, n) :: L, hl, ⟨h1, h2, h3, h4, h5, h6, h7⟩ => by have := runs_len h3 h7; simp; omega
theorem runs_bd {p : Nat → Bool} {m : Nat} : ∀ {lo : Nat} {L : List (Nat × Nat)}, IsRuns p m lo L → ∀ x ∈ L, x.1 + x.2 ≤ m
  | lo, [], _, x, hx => by cases hx
  | lo, (a, n) :: L, ⟨h1, h2, h3, h4, h5, h6, h7⟩, x, hx => by
    rcases List.mem_cons.1 hx with rfl | h
    · exact h3
    · exact runs_bd h7 x h
theorem frees_len (L : Nat → Reg) (len m : Nat) : (frees L len m).length ≤ 262144 := by
  unfold frees
  split
  · simp
  · have := runs_len (Nat.zero_le m) (runs_ok (freeB L len) m); omega
theorem frees_bd (L : Nat → Reg) (len m : Nat) : ∀ x ∈ frees L len m, x.1 + x.2 ≤ m := by
  unfold frees
  split
  · intro x hx; cases hx
  · exact runs_bd (runs_ok (freeB L len) m)
def fstV (G : List (Nat × Nat)) (x : Nat) : List Value := (G.take x).map fun g => .int .u32 (g.1 : Int)
def sndV (G : List (Nat × Nat)) (x : Nat) : List Value := (G.take x).map fun g => .int .u32 (g.2 : Int)
theorem fstV_succ {G : List (Nat × Nat)} {x : Nat} (h : x < G.length) : fstV G (x + 1) = fstV G x ++ [.int .u32 ((G.getD x (0, 0)).1 : Int)] := by
  unfold fstV; rw [List.take_add_one, List.getElem?_eq_getElem h, List.map_append]; congr 1; simp [List.getD_eq_getElem?_getD, h]
theorem sndV_succ {G : List (Nat × Nat)} {x : Nat} (h : x < G.length) : sndV G (x + 1) = sndV G x ++ [.int .u32 ((G.getD x (0, 0)).2 : Int)] := by
  unfold sndV; rw [List.take_add_one, List.getElem?_eq_getElem h, List.map_append]; congr 1; simp [List.getD_eq_getElem?_getD, h]
/-- What is known ahead of each round. -/
def ToldI (B b4 b5 : Nat) (w : World) (G : List (Nat × Nat)) (x : Nat) (Fb : Nat → Prop) (W : World) : Prop :=
  Below w.heap.size w W ∧ B ≤ W.heap.size ∧ ¬ Fb b4 ∧ ¬ Fb b5 ∧ ∃ v1 v2, W.heap[b4]? = some (.cells #[v1] 30 (0, 0)) ∧ W.heap[b5]? = some (.cells #[v2] 30 (0, 0)) ∧ W.ownsRow B 22 1 v1 x (fstV G x) ∧ W.ownsRow B 22 1 v2 x (sndV G x) ∧
    (∀ k, v1.ownBlock = some k → ¬ Fb k ∧ v2.ownBlock ≠ some k) ∧ (∀ k, v2.ownBlock = some k → ¬ Fb k)
theorem own_block {w w' : World} {base e sz n : Nat} {v : Value} {xs : List Value} (h : w.ownsRow base e sz v n xs) (hb : ∀ k o, v.ownBlock = some k → w.heap[k]? = some o → (∃ cs t fr, o = Obj.cells cs t fr) → w'.heap[k]? = some o) : w'.ownsRow base e sz v n xs := by
  refine ⟨h.1, ?_⟩
  rcases h.2 with h0 | ⟨g, cap, cur, hv, hb', hg, r⟩
  · exact .inl h0
  · exact .inr ⟨g, cap, cur, hv, hb', hb g _ (by rw [hv]; rfl) hg ⟨_, _, _, rfl⟩, r⟩
theorem ToldI.grown {B b4 b5 : Nat} {w : World} {G : List (Nat × Nat)} {x : Nat} {Fb : Nat → Prop} {W W' : World} {row : Option Nat} (h : ToldI B b4 b5 w G x Fb W) (hg : W.grownBy W' row) (hr : ∀ r, row = some r → B ≤ r ∧ ∃ o : Obj, W.heap[r]? = some o ∧ o.isCells = false) (hB : w.heap.size ≤ B) : ToldI B b4 b5 w G x Fb W' := by
  obtain ⟨h1, h2, h3, h4, v1, v2, k1, k2, k3, k4, k5, k6⟩ := h
  have key : ∀ (k : Nat) (cs : Array Value) (t : TypeId) (fr : Nat × Nat), W.heap[k]? = some (Obj.cells cs t fr) → W'.heap[k]? = some (Obj.cells cs t fr) := fun k cs t fr hk => (hg.block k (heap_lt hk) (fun e => by
    obtain ⟨_, o, ho, hc⟩ := hr k e.symm
    rw [hk] at ho; cases ho; simp [Obj.isCells] at hc)).trans hk
  refine ⟨h1.grown hg h1.size (fun j e => Nat.le_trans hB (hr j e).1), Nat.le_trans h2 hg.size, h3, h4, v1, v2, key _ _ _ _ k1, key _ _ _ _ k2, own_block k3 ?_, own_block k4 ?_, k5, k6⟩
  · rintro k o _ ho ⟨cs, t, fr, rfl⟩; exact key _ _ _ _ ho
  · rintro k o _ ho ⟨cs, t, fr, rfl⟩; exact key _ _ _ _ ho
theorem ToldI.below {B b4 b5 : Nat} {w : World} {G : List (Nat × Nat)} {x : Nat} {Fb : Nat → Prop} {A W : World} (h : ToldI B b4 b5 w G x Fb A) (hb : Below A.heap.size A W) : ToldI B b4 b5 w G x (extF Fb A W) W := by
  obtain ⟨h1, h2, h3, h4, v1, v2, k1, k2, k3, k4, k5, k6⟩ := h
  have l1 := heap_lt k1; have l2 := heap_lt k2
  refine ⟨h1.trans (hb.mono h1.size), Nat.le_trans h2 hb.size, fun e => e.elim h3 (fun e => by omega), fun e => e.elim h4 (fun e => by omega), v1, v2, kept k1 hb, kept k2 hb, own_block k3 (fun k o _ ho _ => kept ho hb), own_block k4 (fun k o _ ho _ => kept ho hb), fun k hk => ⟨fun e => e.elim (k5 k hk).1 (fun e => by have := (k3.lt k hk).2; omega), (k5 k hk).2⟩, fun k hk e => e.elim (k6 k hk) (fun e => by have := (k4.lt k hk).2; omega)⟩
theorem own_cells {w : World} {base e sz n : Nat} {v : Value} {xs : List Value} (h : w.ownsRow base e sz v n xs) {k : Nat} (hk : v.ownBlock = some k) : ∃ cs, w.heap[k]? = some (Obj.cells cs e (0, 0)) := by
  rcases h.2 with ⟨h0, _⟩ | ⟨g, cap, cur, hv, hb', hg, r⟩
  · rw [h0] at hk; cases hk
  · rw [hv] at hk; cases hk; exact ⟨_, hg⟩
theorem own_slice {w : World} {base e sz n : Nat} {v : Value} {xs : List Value} (h : w.ownsRow base e sz v n xs) : ∃ a c, v = .slice a n c := by
  rcases h.2 with ⟨h0, h1⟩ | ⟨g, cap, cur, hv, _⟩
  · exact ⟨_, _, by rw [h0, h1]⟩
  · exact ⟨_, _, hv⟩
/-- At each stage of the statement. -/
structure TInv (B b4 b5 : Nat) (W : World) (v1 v2 : Value) (x : Nat) (X Y : List Value) (p q : Value) (L : Nat → Bool) (vs : Nat → Value) (V : World) : Prop where
  t1 : Thr B W.heap.size b4 30 22 v1 x X p (L 0) (L 2) (L 3) (L 8) (vs 0) (vs 2) (vs 3) V
  t2 : Thr B W.heap.size b5 30 22 v2 x Y q (L 4) (L 6) (L 7) (L 9) (vs 4) (vs 6) (vs 7) V
  m1 : L 1 = true → vs 1 = p
  m5 : L 5 = true → vs 5 = q
  d : L 3 = true → L 7 = true → ∀ k, (vs 3).ownBlock = some k → (vs 7).ownBlock ≠ some k
  o : Only (fun i => i = b4 ∨ i = b5 ∨ v1.ownBlock = some i ∨ v2.ownBlock = some i) W V
set_option maxRecDepth 100000 in
set_option maxHeartbeats 8000000 in
theorem told_in (n : Nat) (h4 : 4 ≤ n) (a : Option Addr) (len cap : Nat) (L : Nat → Reg) (mem : Nat) (w : World) (hn : len ≤ 100000) (hm : mem < 4294967296) (hL : RegsAt w a len L) :
    CallsIn Fence.wide n Try.prog 13 #[.slice a len cap, .int .u32 (mem : Int)] w fun e w' => (∃ v1 v2, e = .returned (.tuple #[v1, v2]) ∧ w'.ownsRow w.heap.size 22 1 v1 (frees L len mem).length (fstV (frees L len mem) (frees L len mem).length) ∧ w'.ownsRow w.heap.size 22 1 v2 (frees L len mem).length (sndV (frees L len mem) (frees L len mem).length)) ∧ Below w.heap.size w w' := by
  have HL := Lib.hid hL
  clear hL
  refine callsIn_of_wp_marks Try.func13 rfl trivial ?_ rfl
  simp only [Try.ntmps13, List.size_toArray, List.length_cons, List.length_nil, Nat.reduceAdd, Nat.reduceSub, Array.replicate_succ, Array.replicate_zero, List.push_toArray, List.append_toArray, List.nil_append, List.cons_append]
  gi_wp2_with (fail)
  obtain ⟨w0, hw0⟩ : ∃ w0, w0 = (w.alloc (.cells #[.slice none 0 0] 30)).alloc (.cells #[.slice none 0 0] 30) := ⟨_, rfl⟩
  rw [← hw0]
  have hz0 : w0.heap.size = w.heap.size + 2 := by rw [hw0]; simp
  have E4 : Hid (w0.heap[w.heap.size]? = some (.cells #[.slice none 0 0] 30 (0, 0))) := by rw [hw0]; exact kept (heap_alloc_new _ _) (alloc_below _ _)
  have E5 : Hid (w0.heap[w.heap.size + 1]? = some (.cells #[.slice none 0 0] 30 (0, 0))) := by
    rw [hw0, ← show (w.alloc (.cells #[.slice none 0 0] 30)).heap.size = w.heap.size + 1 from Array.size_push _]
    exact heap_alloc_new _ _
  have B0 : Hid (Below w.heap.size w w0) := by rw [hw0]; exact ((alloc_below _ _).alloc (alloc_below w (.cells #[.slice none 0 0] 30)).size _)
  clear hw0
  generalize hb4 : w.heap.size = b4 at *
  refine ⟨trivial, fun h => (by cases h), (callsIn_wide.2 (free_any a len cap mem w0)).mono ?_⟩
  rintro e w' ⟨rfl, rfl⟩
  rw [hz0]
  obtain ⟨w1, hw1⟩ : ∃ w1, w1 = (w0.alloc (.cells #[.slice a len cap] 29)).alloc (.cells #[.int .u32 (mem : Int)] 22) := ⟨_, rfl⟩
  rw [← hw1]
  have B1 : Hid (Below w0.heap.size w0 w1) := by rw [hw1]; exact ((alloc_below _ _).alloc (alloc_below w0 (.cells #[.slice a len cap] 29)).size _)
  have hz1 : w1.heap.size = b4 + 4 := by rw [hw1]; simp; omega
  have F2 : Hid (w1.heap[b4 + 2]? = some (.cells #[.slice a len cap] 29 (0, 0))) := by rw [hw1, ← hz0]; exact kept (heap_alloc_new _ _) (alloc_below _ _)
  have F3 : Hid (w1.heap[b4 + 2 + 1]? = some (.cells #[.int .u32 (mem : Int)] 22 (0, 0))) := by
    rw [hw1, ← hz0, ← show (w0.alloc (.cells #[.slice a len cap] 29)).heap.size = w0.heap.size + 1 from Array.size_push _]
    exact heap_alloc_new _ _
  clear hw1
  have F4 := Lib.hid (kept E4.out B1.out)
  have F5 := Lib.hid (kept E5.out B1.out)
  have BB : Hid (Below w.heap.size w w1) := by
    rw [hb4]
    exact B0.out.trans (B1.out.mono (by omega))
  have HL1 : Hid (RegsAt w1 a len L) := HL.out.below BB.out
  have HH := Lib.hid hb4
  clear E4 E5 B0 B1 HL hb4
  gi_wp2_with (fail)
  have hGl := frees_len L len mem
  have hGb := Lib.hid (frees_bd L len mem)
  have HQ := free1_in (n - 1) a len cap L mem (b4 + 2 + 1) (b4 + 2) w1 hn hm HL1.out F3.out F2.out
  obtain ⟨G, hG⟩ : ∃ G, G = frees L len mem := ⟨_, rfl⟩
  rw [← hG] at hGl hGb HQ
  have HG := Lib.hid hG
  have HZW := Lib.hid hz1
  clear hG
  obtain ⟨B, hB⟩ : ∃ B, B = w1.heap.size := ⟨_, rfl⟩
  have HBw := Lib.hid hB
  have hfm : (Try.prog).follows .mixedOrders = true := by kernel_rfl
  refine rangeFunc_c (ps := #[11, 12]) rfl (by omega) (gf := 23) (lb := #[.pointer (some ⟨b4 + 2 + 1, 0, none⟩), .pointer (some ⟨b4 + 2, 0, none⟩)]) rfl trivial (enters_of Try.func23 (by kernel_rfl) rfl)
    (Kb := fun b => b = b4 + 2 + 1) (N := G.length) (fun b hb => by rw [hb]; exact heap_lt F3.out) HQ (fun _ => rfl)
    (fun x Fb W => ToldI B b4 (b4 + 1) w G x Fb W) (fun _ _ _ _ => False)
    (fun Fb s W W' row h hg hr => h.grown hg (fun r e => ⟨by rw [hB]; exact (hr r e).1, (hr r e).2⟩) (by rw [hB]; exact BB.out.size)) (fun _ _ s W W' row h _ _ => h.elim)
    (fun s Fb A W h hb => h.below hb) (fun _ _ _ _ _ h _ => h.elim)
    (fun A hA => ⟨BB.out.trans (hA.mono BB.out.size), by rw [hB]; exact hA.size, by omega, by omega, _, _, kept F4.out hA, kept F5.out hA, ⟨rfl, .inl ⟨rfl, rfl⟩⟩, ⟨rfl, .inl ⟨rfl, rfl⟩⟩, fun k hk => (by cases hk), fun k hk => (by cases hk)⟩) ?_ ?assign ?body ?done ?stop
  case assign =>
    intro l x W K hK
    unfold encG
    gi_wp2
    exact hK
  case stop => intro D c x Fb W _ _ _ h; exact h.elim
  case body =>
    intro l x Fb W hx hl hF hI
    obtain ⟨i1, i2, i3, i4, v1, v2, k1, k2, k3, k4, k5, k6⟩ := hI
    have hl1 := heap_lt k1; have hl2 := heap_lt k2
    have hv1 : ∀ k, v1.ownBlock = some k → k < W.heap.size ∧ k ≠ b4 ∧ k ≠ b4 + 1 := fun k hk => ⟨(k3.lt k hk).2, by have := (k3.lt k hk).1; omega, by have := (k3.lt k hk).1; omega⟩
    have hv2 : ∀ k, v2.ownBlock = some k → k < W.heap.size ∧ k ≠ b4 ∧ k ≠ b4 + 1 := fun k hk => ⟨(k4.lt k hk).2, by have := (k4.lt k hk).1; omega, by have := (k4.lt k hk).1; omega⟩
    have HF1 := Lib.hid (fstV_succ hx)
    have HF2 := Lib.hid (sndV_succ hx)
    have hxb := hGb.out _ (List.getElem_mem hx)
    have hgd : G[x]?.getD (0, 0) = G[x] := by rw [List.getElem?_eq_getElem hx]; rfl
    rw [List.getD_eq_getElem?_getD, hgd] at HF1 HF2
    rw [hgd]
    generalize G[x] = gx at *
    obtain ⟨p, q⟩ := gx
    simp only at HF1 HF2 hxb ⊢
    have I1 := Lib.hid i1; have K1 := Lib.hid k1; have K2 := Lib.hid k2; have K3 := Lib.hid k3; have K4 := Lib.hid k4; have K5 := Lib.hid k5; have K6 := Lib.hid k6
    have V1 := Lib.hid hv1; have V2 := Lib.hid hv2
    clear i1 k1 k2 k3 k4 k5 k6 hv1 hv2 HQ hgd HL1 F2 F3 F4 F5
    obtain ⟨i0, hi, hz0', hz1', hz2'⟩ := info_parts infoU
    have HIn := Lib.hid hi; have HZ0 := Lib.hid hz0'; have HZ1 := Lib.hid hz1'; have HZ2 := Lib.hid hz2'
    clear hi hz0' hz1' hz2' hB hz1 hz0
    gi_wp2
    refine wpIn_region_inv (TInv B b4 (b4 + 1) W v1 v2 x (fstV G x) (sndV G x) (.int .u32 (p : Int)) (.int .u32 (q : Int))) hfm (by kernel_rfl) ?_ ?_ ?_
    · exact ⟨Thr.start K3.out K1.out, Thr.start K4.out K2.out, fun e => (by cases e), fun e => (by cases e), fun e => (by cases e), (Only.refl _ _).drew⟩
    · intro i o ho A L' vs V hT hLi hdep hdn hev hnd
      have s4 : A.tmps.getD 4 undef = .pointer (some ⟨b4, 0, none⟩) := (hnd 4 (of_decide_eq_true (by kernel_rfl))).trans rfl
      have s5 : A.tmps.getD 5 undef = .pointer (some ⟨b4 + 1, 0, none⟩) := (hnd 5 (of_decide_eq_true (by kernel_rfl))).trans rfl
      have s6 : A.tmps.getD 6 undef = .int .u32 (p : Int) := (hnd 6 (of_decide_eq_true (by kernel_rfl))).trans rfl
      have s7 : A.tmps.getD 7 undef = .int .u32 (q : Int) := (hnd 7 (of_decide_eq_true (by kernel_rfl))).trans rfl
      have hN := hT.o.size
      have hB4 := hT.t1.bx; have hB5 := hT.t2.bx
      match i, ho with
      | 0, ho =>
        obtain rfl := Option.some.inj ho
        have h8 : L' 8 = false := by
          cases h : L' 8 with
          | false => rfl
          | true => have := hdn 8 _ rfl h { on := 0, ground := .phase } (by simp) rfl; rw [hLi] at this; cases this
        rw [h8] at hB4
        have c := cell_row (j := 0) hB4 rfl
        clear h8 hB4 hB5
        clear hdep hdn hev hnd
        have HT := Lib.hid hT
        have HLi := Lib.hid hLi
        clear hT hLi
        unfold Oper.wpIn
        go_simp
        exact ⟨v1, rfl, HT.out.t1.load, HT.out.t2, HT.out.m1, HT.out.m5, HT.out.d, HT.out.o⟩
      | 1, ho =>
        obtain rfl := Option.some.inj ho
        clear hB4 hB5
        clear hdep hdn hev hnd
        have HT := Lib.hid hT
        have HLi := Lib.hid hLi
        clear hT hLi
        unfold Oper.wpIn
        go_simp
        exact ⟨_, rfl, HT.out.t1, HT.out.t2, fun _ => rfl, HT.out.m5, HT.out.d, HT.out.o⟩
      | 2, ho =>
        obtain rfl := Option.some.inj ho
        have y0 : A.tmps.getD 14 undef = .int .u32 (p : Int) := (hev 1 _ rfl (hdep { on := 1, ground := .data } (by simp) rfl) _ rfl).trans (hT.m1 (hdep { on := 1, ground := .data } (by simp) rfl))
        have y : A.tmps[14]?.getD undef = .int .u32 (p : Int) := by rw [← Array.getD_eq_getD_getElem?]; exact y0
        clear hB4 hB5 y0
        clear hdep hdn hev hnd
        have HT := Lib.hid hT
        have HLi := Lib.hid hLi
        clear hT hLi
        unfold Oper.wpIn
        go_simp
        exact ⟨_, rfl, HT.out.t1.build hN, HT.out.t2.only (only_alloc (fun _ => False) _ _) (fun i hm => hm.elim), HT.out.m1, HT.out.m5, HT.out.d, HT.out.o.trans (only_alloc _ _ _)⟩
      | 4, ho =>
        obtain rfl := Option.some.inj ho
        have h9 : L' 9 = false := by
          cases h : L' 9 with
          | false => rfl
          | true => have := hdn 9 _ rfl h { on := 4, ground := .phase } (by simp) rfl; rw [hLi] at this; cases this
        rw [h9] at hB5
        have c := cell_row (j := 0) hB5 rfl
        clear h9 hB4 hB5
        clear hdep hdn hev hnd
        have HT := Lib.hid hT
        have HLi := Lib.hid hLi
        clear hT hLi
        unfold Oper.wpIn
        go_simp
        exact ⟨v2, rfl, HT.out.t1, HT.out.t2.load, HT.out.m1, HT.out.m5, HT.out.d, HT.out.o⟩
      | 5, ho =>
        obtain rfl := Option.some.inj ho
        clear hB4 hB5
        clear hdep hdn hev hnd
        have HT := Lib.hid hT
        have HLi := Lib.hid hLi
        clear hT hLi
        unfold Oper.wpIn
        go_simp
        exact ⟨_, rfl, HT.out.t1, HT.out.t2, HT.out.m1, fun _ => rfl, HT.out.d, HT.out.o⟩
      | 6, ho =>
        obtain rfl := Option.some.inj ho
        have y0 : A.tmps.getD 18 undef = .int .u32 (q : Int) := (hev 5 _ rfl (hdep { on := 5, ground := .data } (by simp) rfl) _ rfl).trans (hT.m5 (hdep { on := 5, ground := .data } (by simp) rfl))
        have y : A.tmps[18]?.getD undef = .int .u32 (q : Int) := by rw [← Array.getD_eq_getD_getElem?]; exact y0
        clear hB4 hB5 y0
        clear hdep hdn hev hnd
        have HT := Lib.hid hT
        have HLi := Lib.hid hLi
        clear hT hLi
        unfold Oper.wpIn
        go_simp
        exact ⟨_, rfl, HT.out.t1.only (only_alloc (fun _ => False) _ _) (fun i hm => hm.elim), HT.out.t2.build hN, HT.out.m1, HT.out.m5, HT.out.d, HT.out.o.trans (only_alloc _ _ _)⟩
      | 3, ho =>
        obtain rfl := Option.some.inj ho
        have dl := hdep { on := 0, ground := .data } (by simp) rfl
        have db := hdep { on := 2, ground := .data } (by simp) rfl
        obtain ⟨c, hc1, hc2, hc3⟩ := hT.t1.b db
        have x0' : A.tmps.getD 13 undef = v1 := (hev 0 _ rfl dl _ rfl).trans (hT.t1.l dl)
        have x2' : A.tmps.getD 15 undef = .slice (some ⟨c, 0, none⟩) 1 1 := (hev 2 _ rfl db _ rfl).trans hc1
        have hnews : ∀ j u, [Value.int .u32 (p : Int)][j]? = some u → V.cell? ((⟨c, 0, none⟩ : Addr).add j) = some u := fun j u h => by
          match j, h with
          | 0, h => simp at h; subst h; exact cell_row hc3 rfl
          | j + 1, h => simp at h
        have HT := Lib.hid hT
        have HLi := Lib.hid hLi
        refine wpIn_append_at V _ _ 30 rfl B 22 i0 (.int .u32 0) 1 4 Try.underlying30 HIn.out HZ0.out HZ1.out HZ2.out rfl (by decide) v1 x _ x0' (hT.t1.r0 hLi) ⟨c, 0, none⟩ 1 1 [.int .u32 (p : Int)] x2' rfl hnews
          (fun u hu => by simp at hu; rw [hu]; rfl) (by unfold maxLen; omega) (by omega) (Nat.le_trans i2 hN) ?_
        intro v' w' ho' hg' hat
        have HO' := Lib.hid ho'; have HG' := Lib.hid hg'; have HAT := Lib.hid hat
        have h7 : L' 7 = false := by
          cases h : L' 7 with
          | false => rfl
          | true => have := hdn 7 _ rfl h { on := 3, ground := .chain } (by simp) rfl; rw [hLi] at this; cases this
        have h8 : L' 8 = false := by
          cases h : L' 8 with
          | false => rfl
          | true => have := hdn 8 _ rfl h { on := 3, ground := .data } (by simp) rfl; rw [hLi] at this; cases this
        have H7 := Lib.hid h7
        have H8 := Lib.hid h8
        have hT1 := HT.out.t1
        rw [HLi.out] at hT1
        exact ⟨v', rfl, hT1.append H8.out HO'.out HG'.out HAT.out hN (fun k hk => ⟨(V1.out k hk).1, (V1.out k hk).2.1⟩), HT.out.t2.only (Only.grown (M := fun i => v1.ownBlock = some i) HG'.out (fun g e => .inr e)) (fun i hm => ⟨(V1.out i hm).1, (V1.out i hm).2.2, (K5.out i hm).2⟩), HT.out.m1, HT.out.m5, fun _ h7 => (by
          have h : L' 7 = true := h7
          rw [H7.out] at h; cases h), HT.out.o.trans (Only.grown HG'.out (fun g e => .inr (.inr (.inr (.inl e)))))⟩
      | 7, ho =>
        obtain rfl := Option.some.inj ho
        have dl := hdep { on := 4, ground := .data } (by simp) rfl
        have db := hdep { on := 6, ground := .data } (by simp) rfl
        obtain ⟨c, hc1, hc2, hc3⟩ := hT.t2.b db
        have x0' : A.tmps.getD 17 undef = v2 := (hev 4 _ rfl dl _ rfl).trans (hT.t2.l dl)
        have x2' : A.tmps.getD 19 undef = .slice (some ⟨c, 0, none⟩) 1 1 := (hev 6 _ rfl db _ rfl).trans hc1
        have hnews : ∀ j u, [Value.int .u32 (q : Int)][j]? = some u → V.cell? ((⟨c, 0, none⟩ : Addr).add j) = some u := fun j u h => by
          match j, h with
          | 0, h => simp at h; subst h; exact cell_row hc3 rfl
          | j + 1, h => simp at h
        have HT := Lib.hid hT
        have HLi := Lib.hid hLi
        refine wpIn_append_at V _ _ 30 rfl B 22 i0 (.int .u32 0) 1 4 Try.underlying30 HIn.out HZ0.out HZ1.out HZ2.out rfl (by decide) v2 x _ x0' (hT.t2.r0 hLi) ⟨c, 0, none⟩ 1 1 [.int .u32 (q : Int)] x2' rfl hnews
          (fun u hu => by simp at hu; rw [hu]; rfl) (by unfold maxLen; omega) (by omega) (Nat.le_trans i2 hN) ?_
        intro v' w' ho' hg' hat
        have HO' := Lib.hid ho'; have HG' := Lib.hid hg'; have HAT := Lib.hid hat
        have h9 : L' 9 = false := by
          cases h : L' 9 with
          | false => rfl
          | true => have := hdn 9 _ rfl h { on := 7, ground := .data } (by simp) rfl; rw [hLi] at this; cases this
        have h3 : L' 3 = true := hdep { on := 3, ground := .chain } (by simp) rfl
        have H9 := Lib.hid h9
        have H3 := Lib.hid h3
        have hT2 := HT.out.t2
        rw [HLi.out] at hT2
        refine ⟨v', rfl, HT.out.t1.only (Only.grown (M := fun i => v2.ownBlock = some i) HG'.out (fun g e => .inr e)) (fun i hm => ⟨(V2.out i hm).1, (V2.out i hm).2.1, fun e => (K5.out i e).2 hm⟩), hT2.append H9.out HO'.out HG'.out HAT.out hN (fun k hk => ⟨(V2.out k hk).1, (V2.out k hk).2.2⟩), HT.out.m1, HT.out.m5, fun _ _ k hk hk' => ?_, HT.out.o.trans (Only.grown HG'.out (fun g e => .inr (.inr (.inr (.inr e)))))⟩
        have hk1 : (vs 3).ownBlock = some k := hk
        have hk2 : v'.ownBlock = some k := hk'
        rcases (HT.out.t1.r1 H3.out).2 with e | ⟨g, e, g1, g2⟩
        · rw [e] at hk1
          rcases HAT.out with e' | e'
          · rw [e'] at hk2; exact (K5.out k hk1).2 hk2
          · rw [e'] at hk2; cases hk2; have := (V1.out _ hk1).1; omega
        · rw [e] at hk1; cases hk1
          rcases HAT.out with e' | e'
          · rw [e'] at hk2; have := (V2.out _ hk2).1; omega
          · rw [e'] at hk2; cases hk2; omega
      | 8, ho =>
        obtain rfl := Option.some.inj ho
        have dl := hdep { on := 3, ground := .data } (by simp) rfl
        have d7 := hdep { on := 7, ground := .chain } (by simp) rfl
        obtain ⟨sa, sc, hsl⟩ := own_slice (hT.t1.r1 dl).1
        have x0' : A.tmps.getD 16 undef = .slice sa (x + 1) sc := (hev 3 _ rfl dl _ rfl).trans hsl
        have x0 : A.tmps[16]?.getD undef = .slice sa (x + 1) sc := by rw [← Array.getD_eq_getD_getElem?]; exact x0'
        rw [hLi] at hB4
        have c := cell_row (j := 0) hB4 rfl
        have f : V.frozen? ⟨b4, 0, none⟩ = false := frozen_of_row _ _ _ _ _ hB4
        have db := hdn 3 _ rfl dl { on := 2, ground := .data } (by simp) rfl
        have HSL := Lib.hid hsl
        have HD := Lib.hid dl
        have HDB := Lib.hid db
        clear dl d7 db hsl x0' hB4 hB5
        clear hdep hdn hev hnd
        have HT := Lib.hid hT
        have HLi := Lib.hid hLi
        clear hT hLi
        unfold Oper.wpIn
        go_simp
        have hTx := HT.out.t1
        rw [HD.out, HLi.out] at hTx
        rw [← HSL.out]
        have hs := hTx.store (fun k hk => by
          rcases (hTx.r1 rfl).2 with e | ⟨g, e, g1, g2⟩
          · rw [e] at hk; exact (V1.out k hk).2.1
          · rw [e] at hk; cases hk; omega) (fun c hc => by
          obtain ⟨c', e1, e2, _⟩ := hTx.b HDB.out
          rw [hc] at e1; cases e1; omega)
        have hs3 : Thr B W.heap.size (b4) 30 22 v1 x (fstV G x) (.int .u32 (p : Int)) (L' 0) (L' 2) (L' 3) true (vs 0) (vs 2) (vs 3) (V.setCell ⟨b4, 0, none⟩ (vs 3)) := by rw [HD.out]; exact hs
        have ho := HT.out.t2.only (M := fun i => i = b4) ((Only.refl _ _).set _ _ (.inr rfl) : Only (fun i => i = b4) V (V.setCell ⟨b4, 0, none⟩ (vs 3))) (fun i hm => ⟨by rw [hm]; omega, by omega, fun e => (V2.out i e).2.1 hm⟩)
        exact ⟨undef, rfl, hs3, ho, HT.out.m1, HT.out.m5, HT.out.d, HT.out.o.trans ((Only.refl _ _).set _ _ (.inr (.inl rfl)))⟩
      | 9, ho =>
        obtain rfl := Option.some.inj ho
        have dl := hdep { on := 7, ground := .data } (by simp) rfl
        have d7 := hdep { on := 7, ground := .data } (by simp) rfl
        obtain ⟨sa, sc, hsl⟩ := own_slice (hT.t2.r1 dl).1
        have x0' : A.tmps.getD 20 undef = .slice sa (x + 1) sc := (hev 7 _ rfl dl _ rfl).trans hsl
        have x0 : A.tmps[20]?.getD undef = .slice sa (x + 1) sc := by rw [← Array.getD_eq_getD_getElem?]; exact x0'
        rw [hLi] at hB5
        have c := cell_row (j := 0) hB5 rfl
        have f : V.frozen? ⟨b4 + 1, 0, none⟩ = false := frozen_of_row _ _ _ _ _ hB5
        have db := hdn 7 _ rfl dl { on := 6, ground := .data } (by simp) rfl
        have HSL := Lib.hid hsl
        have HD := Lib.hid dl
        have HDB := Lib.hid db
        clear dl d7 db hsl x0' hB4 hB5
        clear hdep hdn hev hnd
        have HT := Lib.hid hT
        have HLi := Lib.hid hLi
        clear hT hLi
        unfold Oper.wpIn
        go_simp
        have hTx := HT.out.t2
        rw [HD.out, HLi.out] at hTx
        rw [← HSL.out]
        have hs := hTx.store (fun k hk => by
          rcases (hTx.r1 rfl).2 with e | ⟨g, e, g1, g2⟩
          · rw [e] at hk; exact (V2.out k hk).2.2
          · rw [e] at hk; cases hk; omega) (fun c hc => by
          obtain ⟨c', e1, e2, _⟩ := hTx.b HDB.out
          rw [hc] at e1; cases e1; omega)
        have hs3 : Thr B W.heap.size (b4 + 1) 30 22 v2 x (sndV G x) (.int .u32 (q : Int)) (L' 4) (L' 6) (L' 7) true (vs 4) (vs 6) (vs 7) (V.setCell ⟨b4 + 1, 0, none⟩ (vs 7)) := by rw [HD.out]; exact hs
        have ho := HT.out.t1.only (M := fun i => i = b4 + 1) ((Only.refl _ _).set _ _ (.inr rfl) : Only (fun i => i = b4 + 1) V (V.setCell ⟨b4 + 1, 0, none⟩ (vs 7))) (fun i hm => ⟨by rw [hm]; omega, by omega, fun e => (V1.out i e).2.2 hm⟩)
        exact ⟨undef, rfl, ho, hs3, HT.out.m1, HT.out.m5, HT.out.d, HT.out.o.trans ((Only.refl _ _).set _ _ (.inr (.inr (.inl rfl))))⟩
      | n + 10, ho => cases ho
    · intro vs V hT
      have t1 := hT.t1; have t2 := hT.t2
      have r1 := t1.r1 rfl; have r2 := t2.r1 rfl
      have c1 : V.heap[b4]? = some (.cells #[vs 3] 30 (0, 0)) := t1.bx
      have c2 : V.heap[b4 + 1]? = some (.cells #[vs 7] 30 (0, 0)) := t2.bx
      have ho := hT.o
      refine ⟨⟨ho.size, fun k o hk hko hoc => box_only hko ho ?_⟩, ⟨fun k o hk hko => box_only hko ho ?_, ho.size⟩, I1.out.trans (ho.below I1.out.size ?_), Nat.le_trans i2 ho.size, i3, i4, vs 3, vs 7, c1, c2, ?_, ?_, fun k hk => ⟨?_, hT.d rfl rfl k hk⟩, fun k hk => ?_⟩
      · rintro (e | e | e | e)
        · subst e; rw [K1.out] at hko; cases hko; cases hoc
        · subst e; rw [K2.out] at hko; cases hko; cases hoc
        · obtain ⟨cs, h⟩ := own_cells K3.out e; rw [h] at hko; cases hko; cases hoc
        · obtain ⟨cs, h⟩ := own_cells K4.out e; rw [h] at hko; cases hko; cases hoc
      · rintro (e | e | e | e)
        · subst e; exact i3 hk
        · subst e; exact i4 hk
        · exact (K5.out _ e).1 hk
        · exact K6.out _ e hk
      · rintro i hi (e | e | e | e)
        · have := HH.out; omega
        · have := HH.out; omega
        · have := (K3.out.lt _ e).1; have := HBw.out; have := BB.out.size; omega
        · have := (K4.out.lt _ e).1; have := HBw.out; have := BB.out.size; omega
      · rw [HF1.out]; exact r1.1
      · rw [HF2.out]; exact r2.1
      · rcases r1.2 with e | ⟨g, e, g1, g2⟩
        · rw [e] at hk; exact (K5.out k hk).1
        · rw [e] at hk; cases hk; exact fun hf => by have := (hF _ hf).1; omega
      · rcases r2.2 with e | ⟨g, e, g1, g2⟩
        · rw [e] at hk; exact K6.out k hk
        · rw [e] at hk; cases hk; exact fun hf => by have := (hF _ hf).1; omega
  case done =>
    intro D Fb W hD hI hK
    obtain ⟨i1, i2, i3, i4, v1, v2, k1, k2, k3, k4, k5, k6⟩ := hI
    obtain ⟨a1, n1, rfl⟩ := own_slice k3
    obtain ⟨a2, n2, rfl⟩ := own_slice k4
    have I1 := Lib.hid i1; have K1 := Lib.hid k1; have K2 := Lib.hid k2; have K3 := Lib.hid k3; have K4 := Lib.hid k4
    have c4 := cell_row (j := 0) k1 rfl
    have c5 := cell_row (j := 0) k2 rfl
    have f4 : W.frozen? ⟨b4, 0, none⟩ = false := frozen_of_row _ _ _ _ _ k1
    have f5 : W.frozen? ⟨b4 + 1, 0, none⟩ = false := frozen_of_row _ _ _ _ _ k2
    have l4 := heap_lt k1; have l5 := heap_lt k2
    clear i1 k1 k2 k3 k4 k5 k6 HQ F2 F3 F4 F5 HL1 hB hz1 hz0
    gi_wp2
    gi_region
    clear c4 c5 f4 f5
    obtain ⟨V, hV⟩ : ∃ V, V = ((W.setCell ⟨b4, 0, none⟩ (.slice a1 G.length n1)).setCell ⟨b4 + 1, 0, none⟩ (.slice a2 G.length n2)).drew := ⟨_, rfl⟩
    rw [← hV]
    have O : Hid (Only (fun i => i = b4 ∨ i = b4 + 1) W V) := by rw [hV]; exact (((Only.refl _ W).set 0 _ (.inr (.inl rfl))).set 0 _ (.inr (.inr rfl))).drew
    have C4 : Hid (V.heap[b4]? = some (.cells #[.slice a1 G.length n1] 30 (0, 0))) := by
      rw [hV]
      show ((W.setCell ⟨b4, 0, none⟩ (.slice a1 G.length n1)).setCell ⟨b4 + 1, 0, none⟩ (.slice a2 G.length n2)).heap[b4]? = _
      rw [heap_setCell_other _ _ _ _ (by show b4 ≠ b4 + 1; omega)]
      exact heap_setCell_same _ _ _ _ _ _ K1.out
    have C5 : Hid (V.heap[b4 + 1]? = some (.cells #[.slice a2 G.length n2] 30 (0, 0))) := by
      rw [hV]
      have h : (W.setCell ⟨b4, 0, none⟩ (.slice a1 G.length n1)).heap[b4 + 1]? = some (.cells #[.slice a2 G.length n2] 30 (0, 0)) := by
        rw [heap_setCell_other _ _ _ _ (by show b4 + 1 ≠ b4; omega)]
        exact K2.out
      exact heap_setCell_same _ _ _ _ _ _ h
    clear hV
    have hDb : b4 + 1 < D := by have := HZW.out; omega
    have hK' : V.heap[D]? = some (.deferred (some [])) := box_only hK O.out (by omega)
    have KD := Lib.hid hK'
    have HDW := Lib.hid hD
    have c4 := cell_row (j := 0) C4.out rfl
    have c5 := cell_row (j := 0) C5.out rfl
    have l4 := heap_lt C4.out; have l5 := heap_lt C5.out
    clear hK hK' hD
    gi_wp2
    refine ⟨by simp, .inl ⟨_, _, rfl, run_takeDeferred KD.out, ?_⟩⟩
    have q4 : (V.putObj D (.deferred none)).cell? ⟨b4, 0, none⟩ = some (.slice a1 G.length n1) := by
      rw [World.cell?_of_block (World.putObj_heap_other (by show b4 ≠ D; omega))]; exact c4
    have q5 : (V.putObj D (.deferred none)).cell? ⟨b4 + 1, 0, none⟩ = some (.slice a2 G.length n2) := by
      rw [World.cell?_of_block (World.putObj_heap_other (by show b4 + 1 ≠ D; omega))]; exact c5
    have hp : ∀ (k : Nat) (o : Obj), V.heap[k]? = some o → (∃ cs t fr, o = Obj.cells cs t fr) → (V.putObj D (.deferred none)).heap[k]? = some o := by
      rintro k o hk ⟨cs, t, fr, rfl⟩
      refine (World.putObj_heap_other (fun e => ?_)).trans hk
      subst e; rw [KD.out] at hk; cases hk
    have wk : ∀ {v : Value} {xs : List Value}, W.ownsRow B 22 1 v G.length xs → (V.putObj D (.deferred none)).ownsRow w.heap.size 22 1 v G.length xs := fun {v xs} h => by
      have h2 := own_block (own_only h O.out (fun k hk hm => by have := (h.lt k hk).1; have := HBw.out; have := HZW.out; omega)) (w' := V.putObj D (.deferred none)) (fun k o _ hk hc => hp k o hk hc)
      refine ⟨h2.1, h2.2.imp id ?_⟩
      rintro ⟨g, cap, cur, h3, h4, h5⟩
      exact ⟨g, cap, cur, h3, by have := HBw.out; have := BB.out.size; omega, h5⟩
    refine ⟨.tuple #[.slice a1 G.length n1, .slice a2 G.length n2], ?_, ⟨_, _, rfl, ?_, ?_⟩, ?_⟩
    · simp [results, Try.f13, go_sem, q4, q5]
    · rw [← HG.out]; exact wk K3.out
    · rw [← HG.out]; exact wk K4.out
    · refine ((I1.out.trans (O.out.below I1.out.size (fun i hi hm => by have := HH.out; omega))).grown (grownBy_putObj' V D (.deferred none)) ?_ (fun j e => ?_))
      · exact Nat.le_trans I1.out.size O.out.size
      · cases e; have := HDW.out; have := BB.out.size; omega
theorem told_any (a : Option Addr) (len cap : Nat) (L : Nat → Reg) (mem : Nat) (w : World) (hn : len ≤ 100000) (hm : mem < 4294967296) (hL : RegsAt w a len L) :
    Calls Try.prog 13 #[.slice a len cap, .int .u32 (mem : Int)] w fun e w' => (∃ v1 v2, e = .returned (.tuple #[v1, v2]) ∧ w'.ownsRow w.heap.size 22 1 v1 (frees L len mem).length (fstV (frees L len mem) (frees L len mem).length) ∧ w'.ownsRow w.heap.size 22 1 v2 (frees L len mem).length (sndV (frees L len mem) (frees L len mem).length)) ∧ Below w.heap.size w w' :=
  (callsIn_wide (n := 4)).1 (told_in 4 (Nat.le_refl _) a len cap L mem w hn hm hL)
end Go.Proofs.Yteekneicahfkpaa
