/- The document's yard and the program's: alike. -/
import Derived.Test.YtnjeiigdfdjccaaYrpGG
import Derived.Test.YtnjeiigdfdjccaaYrdT
import Derived.Test.YtnjeiigdfdjccaaYrdK
namespace Go.Proofs.Ytnjeiigdfdjccaa
open Go.RowKit Go.Shelf
set_option linter.unusedVariables false
set_option linter.unusedSimpArgs false
attribute [local go_sem] Oper.semAt_some
/-- Where the next one may be. -/
def nxtI (l : List Nat) (x : Nat) : Nat := if x = 0 then 0 else l.getD (x - 1) 0 + 1
theorem getD_app {l : List Nat} {k x : Nat} : (l ++ [k]).getD x 0 = if x = l.length then k else l.getD x 0 := by
  rw [List.getD_eq_getElem?_getD, List.getD_eq_getElem?_getD, List.getElem?_append]
  by_cases e : x = l.length
  · rw [if_pos e, e]; simp
  · rw [if_neg e]
    by_cases h : x < l.length
    · rw [if_pos h]
    · rw [if_neg h, List.getElem?_eq_none (by simp; omega), List.getElem?_eq_none (by omega)]
theorem nxtI_app {l : List Nat} {k x : Nat} (h : x ≤ l.length) : nxtI (l ++ [k]) x = nxtI l x := by
  unfold nxtI
  by_cases e : x = 0
  · rw [if_pos e, if_pos e]
  · rw [if_neg e, if_neg e, getD_app, if_neg (by omega)]
structure Nxt (tn : Nat → TN) (m : Nat) : Prop where
  at_ : ∀ x, x < (onIdx tn m).length → nxtI (onIdx tn m) x ≤ (onIdx tn m).getD x 0 ∧ (onIdx tn m).getD x 0 < m ∧ (tn ((onIdx tn m).getD x 0)).is = true ∧ ∀ j, nxtI (onIdx tn m) x ≤ j → j < (onIdx tn m).getD x 0 → (tn j).is = false
  end_ : nxtI (onIdx tn m) (onIdx tn m).length ≤ m ∧ ∀ j, nxtI (onIdx tn m) (onIdx tn m).length ≤ j → j < m → (tn j).is = false
theorem nxt_all (tn : Nat → TN) : ∀ m, Nxt tn m
  | 0 => ⟨fun x hx => absurd hx (by simp [onIdx]), Nat.le_refl _, fun j _ hj => absurd hj (by omega)⟩
  | m + 1 => by
    have ih := nxt_all tn m
    by_cases hi : (tn m).is = true
    · have e : onIdx tn (m + 1) = onIdx tn m ++ [m] := if_pos hi
      refine ⟨fun x hx => ?_, ?_⟩
      · rw [e] at hx ⊢
        rw [List.length_append] at hx
        have hx' : x ≤ (onIdx tn m).length := by simpa using Nat.le_of_lt_succ hx
        rw [nxtI_app hx', getD_app]
        by_cases ex : x = (onIdx tn m).length
        · rw [if_pos ex, ex]
          exact ⟨ih.end_.1, by omega, hi, ih.end_.2⟩
        · rw [if_neg ex]
          have := ih.at_ x (by omega)
          exact ⟨this.1, by omega, this.2.2⟩
      · rw [e, List.length_append]
        show nxtI (onIdx tn m ++ [m]) ((onIdx tn m).length + 1) ≤ m + 1 ∧ ∀ j, nxtI (onIdx tn m ++ [m]) ((onIdx tn m).length + 1) ≤ j → j < m + 1 → _
        have e2 : nxtI (onIdx tn m ++ [m]) ((onIdx tn m).length + 1) = m + 1 := by
          unfold nxtI; rw [if_neg (by omega), getD_app, if_pos (by omega)]
        rw [e2]
        exact ⟨Nat.le_refl _, fun j h1 h2 => by omega⟩
    · have e : onIdx tn (m + 1) = onIdx tn m := if_neg hi
      refine ⟨fun x hx => ?_, ?_⟩
      · rw [e] at hx ⊢
        have := ih.at_ x hx
        exact ⟨this.1, by omega, this.2.2⟩
      · rw [e]
        refine ⟨by have := ih.end_.1; omega, fun j h1 h2 => ?_⟩
        by_cases ej : j = m
        · rw [ej]; simpa using hi
        · exact ih.end_.2 j h1 (by omega)
theorem nxtI_succ (l : List Nat) (x : Nat) : nxtI l (x + 1) = l.getD x 0 + 1 := rfl
theorem keeps_only {ab B : Nat} {W V : World} (h : Only (fun b => b = ab) W V) (hlt : ab < B) : KeepsFrom B W V := ⟨h.size, fun k o hB hk _ => (h.block k (Array.getElem?_eq_some_iff.1 hk).1 (by omega)).trans hk⟩
theorem keepF_only {ab : Nat} {Fb : Nat → Prop} {W V : World} (h : Only (fun b => b = ab) W V) (hn : ¬ Fb ab) : KeepF Fb W V ∧ W.heap.size ≤ V.heap.size := ⟨fun b o hb hk => (h.block b (Array.getElem?_eq_some_iff.1 hk).1 (fun e => hn (by rw [← e]; exact hb))).trans hk, h.size⟩
/-- What lies in alike: the document's yard's box, the result's, the next place's. -/
structure AlB (w : World) (g xb rb ab at_ : Nat) (W : World) : Prop where
  bel : Below w.heap.size w W
  x : W.heap[xb]? = some (.cells #[.pointer (some ⟨g, 0, none⟩)] 58 (0, 0))
  r : W.heap[rb]? = some (.cells #[.bool false] 4 (0, 0))
  a : W.heap[ab]? = some (.cells #[.int .i64 (at_ : Int)] 3 (0, 0))
theorem AlB.below {w : World} {g xb rb ab k : Nat} {W V : World} (h : AlB w g xb rb ab k W) (hb : Below W.heap.size W V) : AlB w g xb rb ab k V :=
  ⟨h.bel.trans (hb.mono h.bel.size), tb_kept h.x hb, tb_kept h.r hb, tb_kept h.a hb⟩
theorem AlB.set {w : World} {g xb rb ab k : Nat} {W : World} (h : AlB w g xb rb ab k W) (hx : xb ≠ ab) (hr : rb ≠ ab) (hw : w.heap.size ≤ ab) (k' : Nat) : AlB w g xb rb ab k' (W.setCell ⟨ab, 0, none⟩ (.int .i64 (k' : Int))) :=
  ⟨h.bel.setCell (p := ⟨ab, 0, none⟩) hw _, (heap_setCell_other _ _ _ _ hx).trans h.x, (heap_setCell_other _ _ _ _ hr).trans h.r, heap_setCell_same _ _ _ _ _ _ h.a⟩
structure AlI (w : World) (g xb rb ab C at_ : Nat) (Fb : Nat → Prop) (W : World) : Prop where
  b : AlB w g xb rb ab at_ W
  c : C ≤ W.heap.size
  f : ¬ Fb ab
theorem AlI.grown {w : World} {g xb rb ab C k : Nat} {Fb : Nat → Prop} {W W' : World} {row : Option Nat} (h : AlI w g xb rb ab C k Fb W) (hx : xb < C) (hr : rb < C) (ha : ab < C) (hw : w.heap.size ≤ C) (hg : W.grownBy W' row) (hro : ∀ r, row = some r → C ≤ r) : AlI w g xb rb ab C k Fb W' := by
  have hb : ∀ b, b < C → W'.heap[b]? = W.heap[b]? := fun b hb => hg.block b (Nat.lt_of_lt_of_le hb h.c) (fun e => by have := hro b e.symm; omega)
  exact ⟨⟨h.b.bel.grown hg h.b.bel.size (fun r e => Nat.le_trans hw (hro r e)), (hb _ hx).trans h.b.x, (hb _ hr).trans h.b.r, (hb _ ha).trans h.b.a⟩, Nat.le_trans h.c hg.size, h.f⟩
set_option maxRecDepth 100000 in
set_option maxHeartbeats 16000000 in
theorem alike_in (n : Nat) (y : Yd) (u : Rd) (Y : YS) (ub lb bs : Nat → Nat) (w : World) (H : YdAt w y Y) (R : RdAt w u Y ub lb bs) (hT : u.r.T = y.u.T) (hTK : TOk y.u.T) (hN0 : 0 < y.u.T.rts.length) (htk : 0 ≤ y.u.T.tracks ∧ y.u.T.tracks ≤ 24) (ho : Ord3 y.u.T Y.tn) (hp : ∀ p, (Y.pn p).sd < 256) :
    CallsIn Fence.wide (n + 4) Try.prog 18 #[.pointer (some ⟨y.g, 0, none⟩), .pointer (some ⟨u.g, 0, none⟩)] w fun e w' => e = .returned (.bool true) ∧ Below w.heap.size w w' := by
  have HY := Lib.hid H; have HR := Lib.hid R; have HT := Lib.hid hT; have HTK := Lib.hid hTK; have HN0 := Lib.hid hN0; have HTR := Lib.hid htk; have HO := Lib.hid ho; have HP := Lib.hid hp
  have hN16 := hTK.n; have hP12 := hTK.p
  clear H R hT hTK htk ho hp
  refine callsIn_of_wp_marks Try.func18 rfl trivial ?_ rfl
  simp only [Try.ntmps18, List.size_toArray, List.length_cons, List.length_nil, Nat.reduceAdd, Nat.reduceSub, Array.replicate_succ, Array.replicate_zero, List.push_toArray, List.append_toArray, List.nil_append, List.cons_append]
  gi_wp2_with (fail)
  obtain ⟨w3, hw3⟩ : ∃ w3, w3 = ((w.alloc (.cells #[.pointer (some ⟨u.g, 0, none⟩)] 58)).alloc (.cells #[.bool false] 4)).alloc (.cells #[.int .i64 0] 3) := ⟨_, rfl⟩
  rw [← hw3]
  have s1 : (w.alloc (.cells #[.pointer (some ⟨u.g, 0, none⟩)] 58)).heap.size = w.heap.size + 1 := Array.size_push _
  have s2 : ((w.alloc (.cells #[.pointer (some ⟨u.g, 0, none⟩)] 58)).alloc (.cells #[.bool false] 4)).heap.size = w.heap.size + 1 + 1 := by rw [← s1]; exact Array.size_push _
  have A3 : Hid (AlB w u.g w.heap.size (w.heap.size + 1) (w.heap.size + 1 + 1) 0 w3) := by
    rw [hw3]
    have b1 := alloc_below w (.cells #[.pointer (some ⟨u.g, 0, none⟩)] 58)
    have b2 := alloc_below (w.alloc (.cells #[.pointer (some ⟨u.g, 0, none⟩)] 58)) (.cells #[.bool false] 4)
    have b3 := alloc_below ((w.alloc (.cells #[.pointer (some ⟨u.g, 0, none⟩)] 58)).alloc (.cells #[.bool false] 4)) (.cells #[.int .i64 0] 3)
    have h2 := heap_alloc_new (w.alloc (.cells #[.pointer (some ⟨u.g, 0, none⟩)] 58)) (.cells #[.bool false] 4)
    rw [s1] at h2
    have h3 := heap_alloc_new ((w.alloc (.cells #[.pointer (some ⟨u.g, 0, none⟩)] 58)).alloc (.cells #[.bool false] 4)) (.cells #[.int .i64 0] 3)
    rw [s2] at h3
    exact ⟨b1.trans ((b2.trans (b3.mono b2.size)).mono b1.size), kept (kept (heap_alloc_new _ _) b2) b3, kept h2 b3, h3⟩
  obtain ⟨xb, hxb⟩ : ∃ b, b = w.heap.size := ⟨_, rfl⟩
  obtain ⟨rb, hrb⟩ : ∃ b, b = w.heap.size + 1 := ⟨_, rfl⟩
  obtain ⟨ab, hab⟩ : ∃ b, b = w.heap.size + 1 + 1 := ⟨_, rfl⟩
  have HBK : Hid (xb ≠ ab ∧ rb ≠ ab ∧ w.heap.size ≤ ab ∧ xb ≠ rb ∧ w.heap.size ≤ rb) := by show _ ∧ _; omega
  rw [← hab, ← hrb] at A3 ⊢
  rw [← hxb] at A3 ⊢
  clear hw3 hxb hrb hab s1 s2
  refine ⟨trivial, (callsIn_wide.2 (trains_any _ (.inr ⟨y.g, rfl⟩) w3)).mono ?_⟩
  rintro e w6 ⟨rfl, hbx, hb⟩
  have A6 := Lib.hid (A3.out.below hb)
  obtain ⟨tb, htb⟩ : ∃ b, b = w3.heap.size := ⟨_, rfl⟩
  rw [← htb] at hbx ⊢
  have HQ := trains1_in (n + 4 - 1) y Y tb w6 (HY.out.below A6.out.bel) hN16 HN0.out hbx
  clear A3 hb htb
  gi_wp2_with (fail)
  obtain ⟨C, hCC⟩ : ∃ C, C = w6.heap.size := ⟨_, rfl⟩
  have HCC := Lib.hid hCC
  have HCL : Hid (xb < C ∧ rb < C ∧ ab < C ∧ w.heap.size ≤ C) := by rw [hCC]; exact ⟨heap_lt A6.out.x, heap_lt A6.out.r, heap_lt A6.out.a, A6.out.bel.size⟩
  clear hCC
  have HNX := Lib.hid (nxt_all Y.tn y.u.T.rts.length)
  obtain ⟨N, hN⟩ : ∃ N, N = y.u.T.rts.length := ⟨_, rfl⟩
  have HNN := Lib.hid hN
  rw [← hN] at HQ HNX hN16
  clear hN
  refine rangeFunc_d (ps := #[13]) rfl (by omega) (gf := 27) (lb := #[.pointer (some ⟨tb, 0, none⟩)]) rfl trivial (enters_of Try.func27 (by kernel_rfl) rfl)
    (Kb := fun _ => False) (N := (onIdx Y.tn N).length) (fun b hb => hb.elim) HQ (fun _ => rfl)
    (fun x Fb W => AlI w u.g xb rb ab C (nxtI (onIdx Y.tn N) x) Fb W) (fun _ _ _ _ => False)
    (fun Fb s W W' row h hg hr => h.grown HCL.out.1 HCL.out.2.1 HCL.out.2.2.1 HCL.out.2.2.2 hg (fun r e => by rw [HCC.out]; exact (hr r e).1)) (fun _ _ s W W' row h _ _ => h.elim)
    (fun s Fb A W h hb => ⟨h.b.below hb, Nat.le_trans h.c hb.size, fun e => e.elim h.f (fun e => by have := heap_lt h.b.a; omega)⟩) (fun _ _ _ _ _ h _ => h.elim) (fun s Fb A W h hb => ⟨h.b.below hb, Nat.le_trans h.c hb.size, h.f⟩)
    (fun A hA => ⟨A6.out.below hA, by rw [HCC.out]; exact hA.size, fun e => e⟩)
    (fun x a' W => ∃ (zb ni tl hd : Nat), a' = ⟨(#[.pointer (some ⟨y.g, 0, none⟩), .pointer (some ⟨u.g, 0, none⟩), undef, .pointer (some ⟨xb, 0, none⟩), .pointer (some ⟨rb, 0, none⟩), .pointer (some ⟨ab, 0, none⟩), .pointer (some ⟨zb, 0, none⟩), undef, undef, undef, undef, .pointer (some ⟨y.g, 0, none⟩), .func (.func 27) #[] #[.pointer (some ⟨tb, 0, none⟩)], .agg #[.int .i64 (ni : Int), .int .i64 (tl : Int), .int .i64 (hd : Int)], undef, undef, undef, undef, undef, undef, undef, undef, undef, undef, undef, undef, undef, undef, undef, undef, undef, undef, undef, undef, undef, undef, undef, undef, undef, undef, undef, undef, undef, undef, undef, undef, undef, undef, undef, undef, undef, undef, undef, undef, undef, undef, undef, undef, undef, undef, undef, undef, undef, undef, undef, undef, undef, undef, undef, undef, undef, undef, undef, undef, undef, undef, undef, undef, undef, undef, undef, undef, undef, undef, undef, undef, undef, undef, undef, undef, undef, undef, undef, undef, undef, undef, undef, undef, undef, undef, undef, undef, undef, undef, undef, undef, undef, undef, undef, undef, undef, undef, undef, undef, undef, undef, undef, undef, undef, undef, undef, undef, undef, undef, undef, undef, undef, undef, undef, undef, undef, undef, undef, undef, undef, undef, undef, undef, undef, undef, undef, undef, undef, undef, undef, undef, undef, undef, undef, undef, undef, undef, undef, undef, undef, undef, undef, undef, undef, undef, undef, undef, undef, undef, undef, undef, undef, undef, undef, undef, undef, undef, undef, undef, undef, undef, undef, undef, undef, undef, undef, undef, undef, undef, undef, undef, undef, undef, undef, undef, undef, undef, undef, undef, undef, undef, undef, undef, undef, undef, undef, undef, undef, undef, undef, undef, undef] : Array Value), []⟩ ∧ ni = (onIdx Y.tn N).getD x 0 ∧ tl = (Y.tn ni).tl ∧ hd = (Y.tn ni).hd ∧ W.heap[zb]? = some (.cells #[.int .i64 (ni : Int), .int .i64 (tl : Int), .int .i64 (hd : Int)] 50 (0, 0)))
    ?hAo ?assign ?body ?done ?stop
  case hAo =>
    intro x a' s W W' row h hg hr
    obtain ⟨zb, ni, tl, hd, e1, e2, e3, e4, e5⟩ := h
    exact ⟨zb, ni, tl, hd, e1, e2, e3, e4, (hg.block _ (heap_lt e5) (fun e => by
      obtain ⟨_, o, ho, hc⟩ := hr _ e.symm
      rw [e5] at ho; cases ho; simp [Obj.isCells] at hc)).trans e5⟩
  case stop => intro D c x Fb W _ _ _ h; exact h.elim
  case assign =>
    intro l x W K hx hK
    unfold encT
    obtain ⟨ni, hni⟩ : ∃ m, m = (onIdx Y.tn N).getD x 0 := ⟨_, rfl⟩
    obtain ⟨tl, htl⟩ : ∃ m, m = (Y.tn ni).tl := ⟨_, rfl⟩
    obtain ⟨hd, hhd⟩ : ∃ m, m = (Y.tn ni).hd := ⟨_, rfl⟩
    rw [← hni, ← htl, ← hhd]
    have HB2 : Hid ((W.alloc (.cells #[.int .i64 (ni : Int), .int .i64 (tl : Int), .int .i64 (hd : Int)] 50)).heap[W.heap.size]? = some (.cells #[.int .i64 (ni : Int), .int .i64 (tl : Int), .int .i64 (hd : Int)] 50 (0, 0))) := heap_alloc_new _ _
    have HKK : Hid (∀ a' W', Below W.heap.size W W' → (∃ (zb ni tl hd : Nat), a' = ⟨(#[.pointer (some ⟨y.g, 0, none⟩), .pointer (some ⟨u.g, 0, none⟩), undef, .pointer (some ⟨xb, 0, none⟩), .pointer (some ⟨rb, 0, none⟩), .pointer (some ⟨ab, 0, none⟩), .pointer (some ⟨zb, 0, none⟩), undef, undef, undef, undef, .pointer (some ⟨y.g, 0, none⟩), .func (.func 27) #[] #[.pointer (some ⟨tb, 0, none⟩)], .agg #[.int .i64 (ni : Int), .int .i64 (tl : Int), .int .i64 (hd : Int)], undef, undef, undef, undef, undef, undef, undef, undef, undef, undef, undef, undef, undef, undef, undef, undef, undef, undef, undef, undef, undef, undef, undef, undef, undef, undef, undef, undef, undef, undef, undef, undef, undef, undef, undef, undef, undef, undef, undef, undef, undef, undef, undef, undef, undef, undef, undef, undef, undef, undef, undef, undef, undef, undef, undef, undef, undef, undef, undef, undef, undef, undef, undef, undef, undef, undef, undef, undef, undef, undef, undef, undef, undef, undef, undef, undef, undef, undef, undef, undef, undef, undef, undef, undef, undef, undef, undef, undef, undef, undef, undef, undef, undef, undef, undef, undef, undef, undef, undef, undef, undef, undef, undef, undef, undef, undef, undef, undef, undef, undef, undef, undef, undef, undef, undef, undef, undef, undef, undef, undef, undef, undef, undef, undef, undef, undef, undef, undef, undef, undef, undef, undef, undef, undef, undef, undef, undef, undef, undef, undef, undef, undef, undef, undef, undef, undef, undef, undef, undef, undef, undef, undef, undef, undef, undef, undef, undef, undef, undef, undef, undef, undef, undef, undef, undef, undef, undef, undef, undef, undef, undef, undef, undef, undef, undef, undef, undef, undef, undef, undef, undef, undef, undef, undef, undef, undef, undef, undef, undef, undef, undef, undef, undef] : Array Value), []⟩ ∧ ni = (onIdx Y.tn N).getD x 0 ∧ tl = (Y.tn ni).tl ∧ hd = (Y.tn ni).hd ∧ W'.heap[zb]? = some (.cells #[.int .i64 (ni : Int), .int .i64 (tl : Int), .int .i64 (hd : Int)] 50 (0, 0))) → K a' W') := hK
    have HNI := Lib.hid hni; have HTL := Lib.hid htl; have HHD := Lib.hid hhd
    clear hK HQ hni htl hhd
    gi_wp2
    exact HKK.out _ _ (alloc_below _ _) ⟨W.heap.size, ni, tl, hd, rfl, HNI.out, HTL.out, HHD.out, HB2.out⟩
  case body =>
    intro l x Fb a' W hx hl hF hI hA
    obtain ⟨zb, ni, tl, hd, rfl, hni, htl, hhd, hzb⟩ := hA
    have HI := Lib.hid hI; have HZB := Lib.hid hzb
    obtain ⟨hx1, hx2, hx3, hx4⟩ := HNX.out.at_ x hx
    have HN1 : Hid (nxtI (onIdx Y.tn N) (x + 1) = ni + 1) := by rw [hni]; exact nxtI_succ _ _
    rw [← hni] at hx1 hx2 hx3 hx4
    have HX3 := Lib.hid hx3; have HX4 := Lib.hid hx4; have HX1 := Lib.hid hx1; have HX2 := Lib.hid hx2; have HTL := Lib.hid htl; have HHD := Lib.hid hhd
    have HZA : Hid (zb ≠ ab) := fun e => by
      have h := HI.out.b.a
      rw [← e, hzb] at h
      injection h with h; injection h with _ h _; exact absurd h (by decide)
    have hfm : (Try.prog).follows .mixedOrders = true := by kernel_rfl
    clear hI hzb hni hx3 hx4 hF htl hhd HQ
    gi_wp2_with (fail)
    gi_loopw [] (fun wr => ∃ k : Nat, nxtI (onIdx Y.tn N) x ≤ k ∧ k ≤ ni ∧ AlB w u.g xb rb ab k wr ∧ Only (fun b => b = ab) W wr) (fun wr => ni - (intOf ((wr.cell? ⟨ab, 0, none⟩).getD undef)).toNat)
    case atStart => exact ⟨_, Nat.le_refl _, HX1.out, HI.out.b, Only.refl _ _⟩
    case round =>
      obtain ⟨k, hk1, hk2, hal, hon⟩ := hrel
      obtain ⟨w7, rfl⟩ : ∃ w7 : World, w7 = wr := ⟨_, rfl⟩
      have A7 := Lib.hid hal; have O7 := Lib.hid hon
      clear hal hon
      have R7 := Lib.hid (HR.out.below A7.out.bel)
      have hkN : k < N := Nat.lt_of_le_of_lt hk2 HX2.out
      have HKN : Hid (k < u.r.T.rts.length) := by show k < _; rw [HT.out, ← HNN.out]; exact hkN
      have c3 := cell_row (j := 0) A7.out.x rfl
      have ca := cell_row (j := 0) A7.out.a rfl
      have l3 := heap_lt A7.out.x; have la := heap_lt A7.out.a
      have gA : w7.cell? ⟨u.g, 10, none⟩ = some (.slice (some ⟨u.ob, 0, none⟩) N N) := by rw [HNN.out, ← HT.out]; exact cell_row (j := 10) R7.out.ob rfl
      have lg := heap_lt R7.out.ob
      obtain ⟨a, o1, hoa⟩ := R7.out.onAt HKN.out
      have lo := R7.out.on.lt
      have hsec : onC Y.tn k = if (Y.tn k).is then secN (Y.tn k) else 0 := rfl
      rw [hsec] at o1 hoa
      clear hsec
      have HCA := Lib.hid ca
      have AQ := Lib.hid (fun q => A7.out.below (YD_drewN w7 q))
      have OQ := Lib.hid (fun q => O7.out.drewN (n := q))
      by_cases hlt : k < ni
      case pos =>
        rw [HX4.out k hk1 hlt, if_neg (by decide)] at o1
        clear hoa
        gi_wp2_with (fail)
        refine wpIn_region_quiet_r (by kernel_rfl) hfm (by kernel_rfl) ?_
        repeat (gi_big_quiet_step (fail))
        refine wpQuietIn_nil ?_
        intro _ hw'
        obtain ⟨nq, hw''⟩ := hw'
        subst hw''
        have A8 := Lib.hid (AQ.out nq); have O8 := Lib.hid (OQ.out nq)
        generalize w7.drewN nq = w8 at *
        clear c3 ca l3 la gA lg o1 lo AQ OQ A7 O7 R7
        have ca := cell_row (j := 0) A8.out.a rfl
        have fa : w8.frozen? ⟨ab, 0, none⟩ = false := frozen_of_row _ _ _ _ _ A8.out.a
        have la := heap_lt A8.out.a
        have A9 : Hid (AlB w u.g xb rb ab (k + 1) (w8.setCell ⟨ab, 0, none⟩ (.int .i64 ((k : Int) + 1)))) := A8.out.set HBK.out.1 HBK.out.2.1 HBK.out.2.2.1 (k + 1)
        have O9 : Hid (Only (fun b => b = ab) W (w8.setCell ⟨ab, 0, none⟩ (.int .i64 ((k : Int) + 1)))) := O8.out.set _ _ (.inr rfl)
        have hm9 : ((w8.setCell ⟨ab, 0, none⟩ (.int .i64 ((k : Int) + 1))).cell? ⟨ab, 0, none⟩) = some (.int .i64 ((k + 1 : Nat) : Int)) := cell_row (j := 0) A9.out.a rfl
        have HM9 := Lib.hid hm9
        clear hm9
        gi_wp2_with (fail)
        go_roundw
        case rel => exact ⟨k + 1, by omega, by omega, A9.out, O9.out⟩
        case measure => rw [HM9.out, HCA.out]; simp [intOf]; omega
      case neg =>
        obtain rfl : k = ni := by omega
        rw [HX3.out, if_pos rfl] at o1 hoa
        have HOR := HO.out k (by rw [← HNN.out]; exact hkN) HX3.out
        have z0 := cell_row (j := 0) (O7.out.block _ (heap_lt HZB.out) HZA.out |>.trans HZB.out) rfl
        have z1 := cell_row (j := 1) (O7.out.block _ (heap_lt HZB.out) HZA.out |>.trans HZB.out) rfl
        have z2 := cell_row (j := 2) (O7.out.block _ (heap_lt HZB.out) HZA.out |>.trans HZB.out) rfl
        have lz : zb < w7.heap.size := Nat.lt_of_lt_of_le (heap_lt HZB.out) O7.out.size
        have hp0 : secP (Y.tn k) 0 = tl := HTL.out.symm
        have hp1 : secP (Y.tn k) 1 = hd := HHD.out.symm
        have hsn : secN (Y.tn k) = if tl = hd then 1 else 2 := by rw [HTL.out, HHD.out]; rfl
        have HFI : Hid (∀ V, AlB w u.g xb rb ab (k + 1) V → Only (fun b => b = ab) W V → KeepsFrom C W V ∧ (KeepF Fb W V ∧ W.heap.size ≤ V.heap.size) ∧ AlI w u.g xb rb ab C (nxtI (onIdx Y.tn N) (x + 1)) Fb V) := fun V h1 h2 =>
          ⟨keeps_only h2 HCL.out.2.2.1, keepF_only h2 HI.out.f, by rw [HN1.out]; exact ⟨h1, Nat.le_trans HI.out.c h2.size, HI.out.f⟩⟩
        rw [hsn] at o1 hoa
        clear hsn HOR
        have tN : decide (N ≤ k) = false := decide_eq_false (by omega)
        by_cases e1 : tl = hd
        case pos =>
          rw [if_pos e1] at o1 hoa
          obtain ⟨rfl, _, b0, lb0⟩ := hoa 0 (by omega)
          rw [hp0] at b0
          subst e1
          clear hoa hp0 hp1
          gi_wp2_with (fail)
          refine wpIn_region_quiet_r (by kernel_rfl) hfm (by kernel_rfl) ?_
          repeat (gi_big_quiet_step (fail))
          refine wpQuietIn_nil ?_
          intro _ hw'
          obtain ⟨q1, hw''⟩ := hw'
          subst hw''
          gi_wp2_with (fail)
          refine wpIn_region_quiet_r (by kernel_rfl) hfm (by kernel_rfl) ?_
          repeat (gi_big_quiet_step (fail))
          refine wpQuietIn_nil ?_
          intro _ hw'
          obtain ⟨q2, hw''⟩ := hw'
          subst hw''
          have A8 : Hid (AlB w u.g xb rb ab k ((w7.drewN q1).drewN q2)) := (AQ.out q1).below (YD_drewN _ q2)
          have O8 : Hid (Only (fun b => b = ab) W ((w7.drewN q1).drewN q2)) := (OQ.out q1).drewN (n := q2)
          generalize (w7.drewN q1).drewN q2 = w8 at *
          clear ca la c3 l3 gA lg o1 lo z0 z1 z2 lz AQ OQ A7 O7 R7
          have ca := cell_row (j := 0) A8.out.a rfl
          have fa : w8.frozen? ⟨ab, 0, none⟩ = false := frozen_of_row _ _ _ _ _ A8.out.a
          have la := heap_lt A8.out.a
          have HLL := Lib.hid (HFI.out _ (A8.out.set HBK.out.1 HBK.out.2.1 HBK.out.2.2.1 (k + 1)) (O8.out.set 0 _ (.inr rfl)))
          gi_wp2_with (fail)
          rw [← HCC.out]
          exact HLL.out
        case neg =>
          rw [if_neg e1] at o1 hoa
          obtain ⟨rfl, _, b0, lb0⟩ := hoa 0 (by omega)
          obtain ⟨_, _, b1, _⟩ := hoa 1 (by omega)
          rw [hp0] at b0
          rw [hp1] at b1
          clear hoa hp0 hp1 e1
          gi_wp2_with (fail)
          refine wpIn_region_quiet_r (by kernel_rfl) hfm (by kernel_rfl) ?_
          repeat (gi_big_quiet_step (fail))
          refine wpQuietIn_nil ?_
          intro _ hw'
          obtain ⟨q1, hw''⟩ := hw'
          subst hw''
          gi_wp2_with (fail)
          refine wpIn_region_quiet_r (by kernel_rfl) hfm (by kernel_rfl) ?_
          repeat (gi_big_quiet_step (fail))
          refine wpQuietIn_nil ?_
          intro _ hw'
          obtain ⟨q2, hw''⟩ := hw'
          subst hw''
          have A8 : Hid (AlB w u.g xb rb ab k ((w7.drewN q1).drewN q2)) := (AQ.out q1).below (YD_drewN _ q2)
          have O8 : Hid (Only (fun b => b = ab) W ((w7.drewN q1).drewN q2)) := (OQ.out q1).drewN (n := q2)
          generalize (w7.drewN q1).drewN q2 = w8 at *
          clear ca la c3 l3 gA lg o1 lo z0 z1 z2 lz AQ OQ A7 O7 R7
          have ca := cell_row (j := 0) A8.out.a rfl
          have fa : w8.frozen? ⟨ab, 0, none⟩ = false := frozen_of_row _ _ _ _ _ A8.out.a
          have la := heap_lt A8.out.a
          have HLL := Lib.hid (HFI.out _ (A8.out.set HBK.out.1 HBK.out.2.1 HBK.out.2.2.1 (k + 1)) (O8.out.set 0 _ (.inr rfl)))
          gi_wp2_with (fail)
          rw [← HCC.out]
          exact HLL.out
  case done =>
    intro D Fb W hD hI hDd
    have A7 := Lib.hid hI.b; have D7 := Lib.hid hDd
    obtain ⟨he1, he2⟩ := HNX.out.end_
    have HE2 := Lib.hid he2
    have HDC : Hid (C ≤ D) := by show C ≤ D; rw [HCC.out]; exact hD
    have hfm : (Try.prog).follows .mixedOrders = true := by kernel_rfl
    clear hI hDd HQ hD he2 A6 hbx
    generalize nxtI (onIdx Y.tn N) (onIdx Y.tn N).length = k0 at *
    gi_wp2_with (fail)
    gi_loopw [] (fun wr => ∃ k : Nat, k0 ≤ k ∧ k ≤ N ∧ AlB w u.g xb rb ab k wr ∧ wr.heap[D]? = some (.deferred (some []))) (fun wr => N - (intOf ((wr.cell? ⟨ab, 0, none⟩).getD undef)).toNat)
    case atStart => exact ⟨_, Nat.le_refl _, he1, A7.out, D7.out⟩
    case round =>
      clear A7 D7
      obtain ⟨k, hk1, hk2, hal, hdd⟩ := hrel
      obtain ⟨w7, rfl⟩ : ∃ w7 : World, w7 = wr := ⟨_, rfl⟩
      have A7 := Lib.hid hal; have D7 := Lib.hid hdd
      clear hal hdd
      have R7 := Lib.hid (HR.out.below A7.out.bel)
      have c3 := cell_row (j := 0) A7.out.x rfl
      have ca := cell_row (j := 0) A7.out.a rfl
      have l3 := heap_lt A7.out.x; have la := heap_lt A7.out.a
      have gA : w7.cell? ⟨u.g, 10, none⟩ = some (.slice (some ⟨u.ob, 0, none⟩) N N) := by rw [HNN.out, ← HT.out]; exact cell_row (j := 10) R7.out.ob rfl
      have lg := heap_lt R7.out.ob
      have HCA := Lib.hid ca
      by_cases hlt : k < N
      case pos =>
        have HKN : Hid (k < u.r.T.rts.length) := by show k < _; rw [HT.out, ← HNN.out]; exact hlt
        obtain ⟨a, o1, hoa⟩ := R7.out.onAt HKN.out
        have lo := R7.out.on.lt
        have hsec : onC Y.tn k = if (Y.tn k).is then secN (Y.tn k) else 0 := rfl
        rw [hsec, HE2.out k hk1 hlt, if_neg (by decide)] at o1
        clear hoa hsec
        have tN : decide (k < N) = true := decide_eq_true hlt
        gi_wp2_with (fail)
        refine wpIn_region_quiet_r (by kernel_rfl) hfm (by kernel_rfl) ?_
        repeat (gi_big_quiet_step (fail))
        refine wpQuietIn_nil ?_
        intro _ hw'
        obtain ⟨q1, hw''⟩ := hw'
        subst hw''
        gi_wp2_with (fail)
        refine wpIn_region_quiet_r (by kernel_rfl) hfm (by kernel_rfl) ?_
        repeat (gi_big_quiet_step (fail))
        refine wpQuietIn_nil ?_
        intro _ hw'
        obtain ⟨q2, hw''⟩ := hw'
        subst hw''
        have A8 : Hid (AlB w u.g xb rb ab k ((w7.drewN q1).drewN q2)) := (A7.out.below (YD_drewN w7 q1)).below (YD_drewN _ q2)
        have D8 : Hid (((w7.drewN q1).drewN q2).heap[D]? = _) := D7.out
        generalize (w7.drewN q1).drewN q2 = w8 at *
        clear c3 ca l3 la gA lg o1 lo A7 D7 R7 tN
        have ca := cell_row (j := 0) A8.out.a rfl
        have fa : w8.frozen? ⟨ab, 0, none⟩ = false := frozen_of_row _ _ _ _ _ A8.out.a
        have la := heap_lt A8.out.a
        have A9 : Hid (AlB w u.g xb rb ab (k + 1) (w8.setCell ⟨ab, 0, none⟩ (.int .i64 ((k : Int) + 1)))) := A8.out.set HBK.out.1 HBK.out.2.1 HBK.out.2.2.1 (k + 1)
        have D9 : Hid ((w8.setCell ⟨ab, 0, none⟩ (.int .i64 ((k : Int) + 1))).heap[D]? = _) := (heap_setCell_other _ _ _ _ (by have := HDC.out; have := HCL.out; show ¬ _ = _; dsimp only; omega)).trans D8.out
        have hm9 : ((w8.setCell ⟨ab, 0, none⟩ (.int .i64 ((k : Int) + 1))).cell? ⟨ab, 0, none⟩) = some (.int .i64 ((k + 1 : Nat) : Int)) := cell_row (j := 0) A9.out.a rfl
        have HM9 := Lib.hid hm9
        clear hm9
        gi_wp2_with (fail)
        go_roundw
        case rel => exact ⟨k + 1, by omega, by omega, A9.out, D9.out⟩
        case measure => rw [HM9.out, HCA.out]; simp [intOf]; omega
      case neg =>
      obtain rfl : N = k := by omega
      have tN : decide (N < N) = false := decide_eq_false (by omega)
      gi_wp2_with (fail)
      refine wpIn_region_quiet_r (by kernel_rfl) hfm (by kernel_rfl) ?_
      repeat (gi_big_quiet_step (fail))
      refine wpQuietIn_nil ?_
      intro _ hw'
      obtain ⟨q1, hw''⟩ := hw'
      subst hw''
      have A8 := Lib.hid (A7.out.below (YD_drewN w7 q1))
      have D8 : Hid ((w7.drewN q1).heap[D]? = _) := D7.out
      generalize w7.drewN q1 = w8 at *
      clear c3 ca l3 la gA lg A7 D7 R7 tN HCA
      obtain ⟨M, hM⟩ : ∃ M, M = y.u.T.pts.length := ⟨_, rfl⟩
      have HMM := Lib.hid hM
      rw [← hM] at hP12
      clear hM
      have R8 := Lib.hid (HR.out.below A8.out.bel)
      have c3 := cell_row (j := 0) A8.out.x rfl
      have l3 := heap_lt A8.out.x
      have gB : w8.cell? ⟨u.g, 12, none⟩ = some (.slice (some ⟨u.tb, 0, none⟩) M M) := by rw [HMM.out, ← HT.out]; exact cell_row (j := 12) R8.out.ob rfl
      have lg := heap_lt R8.out.ob
      gi_wp2_with (fail)
      clear c3 l3 gB lg R8
      gi_loopw [109] (fun i wr => ∃ k : Nat, k ≤ M ∧ i = .int .i64 k ∧ AlB w u.g xb rb ab N wr ∧ wr.heap[D]? = some (.deferred (some []))) (fun i _ => M - (intOf i).toNat)
      case atStart => exact ⟨0, Nat.zero_le _, rfl, A8.out, D8.out⟩
      case round =>
        clear A8 D8
        obtain ⟨k, hk, rfl, hal, hdd⟩ := hrel
        obtain ⟨w7, rfl⟩ : ∃ w7 : World, w7 = wr := ⟨_, rfl⟩
        have A7 := Lib.hid hal; have D7 := Lib.hid hdd
        clear hal hdd
        by_cases hlt : k < M
        case pos =>
          have R7 := Lib.hid (HR.out.below A7.out.bel)
          have c3 := cell_row (j := 0) A7.out.x rfl
          have l3 := heap_lt A7.out.x
          have gB : w7.cell? ⟨u.g, 12, none⟩ = some (.slice (some ⟨u.tb, 0, none⟩) M M) := by rw [HMM.out, ← HT.out]; exact cell_row (j := 12) R7.out.ob rfl
          have gL : w7.cell? ⟨u.g, 13, none⟩ = some (.slice (some ⟨u.lb, 0, none⟩) M M) := by rw [HMM.out, ← HT.out]; exact cell_row (j := 13) R7.out.ob rfl
          have lg := heap_lt R7.out.ob
          have HKM : Hid (k < u.r.T.pts.length) := by show k < _; rw [HT.out, ← HMM.out]; exact hlt
          have s0 := R7.out.sd.cell HKM.out
          have s1 := R7.out.lf.cell HKM.out
          have l0 := R7.out.sd.lt; have l1 := R7.out.lf.lt
          have HPT := Lib.hid (ypoint_any y Y (k : Int) w7 (HY.out.below A7.out.bel) (by have := HTK.out.p; omega))
          have hpi : pointI y.u.T.pts.length Y.pn (k : Int) = if 0 < (Y.pn k).lf then 0 else (Y.pn k).sd := if_pos ⟨by omega, by rw [← HMM.out]; omega⟩
          rw [hpi] at HPT
          have hsd := HP.out k
          clear hpi
          generalize (Y.pn k).lf = lf at *
          generalize (Y.pn k).sd = sd at *
          by_cases h0 : lf = 0
          case pos =>
            subst h0
            rw [if_neg (by omega)] at HPT
            gi_wp2_with (fail)
            refine ⟨trivial, (callsIn_wide.2 (HPT.out)).mono ?_⟩
            rintro e w8 ⟨rfl, hw8⟩
            obtain rfl : w7 = w8 := hw8.symm
            gi_wp2_with (fail)
            go_roundw
            case rel => exact ⟨k + 1, by omega, by go_num, A7.out, D7.out⟩
            case measure => simp [intOf]; omega
          case neg =>
            rw [if_pos (by omega)] at HPT
            have t1 : decide ((0 : Int) < (lf : Int)) = true := decide_eq_true (by omega)
            gi_wp2_with (fail)
            refine ⟨trivial, (callsIn_wide.2 (HPT.out)).mono ?_⟩
            rintro e w8 ⟨rfl, hw8⟩
            obtain rfl : w7 = w8 := hw8.symm
            gi_wp2_with (fail)
            go_roundw
            case rel => exact ⟨k + 1, by omega, by go_num, A7.out, D7.out⟩
            case measure => simp [intOf]; omega
        case neg =>
        obtain rfl : M = k := by omega
        obtain ⟨tk, htk⟩ := Int.eq_ofNat_of_zero_le HTR.out.1
        have HTE := Lib.hid htk
        have htk24 : tk ≤ 24 := by have := HTR.out.2; omega
        clear htk
        have R7 := Lib.hid (HR.out.below A7.out.bel)
        have c3 := cell_row (j := 0) A7.out.x rfl
        have l3 := heap_lt A7.out.x
        have g0 : w7.cell? ⟨u.g, 0, none⟩ = some (.int .i64 (tk : Int)) := by rw [← HTE.out, ← HT.out]; exact cell_row (j := 0) R7.out.ob rfl
        have lg := heap_lt R7.out.ob
        gi_wp2_with (fail)
        clear c3 l3 g0 lg R7
        gi_loopw [139] (fun i wr => ∃ k : Nat, k ≤ tk ∧ i = .int .i64 k ∧ AlB w u.g xb rb ab N wr ∧ wr.heap[D]? = some (.deferred (some []))) (fun i _ => tk - (intOf i).toNat)
        case atStart => exact ⟨0, Nat.zero_le _, rfl, A7.out, D7.out⟩
        case round =>
          clear A7 D7
          obtain ⟨k, hk, rfl, hal, hdd⟩ := hrel
          obtain ⟨w7, rfl⟩ : ∃ w7 : World, w7 = wr := ⟨_, rfl⟩
          have A7 := Lib.hid hal; have D7 := Lib.hid hdd
          clear hal hdd
          by_cases hlt : k < tk
          case pos =>
            have c3 := cell_row (j := 0) A7.out.x rfl
            have l3 := heap_lt A7.out.x
            have HCB : Hid (clearB y.u.T Y.tn (k : Int) = (onN y.u.T Y.tn (k : Int) y.u.T.rts.length == 0)) := by
              show _ = _
              unfold clearB
              rw [decide_eq_true (show (0 : Int) ≤ (k : Int) by omega), decide_eq_true (show (k : Int) < y.u.T.tracks by rw [HTE.out]; omega), Bool.true_and, Bool.true_and]
            have HK1 : Hid (∀ W, AlB w u.g xb rb ab N W → Calls Try.prog 12 #[.pointer (some ⟨y.g, 0, none⟩), .int .i64 (k : Int)] W fun e w' => e = .returned (.bool (clearB y.u.T Y.tn (k : Int))) ∧ Below W.heap.size W w') := fun W hW =>
              yclear_any y Y (k : Int) W (HY.out.below hW.bel) HTK.out (fun n hn hi => ⟨(HO.out n hn hi).1, (HO.out n hn hi).2.2⟩)
            have HK2 : Hid (∀ W, AlB w u.g xb rb ab N W → Calls Try.prog 37 #[.pointer (some ⟨u.g, 0, none⟩), .int .i64 (k : Int)] W fun e w' => e = .returned (.bool (clearB y.u.T Y.tn (k : Int))) ∧ Below W.heap.size W w') := fun W hW => by
              have h := rclear_any u Y ub lb bs (k : Int) W (HR.out.below hW.bel) (by rw [HT.out]; have := HTK.out.n; omega) (by rw [HT.out]; exact HO.out)
              rw [HT.out, ← HCB.out] at h
              exact h
            clear HCB
            generalize clearB y.u.T Y.tn (k : Int) = cb at *
            gi_wp2_with (fail)
            refine wpIn_wide.2 ?_
            obtain ⟨U, fU, hUn, hU1, hU2⟩ := class_of (fun V => Below w7.heap.size w7 V) (W := w7.drew) ⟨rfl, rfl, rfl, Nat.le_refl _, fun _ _ => rfl⟩
            have HU1 := Lib.hid hU1; have HU2 := Lib.hid hU2
            clear hU1 hU2
            have hfm : (Try.prog).follows .mixedOrders = true := by kernel_rfl
            obtain ⟨q, hd1⟩ : ∃ q : Nat, 1 ≤ q := ⟨1, Nat.le_refl _⟩
            have y3 := fun uu => ((HU1.out uu).cell l3).trans c3
            have h0_HC1 : ∀ uu, Calls Try.prog 12 #[.pointer (some ⟨y.g, 0, none⟩), .int .i64 (k : Int)] (fU uu) fun e w' => e = .returned (.bool cb) ∧ Below (fU uu).heap.size (fU uu) w' := fun uu => HK1.out _ (A7.out.below (HU1.out uu))
            have HC1 : Hid (∀ uu, CallsIn Fence.wide (q - 1) Try.prog 12 #[.pointer (some ⟨y.g, 0, none⟩), .int .i64 (k : Int)] (fU uu) fun e w' => e = .returned (.bool cb) ∧ ∃ uu', w' = fU uu') := fun uu => (callsIn_wide.2 (h0_HC1 uu)).mono (fun e w' ⟨he, hb⟩ => ⟨he, HU2.out _ ((HU1.out uu).trans (hb.mono (HU1.out uu).size))⟩)
            have hf_HC1 : Fence.wide.fn 12 := trivial
            clear h0_HC1
            have h0_HC2 : ∀ uu, Calls Try.prog 37 #[.pointer (some ⟨u.g, 0, none⟩), .int .i64 (k : Int)] (fU uu) fun e w' => e = .returned (.bool cb) ∧ Below (fU uu).heap.size (fU uu) w' := fun uu => HK2.out _ (A7.out.below (HU1.out uu))
            have HC2 : Hid (∀ uu, CallsIn Fence.wide (q - 1) Try.prog 37 #[.pointer (some ⟨u.g, 0, none⟩), .int .i64 (k : Int)] (fU uu) fun e w' => e = .returned (.bool cb) ∧ ∃ uu', w' = fU uu') := fun uu => (callsIn_wide.2 (h0_HC2 uu)).mono (fun e w' ⟨he, hb⟩ => ⟨he, HU2.out _ ((HU1.out uu).trans (hb.mono (HU1.out uu).size))⟩)
            have hf_HC2 : Fence.wide.fn 37 := trivial
            clear h0_HC2
            clear c3 l3
            refine (wpIn_wide (n := q)).1 ?_
            refine wpIn_region_cls fU (by kernel_rfl) hfm (by kernel_rfl) (HU2.out _ ⟨rfl, rfl, rfl, Nat.le_refl _, fun _ _ => rfl⟩) ?_
            repeat (gi_big_quiet_step ((first | (gi_at_call 12; (with_reducible exact HC1.out _)) | (gi_at_call 37; (with_reducible exact HC2.out _)))))
            refine wpQuietIn_nil ?_
            rintro w8 ⟨uu, rfl⟩
            have A8 := Lib.hid (A7.out.below (HU1.out uu))
            have D8 : Hid ((fU uu).heap[D]? = _) := kept D7.out (HU1.out uu)
            generalize fU uu = w8 at *
            clear HU1 HU2 HC1 HC2 HK1 HK2 A7 D7 y3
            cases cb
            case false =>
              gi_wp2_with (fail)
              go_roundw
              case rel => exact ⟨k + 1, by omega, by go_num, A8.out, D8.out⟩
              case measure => simp [intOf]; omega
            case true =>
              gi_wp2_with (fail)
              go_roundw
              case rel => exact ⟨k + 1, by omega, by go_num, A8.out, D8.out⟩
              case measure => simp [intOf]; omega
          case neg =>
          obtain rfl : tk = k := by omega
          have R7 := Lib.hid (HR.out.below A7.out.bel)
          have c3 := cell_row (j := 0) A7.out.x rfl
          have l3 := heap_lt A7.out.x
          have g4 : w7.cell? ⟨u.g, 4, none⟩ = some (.pointer (some ⟨u.r.g, 0, none⟩)) := cell_row (j := 4) R7.out.ob rfl
          have lg := heap_lt R7.out.ob
          have a4 : w7.cell? ⟨u.r.g, 4, none⟩ = some (.slice (some ⟨u.r.rb, 0, none⟩) N N) := by rw [HNN.out, ← HT.out]; exact cell_row (j := 4) R7.out.au.obj rfl
          have lag := heap_lt R7.out.au.obj
          gi_wp2_with (fail)
          clear c3 l3 g4 lg a4 lag R7
          gi_loopw [158] (fun i wr => ∃ k : Nat, k ≤ N ∧ i = .int .i64 k ∧ AlB w u.g xb rb ab N wr ∧ wr.heap[D]? = some (.deferred (some []))) (fun i _ => N - (intOf i).toNat)
          case atStart => exact ⟨0, Nat.zero_le _, rfl, A7.out, D7.out⟩
          case round =>
            clear A7 D7
            obtain ⟨k, hk, rfl, hal, hdd⟩ := hrel
            obtain ⟨w7, rfl⟩ : ∃ w7 : World, w7 = wr := ⟨_, rfl⟩
            have A7 := Lib.hid hal; have D7 := Lib.hid hdd
            clear hal hdd
            by_cases hlt : k < N
            case pos =>
              have R7 := Lib.hid (HR.out.below A7.out.bel)
              have hkr : k < u.r.T.rts.length := by rw [HT.out, ← HNN.out]; exact hlt
              have c3 := cell_row (j := 0) A7.out.x rfl
              have l3 := heap_lt A7.out.x
              have g4 : w7.cell? ⟨u.g, 4, none⟩ = some (.pointer (some ⟨u.r.g, 0, none⟩)) := cell_row (j := 4) R7.out.ob rfl
              have lg := heap_lt R7.out.ob
              have a4 : w7.cell? ⟨u.r.g, 4, none⟩ = some (.slice (some ⟨u.r.rb, 0, none⟩) N N) := by rw [HNN.out, ← HT.out]; exact cell_row (j := 4) R7.out.au.obj rfl
              have lag := heap_lt R7.out.au.obj
              have p0 := R7.out.au.rs.cell (i := k * 4) (by omega)
              rw [r27V_0] at p0
              have lrb := R7.out.au.rs.lt
              have hph := (R7.out.au.nf k hkr).ph
              have HRT : Hid (∀ W, AlB w u.g xb rb ab N W → Calls Try.prog 11 #[.pointer (some ⟨y.g, 0, none⟩), .int .i64 (k : Int)] W fun e w' => e = .returned (Y.A.R k).val ∧ Below W.heap.size W w') := fun W hW => by
                have h := yroute_any y Y (k : Int) W (HY.out.below hW.bel) (by have := HTK.out.n; omega)
                have hat : Y.A.at y.u.T.rts.length (k : Int) = Y.A.R k := by unfold AS.at; rw [if_pos ⟨by omega, by rw [← HNN.out]; omega⟩]; rfl
                rw [hat] at h
                exact h
              clear hkr R7
              obtain ⟨r, hr⟩ : ∃ r, r = Y.A.R k := ⟨_, rfl⟩
              rw [← hr] at HRT p0 hph
              clear hr
              obtain ⟨ph, tm, us, rl⟩ := r
              unfold RS.val at HRT
              dsimp only at HRT p0 hph
              have hf : ∀ W, (Instr.field 43 (.agg #[.int .u8 (ph : Int), .int .u16 (tm : Int), .int .u32 (us : Int), .int .u32 (rl : Int)]) 0).run Try.prog W = .ok (.int .u8 (ph : Int)) W := fun W => by kernel_rfl
              gi_wp2_with (fail)
              refine wpIn_wide.2 ?_
              obtain ⟨U, fU, hUn, hU1, hU2⟩ := class_of (fun V => Below w7.heap.size w7 V) (W := w7.drew) ⟨rfl, rfl, rfl, Nat.le_refl _, fun _ _ => rfl⟩
              have HU1 := Lib.hid hU1; have HU2 := Lib.hid hU2
              clear hU1 hU2
              have hfm : (Try.prog).follows .mixedOrders = true := by kernel_rfl
              obtain ⟨q, hd1⟩ : ∃ q : Nat, 1 ≤ q := ⟨1, Nat.le_refl _⟩
              have y3 := fun uu => ((HU1.out uu).cell l3).trans c3
              have y4 := fun uu => ((HU1.out uu).cell lg).trans g4
              have y5 := fun uu => ((HU1.out uu).cell lag).trans a4
              have y6 := fun uu => ((HU1.out uu).cell lrb).trans p0
              have h0_HC1 : ∀ uu, Calls Try.prog 11 #[.pointer (some ⟨y.g, 0, none⟩), .int .i64 (k : Int)] (fU uu) fun e w' => e = .returned (.agg #[.int .u8 (ph : Int), .int .u16 (tm : Int), .int .u32 (us : Int), .int .u32 (rl : Int)]) ∧ Below (fU uu).heap.size (fU uu) w' := fun uu => HRT.out _ (A7.out.below (HU1.out uu))
              have HC1 : Hid (∀ uu, CallsIn Fence.wide (q - 1) Try.prog 11 #[.pointer (some ⟨y.g, 0, none⟩), .int .i64 (k : Int)] (fU uu) fun e w' => e = .returned (.agg #[.int .u8 (ph : Int), .int .u16 (tm : Int), .int .u32 (us : Int), .int .u32 (rl : Int)]) ∧ ∃ uu', w' = fU uu') := fun uu => (callsIn_wide.2 (h0_HC1 uu)).mono (fun e w' ⟨he, hb⟩ => ⟨he, HU2.out _ ((HU1.out uu).trans (hb.mono (HU1.out uu).size))⟩)
              have hf_HC1 : Fence.wide.fn 11 := trivial
              clear h0_HC1
              clear c3 l3 g4 lg a4 lag p0 lrb
              refine (wpIn_wide (n := q)).1 ?_
              refine wpIn_region_cls fU (by kernel_rfl) hfm (by kernel_rfl) (HU2.out _ ⟨rfl, rfl, rfl, Nat.le_refl _, fun _ _ => rfl⟩) ?_
              repeat (gi_big_quiet_step ((gi_at_call 11; (with_reducible exact HC1.out _))))
              refine wpQuietIn_nil ?_
              rintro w8 ⟨uu, rfl⟩
              have A8 := Lib.hid (A7.out.below (HU1.out uu))
              have D8 : Hid ((fU uu).heap[D]? = _) := kept D7.out (HU1.out uu)
              generalize fU uu = w8 at *
              clear HU1 HU2 HC1 HRT A7 D7 y3 y4 y5 y6 hf
              gi_wp2_with (fail)
              go_roundw
              case rel => exact ⟨k + 1, by omega, by go_num, A8.out, D8.out⟩
              case measure => simp [intOf]; omega
            case neg =>
            obtain rfl : N = k := by omega
            have R7 := Lib.hid (HR.out.below A7.out.bel)
            have c3 := cell_row (j := 0) A7.out.x rfl
            have l3 := heap_lt A7.out.x
            have gB : w7.cell? ⟨u.g, 12, none⟩ = some (.slice (some ⟨u.tb, 0, none⟩) M M) := by rw [HMM.out, ← HT.out]; exact cell_row (j := 12) R7.out.ob rfl
            have lg := heap_lt R7.out.ob
            have g0 : w7.cell? ⟨u.g, 0, none⟩ = some (.int .i64 (tk : Int)) := by rw [← HTE.out, ← HT.out]; exact cell_row (j := 0) R7.out.ob rfl
            have HP1 : Hid (∀ W, AlB w u.g xb rb ab N W → Calls Try.prog 20 #[.pointer (some ⟨y.g, 0, none⟩), .int .i64 (-1)] W fun e w' => e = .returned (.int .u8 0) ∧ w' = W) := fun W hW => by
              have h := ypoint_any y Y (-1) W (HY.out.below hW.bel) (by have := HTK.out.p; omega)
              have e : pointI y.u.T.pts.length Y.pn (-1) = 0 := if_neg (by omega)
              rw [e] at h; exact h
            have HP2 : Hid (∀ W, AlB w u.g xb rb ab N W → Calls Try.prog 20 #[.pointer (some ⟨y.g, 0, none⟩), .int .i64 (M : Int)] W fun e w' => e = .returned (.int .u8 0) ∧ w' = W) := fun W hW => by
              have h := ypoint_any y Y (M : Int) W (HY.out.below hW.bel) (by have := HTK.out.p; omega)
              have e : pointI y.u.T.pts.length Y.pn (M : Int) = 0 := if_neg (by rw [← HMM.out]; omega)
              rw [e] at h; exact h
            have HK1 : Hid (∀ W, AlB w u.g xb rb ab N W → Calls Try.prog 12 #[.pointer (some ⟨y.g, 0, none⟩), .int .i64 (-1)] W fun e w' => e = .returned (.bool false) ∧ Below W.heap.size W w') := fun W hW => by
              have h := yclear_any y Y (-1) W (HY.out.below hW.bel) HTK.out (fun n hn hi => ⟨(HO.out n hn hi).1, (HO.out n hn hi).2.2⟩)
              have e : clearB y.u.T Y.tn (-1) = false := by unfold clearB; rw [decide_eq_false (by omega)]; rfl
              rw [e] at h; exact h
            have HK2 : Hid (∀ W, AlB w u.g xb rb ab N W → Calls Try.prog 12 #[.pointer (some ⟨y.g, 0, none⟩), .int .i64 (tk : Int)] W fun e w' => e = .returned (.bool false) ∧ Below W.heap.size W w') := fun W hW => by
              have h := yclear_any y Y (tk : Int) W (HY.out.below hW.bel) HTK.out (fun n hn hi => ⟨(HO.out n hn hi).1, (HO.out n hn hi).2.2⟩)
              have e : clearB y.u.T Y.tn (tk : Int) = false := by
                unfold clearB; rw [decide_eq_false (show ¬ (tk : Int) < y.u.T.tracks by rw [HTE.out]; exact Int.lt_irrefl _), Bool.false_and, Bool.and_false]
              rw [e] at h; exact h
            gi_wp2_with (fail)
            refine ⟨trivial, (callsIn_wide.2 (HP1.out _ A7.out)).mono ?_⟩
            rintro e w8 ⟨rfl, hw8⟩
            obtain rfl : w7 = w8 := hw8.symm
            gi_wp2_with (fail)
            refine ⟨trivial, (callsIn_wide.2 (HP2.out _ A7.out)).mono ?_⟩
            rintro e w8 ⟨rfl, hw8⟩
            obtain rfl : w7 = w8 := hw8.symm
            clear gB c3 l3 lg g0 R7
            gi_wp2_with (fail)
            refine ⟨trivial, (callsIn_wide.2 (HK1.out _ A7.out)).mono ?_⟩
            rintro e w8 ⟨rfl, hb8⟩
            have A8 := Lib.hid (A7.out.below hb8)
            have D8 := Lib.hid (kept D7.out hb8)
            clear hb8 A7 D7
            have R8 := Lib.hid (HR.out.below A8.out.bel)
            have c3 := cell_row (j := 0) A8.out.x rfl
            have l3 := heap_lt A8.out.x
            have lg := heap_lt R8.out.ob
            have g0 : w8.cell? ⟨u.g, 0, none⟩ = some (.int .i64 (tk : Int)) := by rw [← HTE.out, ← HT.out]; exact cell_row (j := 0) R8.out.ob rfl
            gi_wp2_with (fail)
            refine ⟨trivial, (callsIn_wide.2 (HK2.out _ A8.out)).mono ?_⟩
            rintro e w9 ⟨rfl, hb9⟩
            have A9 := Lib.hid (A8.out.below hb9)
            have D9 := Lib.hid (kept D8.out hb9)
            clear hb9 A8 D8 c3 l3 lg g0 R8
            have z0 := cell_row (j := 0) A9.out.r rfl
            have zf0 : w9.frozen? ⟨rb, 0, none⟩ = false := frozen_of_row _ _ _ _ _ A9.out.r
            have lr := heap_lt A9.out.r
            gi_wp2_with (fail)
            have hDr : D ≠ rb := by have := HDC.out; have := HCL.out; omega
            have hK16 : (w9.setCell ⟨rb, 0, none⟩ (.bool true)).heap[D]? = some (.deferred (some [])) := (heap_setCell_other _ _ _ _ (by show ¬ _ = _; dsimp only; exact hDr)).trans D9.out
            have hR16 : (w9.setCell ⟨rb, 0, none⟩ (.bool true)).heap[rb]? = some (.cells #[.bool true] 4 (0, 0)) := heap_setCell_same w9 rb 0 _ _ (.bool true) A9.out.r
            have hB16 : Below w.heap.size w (w9.setCell ⟨rb, 0, none⟩ (.bool true)) := A9.out.bel.setCell (p := ⟨rb, 0, none⟩) HBK.out.2.2.2.2 _
            generalize w9.setCell ⟨rb, 0, none⟩ (.bool true) = w16 at *
            clear z0 zf0 lr A9 D9
            refine ⟨by simp, .inl ⟨_, _, rfl, run_takeDeferred hK16, ?_⟩⟩
            have hR17 : (w16.putObj D (.deferred none)).heap[rb]? = some (.cells #[.bool true] 4 (0, 0)) := (World.putObj_heap_other (Ne.symm hDr)).trans hR16
            have x0 := cell_row (j := 0) hR17 rfl
            have lx := heap_lt hR17
            have hB17 : Below w.heap.size w (w16.putObj D (.deferred none)) := hB16.grown (grownBy_putObj' w16 D (.deferred none)) hB16.size (fun j e => by
              cases e
              have := HDC.out; have := HCL.out; omega)
            generalize w16.putObj D (.deferred none) = w17 at *
            refine ⟨.bool true, by simp [results, Try.f18, go_sem, x0, lx], rfl, hB17⟩
theorem alike_any (y : Yd) (u : Rd) (Y : YS) (ub lb bs : Nat → Nat) (w : World) (H : YdAt w y Y) (R : RdAt w u Y ub lb bs) (hT : u.r.T = y.u.T) (hTK : TOk y.u.T) (hN0 : 0 < y.u.T.rts.length) (htk : 0 ≤ y.u.T.tracks ∧ y.u.T.tracks ≤ 24) (ho : Ord3 y.u.T Y.tn) (hp : ∀ p, (Y.pn p).sd < 256) :
    Calls Try.prog 18 #[.pointer (some ⟨y.g, 0, none⟩), .pointer (some ⟨u.g, 0, none⟩)] w fun e w' => e = .returned (.bool true) ∧ Below w.heap.size w w' :=
  (callsIn_wide (n := 4)).1 (alike_in 0 y u Y ub lb bs w H R hT hTK hN0 htk ho hp)
end Go.Proofs.Ytnjeiigdfdjccaa
