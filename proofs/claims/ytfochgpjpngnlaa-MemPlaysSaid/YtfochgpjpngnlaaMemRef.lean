/- The document's memory: there, Put, Zero, Get. -/
import Derived.Test.YtfochgpjpngnlaaMemLoad
import Derived.Test.YtfochgpjpngnlaaMemNew
namespace Go.Proofs.Ytfochgpjpngnlaa
open Go.RowKit
set_option linter.unusedVariables false
def thereB (n at_ k : Nat) : Bool := decide (k = 0 ∨ at_ + k ≤ n)
theorem partE_there (n at_ k : Nat) : partE n at_ k = if thereB n at_ k then 0 else 5 := by
  unfold partE thereB
  by_cases h : k = 0
  · simp [h]
  · by_cases h2 : n < at_ + k
    · rw [if_neg h, if_pos h2, if_neg]; simp; omega
    · rw [if_neg h, if_neg h2, if_pos]; simp; omega
theorem partM_there (n at_ k : Nat) : partM n at_ k = if thereB n at_ k then k else 0 := by
  unfold partM thereB
  by_cases h : k = 0
  · simp [h]
  · by_cases h2 : n < at_ + k
    · rw [if_pos h2, if_neg]; simp; omega
    · rw [if_neg h2, if_pos]; simp; omega
set_option maxHeartbeats 2000000 in
theorem there_any (M : MS) (at_ k : Nat) (w : World) (h : MemAt w 48 M) (h1 : at_ < 4294967296) (h2 : k ≤ 9223372036854775807) :
    Calls Try.prog 27 #[.pointer (some ⟨M.g, 0, none⟩), .int .u64 (at_ : Int), .int .u64 (k : Int)] w fun e w' => e = .returned (.bool (thereB M.n at_ k)) ∧ w = w' := by
  have hn := h.n
  have c0 := h.cell
  have hg := heap_lt h.obj
  obtain ⟨a, c, hv, k1, k2, k3⟩ := h.sl
  rw [hv] at c0
  clear hv k3 h
  by_cases hk : k = 0
  · have e1 : thereB M.n at_ k = true := by unfold thereB; simp [hk]
    rw [e1]
    have t1 : ((k : Int) == 0) = true := by simpa using hk
    clear e1
    go_enter Try.func27, Try.ntmps27
    go_wp2_with fail
    go_ret
    exact ⟨rfl, rfl⟩
  · have t1 : ((k : Int) == 0) = false := by simpa using hk
    have hs : ((at_ : Int) + (k : Int)) < 18446744073709551616 := by omega
    have hs0 : (0 : Int) ≤ (at_ : Int) + (k : Int) - 1 := by omega
    have hs1 : (at_ : Int) + (k : Int) - 1 < 18446744073709551616 := by omega
    obtain ⟨b, hb⟩ : ∃ b, b = thereB M.n at_ k := ⟨_, rfl⟩
    have t2 : decide ((at_ : Int) + (k : Int) - 1 < (M.n : Int)) = b := by rw [hb]; unfold thereB; rw [decide_eq_decide]; omega
    rw [← hb]
    clear hb hk
    go_enter Try.func27, Try.ntmps27
    go_wp2_with fail
    go_ret
    exact ⟨rfl, rfl⟩
theorem MemAt.drew {w : World} {T : TypeId} {M : MS} (h : MemAt w T M) : MemAt w.drew T M := ⟨h.obj, h.sl, h.n, h.lt, h.ne⟩
def PutPost (T : TypeId) (M : MS) (at_ k : Nat) (X : Nat → Nat) (w : World) (e : Ending) (w' : World) : Prop := e = .returned (.int .i64 (partE M.n at_ k)) ∧ MemAt w' T (M.put at_ (partM M.n at_ k) X) ∧ Only M.W w w'
set_option maxHeartbeats 4000000 in
theorem rput_any (M : MS) (at_ : Nat) (s : Option Addr) (k c : Nat) (X : Nat → Nat) (w : World) (h : MemAt w 48 M) (h1 : at_ < 4294967296) (h2 : k ≤ 9223372036854775807) (hX : ∀ V, Only M.W w V → SliceAt V s k (bV X)) (hl : ∀ i, X i < 256) :
    Calls Try.prog 14 #[.pointer (some ⟨M.g, 0, none⟩), .int .u32 (at_ : Int), .slice s k c] w (PutPost 48 M at_ k X w) := by
  have H := Lib.hid h; have HX := Lib.hid hX; have HL := Lib.hid hl
  have HT := Lib.hid (there_any M at_ k w h h1 h2)
  have hn := h.n
  clear h hX hl
  cases hb : thereB M.n at_ k
  case false =>
    rw [hb] at HT
    have HR : Hid (PutPost 48 M at_ k X w (.returned (.int .i64 5)) w) := ⟨by rw [partE_there, hb]; rfl, by rw [partM_there, hb]; simp only [Bool.false_eq_true, if_false]; rw [put_zero]; exact H.out, Only.refl _ _⟩
    clear hb
    go_enter Try.func14, Try.ntmps14
    go_wp2_with fail
    refine HT.out.mono ?_
    rintro e w' ⟨rfl, rfl⟩
    go_wp2_with fail
    go_ret
    exact HR.out
  case true =>
    rw [hb] at HT
    have HR : Hid (∀ V, MemAt V 48 (M.put at_ k X) → Only M.W w V → PutPost 48 M at_ k X w (.returned (.int .i64 0)) V) := fun V hV hO => ⟨by rw [partE_there, hb]; rfl, by rw [partM_there, hb]; exact hV, hO⟩
    have hfit : k = 0 ∨ at_ + k ≤ M.n := by unfold thereB at hb; simpa using hb
    have HZ : Hid (MemAt w 48 (M.put at_ 0 X)) := by rw [put_zero]; exact H.out
    clear hb
    go_enter Try.func14, Try.ntmps14
    go_wp2_with fail
    refine HT.out.mono ?_
    rintro e w' ⟨rfl, rfl⟩
    clear HT
    go_wp2_with fail
    go_loopw [7] (fun i wr => ∃ j : Nat, j ≤ k ∧ i = .int .i64 j ∧ MemAt wr 48 (M.put at_ j X) ∧ Only M.W w wr) (fun i _ => k - (intOf i).toNat)
    case atStart => exact ⟨0, Nat.zero_le _, rfl, HZ.out, Only.refl _ _⟩
    case round =>
      obtain ⟨j, hj, rfl, r1, r2⟩ := hrel
      have HJ := Lib.hid r1; have OJ := Lib.hid r2
      clear r1 r2
      by_cases hlt : j < k
      · have hji : (j : Int) < (k : Int) := by omega
        have hj0 : (0 : Int) ≤ (j : Int) := by omega
        have ha0 : (0 : Int) ≤ (at_ : Int) + (j : Int) := by omega
        have ha1 : (at_ : Int) + (j : Int) < (M.n : Int) := by omega
        have ha2 : at_ + j < M.n := by omega
        obtain ⟨sb, so, rfl, -, -⟩ := (HX.out w (Only.refl _ _)).at (by omega)
        obtain ⟨a1, c1, e1, e2, e3, e4⟩ := HJ.out.sl
        obtain rfl : a1 = some ⟨M.b, 0, none⟩ := (e4 (by show 0 < M.n; omega)).1
        have e1' : M.v = .slice (some ⟨M.b, 0, none⟩) M.n c1 := e1
        have HE := Lib.hid e1'
        clear e1 e1' e2 e3 e4
        obtain ⟨U, G, hUn, hU1, hU2⟩ := class_of (fun V => MemAt V 48 (M.put at_ j X) ∧ Only M.W w V) (W := wr.drew) ⟨HJ.out.drew, OJ.out.drew⟩
        have qM : ∀ u, (G u).cell? ⟨M.g, 0, none⟩ = some (.slice (some ⟨M.b, 0, none⟩) M.n c1) := fun u => by rw [← HE.out]; exact (hU1 u).1.cell
        have qX : ∀ u, (G u).cell? ⟨sb, so + j, none⟩ = some (.int .u8 ((X j : Nat) : Int)) := fun u => by
          obtain ⟨sb', so', e, -, hc⟩ := (HX.out _ (hU1 u).2).at (by omega)
          cases e
          exact hc j hlt
        have HU1 := Lib.hid hU1; have HU2 := Lib.hid hU2
        clear hU1 hU2
        have hfm : (Try.prog).follows .mixedOrders = true := by kernel_rfl
        go_wp2_with fail
        obtain ⟨m, hm⟩ : ∃ m : Nat, 4 ≤ m := ⟨4, Nat.le_refl _⟩
        refine (wpIn_wide (n := m)).1 ?_
        refine wpIn_region_tail_at 13 G hfm rfl (by kernel_rfl) (HU2.out _ ⟨HJ.out.drew, OJ.out.drew⟩) ?_
        simp only [List.take_succ_cons, List.take_zero, List.getD_cons_succ, List.getD_cons_zero]
        repeat (gi_big_quiet_step (fail))
        refine wpQuietIn_nil ?_
        intro u
        obtain ⟨z1, z2⟩ := HU1.out u
        have FV := Lib.hid z1; have OV := Lib.hid z2
        clear z1 z2 qM qX HU1 HU2
        generalize G u = V at *
        clear G hUn
        obtain ⟨a', c', e1, e2, e3, e4⟩ := FV.out.sl
        have hrow := (e4 (show 0 < M.n by omega)).2
        have e6 : V.cell? ⟨M.b, at_ + j, none⟩ = some (bV (M.put at_ j X).B (at_ + j)) := hrow.cell ha2
        have f6 : V.frozen? ⟨M.b, at_ + j, none⟩ = false := hrow.frozen _
        unfold bV at e6
        generalize (M.put at_ j X).B (at_ + j) = old at *
        clear hrow e1 e2 e3 e4
        unfold Oper.wpIn
        go_simp
        clear e6 f6
        go_wp2_with fail
        go_roundw
        case rel => exact ⟨j + 1, by omega, by go_num, FV.out.put1 HL.out ha2, OV.out.set _ _ (.inr ⟨by omega, rfl⟩)⟩
        case measure => simp [intOf]; omega
      · obtain rfl : j = k := by omega
        go_wp2_with fail
        go_ret
        exact HR.out _ HJ.out OJ.out
set_option maxHeartbeats 2000000 in
theorem rzero_any (M : MS) (at_ k : Nat) (w : World) (h : MemAt w 48 M) (h1 : at_ < 4294967296) (h2 : k < 4294967296) :
    Calls Try.prog 12 #[.pointer (some ⟨M.g, 0, none⟩), .int .u32 (at_ : Int), .int .u32 (k : Int)] w (PutPost 48 M at_ k (fun _ => 0) w) := by
  have H := Lib.hid h
  have HT := Lib.hid (there_any M at_ k w h h1 (by omega))
  have hn := h.n
  cases hb : thereB M.n at_ k
  case false =>
    clear h
    rw [hb] at HT
    have HR : Hid (PutPost 48 M at_ k (fun _ => 0) w (.returned (.int .i64 5)) w) := ⟨by rw [partE_there, hb]; rfl, by rw [partM_there, hb]; simp only [Bool.false_eq_true, if_false]; rw [put_zero]; exact H.out, Only.refl _ _⟩
    clear hb
    go_enter Try.func12, Try.ntmps12
    go_wp2_with fail
    refine HT.out.mono ?_
    rintro e w' ⟨rfl, rfl⟩
    go_wp2_with fail
    go_ret
    exact HR.out
  case true =>
    rw [hb] at HT
    have hfit : k = 0 ∨ at_ + k ≤ M.n := by unfold thereB at hb; simpa using hb
    have hk : k ≤ 262144 := by omega
    have hmk := fun w => run_make_row' (P := Try.prog) 35 5 (.int .u8 0) 1 Try.underlying35 infoU8 rfl .u32 .u32 k (by omega) (by omega) w
    have HA : Hid (Below w.heap.size w (w.alloc (.cells (madeCells #[.int .u8 0] k) 5))) := alloc_below _ _
    have HP := Lib.hid (rput_any M at_ (some ⟨w.heap.size, 0, none⟩) k k (fun _ => 0) (w.alloc (.cells (madeCells #[.int .u8 0] k) 5)) (h.below HA.out) h1 (by omega) (fun V hV => by
      obtain ⟨a, c, e, -, -, hs⟩ := (made_row w (.int .u8 0) 5 k (by unfold maxLen; omega)).slice
      cases e
      refine SliceAt.only hs hV fun b off e hb hM => ?_
      cases e
      have h3 := h.sl.lt hM.1
      have h4 : w.heap.size = M.b := hM.2
      omega) (fun _ => by omega))
    clear h hb
    go_enter Try.func12, Try.ntmps12
    go_wp2_with fail
    refine HT.out.mono ?_
    rintro e w' ⟨rfl, rfl⟩
    clear HT
    go_wp2_with fail
    refine HP.out.mono ?_
    rintro e w1 ⟨rfl, hm, ho⟩
    have HM := Lib.hid hm
    have HO : Hid (Only M.W w w1) := (Only.of_below _ HA.out).trans ho
    clear hm ho HP
    go_wp2_with fail
    go_ret
    exact ⟨rfl, HM.out, HO.out⟩
theorem new_one (W : World) (x : Value) (t : TypeId) : ∀ j u, [x][j]? = some u → (W.alloc (.cells #[x] t)).cell? ((⟨W.heap.size, 0, none⟩ : Addr).add j) = some u := by
  intro j u h
  rw [Go.WideShapes.add_plain, Nat.zero_add]
  refine cell_row (heap_alloc_new _ _) ?_
  match j, h with
  | 0, h => simpa using h
  | j + 1, h => simp at h
def GetPost (M : MS) (at_ k : Nat) (w : World) (e : Ending) (w' : World) : Prop := ∃ v, e = .returned (.tuple #[v, .int .i64 (partE M.n at_ k)]) ∧ GotAt w w' v (partM M.n at_ k) (fun i => M.B (at_ + i))
def bVs (f : Nat → Nat) (j : Nat) : List Value := (List.range j).map (bV f)
theorem bVs_succ (f : Nat → Nat) (j : Nat) : bVs f (j + 1) = bVs f j ++ [bV f j] := by unfold bVs; rw [List.range_succ, List.map_append]; rfl
theorem GotAt.nil (w w' : World) (X : Nat → Nat) (h : Below w.heap.size w w') : GotAt w w' (.slice none 0 0) 0 X := ⟨⟨0, ⟨none, 0, rfl, Nat.le_refl _, by unfold maxLen; omega, fun hp => absurd hp (by omega)⟩, fun hp => absurd hp (by omega)⟩, h⟩
theorem own_ge {w : World} {base : Nat} {t : TypeId} {v : Value} {n : Nat} {xs : List Value} (h : w.ownsRow base t 1 v n xs) : ∀ k, v.ownBlock = some k → base ≤ k ∧ k < w.heap.size := by
  intro k e
  rcases h.2 with ⟨h1, _⟩ | ⟨g, c, cur, h1, h2, h3, _⟩
  · subst h1; cases e
  · subst h1; cases e; exact ⟨h2, heap_lt h3⟩
set_option maxHeartbeats 4000000 in
theorem rget_any (M : MS) (at_ k : Nat) (w : World) (h : MemAt w 48 M) (h1 : at_ < 4294967296) (h2 : k < 4294967296) :
    Calls Try.prog 16 #[.pointer (some ⟨M.g, 0, none⟩), .int .u32 (at_ : Int), .int .u32 (k : Int)] w (GetPost M at_ k w) := by
  have H := Lib.hid h
  have HT := Lib.hid (there_any M at_ k w h h1 (by omega))
  have hn := h.n
  clear h
  cases hb : thereB M.n at_ k
  case false =>
    rw [hb] at HT
    have HR : Hid (GetPost M at_ k w (.returned (.tuple #[.slice none 0 0, .int .i64 5])) w) := ⟨_, by rw [partE_there, hb]; rfl, by rw [partM_there, hb]; exact GotAt.nil _ _ _ (Below.refl _ _)⟩
    clear hb
    go_enter Try.func16, Try.ntmps16
    go_wp2_with fail
    refine HT.out.mono ?_
    rintro e w' ⟨rfl, rfl⟩
    go_wp2_with fail
    go_ret2
    exact HR.out
  case true =>
    rw [hb] at HT
    have hfit : k = 0 ∨ at_ + k ≤ M.n := by unfold thereB at hb; simpa using hb
    have HR : Hid (∀ v V, V.ownsRow w.heap.size 5 1 v k (bVs (fun i => M.B (at_ + i)) k) → Below w.heap.size w V → GetPost M at_ k w (.returned (.tuple #[v, .int .i64 0])) V) := fun v V hv hV => ⟨v, by rw [partE_there, hb]; rfl, by rw [partM_there, hb, if_pos rfl]; exact ⟨SlAt.of_own hv (fun i hi => by unfold bVs; simp [hi]), hV⟩⟩
    obtain ⟨i0, hi, hz0, hz1, hz2⟩ := info_parts infoU8
    have HIn := Lib.hid hi; have HZ0 := Lib.hid hz0; have HZ1 := Lib.hid hz1; have HZ2 := Lib.hid hz2
    clear hi hz0 hz1 hz2 hb
    go_enter Try.func16, Try.ntmps16
    go_wp2_with fail
    refine HT.out.mono ?_
    rintro e w' ⟨rfl, rfl⟩
    clear HT
    go_wp2_with fail
    go_loopw [8, 9] (fun v i wr => ∃ (j : Nat) (o : Option Addr) (cp : Nat), j ≤ k ∧ v = .slice o j cp ∧ i = .int .i64 j ∧ wr.ownsRow w.heap.size 5 1 (.slice o j cp) j (bVs (fun i => M.B (at_ + i)) j) ∧ Below w.heap.size w wr) (fun _ i _ => k - (intOf i).toNat)
    case atStart => exact ⟨0, none, 0, Nat.zero_le _, rfl, rfl, World.ownsRow_nil _ _ _ _, Below.refl _ _⟩
    case round =>
      obtain ⟨j, o0, cp0, hj, rfl, rfl, r1, r2⟩ := hrel
      have HO := Lib.hid r1; have HB := Lib.hid r2
      clear r1 r2
      by_cases hlt : j < k
      · have hji : (j : Int) < (k : Int) := by omega
        have ha1 : (at_ : Int) + (j : Int) < (M.n : Int) := by omega
        have HJ := Lib.hid (H.out.below HB.out)
        have c0 := HJ.out.cell
        obtain ⟨a1, c1, e1, e2, e3, e4⟩ := HJ.out.sl
        obtain ⟨rfl, e5⟩ := e4 (by omega)
        have c2 : wr.cell? ⟨M.b, at_ + j, none⟩ = some (.int .u8 ((M.B (at_ + j) : Nat) : Int)) := e5.cell (by omega)
        rw [e1] at c0
        clear e1 e2 e3 e4 e5
        have hne := HB.out.size
        have HS : Hid (bVs (fun i => M.B (at_ + i)) (j + 1) = bVs (fun i => M.B (at_ + i)) j ++ [.int .u8 ((M.B (at_ + j) : Nat) : Int)]) := bVs_succ _ _
        generalize M.B (at_ + j) = cc at *
        go_wp2_with (at_builtin; refine wpList_append_own _ rfl _ _ 35 rfl w.heap.size 5 i0 (.int .u8 0) 1 1 Try.underlying35 HIn.out HZ0.out HZ1.out HZ2.out rfl (by decide) _ j (bVs (fun i => M.B (at_ + i)) j) rfl (HO.out.alloc _) ⟨wr.heap.size, 0, none⟩ 1 1 [.int .u8 (cc : Int)] rfl rfl ?c1 ?c2 ?c3 ?c4 ?c5 ?_)
        case c1 => exact new_one _ _ _
        case c2 => intro u hu; simp at hu; rcases hu with rfl; rfl
        case c3 => unfold maxLen; omega
        case c4 => omega
        case c5 => first | omega | (simp; omega)
        intro v' w1 hown hgr _
        have hge := own_ge HO.out
        have G2 : Hid (Below w.heap.size w w1) := (HB.out.alloc hne _).grown hgr (by first | omega | (simp; omega)) (fun k e => (hge k e).1)
        have G3 : Hid (w1.ownsRow w.heap.size 5 1 v' (j + 1) (bVs (fun i => M.B (at_ + i)) (j + 1))) := by rw [HS.out]; exact hown
        obtain ⟨o, cp, rfl⟩ : ∃ o cp, v' = .slice (some ⟨o, 0, none⟩) (j + 1) cp := by
          rcases hown.2 with ⟨_, h0⟩ | ⟨o, c, _, hv, _⟩
          · omega
          · exact ⟨o, c, hv⟩
        clear hown hgr hge
        go_wp2_with fail
        go_roundw
        case rel => exact ⟨j + 1, _, _, by omega, rfl, by go_num, G3.out, G2.out⟩
        case measure => simp [intOf]; omega
      · obtain rfl : j = k := by omega
        go_wp2_with fail
        go_ret2
        exact HR.out _ _ HO.out HB.out
end Go.Proofs.Ytfochgpjpngnlaa
