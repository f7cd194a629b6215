/- slices.Clone and slices.SortFunc at regions. -/
import Derived.Test.YteekneicahfkpaaRigK
import Derived.Test.YteekneicahfkpaaRigP
import Derived.Shelf.SlSortCmp.NoneTotal
import Derived.WalkSpells
namespace Go.Proofs.Yteekneicahfkpaa
open Go.Shelf Go.RowKit Go.Lib Go.Sort
set_option linter.unusedVariables false
/-- The cells of n elements, one behind the other. -/
def flatC (sz n : Nat) (C : Nat → Nat → Value) : List Value := (List.range (n * sz)).map fun j => C (j / sz) (j % sz)
theorem flatC_len (sz n : Nat) (C : Nat → Nat → Value) : (flatC sz n C).length = n * sz := by simp [flatC]
theorem flatC_get (sz n : Nat) (C : Nat → Nat → Value) {j : Nat} (h : j < n * sz) : (flatC sz n C)[j]? = some (C (j / sz) (j % sz)) := by simp [flatC, h]
theorem flatC_at (sz n : Nat) (C : Nat → Nat → Value) {i j : Nat} (hi : i < n) (hj : j < sz) : (flatC sz n C)[i * sz + j]? = some (C i j) := by
  have h1 : (i * sz + j) / sz = i := (blk_iff sz i _ (by omega)).1 ⟨by omega, by omega⟩
  have h2 : (i * sz + j) % sz = j := by rw [Nat.mod_eq_sub_div_mul, h1]; omega
  have h3 : i * sz + j < n * sz := by
    have := Nat.mul_le_mul_right sz (show i + 1 ≤ n from hi)
    rw [Nat.add_mul, Nat.one_mul] at this; omega
  rw [flatC_get sz n C h3, h1, h2]
theorem flatC_congr (sz n : Nat) {C D : Nat → Nat → Value} (h : ∀ i, i < n → ∀ j, C i j = D i j) : flatC sz n C = flatC sz n D := by
  apply List.map_congr_left
  intro j hj
  have hj' : j < n * sz := by simpa using hj
  exact h _ (Nat.div_lt_of_lt_mul (by rw [Nat.mul_comm]; exact hj')) _
theorem SliceN.flat {w : World} {a : Option Addr} {n sz : Nat} {C : Nat → Nat → Value} (h : SliceN w a n sz C) {b off : Nat} (ha : a = some ⟨b, off, none⟩) {j : Nat} (hj : j < n * sz) : w.cell? ⟨b, off + j, none⟩ = some (C (j / sz) (j % sz)) := by
  have hsz : 0 < sz := by rcases Nat.eq_zero_or_pos sz with h | h; · subst h; omega
                          · exact h
  have hn : j / sz < n := Nat.div_lt_of_lt_mul (by rw [Nat.mul_comm]; exact hj)
  have hn0 : 0 < n := Nat.lt_of_le_of_lt (Nat.zero_le _) hn
  obtain ⟨b', off', e, _, hc⟩ := h.at hn0
  rw [ha] at e; cases e
  have := hc (j / sz) hn (j % sz) (Nat.mod_lt _ hsz)
  rw [Nat.add_assoc, Nat.div_add_mod'] at this
  exact this
def regC (L : Nat → Reg) : Nat → Nat → Value := fun i j => regV (L i) j
theorem regV_one (r : Reg) (j : Nat) : (regV r j).oneCell' = true := by
  unfold regV
  split
  · rfl
  · split <;> rfl
theorem infoR : (Try.prog.info? 24).map (fun i => (i.zero, i.size, i.bytes)) = some (some (.agg #[.int .u32 0, .int .u32 0, .int .u8 0]), 3, 12) := by kernel_rfl
theorem RegsAt.flat_at {w : World} {ad : Addr} {n : Nat} {L : Nat → Reg} (h : RegsAt w (some ad) n L) : ∀ j u, (flatC 3 n (regC L))[j]? = some u → w.cell? (ad.add j) = some u := by
  intro j u hu
  have hj : j < n * 3 := by
    by_cases e : j < n * 3
    · exact e
    · rw [List.getElem?_eq_none (by rw [flatC_len]; omega)] at hu; cases hu
  have hn : 0 < n := by omega
  obtain ⟨b, off, e, _⟩ := h.1.at hn
  cases e
  rw [Go.WideShapes.add_plain, h.1.flat rfl hj]
  rw [flatC_get _ _ _ hj] at hu
  exact hu
set_option maxHeartbeats 2000000 in
theorem clone_reg (a : Option Addr) (n c : Nat) (L : Nat → Reg) (w : World) (hn : n ≤ 1000000) (hs : RegsAt w a n L) :
    Calls Try.prog 24 #[.slice a n c] w fun e w' => ∃ v, e = .returned v ∧ w'.ownsRow w.heap.size 24 3 v n (flatC 3 n (regC L)) ∧ Below w.heap.size w w' := by
  cases a with
  | none =>
    have hn0 : n = 0 := hs.1.elim id (fun h => by obtain ⟨b, off, h, _⟩ := h; cases h)
    subst hn0
    have hk : ∀ w : World, (binOp .eql 29 (.slice none 0 c) (.slice none 0 0)).run Try.prog w = .ok (.bool true) w := fun w => Lib.run_eql_slice_nil w _ _ none 0 c 0 0 Try.underlying29
    go_enter Try.func24, Try.ntmps24
    go_wp2_with fail
    go_ret
    exact ⟨_, rfl, ⟨rfl, .inl ⟨rfl, rfl⟩⟩, Below.refl _ _⟩
  | some ad =>
    obtain ⟨i0, hi, hz0, hz1, hz2⟩ := info_parts infoR
    have HIn := Lib.hid hi; have HZ0 := Lib.hid hz0; have HZ1 := Lib.hid hz1; have HZ2 := Lib.hid hz2
    have HS := Lib.hid (fun j u h => (hs.below (w' := w.alloc (.cells #[] 24)) ((Below.refl _ w).alloc (Nat.le_refl _) _)).flat_at j u h)
    clear hi hz0 hz1 hz2 hs
    have hk : ∀ w : World, (binOp .eql 29 (.slice (some ad) n c) (.slice none 0 0)).run Try.prog w = .ok (.bool false) w := fun w => Lib.run_eql_slice_nil w _ _ (some ad) n c 0 0 Try.underlying29
    go_enter Try.func24, Try.ntmps24
    have hown : ((w.alloc (.cells #[] 24)).ownsRow w.heap.size 24 3 (.slice (some ⟨w.heap.size, 0, none⟩) 0 0) 0 []) := ⟨rfl, .inr ⟨w.heap.size, 0, #[], rfl, Nat.le_refl _, heap_alloc_new _ _, Nat.le_refl _, by unfold maxLen; omega, rfl, rfl⟩⟩
    go_wp2_with (at_builtin; refine wpList_append_own _ rfl _ _ 29 rfl w.heap.size 24 i0 (.agg #[.int .u32 0, .int .u32 0, .int .u8 0]) 3 12 Try.underlying29 HIn.out HZ0.out HZ1.out HZ2.out rfl (by decide) _ 0 [] rfl hown ad n c (flatC 3 n (regC L)) rfl (flatC_len _ _ _) ?c1 ?c2 ?c3 ?c4 ?c5 ?_)
    case c1 => exact HS.out
    case c2 =>
      intro u hu
      obtain ⟨j, hj⟩ := List.mem_iff_getElem?.1 hu
      have hj2 : j < n * 3 := by
        by_cases e : j < n * 3
        · exact e
        · rw [List.getElem?_eq_none (by rw [flatC_len]; omega)] at hj; cases hj
      rw [flatC_get _ _ _ hj2] at hj
      cases hj
      exact regV_one _ _
    case c3 => unfold maxLen; omega
    case c4 => omega
    case c5 => simp
    intro v' w1 hown1 hgr _
    have hB : Hid (Below w.heap.size w w1) := ((Below.refl _ w).alloc (Nat.le_refl _) _).grown hgr (by simp) (fun k e => by simp [Value.ownBlock] at e; omega)
    have hO : Hid (w1.ownsRow w.heap.size 24 3 v' n (flatC 3 n (regC L))) := by first | exact hown1 | (have := hown1; rw [Nat.zero_add, List.nil_append] at this; exact this)
    clear hown1 hgr hown hk
    go_wp2_with fail
    go_ret
    exact ⟨_, rfl, hO.out, hB.out⟩
/-! ### the sort -/
def rk (L : Nat → Reg) (hL : ∀ i, (L i).ok) (n : Nat) : Array RegK := ((List.range n).map fun i => (⟨L i, hL i⟩ : RegK)).toArray
def encK (x : RegK) : List Value := encR x.1
theorem rk_size (L : Nat → Reg) (hL : ∀ i, (L i).ok) (n : Nat) : (rk L hL n).size = n := by simp [rk]
theorem flatK_flatC (d : Array RegK) : (flatK encK 3 d).toList = flatC 3 d.size (regC fun i => d[i]!.1) := by
  apply List.ext_getElem?
  intro j
  by_cases h : j < d.size * 3
  · rw [flatC_get _ _ _ h]
    have h1 := get_flatK encK 3 d j h
    rw [getElem!_pos _ j (by simpa using h)] at h1
    rw [Array.getElem?_toList, Array.getElem?_eq_getElem (by simpa using h), h1]
    congr 1
    unfold regC regV encK encR
    have : j % 3 < 3 := Nat.mod_lt _ (by omega)
    generalize j % 3 = q at this
    match q, this with
    | 0, _ => rfl
    | 1, _ => rfl
    | 2, _ => rfl
  · rw [List.getElem?_eq_none (by simpa using h), List.getElem?_eq_none (by rw [flatC_len]; omega)]
theorem holdsK_of {w : World} {g : Nat} {cur : Array Value} {e : TypeId} {d : Array RegK} (hb : w.heap[g]? = some (.cells cur e (0, 0))) (ht : cur.toList.take (d.size * 3) = flatC 3 d.size (regC fun i => d[i]!.1)) : HoldsK encK 3 w g 0 d := by
  intro j hj
  have hj' : j < d.size * 3 := by simpa using hj
  refine ⟨?_, by simp [World.frozen?, hb]⟩
  have h1 : (cur.toList.take (d.size * 3))[j]? = (flatK encK 3 d).toList[j]? := by rw [ht, flatK_flatC]
  rw [List.getElem?_take_of_lt hj'] at h1
  simp only [World.cell?, hb, Nat.zero_add]
  simp only [Option.isSome_none, Bool.false_eq_true, if_false]
  rw [← Array.getElem?_toList, h1, Array.getElem?_toList, Array.getElem?_eq_getElem hj, getElem!_pos _ j hj]
  rfl
theorem heap_sortedK {w : World} {g n : Nat} {os : Array Obj} {cur : Array Value} {e : TypeId} {fr : Nat × Nat} (d : Array RegK) (hb : w.heap[g]? = some (.cells cur e fr)) :
    (sortWorldK encK 3 w g 0 n d os).heap[g]? = some (.cells (putCells id 0 (flatK encK 3 d) cur) e fr) := by
  have hg : g < w.heap.size := (Array.getElem?_eq_some_iff.1 hb).1
  unfold sortWorldK putRowK
  rw [heap_grow_old _ _ (by simpa [putRow, mapBlock, Sort.ahead] using hg)]
  simp [putRow, mapBlock, Sort.ahead, Array.getElem?_modify, hb, onCells]
theorem grownBy_sortedK {w : World} {g n : Nat} {os : Array Obj} (d : Array RegK) : w.grownBy (sortWorldK encK 3 w g 0 n d os) (some g) := by
  refine ⟨rfl, rfl, rfl, by simp [sortWorldK, putRowK, putRow, mapBlock, Sort.ahead], fun k hk hne => ?_⟩
  unfold sortWorldK putRowK
  rw [heap_grow_old _ _ (by simpa [putRow, mapBlock, Sort.ahead] using hk)]
  have : g ≠ k := fun e => hne (by rw [e])
  simp [putRow, mapBlock, Sort.ahead, Array.getElem?_modify, this]
theorem take_putK (cur F : Array Value) (h : F.size ≤ cur.size) : (putCells id 0 F cur).toList.take F.size = F.toList := by
  apply List.ext_getElem?
  intro j
  by_cases hj : j < F.size
  · rw [List.getElem?_take_of_lt hj, Array.getElem?_toList, Array.getElem?_toList]
    simp [putCells, hj, show j < cur.size by omega]
  · rw [List.getElem?_take_eq_none (by omega), List.getElem?_eq_none (by simp; omega)]
theorem sort_reg (n : Nat) (v : Value) (base : Nat) (L : Nat → Reg) (w : World) (hL : ∀ i, (L i).ok) (hn : n ≤ 1000000) (ho : w.ownsRow base 24 3 v n (flatC 3 n (regC L))) :
    Calls Try.prog 25 #[v, .func (.func 26) #[] #[]] w fun e w' => e = .returned (.tuple #[]) ∧ (∃ S : Nat → Reg, (∀ i, (S i).ok) ∧ ((List.range n).map S).Perm ((List.range n).map L) ∧ ((List.range n).map S).Pairwise (fun x y => x.base ≤ y.base) ∧
      w'.ownsRow base 24 3 v n (flatC 3 n (regC S))) ∧ w.grownBy w' v.ownBlock := by
  rcases ho.2 with ⟨hv, h0⟩ | ⟨g, cap, cur, hv, hg, hb, h1, h2, h3, h4⟩
  · subst hv; subst h0
    have hcon := AnyF.slices_SortFunc_none { Try.sortL with } none 0 (.func (.func 26) #[] #[]) w
    change Calls Try.prog 25 _ _ _ at hcon
    refine hcon.mono ?_
    rintro e w' ⟨rfl, rfl⟩
    exact ⟨rfl, ⟨L, hL, List.Perm.refl _, List.Pairwise.nil, ho⟩, grown_refl _ _⟩
  · subst hv
    have eg : ∀ args w, (callFunc 26 args).run Try.prog w = .ok (.enter 26 args) w := enters_of Try.func26 (by kernel_rfl) rfl
    have hlt : g < w.heap.size := heap_lt hb
    have hsz := rk_size L hL n
    have hget : ∀ i, i < n → (rk L hL n)[i]!.1 = L i := fun i hi => by rw [getElem!_pos _ i (by rw [hsz]; exact hi)]; simp [rk]
    have hH : HoldsK encK 3 w g 0 (rk L hL n) := holdsK_of hb (by
      rw [hsz, h4]
      exact flatC_congr _ _ fun i hi j => by show regV (L i) j = regV ((rk L hL n)[i]!.1) j; rw [hget i hi])
    have hcon := AnyQ.slices_SortFunc Try.sortL 3 Try.isAgg24 Try.sizeOf24 encK (fun _ => rfl) (fun x v hv => by simp [encK, encR] at hv; rcases hv with rfl | rfl | rfl <;> rfl) (fun x y => cmpR x.1 y.1)
      { irrefl := fun x => swoR.irrefl x.1, trans := fun x y z => swoR.trans x.1 y.1 z.1, ntrans := fun x y z => swoR.ntrans x.1 y.1 z.1 } 26 #[] g 0 cap (rk L hL n) w eg
      (fun _ _ _ _ x y => cmp_any x.1 y.1 x.2 y.2 _) hH hlt (by rw [hsz]; omega)
    rw [hsz] at hcon
    change Calls Try.prog 25 _ _ _ at hcon
    refine hcon.mono ?_
    rintro e w' ⟨rfl, d', q, os, hp, hs, rfl⟩
    have hd : d'.size = n := hp.1.trans hsz
    have hperm : d'.toList.Perm (rk L hL n).toList := by
      have := hp.2.2
      have hx : ∀ d : Array RegK, d.size = n → d.extract 0 n = d := fun d h => by subst h; simp
      rw [hx _ hd, hx _ hsz] at this
      exact this
    have hmap : (List.range n).map (fun i => d'[i]!.1) = d'.toList.map (fun x => x.1) := by
      apply List.ext_getElem?
      intro i
      by_cases hi : i < n
      · simp [hi, hd]
      · simp [hi, hd]
    have hmap2 : (rk L hL n).toList.map (fun x => x.1) = (List.range n).map L := by simp [rk]
    refine ⟨rfl, ⟨fun i => d'[i]!.1, fun i => d'[i]!.2, ?_, ?_, flatC_len _ _ _, .inr ⟨g, cap, _, rfl, hg, heap_sortedK d' hb, h1, h2, by simpa [putCells] using h3, ?_⟩⟩, grownBy_sortedK d'⟩
    · rw [hmap, ← hmap2]; exact hperm.map _
    · rw [List.pairwise_map]
      rw [List.pairwise_iff_getElem]
      intro i j hi hj hij
      simp only [List.getElem_range]
      have := hs i j (Nat.zero_le _) hij (by simpa using hj)
      unfold ltOf cmpR at this
      have h2 : ¬ ((d'[j]!.1.base : Int) - (d'[i]!.1.base : Int) < 0) := of_decide_eq_false this
      omega
    · have := take_putK cur (flatK encK 3 d') (by rw [size_flatK, hd, h3]; have := Nat.mul_le_mul_right 3 h1; omega)
      rw [size_flatK, hd] at this
      rw [this, flatK_flatC, hd]
end Go.Proofs.Yteekneicahfkpaa
