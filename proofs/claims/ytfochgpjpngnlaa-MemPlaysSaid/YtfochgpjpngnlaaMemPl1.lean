/- Both memories lie apart; both agree. -/
import Derived.Test.YtfochgpjpngnlaaMemDo
import Derived.Test.YtfochgpjpngnlaaMemStr
import Derived.Test.YtfochgpjpngnlaaMemKn
namespace Go.Proofs.Ytfochgpjpngnlaa
open Go.RowKit
set_option linter.unusedVariables false
structure Sp (w0 w : World) (M R : MS) (n : Nat) : Prop where
  m : MemAt w 57 M
  r : MemAt w 48 R
  mn : M.n = n
  rn : R.n = n
  ap : 0 < n → w0.heap.size ≤ M.b ∧ w0.heap.size ≤ R.b ∧ M.b ≠ R.g ∧ M.b ≠ R.b ∧ R.b ≠ M.g
  B : Below w0.heap.size w0 w
def Ag (n : Nat) (M R : MS) : Prop := ∀ i, i < n → M.B i = R.B i
theorem Sp.same {w0 w w' : World} {M R : MS} {n : Nat} (h : Sp w0 w M R n) (hb : Below w.heap.size w w') : Sp w0 w' M R n := ⟨h.m.below hb, h.r.below hb, h.mn, h.rn, h.ap, h.B.trans (hb.mono h.B.size)⟩
theorem Sp.ms {w0 w w' : World} {M R : MS} {n at_ k : Nat} {X : Nat → Nat} (h : Sp w0 w M R n) (hm : MemAt w' 57 (M.put at_ k X)) (ho : Only M.W w w') : Sp w0 w' (M.put at_ k X) R n := by
  refine ⟨hm, h.r.only ho ?_ ?_, h.mn, h.rn, h.ap, only_below ho h.B h.B.size (fun hp => (h.ap (by rw [← h.mn]; exact hp)).1)⟩
  · intro e; have h1 := h.ap (by rw [← h.mn]; exact e.1); exact h1.2.2.1 e.2.symm
  · intro hp e; have h1 := h.ap (by rw [← h.rn]; exact hp); exact h1.2.2.2.1 e.2.symm
theorem Sp.rs {w0 w w' : World} {M R : MS} {n at_ k : Nat} {X : Nat → Nat} (h : Sp w0 w M R n) (hm : MemAt w' 48 (R.put at_ k X)) (ho : Only R.W w w') : Sp w0 w' M (R.put at_ k X) n := by
  refine ⟨h.m.only ho ?_ ?_, hm, h.mn, h.rn, h.ap, only_below ho h.B h.B.size (fun hp => (h.ap (by rw [← h.rn]; exact hp)).2.1)⟩
  · intro e; have h1 := h.ap (by rw [← h.rn]; exact e.1); exact h1.2.2.2.2 e.2.symm
  · intro hp e; have h1 := h.ap (by rw [← h.mn]; exact hp); exact h1.2.2.2.1 e.2
theorem Sp.cp {w0 w w' : World} {M R M' : MS} {n : Nat} (h : Sp w0 w M R n) (hn : NewMem w w' 57 M' M.n M.B) : Sp w0 w' M' R n := by
  have l1 := heap_lt h.r.obj
  refine ⟨hn.mem, h.r.below hn.below, hn.eN.trans h.mn, h.rn, fun hp => ?_, h.B.trans (hn.below.mono h.B.size)⟩
  have l2 := h.r.sl.lt (by rw [h.rn]; exact hp)
  have l3 := hn.b (by rw [h.mn]; exact hp)
  have l4 := hn.g
  have l5 := h.B.size
  have l6 := (h.ap hp).2.1
  omega
/-- The old memory is turned: nothing is seen of it. -/
theorem Sp.old {w0 w w1 w2 : World} {M R M' : MS} {n : Nat} (h : Sp w0 w M R n) (hn : NewMem w w1 57 M' M.n M.B) (h1 : Sp w0 w1 M' R n) (ho : Only M.W w1 w2) : Sp w0 w2 M' R n := by
  have hz : ∀ b, M.W b → 0 < n ∧ b = M.b ∧ b < w.heap.size := fun b e => ⟨by rw [← h.mn]; exact e.1, e.2, by rw [e.2]; exact h.m.sl.lt e.1⟩
  refine ⟨h1.m.only ho ?_ ?_, h1.r.only ho ?_ ?_, h1.mn, h1.rn, h1.ap, only_below ho h1.B h1.B.size (fun hp => (h.ap (by rw [← h.mn]; exact hp)).1)⟩
  · intro e; have := hz _ e; have := hn.g; omega
  · intro hp e; have := hz _ e; have := hn.b (by rw [← hn.eN]; exact hp); omega
  · intro e; have h3 := hz _ e; exact (h.ap h3.1).2.2.1 h3.2.1.symm
  · intro hp e; have h3 := hz _ e; exact (h.ap h3.1).2.2.2.1 h3.2.1.symm
theorem Ag.put {n at_ k : Nat} {M R : MS} {X : Nat → Nat} (h : Ag n M R) : Ag n (M.put at_ k X) (R.put at_ k X) := fun i hi => by
  show (if at_ ≤ i ∧ i < at_ + k then X (i - at_) else M.B i) = if at_ ≤ i ∧ i < at_ + k then X (i - at_) else R.B i
  rw [h i hi]
theorem partM_fit {n at_ k : Nat} (h : 0 < partM n at_ k) : at_ + partM n at_ k ≤ n := by
  unfold partM at h ⊢
  by_cases e : n < at_ + k
  · rw [if_pos e] at h; omega
  · rw [if_neg e]; omega
theorem mayM_fit {N : Nat} {L : Nat → Reg} {l at_ k right : Nat} (h : 0 < mayM N L l at_ k right) : at_ + mayM N L l at_ k right ≤ N := by
  unfold mayM at h ⊢
  by_cases e : mayBad k right
  · rw [if_pos e] at h; omega
  · rw [if_neg e] at h ⊢
    by_cases e2 : mayOk N L l at_ k right
    · rw [if_pos e2]; exact e2.2
    · rw [if_neg e2] at h; omega
theorem Ag.le {n at_ k : Nat} {M R : MS} (h : Ag n M R) (hf : 0 < k → at_ + k ≤ n) : leN R.B at_ k = leN M.B at_ k := by
  by_cases hp : 0 < k
  · have := hf hp
    exact leN_congr k fun i hi => (h _ (by omega)).symm
  · obtain rfl : k = 0 := by omega
    rfl
theorem Ag.str {n at_ k : Nat} {M R : MS} (h : Ag n M R) (hf : 0 < k → at_ + k ≤ n) : strB (fun i => R.B (at_ + i)) k = strB (fun i => M.B (at_ + i)) k :=
  strB_congr fun i hi => by have := hf (by omega); exact (h _ (by omega)).symm
theorem Ag.all {n : Nat} {M R : MS} (h : Ag n M R) : strB R.B n = strB (fun i => M.B (0 + i)) n := strB_congr fun i hi => by rw [Nat.zero_add]; exact (h _ hi).symm
theorem zero_p (g n : Nat) (M : MS) (hg : M.g = g) (hn : M.n = n) (at_ k : Nat) (w : World) (h : MemAt w 57 M) (h1 : at_ < 4294967296) (h2 : k < 4294967296) :
    Calls Try.prog 11 #[.pointer (some ⟨g, 0, none⟩), .int .u32 (at_ : Int), .int .u32 (k : Int)] w fun e w' => e = .returned (.int .i64 (partE n at_ k)) ∧ MemAt w' 57 (M.put at_ (partM n at_ k) fun _ => 0) ∧ Only M.W w w' := by
  subst hg; subst hn
  exact zero_any M at_ k w h h1 h2
theorem put_p (w0 : World) (g n : Nat) (M : MS) (hg : M.g = g) (hn : M.n = n) (at_ : Nat) (s : Option Addr) (k c : Nat) (X : Nat → Nat) (w : World) (h : MemAt w 57 M) (h1 : at_ < 4294967296) (h2 : k ≤ 9223372036854775807) (hX : SliceAt w0 s k (bV X)) (hl : ∀ i, X i < 256) (hB : Below w0.heap.size w0 w) (hlo : 0 < M.n → w0.heap.size ≤ M.b) :
    Calls Try.prog 13 #[.pointer (some ⟨g, 0, none⟩), .int .u32 (at_ : Int), .slice s k c] w fun e w' => e = .returned (.int .i64 (partE n at_ k)) ∧ MemAt w' 57 (M.put at_ (partM n at_ k) X) ∧ Only M.W w w' := by
  subst hg; subst hn
  exact put_any M at_ s k c X w h h1 h2 (hX.below hB) hl
theorem store_p (g n : Nat) (M : MS) (hg : M.g = g) (hn : M.n = n) (a : Option Addr) (l c : Nat) (L : Nat → Reg) (at_ k x : Nat) (kv : Int) (hk : kv = (k : Int)) (w : World) (h : MemAt w 57 M) (hL : RegsAt w a l L) (hl : l ≤ 9223372036854775807) (h1 : at_ < 4294967296) (h2 : k < 256) (hx : x < 4294967296) :
    Calls Try.prog 19 #[.pointer (some ⟨g, 0, none⟩), .slice a l c, .int .u32 (at_ : Int), .int .u8 kv, .int .u32 (x : Int)] w fun e w' => e = .returned (.int .i64 (mayE n L l at_ k 2)) ∧ MemAt w' 57 (M.put at_ (mayM n L l at_ k 2) (stB x)) ∧ Only M.W w w' := by
  subst hg; subst hn; subst hk
  exact store_any M a l c L at_ k x w h hL hl h1 h2 hx
theorem load_p (g n : Nat) (M : MS) (hg : M.g = g) (hn : M.n = n) (a : Option Addr) (l c : Nat) (L : Nat → Reg) (at_ k : Nat) (kv : Int) (hk : kv = (k : Int)) (w : World) (h : MemAt w 57 M) (hL : RegsAt w a l L) (hl : l ≤ 9223372036854775807) (h1 : at_ < 4294967296) (h2 : k < 256) (X : Nat) (hX : leN M.B at_ (mayM n L l at_ k 1) = X) :
    Calls Try.prog 17 #[.pointer (some ⟨g, 0, none⟩), .slice a l c, .int .u32 (at_ : Int), .int .u8 kv] w fun e w' => e = .returned (.tuple #[.int .u32 ((X : Nat) : Int), .int .i64 (mayE n L l at_ k 1)]) ∧ Below w.heap.size w w' := by
  subst hg; subst hn; subst hk; subst hX
  exact load_any M a l c L at_ k w h hL hl h1 h2
theorem get_p (g n : Nat) (M : MS) (hg : M.g = g) (hn : M.n = n) (at_ k : Nat) (w : World) (h : MemAt w 57 M) (h1 : at_ < 4294967296) (h2 : k < 4294967296) :
    Calls Try.prog 15 #[.pointer (some ⟨g, 0, none⟩), .int .u32 (at_ : Int), .int .u32 (k : Int)] w fun e w' => ∃ a c, e = .returned (.tuple #[.slice a (partM n at_ k) c, .int .i64 (partE n at_ k)]) ∧ SliceAt w' a (partM n at_ k) (bV fun i => M.B (at_ + i)) ∧ Below w.heap.size w w' := by
  subst hg; subst hn
  refine (get_any M at_ k w h h1 h2).mono ?_
  rintro e w' ⟨v, rfl, ⟨b, hs, -⟩, hb⟩
  obtain ⟨a, c, rfl, -, -, hs⟩ := hs.slice
  exact ⟨a, c, rfl, hs, hb⟩
theorem fetch_p (g n : Nat) (M : MS) (hg : M.g = g) (hn : M.n = n) (a : Option Addr) (l c : Nat) (L : Nat → Reg) (at_ : Nat) (w : World) (h : MemAt w 57 M) (hL : RegsAt w a l L) (hl : l ≤ 9223372036854775807) (h1 : at_ < 4294967296) :
    Calls Try.prog 21 #[.pointer (some ⟨g, 0, none⟩), .slice a l c, .int .u32 (at_ : Int)] w fun e w' => ∃ a c, e = .returned (.tuple #[.slice a (mayM n L l at_ 8 4) c, .int .i64 (mayE n L l at_ 8 4)]) ∧ SliceAt w' a (mayM n L l at_ 8 4) (bV fun i => M.B (at_ + i)) ∧ Below w.heap.size w w' := by
  subst hg; subst hn
  refine (fetch_any M a l c L at_ w h hL hl h1).mono ?_
  rintro e w' ⟨v, rfl, ⟨b, hs, -⟩, hb⟩
  obtain ⟨a, c, rfl, -, -, hs⟩ := hs.slice
  exact ⟨a, c, rfl, hs, hb⟩
theorem rzero_p (g n : Nat) (M : MS) (hg : M.g = g) (hn : M.n = n) (at_ k : Nat) (w : World) (h : MemAt w 48 M) (h1 : at_ < 4294967296) (h2 : k < 4294967296) :
    Calls Try.prog 12 #[.pointer (some ⟨g, 0, none⟩), .int .u32 (at_ : Int), .int .u32 (k : Int)] w fun e w' => e = .returned (.int .i64 (partE n at_ k)) ∧ MemAt w' 48 (M.put at_ (partM n at_ k) fun _ => 0) ∧ Only M.W w w' := by
  subst hg; subst hn
  exact rzero_any M at_ k w h h1 h2
theorem rput_p (w0 : World) (g n : Nat) (M : MS) (hg : M.g = g) (hn : M.n = n) (at_ : Nat) (s : Option Addr) (k c : Nat) (X : Nat → Nat) (w : World) (h : MemAt w 48 M) (h1 : at_ < 4294967296) (h2 : k ≤ 9223372036854775807) (hX : SliceAt w0 s k (bV X)) (hl : ∀ i, X i < 256) (hB : Below w0.heap.size w0 w) (hlo : 0 < M.n → w0.heap.size ≤ M.b) :
    Calls Try.prog 14 #[.pointer (some ⟨g, 0, none⟩), .int .u32 (at_ : Int), .slice s k c] w fun e w' => e = .returned (.int .i64 (partE n at_ k)) ∧ MemAt w' 48 (M.put at_ (partM n at_ k) X) ∧ Only M.W w w' := by
  subst hg; subst hn
  exact rput_any M at_ s k c X w h h1 h2 (fun V hV => hX.below (only_below hV hB hB.size hlo)) hl
theorem rstore_p (g n : Nat) (M : MS) (hg : M.g = g) (hn : M.n = n) (a : Option Addr) (l c : Nat) (L : Nat → Reg) (at_ k x : Nat) (kv : Int) (hk : kv = (k : Int)) (w : World) (h : MemAt w 48 M) (hL : RegsAt w a l L) (hl : l ≤ 9223372036854775807) (h1 : at_ < 4294967296) (h2 : k < 256) (hx : x < 4294967296) :
    Calls Try.prog 20 #[.pointer (some ⟨g, 0, none⟩), .slice a l c, .int .u32 (at_ : Int), .int .u8 kv, .int .u32 (x : Int)] w fun e w' => e = .returned (.int .i64 (mayE n L l at_ k 2)) ∧ MemAt w' 48 (M.put at_ (mayM n L l at_ k 2) (stB x)) ∧ Only M.W w w' := by
  subst hg; subst hn; subst hk
  exact rstore_any M a l c L at_ k x w h hL hl h1 h2 hx
theorem rload_p (g n : Nat) (M : MS) (hg : M.g = g) (hn : M.n = n) (a : Option Addr) (l c : Nat) (L : Nat → Reg) (at_ k : Nat) (kv : Int) (hk : kv = (k : Int)) (w : World) (h : MemAt w 48 M) (hL : RegsAt w a l L) (hl : l ≤ 9223372036854775807) (h1 : at_ < 4294967296) (h2 : k < 256) (X : Nat) (hX : leN M.B at_ (mayM n L l at_ k 1) = X) :
    Calls Try.prog 18 #[.pointer (some ⟨g, 0, none⟩), .slice a l c, .int .u32 (at_ : Int), .int .u8 kv] w fun e w' => e = .returned (.tuple #[.int .u32 ((X : Nat) : Int), .int .i64 (mayE n L l at_ k 1)]) ∧ Below w.heap.size w w' := by
  subst hg; subst hn; subst hk; subst hX
  exact rload_any M a l c L at_ k w h hL hl h1 h2
theorem rget_p (g n : Nat) (M : MS) (hg : M.g = g) (hn : M.n = n) (at_ k : Nat) (w : World) (h : MemAt w 48 M) (h1 : at_ < 4294967296) (h2 : k < 4294967296) :
    Calls Try.prog 16 #[.pointer (some ⟨g, 0, none⟩), .int .u32 (at_ : Int), .int .u32 (k : Int)] w fun e w' => ∃ a c, e = .returned (.tuple #[.slice a (partM n at_ k) c, .int .i64 (partE n at_ k)]) ∧ SliceAt w' a (partM n at_ k) (bV fun i => M.B (at_ + i)) ∧ Below w.heap.size w w' := by
  subst hg; subst hn
  refine (rget_any M at_ k w h h1 h2).mono ?_
  rintro e w' ⟨v, rfl, ⟨b, hs, -⟩, hb⟩
  obtain ⟨a, c, rfl, -, -, hs⟩ := hs.slice
  exact ⟨a, c, rfl, hs, hb⟩
theorem rfetch_p (g n : Nat) (M : MS) (hg : M.g = g) (hn : M.n = n) (a : Option Addr) (l c : Nat) (L : Nat → Reg) (at_ : Nat) (w : World) (h : MemAt w 48 M) (hL : RegsAt w a l L) (hl : l ≤ 9223372036854775807) (h1 : at_ < 4294967296) :
    Calls Try.prog 22 #[.pointer (some ⟨g, 0, none⟩), .slice a l c, .int .u32 (at_ : Int)] w fun e w' => ∃ a c, e = .returned (.tuple #[.slice a (mayM n L l at_ 8 4) c, .int .i64 (mayE n L l at_ 8 4)]) ∧ SliceAt w' a (mayM n L l at_ 8 4) (bV fun i => M.B (at_ + i)) ∧ Below w.heap.size w w' := by
  subst hg; subst hn
  refine (rfetch_any M a l c L at_ w h hL hl h1).mono ?_
  rintro e w' ⟨v, rfl, ⟨b, hs, -⟩, hb⟩
  obtain ⟨a, c, rfl, -, -, hs⟩ := hs.slice
  exact ⟨a, c, rfl, hs, hb⟩
theorem Sp.lom {w0 w : World} {M R : MS} {n : Nat} (h : Sp w0 w M R n) : 0 < M.n → w0.heap.size ≤ M.b := fun hp => (h.ap (by rw [← h.mn]; exact hp)).1
theorem Sp.lor {w0 w : World} {M R : MS} {n : Nat} (h : Sp w0 w M R n) : 0 < R.n → w0.heap.size ≤ R.b := fun hp => (h.ap (by rw [← h.rn]; exact hp)).2.1
end Go.Proofs.Ytfochgpjpngnlaa
