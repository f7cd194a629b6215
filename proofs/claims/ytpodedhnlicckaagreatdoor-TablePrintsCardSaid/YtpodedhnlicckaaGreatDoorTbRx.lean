/- The document's Print. -/
import Derived.Test.YtpodedhnlicckaaGreatDoorTbRw
import Derived.Test.YtpodedhnlicckaaGreatDoorTbPw
namespace Go.Proofs.YtpodedhnlicckaaGreatDoor
open Go.RowKit
set_option linter.unusedVariables false
set_option linter.unusedSimpArgs false
def RWr (g : Nat) (bad : Bool) (F : List UInt8) (w : World) : Prop := ∃ S, RW g S bad w ∧ S.length ≤ 100000 ∧ (bad = false → Cap S F)
theorem RWr.lt {g : Nat} {bad : Bool} {F : List UInt8} {w : World} (h : RWr g bad F w) : g < w.heap.size := by obtain ⟨S, h, _⟩ := h; exact h.lt
theorem RWr.kept {g : Nat} {bad : Bool} {F : List UInt8} {w w' : World} (h : RWr g bad F w) (hb : Below w.heap.size w w') : RWr g bad F w' := by
  obtain ⟨S, h1, h2⟩ := h
  exact ⟨S, tb_kept h1 hb, h2⟩
theorem dI_len {n : Int} (h : offR n = false) : (dI n).length ≤ 5 := by
  rw [offR_in] at h
  have := inR_iff.1 (show inR n = true by revert h; cases inR n <;> simp)
  exact (dec_len_five (by omega)).2
theorem rnumR {g : Nat} {bad : Bool} {F : List UInt8} {w : World} (h : RWr g bad F w) (a z : ByteArray) (n : Int) (hn : i64ok n) (ha : a.size ≤ 50) (hz : z.size ≤ 50) :
    Calls Tryz.prog 52 #[.pointer (some ⟨g, 0, none⟩), .string a, .int .i64 n, .string z] w fun e w' => e = .returned (.tuple #[]) ∧ RWr g (bad || offR n) (F ++ (a.data.toList ++ dI n ++ z.data.toList)) w' ∧ Only (fun i => i = g) w w' := by
  obtain ⟨S, h1, h2, h3⟩ := h
  refine (rnum_any g S bad a z n w h1 h2 ha hz hn.1 hn.2).mono ?_
  rintro e w' ⟨rfl, k1, k2⟩
  have la : a.data.toList.length ≤ 50 := by simpa using ha
  have lz : z.data.toList.length ≤ 50 := by simpa using hz
  refine ⟨rfl, ⟨_, k1, ?_, fun hb => ?_⟩, k2⟩
  · unfold numS
    cases ho : offR n with
    | true => rw [if_pos rfl]; exact h2
    | false =>
      rw [if_neg (by decide)]
      have := dI_len ho
      exact capA_len h2 (by simp only [List.length_append]; omega)
  · have ho : offR n = false := by revert hb; cases offR n <;> cases bad <;> simp
    have hb0 : bad = false := by revert hb; cases bad <;> simp
    unfold numS
    rw [if_neg (by rw [ho]; decide)]
    have := dI_len ho
    exact (h3 hb0).put (by simp only [List.length_append]; omega)
theorem rputR {g : Nat} {bad : Bool} {F : List UInt8} {w : World} (h : RWr g bad F w) (a : ByteArray) (ha : a.size ≤ 50) :
    Calls Tryz.prog 53 #[.pointer (some ⟨g, 0, none⟩), .string a] w fun e w' => e = .returned (.tuple #[]) ∧ RWr g bad (F ++ a.data.toList) w' ∧ Only (fun i => i = g) w w' := by
  obtain ⟨S, h1, h2, h3⟩ := h
  refine (rput_any g S bad a w h1 h2 ha).mono ?_
  rintro e w' ⟨rfl, k1, k2⟩
  have la : a.data.toList.length ≤ 50 := by simpa using ha
  exact ⟨rfl, ⟨_, k1, capA_len h2 (by omega), fun hb => (h3 hb).put (by omega)⟩, k2⟩
structure QC (g : Nat) (w1 w : World) : Prop where
  gb : g = w1.heap.size
  bel : Below w1.heap.size w1 w
theorem QC.step {g : Nat} {w1 w w' : World} (h : QC g w1 w) (ho : Only (fun i => i = g) w w') : QC g w1 w' := ⟨h.gb, h.bel.trans (ho.below h.bel.size (fun i hi hm => by have := h.gb; omega))⟩
theorem QC.blk {g t : Nat} {w1 w : World} {o : Obj} (h : QC g w1 w) (hb : w1.heap[t]? = some o) : w.heap[t]? = some o := tb_kept hb h.bel
theorem loopI (F : List UInt8) (b : Bool) (l : List Int) : ∃ (FK : Nat → List UInt8) (BK : Nat → Bool), FK 0 = F ∧ BK 0 = b ∧ (∀ k, k < l.length → FK (k + 1) = FK k ++ (32 :: dI (l.getD k 0))) ∧ (∀ k, k < l.length → BK (k + 1) = (BK k || offR (l.getD k 0))) ∧ FK l.length = F ++ l.flatMap (fun x => 32 :: dI x) ∧ BK l.length = (b || l.any offR) := by
  refine ⟨fun k => F ++ (l.take k).flatMap (fun x => 32 :: dI x), fun k => b || (l.take k).any offR, by simp, by simp, fun k hk => ?_, fun k hk => ?_, by simp, by simp⟩
  · show F ++ (l.take (k + 1)).flatMap _ = _
    rw [take_snocG (d := 0) hk, flat_snoc, List.append_assoc]
  · show (b || (l.take (k + 1)).any offR) = _
    rw [any_take (d := 0) offR hk, ← Bool.or_assoc]
theorem loopP (F : List UInt8) (b : Bool) (l : List (Int × Bool)) : ∃ (FK : Nat → List UInt8) (BK : Nat → Bool), FK 0 = F ∧ BK 0 = b ∧ (∀ k, k < l.length → FK (k + 1) = FK k ++ (32 :: ptW (l.getD k (0, false)))) ∧ (∀ k, k < l.length → BK (k + 1) = (BK k || offP (l.getD k (0, false)))) ∧ FK l.length = F ++ l.flatMap (fun x => 32 :: ptW x) ∧ BK l.length = (b || l.any offP) := by
  refine ⟨fun k => F ++ (l.take k).flatMap (fun x => 32 :: ptW x), fun k => b || (l.take k).any offP, by simp, by simp, fun k hk => ?_, fun k hk => ?_, by simp, by simp⟩
  · show F ++ (l.take (k + 1)).flatMap _ = _
    rw [take_snocG (d := (0, false)) hk, flat_snoc, List.append_assoc]
  · show (b || (l.take (k + 1)).any offP) = _
    rw [any_take (d := (0, false)) offP hk, ← Bool.or_assoc]
theorem loopT (F : List UInt8) (b : Bool) (l : List Int) : ∃ (FK : Nat → List UInt8) (BK : Nat → Bool), FK 0 = F ∧ BK 0 = b ∧ (∀ k, k < l.length → FK (k + 1) = FK k ++ lineT [wPt, dI (l.getD k 0)]) ∧ (∀ k, k < l.length → BK (k + 1) = (BK k || offR (l.getD k 0))) ∧ FK l.length = ptsX F l ∧ BK l.length = (b || l.any offR) := by
  refine ⟨fun k => ptsX F (l.take k), fun k => b || (l.take k).any offR, by simp [ptsX], by simp, fun k hk => ?_, fun k hk => ?_, by simp, by simp⟩
  · show ptsX F (l.take (k + 1)) = _
    rw [take_snocG (d := 0) hk, ptsX_snoc]
  · show (b || (l.take (k + 1)).any offR) = _
    rw [any_take (d := 0) offR hk, ← Bool.or_assoc]
theorem loopR (F : List UInt8) (b : Bool) (l : List Rt) : ∃ (FK : Nat → List UInt8) (BK : Nat → Bool), FK 0 = F ∧ BK 0 = b ∧ (∀ k, k < l.length → FK (k + 1) = FK k ++ lineT (rtW (l.getD k rt0))) ∧ (∀ k, k < l.length → BK (k + 1) = (BK k || badR (l.getD k rt0))) ∧ FK l.length = rtsX F l ∧ BK l.length = (b || l.any badR) := by
  refine ⟨fun k => rtsX F (l.take k), fun k => b || (l.take k).any badR, by simp [rtsX], by simp, fun k hk => ?_, fun k hk => ?_, by simp, by simp⟩
  · show rtsX F (l.take (k + 1)) = _
    rw [take_snocG (d := rt0) hk, rtsX_snoc]
  · show (b || (l.take (k + 1)).any badR) = _
    rw [any_take (d := rt0) badR hk, ← Bool.or_assoc]
theorem joinB_flat (w : List UInt8) : ∀ ws : List (List UInt8), joinB 32 (w :: ws) = w ++ ws.flatMap (fun u => 32 :: u)
  | [] => by simp [joinB]
  | u :: ws => by rw [joinB_cons 32 w (by simp), joinB_flat u ws, List.flatMap_cons]; rfl
def sRo : List UInt8 := wRo ++ [32]
def sTr : List UInt8 := 32 :: wTr
def sPs : List UInt8 := 32 :: wPs
def sAp : List UInt8 := 32 :: (wAp ++ [32])
def sHo : List UInt8 := 32 :: (wHo ++ [32])
def sCo : List UInt8 := 32 :: wCo
theorem refR (G : List UInt8) (r : Rt) (h : r.app = -1) : ((((((G ++ (sRo ++ dI r.sig ++ sTr)) ++ r.tr.flatMap (fun x => 32 :: dI x)) ++ sPs) ++ r.pts.flatMap (fun x => 32 :: ptW x)) ++ (sHo ++ dI (r.hold : Int) ++ sCo)) ++ r.con.flatMap (fun x => 32 :: dI x)) ++ [10] = G ++ lineT (rtW r) := by
  unfold lineT rtW appW
  rw [if_pos h, joinB_flat]
  simp [List.flatMap_append, List.flatMap_map, sRo, sTr, sPs, sHo, sCo, dI]
theorem refR' (G : List UInt8) (r : Rt) (h : ¬ r.app = -1) : (((((((G ++ (sRo ++ dI r.sig ++ sTr)) ++ r.tr.flatMap (fun x => 32 :: dI x)) ++ sPs) ++ r.pts.flatMap (fun x => 32 :: ptW x)) ++ (sAp ++ dI r.app ++ [])) ++ (sHo ++ dI (r.hold : Int) ++ sCo)) ++ r.con.flatMap (fun x => 32 :: dI x)) ++ [10] = G ++ lineT (rtW r) := by
  unfold lineT rtW appW
  rw [if_neg h, joinB_flat]
  simp [List.flatMap_append, List.flatMap_map, sRo, sTr, sPs, sAp, sHo, sCo, dI]
theorem refT (T : Tab) : (([] ++ ([116, 114, 97, 99, 107, 115, 32] ++ dI T.tracks ++ [10])) ++ ([115, 105, 103, 110, 97, 108, 115, 32] ++ dI T.sigs ++ [10])) = headT T := by
  unfold headT lineT
  rw [joinB_flat, joinB_flat]
  simp [wTr, wSi]
end Go.Proofs.YtpodedhnlicckaaGreatDoor
