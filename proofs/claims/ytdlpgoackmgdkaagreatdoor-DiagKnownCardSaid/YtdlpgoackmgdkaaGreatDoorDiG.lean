/- The document's number, word: four bytes. -/
import Derived.Test.YtdlpgoackmgdkaaGreatDoorDiF
namespace Go.Proofs.YtdlpgoackmgdkaaGreatDoor
open Go.RowKit Go.Shelf
set_option linter.unusedVariables false
set_option linter.unusedSimpArgs false
/-- Bytes of a slice. -/
def DbAt (w : World) (a : Option Addr) (n : Nat) (d : Nat → Nat) : Prop := SliceN w a n 1 (fun i _ => .int .u8 (d i : Int))
theorem DbAt.cell {w : World} {a : Option Addr} {n : Nat} {d : Nat → Nat} (h : DbAt w a n d) (hp : 0 < n) : ∃ b off, a = some ⟨b, off, none⟩ ∧ b < w.heap.size ∧ ∀ i, i < n → w.cell? ⟨b, off + i, none⟩ = some (.int .u8 (d i : Int)) := by
  obtain ⟨b, off, e, hb, hc⟩ := SliceN.at h hp
  exact ⟨b, off, e, hb, fun i hi => by have := hc i hi 0 (by decide); rw [Nat.mul_one] at this; exact this⟩
theorem DbAt.below {w w' : World} {a : Option Addr} {n : Nat} {d : Nat → Nat} (h : DbAt w a n d) (hb : Below w.heap.size w w') : DbAt w' a n d := SliceN.below h hb
def bytesV (d : Nat → Nat) (i : Nat) : Value := .int .u8 (d i : Int)
theorem row_db {w : World} {b n : Nat} {d : Nat → Nat} (h : RowAt w b 5 n (bytesV d)) : DbAt w (some ⟨b, 0, none⟩) n d :=
  .inr ⟨b, 0, rfl, h.lt, fun i hi j hj => by
    obtain rfl : j = 0 := by omega
    rw [Nat.zero_add, Nat.mul_one, Nat.add_zero]; exact h.cell hi⟩
/-- The number that the highest k of four bytes make. -/
def numP (d : Nat → Nat) (at_ : Nat) : Nat → Nat
  | 0 => 0
  | k + 1 => numP d at_ k * 256 + d (at_ + 3 - k)
theorem numP_lt {d : Nat → Nat} (h : ∀ j, d j < 256) (at_ : Nat) : ∀ k, numP d at_ k < 256 ^ k
  | 0 => by simp [numP]
  | k + 1 => by
    have h1 := numP_lt h at_ k
    have h2 := h (at_ + 3 - k)
    rw [numP, Nat.pow_succ]; omega
theorem numP4 (d : Nat → Nat) (at_ : Nat) : numP d at_ 4 = wordD d at_ := by
  unfold numP numP numP numP numP wordD
  rw [show at_ + 3 - 0 = at_ + 3 by omega, show at_ + 3 - 1 = at_ + 2 by omega, show at_ + 3 - 2 = at_ + 1 by omega, show at_ + 3 - 3 = at_ by omega]
  omega
set_option maxRecDepth 100000 in
set_option maxHeartbeats 4000000 in
theorem num29_any (a : Option Addr) (n c at_ : Nat) (d : Nat → Nat) (w : World) (h : DbAt w a n d) (hd : ∀ j, d j < 256) (ha : at_ + 4 ≤ n) (hn : n ≤ 9223372036854775807) :
    Calls Tryz.prog 64 #[.slice a n c, .int .i64 (at_ : Int)] w fun e w' => e = .returned (.int .u32 (wordD d at_ : Int)) ∧ w' = w := by
  obtain ⟨b, off, rfl, hb, hc⟩ := h.cell (by omega)
  have HC := Lib.hid hc
  have HL := Lib.hid (numP_lt hd at_)
  have HF := Lib.hid (numP4 d at_)
  obtain ⟨R, hR⟩ : ∃ R, R = wordD d at_ := ⟨_, rfl⟩
  rw [← hR] at HF ⊢
  clear hc h hR
  go_enter Tryz.func64, Tryz.ntmps64
  go_wp2_with fail
  go_loopw [5, 6] (fun nv i wr => ∃ k : Nat, k ≤ 4 ∧ i = .int .i64 (3 - (k : Int)) ∧ nv = .int .u32 (numP d at_ k : Int) ∧ wr = w) (fun _ i _ => match i with | .int _ x => (x + 1).toNat | _ => 0)
  case atStart => exact ⟨0, by omega, rfl, rfl, rfl⟩
  case round =>
    obtain ⟨k, hk, rfl, rfl, rfl⟩ := hrel
    by_cases hk4 : k = 4
    case pos =>
      subst hk4
      rw [HF.out]
      go_wp2_with fail
      go_ret
      exact ⟨rfl, rfl⟩
    have hlt := HL.out k
    have hst : numP d at_ (k + 1) = numP d at_ k * 256 + d (at_ + 3 - k) := rfl
    have hd1 := hd (at_ + 3 - k)
    have hp : 256 ^ k ≤ 256 ^ 3 := Nat.pow_le_pow_right (by decide) (by omega)
    have HST := Lib.hid hst
    obtain ⟨q, hq⟩ : ∃ q, q = at_ + 3 - k := ⟨_, rfl⟩
    rw [← hq] at HST hd1
    have x0 : wr.cell? ⟨b, off + q, none⟩ = some (.int .u8 (d q : Int)) := HC.out q (by omega)
    have e1 : (at_ : Int) + (3 - (k : Int)) = (q : Int) := by omega
    have i1 : (q : Int) < (n : Int) := by omega
    have t1 : decide ((0 : Int) ≤ 3 - (k : Int)) = true := decide_eq_true (by omega)
    generalize d q = v at *
    generalize numP d at_ k = u at *
    have hu : u < 16777216 := Nat.lt_of_lt_of_le hlt hp
    have k1 : (u : Int) * 256 % 4294967296 = (u : Int) * 256 := by omega
    have k2 : ((u : Int) * 256 + (v : Int)) % 4294967296 = (u : Int) * 256 + (v : Int) := by omega
    have hk3 : k ≤ 3 := by omega
    clear hst hlt hp hq hk4
    go_wp2_with fail
    refine ⟨⟨k + 1, by omega, by first | rfl | (congr 1; omega) | go_num, by rw [HST.out]; first | rfl | (congr 1; omega), by first | trivial | rfl⟩, ?_⟩
    simp; omega
theorem RowAt.setB {w : World} {b n : Nat} {d : Nat → Nat} (h : RowAt w b 5 n (bytesV d)) (i x : Nat) : RowAt (w.setCell ⟨b, i, none⟩ (.int .u8 (x : Int))) b 5 n (bytesV (upd d i x)) :=
  (h.set (.int .u8 (x : Int))).congr fun j _ => by unfold bytesV upd; split <;> rfl
set_option maxRecDepth 100000 in
set_option maxHeartbeats 4000000 in
theorem word29_any (b n c at_ x : Nat) (d : Nat → Nat) (w : World) (h : RowAt w b 5 n (bytesV d)) (hx : x < 4294967296) (ha : at_ + 4 ≤ n) (hn : n ≤ 1000000) :
    Calls Tryz.prog 84 #[.slice (some ⟨b, 0, none⟩) n c, .int .i64 (at_ : Int), .int .u32 (x : Int)] w fun e w' => e = .returned (.tuple #[]) ∧ RowAt w' b 5 n (bytesV (putD d at_ x)) ∧ Only (fun i => i = b) w w' := by
  have HM : Hid (RowAt w b 5 n (bytesV (putK d at_ x 0))) := by show RowAt _ _ _ _ _; rw [putK0]; exact h
  clear h
  go_enter Tryz.func84, Tryz.ntmps84
  go_wp2_with fail
  go_loopw [6] (fun i wr => ∃ k : Nat, k ≤ 4 ∧ i = .int .i64 (k : Int) ∧ Hid (RowAt wr b 5 n (bytesV (putK d at_ x k))) ∧ Hid (Only (fun i => i = b) w wr)) (fun i _ => 4 - (intOf i).toNat)
  case atStart => exact ⟨0, by omega, rfl, HM, Only.refl _ _⟩
  case round =>
    clear HM
    obtain ⟨k, hk, rfl, HR, HO⟩ := hrel
    rcases (by omega : k = 4 ∨ k = 0 ∨ k = 1 ∨ k = 2 ∨ k = 3) with rfl | rfl | rfl | rfl | rfl
    · go_wp2_with fail
      go_end0
      exact ⟨rfl, by have := HR.out; rw [putK4] at this; exact this, HO.out⟩
    · skip
      obtain ⟨v, hv⟩ : ∃ v, v = x / 256 ^ 0 % 256 := ⟨_, rfl⟩
      have hv2 : v < 256 := by omega
      have hvx : (x : Int) % 256 = (v : Int) := by rw [hv]; simp only [Nat.reducePow]; omega
      have i1 : ((at_ : Int)) < (n : Int) := by omega
      have i0 : (0 : Int) ≤ ((at_ : Int)) := by omega
      have HV := Lib.hid hv
      have fr : wr.frozen? ⟨b, at_, none⟩ = false := HR.out.frozen _
      have cD : wr.cell? ⟨b, at_, none⟩ = some (.int .u8 ((putK d at_ x 0 (at_) : Nat) : Int)) := HR.out.cell (by omega)
      have HRn : Hid (RowAt (wr.setCell ⟨b, at_, none⟩ (.int .u8 (v : Int))) b 5 n (bytesV (putK d at_ x 1))) := (HR.out.setB (at_) v).congr fun j _ => by
        unfold bytesV upd
        rw [putK_succ d at_ x 0 j, HV.out]
        first | done | rfl
      have HOn : Hid (Only (fun i => i = b) w (wr.setCell ⟨b, at_, none⟩ (.int .u8 (v : Int)))) := HO.out.set _ _ (.inr rfl)
      have hbl := HR.out.lt
      clear hv HR HO
      go_wp2_with fail
      exact ⟨⟨1, by omega, rfl, HRn, HOn⟩, by simp [intOf]⟩
    · skip
      obtain ⟨v, hv⟩ : ∃ v, v = x / 256 ^ 1 % 256 := ⟨_, rfl⟩
      have hv2 : v < 256 := by omega
      have hvx : (x : Int) / 256 % 256 = (v : Int) := by rw [hv]; simp only [Nat.reducePow]; omega
      have i1 : ((at_ : Int) + 1) < (n : Int) := by omega
      have i0 : (0 : Int) ≤ ((at_ : Int) + 1) := by omega
      have HV := Lib.hid hv
      have fr : wr.frozen? ⟨b, at_ + 1, none⟩ = false := HR.out.frozen _
      have cD : wr.cell? ⟨b, at_ + 1, none⟩ = some (.int .u8 ((putK d at_ x 1 (at_ + 1) : Nat) : Int)) := HR.out.cell (by omega)
      have HRn : Hid (RowAt (wr.setCell ⟨b, at_ + 1, none⟩ (.int .u8 (v : Int))) b 5 n (bytesV (putK d at_ x 2))) := (HR.out.setB (at_ + 1) v).congr fun j _ => by
        unfold bytesV upd
        rw [putK_succ d at_ x 1 j, HV.out]
        first | done | rfl
      have HOn : Hid (Only (fun i => i = b) w (wr.setCell ⟨b, at_ + 1, none⟩ (.int .u8 (v : Int)))) := HO.out.set _ _ (.inr rfl)
      have hbl := HR.out.lt
      clear hv HR HO
      go_wp2_with fail
      exact ⟨⟨2, by omega, rfl, HRn, HOn⟩, by simp [intOf]⟩
    · skip
      obtain ⟨v, hv⟩ : ∃ v, v = x / 256 ^ 2 % 256 := ⟨_, rfl⟩
      have hv2 : v < 256 := by omega
      have hvx : (x : Int) / 65536 % 256 = (v : Int) := by rw [hv]; simp only [Nat.reducePow]; omega
      have i1 : ((at_ : Int) + 2) < (n : Int) := by omega
      have i0 : (0 : Int) ≤ ((at_ : Int) + 2) := by omega
      have HV := Lib.hid hv
      have fr : wr.frozen? ⟨b, at_ + 2, none⟩ = false := HR.out.frozen _
      have cD : wr.cell? ⟨b, at_ + 2, none⟩ = some (.int .u8 ((putK d at_ x 2 (at_ + 2) : Nat) : Int)) := HR.out.cell (by omega)
      have HRn : Hid (RowAt (wr.setCell ⟨b, at_ + 2, none⟩ (.int .u8 (v : Int))) b 5 n (bytesV (putK d at_ x 3))) := (HR.out.setB (at_ + 2) v).congr fun j _ => by
        unfold bytesV upd
        rw [putK_succ d at_ x 2 j, HV.out]
        first | done | rfl
      have HOn : Hid (Only (fun i => i = b) w (wr.setCell ⟨b, at_ + 2, none⟩ (.int .u8 (v : Int)))) := HO.out.set _ _ (.inr rfl)
      have hbl := HR.out.lt
      clear hv HR HO
      go_wp2_with fail
      exact ⟨⟨3, by omega, rfl, HRn, HOn⟩, by simp [intOf]⟩
    · skip
      obtain ⟨v, hv⟩ : ∃ v, v = x / 256 ^ 3 % 256 := ⟨_, rfl⟩
      have hv2 : v < 256 := by omega
      have hvx : (x : Int) / 16777216 = (v : Int) := by rw [hv]; simp only [Nat.reducePow]; omega
      have i1 : ((at_ : Int) + 3) < (n : Int) := by omega
      have i0 : (0 : Int) ≤ ((at_ : Int) + 3) := by omega
      have HV := Lib.hid hv
      have fr : wr.frozen? ⟨b, at_ + 3, none⟩ = false := HR.out.frozen _
      have cD : wr.cell? ⟨b, at_ + 3, none⟩ = some (.int .u8 ((putK d at_ x 3 (at_ + 3) : Nat) : Int)) := HR.out.cell (by omega)
      have HRn : Hid (RowAt (wr.setCell ⟨b, at_ + 3, none⟩ (.int .u8 (v : Int))) b 5 n (bytesV (putK d at_ x 4))) := (HR.out.setB (at_ + 3) v).congr fun j _ => by
        unfold bytesV upd
        rw [putK_succ d at_ x 3 j, HV.out]
        first | done | rfl
      have HOn : Hid (Only (fun i => i = b) w (wr.setCell ⟨b, at_ + 3, none⟩ (.int .u8 (v : Int)))) := HO.out.set _ _ (.inr rfl)
      have hbl := HR.out.lt
      clear hv HR HO
      go_wp2_with fail
      exact ⟨⟨4, by omega, rfl, HRn, HOn⟩, by simp [intOf]⟩
end Go.Proofs.YtdlpgoackmgdkaaGreatDoor
