/- The library's contracts for TableLines. -/
import Derived.Test.YtpodedhnlicckaaGreatDoorTbLp
import Derived.Shelf.Strings.OnBuilder
import Derived.BigQuiet
namespace Go.Proofs.YtpodedhnlicckaaGreatDoor
open Go.Shelf Go.RowKit
set_option linter.unusedVariables false
set_option linter.unusedSimpArgs false
def Tryz.laysJoin_ren : Go.Shelf.Ren := ⟨fun | 156 => 30 | 165 => 60 | 166 => 61 | 169 => 51 | 240 => 90 | 241 => 91 | 276 => 109 | 277 => 110 | n => n, fun | 31 => 52 | 9 => 9 | 3 => 3 | 4 => 4 | 0 => 0 | 20 => 20 | 72 => 69 | 76 => 92 | 70 => 66 | 37 => 67 | 75 => 91 | 127 => 115 | 164 => 127 | 5 => 5 | 80 => 79 | n => n, fun | n => n⟩
theorem Tryz.laysJoin : Go.Proofs.Lays.n156 Tryz.prog Tryz.laysJoin_ren := {
  mixed := by kernel_rfl
  f156 := Tryz.func30.trans (congrArg some (by kernel_rfl))
  f165 := Tryz.func60.trans (congrArg some (by kernel_rfl))
  f166 := Tryz.func61.trans (congrArg some (by kernel_rfl))
  f169 := Tryz.func51.trans (congrArg some (by kernel_rfl))
  f240 := Tryz.func90.trans (congrArg some (by kernel_rfl))
  f241 := Tryz.func91.trans (congrArg some (by kernel_rfl))
  f276 := Tryz.func109.trans (congrArg some (by kernel_rfl))
  f277 := Tryz.func110.trans (congrArg some (by kernel_rfl))
  t0 := Tryz.underlying0
  a0 := Tryz.isAgg0
  z0 := Tryz.sizeOf0
  v0 := Tryz.zeroValue0
  t3 := Tryz.underlying3
  a3 := Tryz.isAgg3
  z3 := Tryz.sizeOf3
  v3 := Tryz.zeroValue3
  t4 := Tryz.underlying4
  a4 := Tryz.isAgg4
  z4 := Tryz.sizeOf4
  v4 := Tryz.zeroValue4
  t9 := Tryz.underlying9
  a9 := Tryz.isAgg9
  z9 := Tryz.sizeOf9
  v9 := Tryz.zeroValue9
  t20 := Tryz.underlying20
  a20 := Tryz.isAgg20
  z20 := Tryz.sizeOf20
  v20 := Tryz.zeroValue20
  t31 := Tryz.underlying52
  a31 := Tryz.isAgg52
  z31 := Tryz.sizeOf52
  v31 := Tryz.zeroValue52
  t37 := Tryz.underlying67
  a37 := Tryz.isAgg67
  z37 := Tryz.sizeOf67
  v37 := Tryz.zeroValue67
  t70 := Tryz.underlying66
  a70 := Tryz.isAgg66
  z70 := Tryz.sizeOf66
  v70 := Tryz.zeroValue66
  t72 := Tryz.underlying69
  a72 := Tryz.isAgg69
  z72 := Tryz.sizeOf69
  v72 := Tryz.zeroValue69
  t75 := Tryz.underlying91
  a75 := Tryz.isAgg91
  z75 := Tryz.sizeOf91
  v75 := Tryz.zeroValue91
  t76 := Tryz.underlying92
  a76 := Tryz.isAgg92
  z76 := Tryz.sizeOf92
  v76 := Tryz.zeroValue92
  t127 := Tryz.underlying115
  a127 := Tryz.isAgg115
  z127 := Tryz.sizeOf115
  v127 := Tryz.zeroValue115
  t164 := Tryz.underlying127
  a164 := Tryz.isAgg127
  z164 := Tryz.sizeOf127
  v164 := Tryz.zeroValue127 }
theorem Tryz.extraJ : Builder.Extra Tryz.prog Tryz.laysJoin_ren where
  sizeBuilder := by kernel_rfl
  liesBuilder := by kernel_rfl
  t5 := Tryz.underlying5
  a5 := Tryz.isAgg5
  z5 := Tryz.sizeOf5
  v5 := Tryz.zeroValue5
  infoByte := by kernel_rfl
  cellsByte := by kernel_rfl
  sizeByte := by kernel_rfl
  neB5 := by decide
theorem join_nil : ∀ xs : List (List UInt8), Lib.join xs [] = xs.flatten
  | [] => rfl
  | [x] => by simp [Lib.join]
  | x :: y :: r => by
    have := join_nil (y :: r)
    simp [Lib.join] at *
    first | exact this | simp [this]
theorem count_any (s : ByteArray) (w : World) (hs : s.size ≤ 524288) (hM : MaxW w) :
    Calls Tryz.prog 28 #[.string s, .string ⟨#[10]⟩] w fun e w' => e = .returned (.int .i64 (Lib.countB s ⟨#[10]⟩ : Int)) ∧ w' = w := by
  obtain ⟨m, hm⟩ := hM
  exact Any.strings_Count_any { Tryz.laysSplit with } s ⟨#[10]⟩ m w (by omega) hm (Nat.le_refl 1)
def afterB (s : ByteArray) : List ByteArray := Lib.splitB ⟨#[10]⟩ 1 (Lib.countB s ⟨#[10]⟩) s
theorem afterB_len (s : ByteArray) : (afterB s).length = Lib.countB s ⟨#[10]⟩ + 1 := Lib.splitB_all ⟨#[10]⟩ (Nat.le_refl 1) 1 _ s rfl
theorem gen_any (s : ByteArray) (w : World) (hs : s.size ≤ 524288) (hM : MaxW w) :
    Calls Tryz.prog 59 #[.string s, .string ⟨#[10]⟩, .int .i64 1, .int .i64 (-1)] w fun e w' => e = .returned (.slice (some ⟨w.heap.size, 0, none⟩) (afterB s).length (afterB s).length) ∧ w' = w.alloc (.cells ((afterB s).map Value.string).toArray 9) := by
  obtain ⟨m, hm⟩ := hM
  have hle := Lib.countB_le ⟨#[10]⟩ (Nat.le_refl 1) s.size s (Nat.le_refl _)
  have c := Any.strings_genSplit { Tryz.laysSplit with } (by kernel_rfl) s ⟨#[10]⟩ 1 (-1) (Lib.countB s ⟨#[10]⟩ + 1) m w (by omega) hm (Nat.le_refl 1) (Nat.le_refl 1) (by decide) (by decide) (by rw [if_pos (by decide)]; omega)
  rw [Nat.add_sub_cancel] at c
  have hlen := afterB_len s
  have e2 : Lib.cellsOf (afterB s) (Lib.countB s ⟨#[10]⟩ + 1) = ((afterB s).map Value.string).toArray := by rw [← hlen]; exact Lib.cellsOf_full _
  refine c.mono ?_
  rintro e w' ⟨h1, h2⟩
  refine ⟨?_, ?_⟩
  · rw [h1]; show Ending.returned (.slice _ (afterB s).length _) = _; rw [hlen]
  · rw [h2]; show w.alloc (.cells (Lib.cellsOf (afterB s) _) _) = _; rw [e2]; rfl
theorem after_any (s : ByteArray) (w : World) (hs : s.size ≤ 524288) (hM : MaxW w) :
    Calls Tryz.prog 29 #[.string s, .string ⟨#[10]⟩] w fun e w' => e = .returned (.slice (some ⟨w.heap.size, 0, none⟩) (afterB s).length (afterB s).length) ∧ w' = w.alloc (.cells ((afterB s).map Value.string).toArray 9) := by
  have H := Lib.hid (gen_any s w hs hM)
  clear hs hM
  go_enter Tryz.func29, Tryz.ntmps29
  go_wp2_with fail
  (with_reducible refine H.out.mono ?_)
  rintro e w2 ⟨rfl, rfl⟩
  go_wp2_with fail
  go_ret
  exact ⟨rfl, rfl⟩
theorem joinb_any (bk c : Nat) (xs : List ByteArray) (w : World) (hcells : ∀ (j : Nat) x, xs[j]? = some x → w.cell? ⟨bk, j, none⟩ = some (.string x)) (hbk : bk < w.heap.size) (hN : xs.length ≤ 1000000) (hcap : xs.length ≤ c) (hlen : (xs.map (·.data.toList)).flatten.length ≤ 1000000) :
    Calls Tryz.prog 30 #[.slice (some ⟨bk, 0, none⟩) xs.length c, .string ⟨#[]⟩] w fun e w' => e = .returned (.string ⟨((xs.map (·.data.toList)).flatten).toArray⟩) ∧ Below w.heap.size w w' := by
  have h := Any.strings_Join Tryz.laysJoin Tryz.extraJ bk 0 c xs ⟨#[]⟩ w (fun j x hx => by rw [Nat.zero_add]; exact hcells j x hx) hbk (by omega) hcap (by show (Lib.join _ []).length ≤ _; rw [join_nil]; omega)
  rw [show (⟨#[]⟩ : ByteArray).data.toList = [] from rfl, join_nil] at h
  exact h
end Go.Proofs.YtpodedhnlicckaaGreatDoor
