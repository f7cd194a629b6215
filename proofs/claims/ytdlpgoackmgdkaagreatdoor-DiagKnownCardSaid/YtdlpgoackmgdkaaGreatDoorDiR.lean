/- Plain: a log's program in a frame. -/
import Derived.Test.YtdlpgoackmgdkaaGreatDoorDiP
import Derived.Test.YtdlpgoackmgdkaaGreatDoorRunS
namespace Go.Proofs.YtdlpgoackmgdkaaGreatDoor
set_option linter.unusedVariables false
set_option linter.unusedSimpArgs false
theorem LG.step_lt {g : LG} {i now : Nat} {d : Nat → Nat} (h : ∀ j, d j < 256) : ∀ j, g.step i now d j < 256 := by
  unfold LG.step
  split
  · exact h
  · exact put_lt _ _ _ (put_lt _ _ _ (put_lt _ _ _ (put_lt _ _ _ h)))
theorem place_run {code rest : List Ins} {g : LG} (hg : g.Ok) {pc : Nat} {S S' : MS} {d : Nat → Nat} (hb : S.base = g.base) (hd : S.dn = g.bytes) (h : code.drop pc = placeC g ++ rest)
    (k : code.drop (pc + 6) = rest → Run code (pc + 6) (S.at2 [8 * (wordD d 0 % g.size)] d) S') : Run code pc (S.at2 [] d) S' := by
  have hf := hg.fits; have h1 := hg.m1; have h2 := hg.s1; have h3 := hg.sm
  have hby : g.bytes = 4 * (1 + g.m + 2 * g.size) := rfl
  have hm : wordD d 0 % g.size < g.size := Nat.mod_lt _ (by omega)
  refine r_push h fun hk => ?_
  refine r_load (o := 0) hk (by omega) (by omega) (by omega) fun hk => ?_
  refine r_push hk fun hk => ?_
  refine r_sum hk (.rem _ _ (by omega)) fun hk => ?_
  refine r_push hk fun hk => ?_
  refine r_sum hk (.mul _ _) fun hk => ?_
  have e : wordD d 0 % g.size * 8 % 4294967296 = 8 * (wordD d 0 % g.size) := by omega
  rw [e]
  exact k hk
theorem one_run {code rest : List Ins} {g : LG} (hg : g.Ok) {k i n : Nat} (hi : i < g.m) (hn : n < 16) {S S' : MS} {d : Nat → Nat} (hb : S.base = g.base) (hd : S.dn = g.bytes) (h : code.drop k = oneC g i n k ++ rest)
    (kk : code.drop (k + 32) = rest → Run code (k + 32) (S.at2 [] (g.step i (S.ins n) d)) S') : Run code k (S.at2 [] d) S' := by
  have hf := hg.fits; have h1 := hg.m1; have h2 := hg.s1; have h3 := hg.sm
  have hby : g.bytes = 4 * (1 + g.m + 2 * g.size) := rfl
  have h32 : code.drop (k + 32) = rest := drop_app (a := oneC g i n k) h
  have kk := kk h32
  unfold LG.step at kk
  refine r_in h hn (by decide) fun hk => ?_
  refine r_push hk fun hk => ?_
  refine r_load (o := 4 + 4 * i) hk (by unfold LG.wd; omega) (by omega) (by omega) fun hk => ?_
  refine r_sum hk (.eq _ _) fun hk => ?_
  refine r_push hk fun hk => ?_
  refine r_sum hk (.eq _ _) fun hk => ?_
  by_cases hc : wordD d (4 + 4 * i) = S.ins n
  · rw [if_pos hc] at kk
    rw [show (if S.ins n = wordD d (4 + 4 * i) then 1 else 0) = 1 from if_pos hc.symm, if_neg (by decide)]
    exact r_zero hk (by omega) kk
  rw [if_neg hc] at kk
  rw [show (if S.ins n = wordD d (4 + 4 * i) then 1 else 0) = 0 from if_neg (fun e => hc e.symm), if_pos rfl]
  refine r_else hk (by decide) fun hk => ?_
  refine place_run hg hb hd hk fun hk => ?_
  have hcm : wordD d 0 % g.size < g.size := Nat.mod_lt _ (by omega)
  have hat : g.at d = 4 + 4 * g.m + 8 * (wordD d 0 % g.size) := rfl
  refine r_push hk fun hk => ?_
  refine r_store (o := g.at d) hk (by unfold LG.wd; omega) (by omega) (by omega) fun hk => ?_
  have e0 : wordD (putD d (g.at d) i) 0 = wordD d 0 := word_put_other d (by omega)
  refine place_run hg hb hd hk fun hk => ?_
  rw [e0]
  refine r_in hk hn (by decide) fun hk => ?_
  refine r_store (o := g.at d + 4) hk (by unfold LG.wd; omega) (by omega) (by omega) fun hk => ?_
  have e1 : wordD (putD (putD d (g.at d) i) (g.at d + 4) (S.ins n)) 0 = wordD d 0 := by rw [word_put_other _ (by omega), e0]
  refine r_push hk fun hk => ?_
  refine r_push hk fun hk => ?_
  refine r_load (o := 0) hk (by omega) (by omega) (by omega) fun hk => ?_
  rw [e1]
  refine r_push hk fun hk => ?_
  refine r_sum hk (.add _ _) fun hk => ?_
  refine r_store (o := 0) hk (by omega) (by omega) (by omega) fun hk => ?_
  refine r_push hk fun hk => ?_
  refine r_in hk hn (by decide) fun hk => ?_
  refine r_store (o := 4 + 4 * i) hk (by unfold LG.wd; omega) (by omega) (by omega) fun hk => ?_
  exact kk
theorem dtail_run {code : List Ins} {g : LG} (hg : g.Ok) {S : MS} (hb : S.base = g.base) (hd : S.dn = g.bytes) {k : Nat} {d : Nat → Nat} (h : code.drop k = dtailC g) (hfr : g.frame S.ins S.data = d) : Run code k (S.at2 [] d) (g.fin S) := by
  have hf := hg.fits; have h1 := hg.m1
  have hby : g.bytes = 4 * (1 + g.m + 2 * g.size) := rfl
  unfold dtailC at h
  unfold LG.fin
  rw [hfr]
  cases hp : g.port with
  | none =>
    rw [hp] at h
    refine r_push h fun hk => ?_
    refine r_drop hk fun hk => ?_
    exact r_yield hk
  | some P =>
    rw [hp] at h
    have hP := hg.port P hp
    refine r_push h fun hk => ?_
    refine r_drop hk fun hk => ?_
    refine r_push hk fun hk => ?_
    refine r_load (o := 0) hk (by omega) (by omega) (by omega) fun hk => ?_
    refine r_put hk hP (by decide) fun hk => ?_
    refine r_send hk hP (by decide) fun hk => ?_
    exact r_yield hk
theorem lg_run {code : List Ins} {g : LG} (hg : g.Ok) {S : MS} (hb : S.base = g.base) (hd : S.dn = g.bytes) (l : List Nat) : ∀ (i k : Nat) (d : Nat → Nat), code.drop k = lgC g i k l → i + l.length ≤ g.m → (∀ n ∈ l, n < 16) → g.frame S.ins S.data = g.steps S.ins i l d →
    Run code k (S.at2 [] d) (g.fin S) := by
  induction l with
  | nil =>
    intro i k d h _ _ hfr
    rw [LG.steps_nil] at hfr
    exact dtail_run hg hb hd h hfr
  | cons n r ih =>
    intro i k d h hl hn hfr
    rw [lgC] at h
    rw [List.length_cons] at hl
    rw [LG.steps_cons] at hfr
    exact one_run hg (by omega) (hn n (by simp)) hb hd h fun hk => ih (i + 1) (k + 32) _ hk (by omega) (fun x hx => hn x (by simp [hx])) hfr
theorem log_run {g : LG} (hg : g.Ok) {S : MS} (hb : S.base = g.base) (hd : S.dn = g.bytes) (hst : S.stack = []) : Run (logC g) 0 S (g.fin S) := by
  have h0 : (logC g).drop 0 = lgC g 0 0 g.ins := by rw [List.drop_zero]; unfold logC; rfl
  have := lg_run (code := logC g) hg hb hd g.ins 0 0 S.data h0 (by unfold LG.m; omega) hg.ins (by unfold LG.frame; rfl)
  rw [← MS.at2_self hst] at this
  exact this
end Go.Proofs.YtdlpgoackmgdkaaGreatDoor
