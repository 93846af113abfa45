import Derived.Test.YtenjkphlbdhaiaaDoorPlainKM
set_option linter.unusedVariables false
set_option linter.unusedSimpArgs false
namespace Go.Proofs.YtenjkphlbdhaiaaDoor
open Go Go.Eng

/-! ### what waits, and an ESC behind it -/
theorem st1_typed {B : List Int} (h1 : 1 ≤ B.length) {n : Nat} (hn : (fs B).1 = n) (hp : 1 ≤ n) : st1 B false = some (B.drop n, (fs B).pa, if (fs B).is = true then [(fs B).key] else []) := by
  unfold st1
  rw [if_neg (by intro e; rw [e] at h1; exact absurd h1 (by decide)), if_neg (by decide), hn, if_neg (by omega), Int.toNat_natCast]
theorem run27 : Run [27] false [27] false [] := by
  refine .stop ?_
  unfold st1
  rw [if_neg (by decide), if_neg (by decide), if_pos fs_esc]
theorem pl_hi {u : List Int} (hu : Byt u) (h1 : 1 ≤ u.length) (h : ∀ c ∈ u, 128 ≤ c) : ∃ n : Nat, (pl (u ++ [27])).1 = n ∧ 1 ≤ n ∧ n ≤ u.length ∧ (pl (u ++ [27])).pa = false := by
  have hb : Byt (u ++ [27]) := byt_app hu (byt1' (by decide))
  have hc : 128 ≤ (u ++ [27]).getD 0 0 := by rw [getD_app (by omega)]; exact h _ (getD_mem (by omega))
  obtain ⟨k1, k2⟩ := nx_hi h1 h
  have hp := nx_pos hb (by simp) k1
  have e : pl (u ++ [27]) = ((nx (u ++ [27])).2.1, 1, strOf (enc (norm (nx (u ++ [27])).1)), 0, false, false, false, true, false) := by
    unfold pl
    rw [if_neg (by omega), if_neg (by omega), if_neg (by omega), if_neg (by omega), if_neg (by rw [k1]; decide)]
  rw [e]
  exact ⟨(nx (u ++ [27])).2.1.toNat, by show (nx (u ++ [27])).2.1 = _; omega, by omega, by omega, rfl⟩
theorem hi_run : ∀ (n : Nat) (u : List Int), u.length ≤ n → Byt u → (∀ c ∈ u, 128 ≤ c) → ∃ ks, Run (u ++ [27]) false [27] false ks
  | n, [], _, _, _ => ⟨_, run27⟩
  | 0, c :: t, hn, _, _ => by simp at hn
  | n + 1, c :: t, hn, hu, h => by
    obtain ⟨k, k1, k2, k3, k4⟩ := pl_hi hu (by simp) h
    have e : fs (c :: t ++ [27]) = pl (c :: t ++ [27]) := by
      unfold fs
      have hc : 128 ≤ c := h c List.mem_cons_self
      have hg : (c :: t ++ [27]).getD 0 0 = c := rfl
      rw [if_pos (by rw [hg]; omega)]
    have hs := st1_typed (B := c :: t ++ [27]) (by simp) (n := k) (by rw [e]; exact k1) k2
    rw [e, k4, List.drop_append_of_le_length k3] at hs
    obtain ⟨ks, hr⟩ := hi_run n ((c :: t).drop k) (by rw [List.length_drop]; omega) (drop_byt hu) (fun x hx => h x (List.mem_of_mem_drop hx))
    exact ⟨_, .step hs hr⟩
theorem sc_app_stop {lo hi x : Int} {l : List Int} {i : Nat} (hi' : i ≤ l.length) (h : sc lo hi l i = l.length) (hx : x < lo) : sc lo hi (l ++ [x]) i = l.length := by
  unfold sc at h ⊢
  rw [List.drop_append_of_le_length hi', List.takeWhile_append]
  rw [if_pos (by rw [List.length_drop]; omega)]
  have : ([x].takeWhile fun c => decide (lo ≤ c) && decide (c ≤ hi)) = [] := by
    rw [List.takeWhile_cons, if_neg (by simp; omega)]
  rw [this, List.append_nil, List.length_drop]
  omega
theorem W.esc_run {P : List Int} (h : W P) (hP : Byt P) : ∃ ks, Run (P ++ [27]) false [27] false ks := by
  cases h with
  | hi _ _ _ h => exact hi_run _ P (Nat.le_refl _) hP h
  | esc =>
    have e : fs ([27] ++ [27]) = (1, 5, ⟨#[]⟩, 0, false, false, false, true, false) := by
      unfold fs
      rw [if_neg (by decide), if_neg (by decide), if_pos (by decide)]
    have hs := st1_typed (B := [27] ++ [27]) (by decide) (n := 1) (by rw [e]; rfl) (by decide)
    rw [e] at hs
    exact ⟨_, .step hs run27⟩
  | br _ h32 h2 h27 h91 hsc _ =>
    have hm := sc_le (lo := 48) (hi := 63) h2
    have hL : (P ++ [27]).length = P.length + 1 := by simp
    have hi : sc 32 47 (P ++ [27]) (sc 48 63 (P ++ [27]) 2) = P.length := by
      by_cases hlt : sc 48 63 P 2 < P.length
      · rw [sc_app h2 hlt]
        exact sc_app_stop hm.2 hsc (by decide)
      · rw [sc_app_stop h2 (by omega) (by decide)]
        exact sc_app_stop (Nat.le_refl _) (sc_end (Nat.le_refl _)) (by decide)
    have e : fs (P ++ [27]) = mkF P.length ky0 false false := by
      unfold fs
      rw [getD_app (by omega), getD_app (by omega), if_neg (by rw [h27]; decide), if_neg (by omega), if_neg (by rw [h91]; decide), if_pos h91]
      unfold brk brkAt
      rw [hi, if_neg (by omega), if_neg (by omega), if_pos (.inl (by simp [List.getD_eq_getElem?_getD]))]
    have hs := st1_typed (B := P ++ [27]) (by omega) (n := P.length) (by rw [e]; rfl) (by omega)
    rw [e, List.drop_left] at hs
    exact ⟨_, .step hs run27⟩
  | oh =>
    have e : fs ([27, 79] ++ [27]) = mkF 2 ky0 false false := by
      unfold fs
      rw [if_neg (by decide), if_neg (by decide), if_neg (by decide), if_neg (by decide), if_pos (by decide)]
      unfold lb
      rw [if_neg (by decide), if_pos (by decide)]
    have hs := st1_typed (B := [27, 79] ++ [27]) (by decide) (n := 2) (by rw [e]; rfl) (by decide)
    rw [e] at hs
    exact ⟨_, .step hs run27⟩
  | ehi u h1 h3 h =>
    have hu : Byt u := fun c hc => hP c (List.mem_cons_of_mem _ hc)
    obtain ⟨k, k1, k2, k3, k4⟩ := pl_hi hu h1 h
    have hc : 128 ≤ (u ++ [27]).getD 0 0 := by rw [getD_app (by omega)]; exact h _ (getD_mem (by omega))
    have g1 : (27 :: u ++ [27]).getD 1 0 = (u ++ [27]).getD 0 0 := rfl
    have e : fs (27 :: u ++ [27]) = alt (pl (u ++ [27])) := by
      unfold fs
      have g0 : (27 :: u ++ [27]).getD 0 0 = 27 := rfl
      rw [g0, if_neg (by decide), if_neg (by simp), g1, if_neg (by omega), if_neg (by omega), if_neg (by omega)]
      rfl
    have ea : (alt (pl (u ++ [27]))).1 = (k + 1 : Nat) ∧ (alt (pl (u ++ [27]))).pa = false := by
      unfold alt
      rw [if_pos (by omega)]
      exact ⟨by show (pl (u ++ [27])).1 + 1 = _; omega, k4⟩
    have hs := st1_typed (B := 27 :: u ++ [27]) (by simp) (n := k + 1) (by rw [e]; exact ea.1) (by omega)
    have hd : (27 :: u ++ [27]).drop (k + 1) = u.drop k ++ [27] := by
      show (u ++ [27]).drop k = _
      rw [List.drop_append_of_le_length k3]
    rw [e, ea.2, hd] at hs
    obtain ⟨ks, hr⟩ := hi_run _ (u.drop k) (Nat.le_refl _) (drop_byt hu) (fun x hx => h x (List.mem_of_mem_drop hx))
    exact ⟨_, .step hs hr⟩
/-! ### behind the end of what is pasted, and an x -/
theorem fs_x : fs [120] = pl [120] := by
  unfold fs
  rw [if_pos (by decide)]
theorem run_x : ∃ ks, Run [120] false [] false ks := by
  have hx : nx [120] = (120, 1, false) := rfl
  have e : pl [120] = (1, 1, strOf (enc (norm 120)), 0, false, false, false, true, false) := by
    unfold pl
    rw [if_neg (by decide), if_neg (by decide), if_neg (by decide), if_neg (by decide), hx, if_neg (by decide)]
  have hs := st1_typed (B := [120]) (by decide) (n := 1) (by rw [fs_x, e]; rfl) (by decide)
  rw [fs_x, e] at hs
  exact ⟨_, .step hs run_stop0⟩
theorem fs_tail : (fs [27, 91, 50, 48, 49, 126, 120]).1 = (6 : Nat) ∧ (fs [27, 91, 50, 48, 49, 126, 120]).pa = false := by
  have e : fs [27, 91, 50, 48, 49, 126, 120] = mkF (5 + 1) (sq [50, 48, 49] 126).1 (sq [50, 48, 49] 126).2 false := by
    unfold fs
    rw [if_neg (by decide), if_neg (by decide), if_neg (by decide), if_pos (by decide)]
    unfold brk
    rw [show sc 48 63 [27, 91, 50, 48, 49, 126, 120] 2 = 5 from rfl, show sc 32 47 [27, 91, 50, 48, 49, 126, 120] 5 = 5 from rfl]
    unfold brkAt
    rw [if_neg (by decide), if_neg (by decide), if_neg (by decide), if_neg (by decide)]
    rfl
  rw [e]
  exact ⟨rfl, rfl⟩
theorem run_tail : ∃ ks, Run [27, 91, 50, 48, 49, 126, 120] false [] false ks := by
  have hs := st1_typed (B := [27, 91, 50, 48, 49, 126, 120]) (by decide) (n := 6) fs_tail.1 (by decide)
  rw [fs_tail.2] at hs
  obtain ⟨ks, hr⟩ := run_x
  exact ⟨_, .step hs hr⟩
theorem endAt_tail {B : List Int} (h : endAt B = none) : endAt (B ++ (E6 ++ [120])) = some B.length := by
  refine endAt_some.2 ⟨by rw [List.drop_left]; rfl, fun j hj he => ?_⟩
  by_cases hl : j + 6 ≤ B.length
  · rw [take_app hl] at he
    exact endAt_none.1 h j he
  · -- the 27 of the later one would stand within the earlier one
    have h27 : ((B ++ (E6 ++ [120])).drop j).take 6 = E6 := he
    have : (((B ++ (E6 ++ [120])).drop j).take 6).getD (B.length - j) 0 = E6.getD (B.length - j) 0 := by rw [h27]
    have e1 : (((B ++ (E6 ++ [120])).drop j).take 6).getD (B.length - j) 0 = 27 := by
      simp only [List.getD_eq_getElem?_getD]
      rw [List.getElem?_take_of_lt (by omega), List.getElem?_drop, show j + (B.length - j) = B.length by omega, List.getElem?_append_right (Nat.le_refl _), Nat.sub_self]
      rfl
    rw [e1] at this
    have := e6_inj (i := 0) (j := B.length - j) (by decide) (by omega) this
    omega
theorem run_end {Y : List Int} {B' : List Int} {pa' : Bool} {ks : List Ky} (hY : Byt Y) (hr : Run (Y ++ (E6 ++ [120])) false B' pa' ks) : B' = [] ∧ pa' = false := by
  obtain ⟨B1, pa1, ks1, h1⟩ := run_ex _ Y false (Nat.le_refl _) hY
  have hst := h1.stops
  have hB1 := (h1.byt hY).1
  have key : ∃ ks2, Run (B1 ++ (E6 ++ [120])) pa1 [] false ks2 := by
    cases pa1 with
    | true =>
      have hn : endAt B1 = none := by
        unfold st1 at hst
        split at hst
        · rename_i e; rw [e]; exact endAt_none.2 (by intro j; simp [E6])
        · rw [if_pos rfl] at hst
          simpa using hst
      have hs : st1 (B1 ++ (E6 ++ [120])) true = some ([120], false, [pkey ((B1 ++ (E6 ++ [120])).take (min B1.length 65536))]) := by
        unfold st1
        rw [if_neg (by simp), if_pos rfl, endAt_tail hn, Option.map_some]
        have : (B1 ++ (E6 ++ [120])).drop (B1.length + 6) = [120] := by
          rw [← List.drop_drop, List.drop_left]; rfl
        rw [this]
      obtain ⟨ks, hx⟩ := run_x
      exact ⟨_, .step hs hx⟩
    | false =>
      have hW : ∃ ks, Run (B1 ++ [27]) false [27] false ks := by
        by_cases hne : B1 = []
        · subst hne; exact ⟨_, run27⟩
        · unfold st1 at hst
          rw [if_neg hne, if_neg (by decide)] at hst
          split at hst
          · rename_i h0
            exact (fs_wait hB1 (by cases B1; exact absurd rfl hne; simp) h0).esc_run hB1
          · cases hst
      obtain ⟨ks, hw⟩ := hW
      obtain ⟨ks', ht⟩ := run_tail
      have := run_app (X := [91, 50, 48, 49, 126, 120]) hw (byt_app hB1 (byt1' (by decide))) ht
      rw [List.append_assoc] at this
      exact ⟨_, this⟩
  obtain ⟨ks2, h2⟩ := key
  have := run_app h1 hY h2
  obtain ⟨rfl, rfl, _⟩ := hr.det this
  exact ⟨rfl, rfl⟩

end Go.Proofs.YtenjkphlbdhaiaaDoor
