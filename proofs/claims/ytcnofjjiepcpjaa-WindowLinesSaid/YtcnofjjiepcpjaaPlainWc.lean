import Derived.Test.YtcnofjjiepcpjaaPlainWb
set_option linter.unusedVariables false
namespace Go.Proofs.Ytcnofjjiepcpjaa
open Go Go.Eng

def wd (x : Int) : Int := if x = 2 then 2 else 1
theorem wd_in (x : Int) : 1 ≤ wd x ∧ wd x ≤ 2 := by unfold wd; split <;> omega
def wa (l : List Int) (i : Int) : Int := wd (l.getD i.toNat 0)
theorem wa_in (l : List Int) (i : Int) : 1 ≤ wa l i ∧ wa l i ≤ 2 := wd_in _
def PN (l : List Int) : Nat → Int
  | 0 => 0
  | k + 1 => PN l k + wd (l.getD k 0)
/-- the widths ahead of a place -/
def PI (l : List Int) (i : Int) : Int := PN l i.toNat
theorem PI_succ {l : List Int} {i : Int} (h : 0 ≤ i) : PI l (i + 1) = PI l i + wa l i := by
  have e : (i + 1).toNat = i.toNat + 1 := by omega
  unfold PI wa
  rw [e]
  rfl
theorem PI_pred {l : List Int} {i : Int} (h : 0 < i) : PI l i = PI l (i - 1) + wa l (i - 1) := by
  have := PI_succ (l := l) (i := i - 1) (by omega)
  rwa [show i - 1 + 1 = i from by omega] at this
theorem PI_le {l : List Int} {i : Int} (h : 0 ≤ i) : ∀ (n : Nat), PI l i + n ≤ PI l (i + n) ∧ PI l (i + n) ≤ PI l i + 2 * n
  | 0 => by simp
  | n + 1 => by
    have h1 := PI_le (l := l) h n
    have h2 := PI_succ (l := l) (i := i + n) (by omega)
    have h3 := wa_in l (i + n)
    have e : i + ((n + 1 : Nat) : Int) = i + n + 1 := by omega
    rw [e, h2]
    omega
theorem PI_mono {l : List Int} {i j : Int} (h : 0 ≤ i) (hj : i ≤ j) : PI l i + (j - i) ≤ PI l j ∧ PI l j ≤ PI l i + 2 * (j - i) := by
  have := PI_le (l := l) h (j - i).toNat
  have e : i + ((j - i).toNat : Int) = j := by omega
  rw [e] at this
  omega
theorem g69_gives {x : Int} : Gives (g69 x) fun r => r = wd x := by
  unfold g69 wd
  exact g_if (fun h => g_some (by rw [if_pos h])) fun h => g_some (by rw [if_neg h])
theorem g88_gives {x : Int} : Gives (g88 x) fun r => r = wd x := by
  unfold g88 wd
  exact g_if (fun h => g_some (by rw [if_pos h])) fun h => g_some (by rw [if_neg h])
/-- what the cursor takes -/
def tk (l : List Int) (i : Int) : Int := if i < l.length then wa l i else 1
theorem tk_in (l : List Int) (i : Int) : 1 ≤ tk l i ∧ tk l i ≤ 2 := by unfold tk; split; exact wa_in l i; omega
theorem g68_gives {i : Int} {l : List Int} (h : 0 ≤ i) : Gives (g68 i l) fun r => r = tk l i := by
  unfold g68 tk
  refine g_if (fun h' => g_ck ⟨h, h'⟩ (g_bind g69_gives fun b hb => g_some ?_)) fun h' => g_some ?_
  · rw [if_pos h', hb]; rfl
  · rw [if_neg h']
theorem g72_gives {i : Int} {l : List Int} (h : 0 ≤ i) : Gives (g72 i l) fun r => r = tk l i := by
  unfold g72 tk
  refine g_if (fun h' => g_ck ⟨h, h'⟩ (g_bind g88_gives fun b hb => g_some ?_)) fun h' => g_some ?_
  · rw [if_pos h', hb]; rfl
  · rw [if_neg h']
theorem g71_gives {l : List Int} {a b : Int} (hl : l.length ≤ 1000000) (ha : 0 ≤ a) (hab : a ≤ b) (hb : b ≤ l.length) : Gives (g71 l a b) fun r => r = PI l b - PI l a := by
  unfold g71
  refine g_jn (fun r => r = PI l b - PI l a) (fun k hk => ?_) fun r hr => g_some hr
  refine g_bind (g_loop (fun s => a ≤ s.2 ∧ s.2 ≤ b ∧ s.1 = PI l s.2 - PI l a) (fun s => (b - s.2).toNat) ?_ ⟨Int.le_refl _, hab, by dsimp only; omega⟩) hk
  rintro ⟨n, i⟩ ⟨h1, h2, h3⟩
  dsimp only at h1 h2 h3 ⊢
  refine g_if (fun h => g_if (fun h' => g_ck (by omega) (g_bind g88_gives fun w hw => ?_)) fun h' => by omega) fun h => g_out (by rw [h3]; congr 2; omega)
  have h4 := PI_succ (l := l) (i := i) (by omega)
  have h5 := PI_mono (l := l) ha h1
  have h6 := wd_in (l.getD i.toNat 0)
  have h7 : wa l i = wd (l.getD i.toNat 0) := rfl
  subst hw
  refine g_i64 (by omega) (g_i64 (by omega) (g_go ⟨?_, ?_, ?_⟩ ?_))
  all_goals (dsimp only; omega)
/-- the place of the cursor -/
def cu (x : Int) (l : List Int) : Int := max 0 (min x l.length)
theorem g67_gives {x : Int} {l : List Int} : Gives (g67 x 0 ((l.length : Nat) : Int)) fun r => r = cu x l := by
  unfold g67 cu
  simp only [gmin_eq, gmax_eq]
  exact g_some rfl
theorem g70_gives {x : Int} {l : List Int} : Gives (g70 x l) fun r => r = cu x l := by
  unfold g70 cu
  simp only [gmin_eq, gmax_eq]
  exact g_some rfl
theorem cu_in (x : Int) (l : List Int) : 0 ≤ cu x l ∧ cu x l ≤ l.length := by unfold cu; omega
/-- the part of a line that is shown -/
def Fr (l : List Int) (c room r : Int) : Prop := 0 ≤ r ∧ r ≤ c ∧ (r = c ∨ PI l c - PI l r + tk l c ≤ room) ∧ ∀ f, 0 ≤ f → f < r → room < PI l c - PI l f + tk l c
def To (l : List Int) (room a r : Int) : Prop := a ≤ r ∧ r ≤ l.length ∧ (r = a ∨ PI l r - PI l a ≤ room) ∧ (r = l.length ∨ room < PI l (r + 1) - PI l a)
theorem Fr_one {l : List Int} {c room r s : Int} (h : Fr l c room r) (h' : Fr l c room s) : s = r := by
  obtain ⟨a1, a2, a3, a4⟩ := h
  obtain ⟨b1, b2, b3, b4⟩ := h'
  by_cases e : r < s
  · have := b4 r a1 e; omega
  · by_cases e' : s < r
    · have := a4 s b1 e'; omega
    · omega
theorem To_one {l : List Int} {room a r s : Int} (ha : 0 ≤ a) (h : To l room a r) (h' : To l room a s) : s = r := by
  obtain ⟨a1, a2, a3, a4⟩ := h
  obtain ⟨b1, b2, b3, b4⟩ := h'
  by_cases e : r < s
  · have := PI_mono (l := l) (i := r + 1) (j := s) (by omega) (by omega); omega
  · by_cases e' : s < r
    · have := PI_mono (l := l) (i := s + 1) (j := r) (by omega) (by omega); omega
    · omega
def shown (l : List Int) (x room : Int) (r : Int × Int) : Prop := (room < 1 ∧ r = (cu x l, cu x l)) ∨ (1 ≤ room ∧ Fr l (cu x l) room r.1 ∧ To l room r.1 r.2)
theorem g26_gives {l : List Int} {x room : Int} (hl : l.length ≤ 1000000) (hr : inR .i64 room) : Gives (g26 x room l) (shown l x room) := by
  unfold g26 shown
  simp only [inR] at hr
  refine g_bind g67_gives fun c hc => g_if (fun h => g_some (.inl ⟨h, by rw [hc]⟩)) fun h => ?_
  subst hc
  have c1 := cu_in x l
  refine g_bind (g68_gives c1.1) fun t ht => ?_
  subst ht
  have t1 := tk_in l (cu x l)
  refine g_jn (Fr l (cu x l) room) (fun k hk => ?_) fun a ha => g_jn (To l room a) (fun k hk => ?_) fun b hb => g_some (.inr ⟨by omega, ha, hb⟩)
  · refine g_bind (g_loop (fun s => 0 ≤ s.1 ∧ s.1 ≤ cu x l ∧ s.2 = PI l (cu x l) - PI l s.1 + tk l (cu x l) ∧ (s.1 = cu x l ∨ s.2 ≤ room)) (fun s => s.1.toNat) ?_ ⟨c1.1, Int.le_refl _, by dsimp only; omega, .inl rfl⟩) hk
    rintro ⟨i, n⟩ ⟨h1, h2, h3, h4⟩
    dsimp only at h1 h2 h3 h4 ⊢
    have m := PI_mono (l := l) h1 h2
    refine g_if (fun h => ?_) fun h => g_out ⟨h1, h2, by omega, fun f hf hf' => by omega⟩
    have p := PI_pred (l := l) h
    have w1 := wa_in l (i - 1)
    refine g_i64 (by omega) (g_ck (by omega) (g_bind g69_gives fun w hw => ?_))
    have hw' : w = wa l (i - 1) := hw
    clear hw
    refine g_i64 (by omega) (g_if (fun h => ?_) fun h => ?_)
    · refine g_i64 (by omega) (g_ck (by omega) (g_bind g69_gives fun v hv => ?_))
      have hv' : v = wa l (i - 1) := hv
      clear hv
      refine g_i64 (by omega) (g_go ⟨?_, ?_, ?_, ?_⟩ ?_)
      all_goals (dsimp only; omega)
    · refine g_out ⟨h1, h2, by omega, fun f hf hf' => ?_⟩
      have := PI_mono (l := l) (i := f) (j := i - 1) hf (by omega)
      omega
  · obtain ⟨f1, f2, f3, f4⟩ := ha
    refine g_bind (g_loop (fun s : Int × Int => a ≤ s.1 ∧ s.1 ≤ (l.length : Int) ∧ s.2 = PI l s.1 - PI l a ∧ (s.1 = a ∨ s.2 ≤ room)) (fun s => ((l.length : Int) - s.1).toNat) ?_ ⟨Int.le_refl _, by dsimp only; omega, by dsimp only; omega, .inl rfl⟩) hk
    rintro ⟨i, n⟩ ⟨h1, h2, h3, h4⟩
    dsimp only at h1 h2 h3 h4 ⊢
    have m := PI_mono (l := l) f1 h1
    refine g_if (fun h => ?_) fun h => g_out ⟨h1, h2, by omega, .inl (by omega)⟩
    have p := PI_succ (l := l) (i := i) (by omega)
    have w1 := wa_in l i
    refine g_ck (by omega) (g_bind g69_gives fun w hw => ?_)
    have hw' : w = wa l i := hw
    clear hw
    refine g_i64 (by omega) (g_if (fun h => ?_) fun h => ?_)
    · refine g_ck (by omega) (g_bind g69_gives fun v hv => ?_)
      have hv' : v = wa l i := hv
      clear hv
      refine g_i64 (by omega) (g_i64 (by omega) (g_go ⟨?_, ?_, ?_, ?_⟩ ?_))
      all_goals (dsimp only; omega)
    · exact g_out ⟨h1, h2, by omega, .inr (by omega)⟩
theorem g27_gives {l : List Int} {x room : Int} (hl : l.length ≤ 1000000) (hr : inR .i64 room) : Gives (g27 x room l) (shown l x room) := by
  unfold g27 shown
  simp only [inR] at hr
  refine g_bind g70_gives fun c hc => g_if (fun h => g_some (.inl ⟨h, by rw [hc]⟩)) fun h => ?_
  subst hc
  have c1 := cu_in x l
  have t1 := tk_in l (cu x l)
  refine g_jn (Fr l (cu x l) room) (fun k hk => ?_) fun a ha => g_jn (To l room a) (fun k hk => ?_) fun b hb => g_some (.inr ⟨by omega, ha, hb⟩)
  · refine g_bind (g_loop (fun s => 0 ≤ s ∧ s ≤ cu x l ∧ ∀ f, 0 ≤ f → f < s → room < PI l (cu x l) - PI l f + tk l (cu x l)) (fun s => (cu x l - s).toNat) ?_ ⟨Int.le_refl _, c1.1, fun f hf hf' => by omega⟩) hk
    rintro s ⟨h1, h2, h3⟩
    have m := PI_mono (l := l) h1 h2
    refine g_if (fun h => g_bind (g71_gives hl h1 h2 c1.2) fun v hv => g_bind (g72_gives c1.1) fun t ht => ?_) fun h => g_out ⟨h1, h2, .inl (by omega), h3⟩
    subst hv ht
    refine g_i64 (by omega) (g_if (fun h' => g_i64 (by omega) (g_go ⟨by omega, by omega, fun f hf hf' => ?_⟩ (by omega))) fun h' => g_out ⟨h1, h2, .inr (by omega), h3⟩)
    by_cases e : f < s
    · exact h3 f hf e
    · have : f = s := by omega
      subst this; exact h'
  · obtain ⟨f1, f2, f3, f4⟩ := ha
    refine g_bind (g_loop (fun s : Int => a ≤ s ∧ s ≤ (l.length : Int) ∧ (s = a ∨ PI l s - PI l a ≤ room)) (fun s => ((l.length : Int) - s).toNat) ?_ ⟨Int.le_refl _, by omega, .inl rfl⟩) hk
    rintro i ⟨h1, h2, h3⟩
    refine g_if (fun h => g_i64 (by omega) (g_bind (g71_gives hl f1 (by omega) (by omega)) fun v hv => ?_)) fun h => g_out ⟨h1, h2, h3, .inl (by omega)⟩
    subst hv
    exact g_if (fun h' => g_i64 (by omega) (g_go ⟨by omega, by omega, .inr h'⟩ (by omega))) fun h' => g_out ⟨h1, h2, h3, .inr (by omega)⟩
def col (l : List Int) (x a : Int) : Int := if a < 0 then 0 else if cu x l < a then 0 else PI l (cu x l) - PI l a
theorem g29_gives {l : List Int} {x a : Int} (hl : l.length ≤ 1000000) : Gives (g29 x a l) fun r => r = col l x a := by
  unfold g29 col
  refine g_bind g70_gives fun c hc => ?_
  subst hc
  refine g_if (fun h => g_some (by rw [if_pos h])) fun h => g_if (fun h' => g_some (by rw [if_neg h, if_pos h'])) fun h' => ?_
  rw [if_neg h, if_neg h']
  exact g_bind (g71_gives hl (by omega) (by omega) (cu_in x l).2) fun v hv => g_some hv
theorem g28_gives {l : List Int} {x a : Int} (hl : l.length ≤ 1000000) : Gives (g28 x a l) fun r => r = col l x a := by
  unfold g28 col
  refine g_bind g67_gives fun c hc => ?_
  subst hc
  have c1 := cu_in x l
  refine g_if (fun h => g_some (by rw [if_pos h])) fun h => g_if (fun h' => g_some (by rw [if_neg h, if_pos h'])) fun h' => ?_
  rw [if_neg h, if_neg h']
  refine g_jn (fun r => r = PI l (cu x l) - PI l a) (fun k hk => g_ck (by omega) ?_) fun r hr => g_some hr
  refine g_bind (g_loop (fun s => 0 ≤ s.2 ∧ s.2 ≤ cu x l - a ∧ s.1 = PI l (a + s.2) - PI l a) (fun s => (cu x l - a - s.2).toNat) ?_ ⟨Int.le_refl _, by dsimp only; omega, by simp⟩) hk
  rintro ⟨n, i⟩ ⟨h1, h2, h3⟩
  dsimp only at h1 h2 h3 ⊢
  have m := PI_mono (l := l) (i := a) (j := a + i) (by omega) (by omega)
  have p := PI_succ (l := l) (i := a + i) (by omega)
  have w1 := wa_in l (a + i)
  refine g_if (fun h => g_ck (by omega) (g_bind g69_gives fun w hw => ?_)) fun h => g_out ?_
  · have hw' : w = wa l (a + i) := by
      rw [hw, wa]
      congr 1
      simp only [List.getD_eq_getElem?_getD]
      rw [List.getElem?_take_of_lt (by omega), List.getElem?_drop]
      congr 2
      omega
    clear hw
    have e : a + (i + 1) = a + i + 1 := by omega
    refine g_i64 (by omega) (g_i64 (by omega) (g_go ⟨?_, ?_, ?_⟩ ?_))
    · dsimp only; omega
    · dsimp only; omega
    · dsimp only; rw [e]; omega
    · dsimp only; omega
  · rw [h3]
    congr 2
    omega
theorem shown_one {l : List Int} {x room : Int} {r s : Int × Int} (h : shown l x room r) (h' : shown l x room s) : s = r := by
  rcases h with ⟨h1, rfl⟩ | ⟨h1, h2, h3⟩
  · rcases h' with ⟨h1', rfl⟩ | ⟨h1', _, _⟩
    · rfl
    · omega
  · rcases h' with ⟨h1', rfl⟩ | ⟨_, h2', h3'⟩
    · omega
    · obtain ⟨a, b⟩ := r
      obtain ⟨c, d⟩ := s
      have e : c = a := Fr_one h2 h2'
      dsimp only at h2 h3 h2' h3'
      subst e
      have e' := To_one h2.1 h3 h3'
      rw [e']
theorem lines_gives {x room a : Int} {L : List Int} (h0 : inR .i64 x) (h1 : inR .i64 room) (h2 : inR .i64 a) (h3 : ∀ n ∈ L, inR .i64 n) : Gives (g5 x room a L) fun r => r = true := by
  unfold g5
  simp only [gmin_eq, gmax_eq]
  have e0 : (0 : Int).toNat = 0 := rfl
  rw [e0, List.drop_zero, Nat.sub_zero]
  generalize hl : L.take (min ((L.length : Nat) : Int) 200).toNat = l
  have hll : (l.length : Int) = min (L.length : Int) 200 := by rw [← hl]; simp; omega
  have hn : (((min ((L.length : Nat) : Int) 200).toNat : Nat) : Int) = l.length := by omega
  rw [hn]
  refine g_ck (by omega) (g_bind (g26_gives (by omega) h1) fun r hr => g_bind (g27_gives (by omega) h1) fun s hs => ?_)
  have e := shown_one hr hs
  subst e
  refine g_f (by simp) (g_f (by simp) (g_bind (g28_gives (by omega)) fun c hc => g_bind (g29_gives (by omega)) fun d hd => ?_))
  subst hc hd
  have fin : Gives (g24.bind fun v => some v) fun r => r = true := g_call g24_true (g_some rfl)
  refine g_f (by simp) (g_if (fun hr2 => ?_) fun _ => fin)
  rcases hr with ⟨h, _⟩ | ⟨_, hF, hT⟩
  · omega
  obtain ⟨f1, f2, f3, f4⟩ := hF
  obtain ⟨t1, t2, t3, t4⟩ := hT
  have c1 := cu_in x l
  have cd : max 0 (min x (l.length : Int)) = cu x l := rfl
  rw [cd]
  have t5 := tk_in l (cu x l)
  have f5 : PI l (cu x l) - PI l s.1 + tk l (cu x l) ≤ room := by
    rcases f3 with e | e
    · rw [e]; omega
    · exact e
  have key : cu x l ≤ s.2 ∧ (cu x l < l.length → cu x l < s.2) := by
    rcases t4 with e | e
    · omega
    · constructor
      · by_cases q : s.2 < cu x l
        · have := PI_mono (l := l) (i := s.2 + 1) (j := cu x l) (by omega) (by omega)
          omega
        · omega
      · intro hlt
        by_cases q : s.2 ≤ cu x l
        · have m := PI_mono (l := l) (i := s.2 + 1) (j := cu x l + 1) (by omega) (by omega)
          have p := PI_succ (l := l) (i := cu x l) (by omega)
          have tt : tk l (cu x l) = wa l (cu x l) := by unfold tk; rw [if_pos hlt]
          omega
        · omega
  exact g_f (by omega) (g_f (by omega) (g_if (fun h => g_f (by omega) fin) fun _ => fin))
end Go.Proofs.Ytcnofjjiepcpjaa
