/-
  Texts that the law leans on. Nothing here is trusted.
-/
import Derived.Test.YtnlglgafokjhnaaGreatEngM
set_option linter.unusedVariables false
set_option linter.unusedSimpArgs false
namespace Go.Eng
open Go Go.RowKit
variable {P : Program} {S S' Sb : Pl} {fr : Fr} {L L' : LL} {q q' : PH} {w0 : W0} {w w' : World} {a : Act} {n0 N : Nat} {B : Nat → Prop} {E : Env}
theorem okF_nil {tm : Array Value} : okF S [] tm := fun _ => trivial
theorem mFr_ok {b : Nat} {ac : Fr} : ∀ {tm : Fr} {as : As} {K : As → Prop}, AsOk b as → mFr b tm ac as K → Got b as K fun as => ∀ (S : Pl) t, okF S ac t → okF (sub as S) tm t
  | [], as, K, ho, h => .here ho h fun _ _ _ _ _ => okF_nil
  | (t, x) :: r, as, K, ho, h => by
    rw [mFr_c] at h
    obtain ⟨as1, e1, o1, h1, r1⟩ := mSV_ok ho h
    obtain ⟨as2, e2, o2, h2, r2⟩ := mFr_ok o1 h1
    refine ⟨as2, e1.trans e2, o2, h2, fun as'' e o S tm hv u => ?_⟩
    rw [get_cons]
    split
    · rename_i e'; subst e'; exact r1 as'' (e2.trans e) o S _ (hv t)
    · exact r2 as'' e o S tm hv u
def Lies (N0 : Nat) (S S' : Pl) (j k : Nat) (y x : LB) : Prop := blk S' k x = blk S j y ∧ ∀ w, chunk N0 S j y w → chunk N0 S' k x w
theorem mLB_ok {N0 b : Nat} {x y : LB} {as : As} {K : As → Prop} (ho : AsOk b as) (h : mLB b x y as K) : Got b as K fun as => ∀ (S : Pl) k j, sub as S k = S j → Lies N0 S (sub as S) j k y x := by
  unfold mLB at h
  split at h
  · split at h
    · rename_i e
      have e := Nat.eq_of_beq_eq_true e
      subst e
      obtain ⟨as', h1, h2, h3, h4⟩ := mL_ok ho h
      refine ⟨as', h1, h2, h3, fun as'' e o S k j hs => ⟨by simp [blk, hs], fun w hc => ?_⟩⟩
      obtain ⟨g1, vs, g2, g3⟩ := hc
      exact ⟨by rw [hs]; exact g1, vs, by rw [hs]; exact g2, h4 as'' e o S vs g3⟩
    · exact h.elim
  · split at h
    · rename_i e1
      split at h
      · rename_i e2
        have e1 := Nat.eq_of_beq_eq_true e1
        have e2 := Nat.eq_of_beq_eq_true e2
        subst e1 e2
        obtain ⟨⟨rfl, rfl⟩, h⟩ := h
        exact .here ho h fun as'' o S k j hs => ⟨by simp [blk, hs], fun w hc => by simp only [chunk, hs] at hc ⊢; exact hc⟩
      · exact h.elim
    · exact h.elim
  · exact .here ho h fun as'' o S k j hs => ⟨by simp [blk, hs], fun w hc => by simp only [chunk, hs] at hc ⊢; exact hc⟩
  · exact .here ho h fun as'' o S k j hs => ⟨by simp [blk, hs], fun w hc => by simp only [chunk, hs] at hc ⊢; exact hc⟩
  · exact .here ho h fun as'' o S k j hs => ⟨by simp [blk, hs], fun w hc => by simp only [chunk, hs] at hc ⊢; exact hc⟩
  · exact h.elim
theorem mLL_ok {N0 b : Nat} {ac : LL} : ∀ {tm : LL} {as : As} {K : As → Prop}, AsOk b as → mLL b tm ac as K →
    Got b as K fun as => ∀ k x, getL tm k = some x → ∃ j y, asGet as k = some j ∧ getL ac j = some y ∧ ∀ S : Pl, Lies N0 S (sub as S) j k y x
  | [], as, K, ho, h => .here ho h fun _ _ _ _ hk => by cases hk
  | (k, x) :: r, as, K, ho, h => by
    rw [mLL_c] at h
    have fin : ∀ {as0 : As} {j : Nat} {y : LB}, AsExt as as0 → AsOk b as0 → asGet as0 k = some j → getL ac j = some y → (mLB b x y as0 fun as => mLL b r ac as K) →
        Got b as K fun as => ∀ k' x', getL ((k, x) :: r) k' = some x' → ∃ j y, asGet as k' = some j ∧ getL ac j = some y ∧ ∀ S : Pl, Lies N0 S (sub as S) j k' y x' := by
      intro as0 j y e0 o0 hg hy h
      obtain ⟨as1, e1, o1, h1, r1⟩ := mLB_ok (N0 := N0) o0 h
      obtain ⟨as2, e2, o2, h2, r2⟩ := mLL_ok o1 h1
      refine ⟨as2, (e0.trans e1).trans e2, o2, h2, fun as'' e o k' x' hk' => ?_⟩
      rw [getL_cons] at hk'
      split at hk'
      · rename_i ek
        subst ek
        cases hk'
        have hg' := e _ _ (e2 _ _ (e1 _ _ hg))
        exact ⟨j, y, hg', hy, fun S => r1 as'' (e2.trans e) o S k j (sub_get hg')⟩
      · exact r2 as'' e o k' x' hk'
    split at h
    · rename_i j hj
      split at h
      · rename_i y hy; exact fin (.refl _) ho hj hy h
      · exact h.elim
    · rename_i hn
      split at h
      · rename_i hb hh
        split at h
        · rename_i y hy
          obtain ⟨e0, o0⟩ := ho.cons hn hh (fun _ => rfl)
          exact fin e0 o0 (by rw [asGet_cons, if_pos rfl]) hy h
        · exact h.elim
      · exact h.elim
theorem getL_appL {k : Nat} {B : LL} : ∀ {A : LL}, getL (appL A B) k = match getL A k with | some x => some x | none => getL B k
  | [] => by simp [appL_n, getL_n]
  | (u, x) :: r => by
    simp only [appL_c, getL_cons, getL_appL (A := r)]
    by_cases h : u = k <;> simp [h]
theorem get_appF {B : Fr} {t : Nat} : ∀ {A : Fr}, get (appF A B) t = get A t ∨ get (appF A B) t = get B t
  | [] => .inr rfl
  | (u, x) :: r => by
    simp only [appF_c, get_cons]
    split
    · exact .inl rfl
    · exact get_appF
theorem okF_appF {A B : Fr} {t : Array Value} (h : okF S A t) (h' : okF S B t) : okF S (appF A B) t := fun v => by
  rcases get_appF (A := A) (B := B) (t := v) with e | e <;> rw [e]
  · exact h v
  · exact h' v
theorem okF_keepF {fr : Fr} {t : Array Value} (h : okF S fr t) : ∀ (ks : List Nat), okF S (keepF ks fr) t
  | [] => okF_nil
  | k :: r => fun v => by
    simp only [keepF_c, get_cons]
    split
    · rename_i e; subst e; exact h k
    · exact okF_keepF h r v
theorem getL_restL {as : As} {k : Nat} : ∀ {L : LL}, (asHas as k = false → getL (restL as L) k = getL L k) ∧ ∀ x, getL (restL as L) k = some x → asHas as k = false
  | [] => ⟨fun _ => rfl, fun _ h => by cases h⟩
  | (u, y) :: r => by
    obtain ⟨h1, h2⟩ := getL_restL (as := as) (k := k) (L := r)
    rw [restL_c]
    split
    · rename_i hu
      refine ⟨fun hk => ?_, h2⟩
      rw [getL_cons, if_neg (fun e => by subst e; rw [hu] at hk; cases hk)]
      exact h1 hk
    · rename_i hu
      refine ⟨fun hk => ?_, fun x hx => ?_⟩
      · rw [getL_cons, getL_cons, h1 hk]
      · rw [getL_cons] at hx
        split at hx
        · rename_i e; subst e; exact hu
        · exact h2 x hx
theorem hidFree_ok {as : As} {k : Nat} : ∀ {L : LL}, hidFree as L = true → getL L k = some .dfr → asHas as k = false
  | [], _, hk => by cases hk
  | (u, y) :: r, h, hk => by
    rw [getL_cons] at hk
    split at hk
    · rename_i e
      subst e
      cases hk
      simp only [hidFree] at h
      split at h
      · cases h
      · assumption
    · refine hidFree_ok (L := r) ?_ hk
      cases y <;> simp only [hidFree] at h <;> first | exact h | (split at h <;> first | cases h | exact h)
theorem Mem.tell {as : As} {b : Nat} {tm rest : LL} (ho : AsOk b as) (h : Mem w0 q S L w) (hL : ∀ k x, getL tm k = some x → ∃ j y, asGet as k = some j ∧ getL L j = some y ∧ Lies 0 S (sub as S) j k y x)
    (hR : ∀ k x, getL rest k = some x → asHas as k = false ∧ ∃ y, getL L k = some y ∧ Lies 0 S (sub as S) k k y x) : Mem w0 q (sub as S) (appL tm rest) w := by
  have main : ∀ k x, getL (appL tm rest) k = some x → ∃ j y, getL L j = some y ∧ Lies 0 S (sub as S) j k y x ∧ ((asGet as k = some j) ∨ (j = k ∧ asHas as k = false)) := by
    intro k x hk
    rw [getL_appL] at hk
    split at hk
    · rename_i x' hx
      cases hk
      obtain ⟨j, y, h1, h2, h3⟩ := hL k _ hx
      exact ⟨j, y, h2, h3, .inl h1⟩
    · obtain ⟨h1, y, h2, h3⟩ := hR k x hk
      exact ⟨k, y, h2, h3, .inr ⟨rfl, h1⟩⟩
  refine ⟨fun k x hk => ?_, fun k x k' x' hk hk' hne c hc hc' => ?_, fun k x hk c hc o => ?_, fun k x hk c hc => ?_, h.on, h.be, h.gw⟩
  · obtain ⟨j, y, h1, h2, _⟩ := main k x hk
    exact h2.2 w (h.ch j y h1)
  · obtain ⟨j, y, h1, h2, h3⟩ := main k x hk
    obtain ⟨j', y', h1', h2', h3'⟩ := main k' x' hk'
    rw [h2.1] at hc
    rw [h2'.1] at hc'
    refine h.ap j y j' y' h1 h1' (fun e => ?_) c hc hc'
    subst e
    rcases h3 with h3 | ⟨h3, h4⟩ <;> rcases h3' with h3' | ⟨h3', h4'⟩
    · exact hne (ho.inj k k' j h3 h3')
    · subst h3'; rw [asGet_has h3] at h4'; cases h4'
    · subst h3; rw [asGet_has h3'] at h4; cases h4
    · exact hne (h3.symm.trans h3')
  · obtain ⟨j, y, h1, h2, _⟩ := main k x hk
    rw [h2.1] at hc
    exact h.po j y h1 c hc o
  · obtain ⟨j, y, h1, h2, _⟩ := main k x hk
    rw [h2.1] at hc
    exact h.fz j y h1 c hc
end Go.Eng
