/-
  THE ENGINE, PART P: soundness: a state against a template; what a contract's arguments are.
  Nothing here is trusted.
-/
import Derived.Test.YtcnofjjiepcpjaaEngD
namespace Go.Eng
open Go Go.RowKit

variable {P : Program} {S S' Sb : Pl} {fr : Fr} {L L' : LL} {q q' : PH} {w w' : World} {a : Act} {n0 N : Nat} {B : Nat → Prop}

def sub (as : As) (S : Pl) : Pl := fun k => match asGet as k with | some j => S j | none => S k
def AsExt (as as' : As) : Prop := ∀ k j, asGet as k = some j → asGet as' k = some j
structure AsOk (b : Nat) (as : As) : Prop where
  abs : ∀ k j, asGet as k = some j → k < b → j = k
  inj : ∀ k k' j, asGet as k = some j → asGet as k' = some j → k = k'
theorem AsExt.refl (as : As) : AsExt as as := fun _ _ h => h
theorem AsExt.trans {a b c : As} (h : AsExt a b) (h' : AsExt b c) : AsExt a c := fun k j hk => h' k j (h k j hk)
theorem asGet_cons {as : As} {k j u : Nat} : asGet ((k, j) :: as) u = if k = u then some j else asGet as u := by
  simp only [asGet]
  by_cases h : k = u
  · subst h; simp
  · have : Nat.beq k u = false := by rw [Bool.eq_false_iff]; exact fun e => h (Nat.eq_of_beq_eq_true e)
    simp [this, h]
theorem asGet_has : ∀ {as : As} {k j : Nat}, asGet as k = some j → asHas as j = true
  | [], _, _, h => by cases h
  | (u, x) :: r, k, j, h => by
    rw [asGet_cons] at h
    unfold asHas
    split at h
    · cases h; simp
    · split
      · rfl
      · exact asGet_has h
theorem AsOk.nil (b : Nat) : AsOk b [] := ⟨fun _ _ h => (by cases h), fun _ _ _ h => (by cases h)⟩
theorem AsOk.cons {b : Nat} {as : As} {k j : Nat} (h : AsOk b as) (hn : asGet as k = none) (hj : asHas as j = false) (hb : k < b → j = k) : AsExt as ((k, j) :: as) ∧ AsOk b ((k, j) :: as) := by
  refine ⟨fun u x hu => ?_, fun u x hu hub => ?_, fun u u' x hu hu' => ?_⟩
  · rw [asGet_cons, if_neg]
    · exact hu
    · intro e; subst e; rw [hn] at hu; cases hu
  · rw [asGet_cons] at hu
    split at hu
    · rename_i e; subst e; cases hu; exact hb hub
    · exact h.abs u x hu hub
  · rw [asGet_cons] at hu hu'
    split at hu <;> split at hu'
    · rename_i e e'; exact e.symm.trans e'
    · cases hu; rw [asGet_has hu'] at hj; cases hj
    · cases hu'; rw [asGet_has hu] at hj; cases hj
    · exact h.inj u u' x hu hu'
theorem sub_get {as : As} {k j : Nat} (h : asGet as k = some j) : sub as S k = S j := by simp [sub, h]
theorem sub_abs {b : Nat} {as : As} {k : Nat} (h : AsOk b as) (hk : k < b) : sub as S k = S k := by
  unfold sub
  split
  · rename_i j hj; rw [h.abs k j hj hk]
  · rfl

/-- what a match yields -/
def Got (b : Nat) (as : As) (K : As → Prop) (R : As → Prop) : Prop := ∃ as', AsExt as as' ∧ AsOk b as' ∧ K as' ∧ ∀ as'', AsExt as' as'' → AsOk b as'' → R as''
theorem Got.here {b : Nat} {as : As} {K : As → Prop} {R : As → Prop} (ho : AsOk b as) (hK : K as) (hR : ∀ as'', AsOk b as'' → R as'') : Got b as K R := ⟨as, .refl _, ho, hK, fun as'' _ h => hR as'' h⟩
theorem asK_ok {b : Nat} {as : As} {k j : Nat} {K : As → Prop} (ho : AsOk b as) (h : asK b as k j K) : Got b as K fun as => ∀ S : Pl, sub as S k = S j := by
  unfold asK at h
  split at h
  · rename_i hb
    have hb := Nat.le_of_ble_eq_true hb
    split at h
    · rename_i i hi
      split at h
      · rename_i e
        have e := Nat.eq_of_beq_eq_true e
        subst e
        exact ⟨as, .refl _, ho, h, fun as'' he _ S => sub_get (he _ _ hi)⟩
      · exact h.elim
    · rename_i hn
      split at h
      · exact h.elim
      · rename_i hj
        obtain ⟨h1, h2⟩ := ho.cons hn hj (fun hb' => by omega)
        exact ⟨_, h1, h2, h, fun as'' he _ S => sub_get (he _ _ (by rw [asGet_cons, if_pos rfl]))⟩
  · rename_i hb
    have hb : k < b := by
      rcases Nat.lt_or_ge k b with h | h
      · exact h
      · rw [Nat.ble_eq_true_of_le h] at hb; cases hb
    split at h
    · rename_i e
      have e := Nat.eq_of_beq_eq_true e
      subst e
      split at h
      · exact .here ho h fun as'' ho' S => sub_abs ho' hb
      split at h
      · exact h.elim
      · exact .here ho h fun as'' ho' S => sub_abs ho' hb
    · exact h.elim

theorem dec_iff {p p' : Prop} (d : Decidable p) (d' : Decidable p') (h : p ↔ p') : @decide p d = @decide p' d' := by
  by_cases hp : p
  · have := h.1 hp; simp [hp, this]
  · have : ¬ p' := fun h' => hp (h.2 h'); simp [hp, this]

mutual
theorem mSV_ok : ∀ {ac tm : SV} {b : Nat} {as : As} {K : As → Prop}, AsOk b as → mSV b tm ac as K → Got b as K fun as => ∀ (S : Pl) v, okv S ac v → okv (sub as S) tm v := by
  intro ac tm b as K ho h
  unfold mSV at h
  split at h
  · exact .here ho h fun _ _ _ _ _ => trivial
  · obtain ⟨⟨rfl⟩, h⟩ := h; exact .here ho h fun _ _ _ _ hv => hv
  · obtain ⟨⟨rfl⟩, h⟩ := h; exact .here ho h fun _ _ _ _ hv => hv
  · rename_i x p d
    obtain ⟨⟨e⟩, h⟩ := h
    refine .here ho h fun _ _ _ v hv => ?_
    have hv : v = .bool (@decide p d) := hv
    show v = .bool x
    rw [hv]
    cases x
    · have : ¬ p := fun hp => by simpa using e.2 hp
      simp [this]
    · have : p := e.1 rfl
      simp [this]
  · obtain ⟨⟨rfl⟩, h⟩ := h; exact .here ho h fun _ _ _ _ hv => hv
  · rename_i x p d
    obtain ⟨⟨e⟩, h⟩ := h
    refine .here ho h fun _ _ _ v hv => ?_
    have hv : v = .bool (@decide p d) := hv
    show v = .bool x
    rw [hv]
    cases x
    · have : ¬ p := fun hp => by simpa using e.2 hp
      simp [this]
    · have : p := e.1 rfl
      simp [this]
  · rename_i p d p' d'
    obtain ⟨⟨e⟩, h⟩ := h
    refine .here ho h fun _ _ _ v hv => ?_
    have hv : v = .bool (@decide p' d') := hv
    show v = .bool (@decide p d)
    rw [hv, dec_iff d' d e.symm]
  · rename_i p d y
    obtain ⟨⟨e⟩, h⟩ := h
    refine .here ho h fun _ _ _ v hv => ?_
    have hv : v = .bool y := hv
    show v = .bool (@decide p d)
    rw [hv]
    cases y
    · have : ¬ p := fun hp => by simpa using e.1 hp
      simp [this]
    · have : p := e.2 rfl
      simp [this]
  · rename_i p d y
    obtain ⟨⟨e⟩, h⟩ := h
    refine .here ho h fun _ _ _ v hv => ?_
    have hv : v = .bool y := hv
    show v = .bool (@decide p d)
    rw [hv]
    cases y
    · have : ¬ p := fun hp => by simpa using e.1 hp
      simp [this]
    · have : p := e.2 rfl
      simp [this]
  · obtain ⟨⟨rfl⟩, h⟩ := h
    obtain ⟨as', h1, h2, h3, h4⟩ := asK_ok ho h
    refine ⟨as', h1, h2, h3, fun as'' e o S v hv => ?_⟩
    simp only [okv] at hv ⊢
    rw [h4 as'' e o S]; exact hv
  · obtain ⟨as', h1, h2, h3, h4⟩ := asK_ok ho h
    refine ⟨as', h1, h2, h3, fun as'' e o S v hv => ?_⟩
    simp only [okv] at hv ⊢
    rw [h4 as'' e o S]; exact hv
  · obtain ⟨as', h1, h2, h3, h4⟩ := asK_ok ho h
    refine ⟨as', h1, h2, h3, fun as'' e o S v hv => ?_⟩
    simp only [okv] at hv ⊢
    rw [h4 as'' e o S]; exact hv
  · obtain ⟨⟨rfl, rfl⟩, h⟩ := h; exact .here ho h fun _ _ _ _ hv => hv
  · obtain ⟨as', h1, h2, h3, h4⟩ := mL_ok ho h
    exact ⟨as', h1, h2, h3, fun as'' e o S v ⟨vs, hv, hl⟩ => ⟨vs, hv, h4 as'' e o S vs hl⟩⟩
  · obtain ⟨as', h1, h2, h3, h4⟩ := mL_ok ho h
    exact ⟨as', h1, h2, h3, fun as'' e o S v ⟨vs, hv, hl⟩ => ⟨vs, hv, h4 as'' e o S vs hl⟩⟩
  · split at h
    · rename_i e
      have e := Nat.eq_of_beq_eq_true e
      subst e
      obtain ⟨as', h1, h2, h3, h4⟩ := mL_ok ho h
      exact ⟨as', h1, h2, h3, fun as'' e o S v ⟨vs, hv, hl⟩ => ⟨vs, hv, h4 as'' e o S vs hl⟩⟩
    · exact h.elim
  · obtain ⟨hK, hv'⟩ := mVL_ok h
    refine .here ho hK fun _ _ S v ⟨vs, hv, hl⟩ => ?_
    have := hv' S vs hl
    subst this
    rw [hv]
    simp [okv]
  · obtain ⟨hK, hv'⟩ := mVL_ok h
    refine .here ho hK fun _ _ S v ⟨vs, hv, hl⟩ => ?_
    have := hv' S vs hl
    subst this
    rw [hv]
    simp [okv]
  · exact h.elim
theorem mL_ok : ∀ {ac tm : List SV} {b : Nat} {as : As} {K : As → Prop}, AsOk b as → mL b tm ac as K → Got b as K fun as => ∀ (S : Pl) vs, okL S ac vs → okL (sub as S) tm vs := by
  intro ac tm b as K ho h
  unfold mL at h
  split at h
  · exact .here ho h fun _ _ _ vs hv => by cases vs <;> first | trivial | cases hv
  · obtain ⟨as1, e1, o1, h1, r1⟩ := mSV_ok ho h
    obtain ⟨as2, e2, o2, h2, r2⟩ := mL_ok o1 h1
    refine ⟨as2, e1.trans e2, o2, h2, fun as'' e o S vs hv => ?_⟩
    cases vs with
    | nil => cases hv
    | cons v vs => exact ⟨r1 as'' (e2.trans e) o S v hv.1, r2 as'' e o S vs hv.2⟩
  · exact h.elim
theorem mVL_ok : ∀ {ac : List SV} {tm : List Value} {K : Prop}, mVL tm ac K → K ∧ ∀ (S : Pl) vs, okL S ac vs → vs = tm := by
  intro ac tm K h
  unfold mVL at h
  split at h
  · exact ⟨h, fun _ vs hv => by cases vs <;> first | rfl | cases hv⟩
  · obtain ⟨as1, e1, o1, h1, r1⟩ := mSV_ok (AsOk.nil 0) h
    obtain ⟨hK, r2⟩ := mVL_ok h1
    refine ⟨hK, fun S vs hv => ?_⟩
    cases vs with
    | nil => cases hv
    | cons v vs =>
      have e1 : v = _ := r1 as1 (.refl _) o1 S v hv.1
      rw [e1, r2 S vs hv.2]
  · exact h.elim
end

/-! ### a contract's arguments -/
def caOk (w : World) (F : Nat → Prop) (S : Pl) : List CA → List Value → Prop
  | [], [] => True
  | .w x :: r, v :: vs => okv S x v ∧ caOk w F S r vs
  | .sl sz n xs :: r, v :: vs => (∃ A c, v = .slice A n c ∧ n ≤ c ∧ xs.length = n * sz ∧ ∀ j u, xs[j]? = some u → ∃ a, A = some a ∧ a.spot = none ∧ F a.block ∧ w.cell? ⟨a.block, a.off + j, none⟩ = some u) ∧ caOk w F S r vs
  | _, _ => False
def roFree (as : As) : List Nat → Bool
  | [] => true
  | k :: r => match asHas as k with | true => false | false => roFree as r
theorem roFree_mem {as : As} : ∀ {ro : List Nat} {k : Nat}, roFree as ro = true → k ∈ ro → asHas as k = false
  | [], _, _, h => by cases h
  | u :: r, k, h, hk => by
    unfold roFree at h
    split at h
    · cases h
    · rename_i hu
      rcases List.mem_cons.1 hk with rfl | hk
      · exact hu
      · exact roFree_mem h hk
/-- what an argument is, once the places of what is handed over are known -/
theorem mA_ok : ∀ {ac : List SV} {tm : List CA} {as : As} {ro : List Nat} {K : As → List Nat → Prop}, AsOk 0 as → mA q L tm ac as ro K →
    ∃ as' ro', AsExt as as' ∧ AsOk 0 as' ∧ (∀ k, k ∈ ro → k ∈ ro') ∧ K as' ro' ∧ ∀ as'' vs, AsExt as' as'' → AsOk 0 as'' → roFree as'' ro' = true → okL S ac vs → PH.on q w → (∀ k lb, getL L k = some lb → chunk 0 S k lb w) →
      ∀ F : Nat → Prop, (∀ b o v, q b o = some v → F b) → (∀ k lb b, getL L k = some lb → asHas as'' k = false → blk S k lb = some b → F b) → caOk w F (sub as'' S) tm vs
  | [], [], as, ro, K, ho, h => by
    refine ⟨as, ro, .refl _, ho, fun _ h => h, h, fun as'' vs _ _ _ hv _ _ F _ _ => ?_⟩
    cases vs with
    | nil => trivial
    | cons _ _ => cases hv
  | [], _ :: _, _, _, _, _, h => by simp [mA] at h
  | y :: s, [], _, _, _, _, h => by simp [mA] at h
  | y :: s, .w x :: r, as, ro, K, ho, h => by
    simp only [mA] at h
    obtain ⟨as1, e1, o1, h1, r1⟩ := mSV_ok ho h
    obtain ⟨as2, ro2, e2, o2, i2, h2, r2⟩ := mA_ok o1 h1
    refine ⟨as2, ro2, e1.trans e2, o2, i2, h2, fun as'' vs e o hr hv hon hch F f1 f2 => ?_⟩
    cases vs with
    | nil => cases hv
    | cons v vs => exact ⟨r1 as'' (e2.trans e) o S v hv.1, r2 as'' vs e o hr hv.2 hon hch F f1 f2⟩
  | y :: s, .sl sz n xs :: r, as, ro, K, ho, h => by
    simp only [mA] at h
    split at h
    · rename_i A m c
      obtain ⟨⟨rfl, hmc, hl, hR⟩, h⟩ := h
      obtain ⟨as2, ro2, e2, o2, i2, h2, r2⟩ := mA_ok ho h
      refine ⟨as2, ro2, e2, o2, i2, h2, fun as'' vs e o hr hv hon hch F f1 f2 => ?_⟩
      cases vs with
      | nil => cases hv
      | cons v vs =>
        refine ⟨⟨A, c, hv.1, hmc, hl, fun j u hu => ?_⟩, r2 as'' vs e o hr hv.2 hon hch F f1 f2⟩
        have hrd := (hR j (List.getElem?_eq_some_iff.1 hu).1).trans hu
        obtain ⟨ad, rfl, hs, hcell⟩ := rd_cell hon hrd
        refine ⟨ad, rfl, hs, ?_, hcell⟩
        obtain ⟨b, o, s⟩ := ad
        cases hs
        exact f1 b (o + j) u hrd
    · rename_i k
      split at h
      rotate_left
      · exact h.elim
      rename_i E' sz' m ys hk
      split at h
      rotate_left
      · exact h.elim
      rename_i hsz
      have hsz := Nat.eq_of_beq_eq_true hsz
      subst hsz
      obtain ⟨⟨rfl, rfl⟩, h⟩ := h
      obtain ⟨as2, ro2, e2, o2, i2, h2, r2⟩ := mA_ok ho h
      refine ⟨as2, ro2, e2, o2, fun k' hk' => i2 k' (by simp [hk']), h2, fun as'' vs e o hr hv hon hch F f1 f2 => ?_⟩
      cases vs with
      | nil => cases hv
      | cons v vs =>
        refine ⟨?_, r2 as'' vs e o hr hv.2 hon hch F f1 f2⟩
        have hv1 : v = .slice (S k).A (S k).n (S k).c := hv.1
        obtain ⟨hown, hn, hsz, h1, hA⟩ := hch k _ hk
        have hnc : m ≤ (S k).c := by
          rcases hown.2 with ⟨e, hn0⟩ | ⟨g, cap, cur, e, _, _, hcap, _⟩
          · omega
          · injection e with _ e2 e3; omega
        refine ⟨(S k).A, (S k).c, by rw [hv1, hn], hnc, hown.1, fun j u hu => ?_⟩
        rcases hA with hA | hA
        · have : ys = [] := by
            rcases hown.2 with ⟨_, hn0⟩ | ⟨g, cap, cur, hv, _⟩
            · exact List.eq_nil_of_length_eq_zero (by rw [hown.1, hn0]; simp)
            · rw [hA] at hv; cases hv
          subst this
          simp at hu
        · have hcell := hown.cells (g := (S k).b) (by simp [Value.ownBlock, hA]) j u hu
          rw [Addr.add_lit] at hcell
          exact ⟨_, hA, rfl, f2 k _ _ hk (roFree_mem hr (i2 k (by simp))) (by simp [blk, hA]), hcell⟩
    · exact h.elim


end Go.Eng
