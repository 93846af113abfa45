/-
  Texts that the law leans on. Nothing here is trusted.
-/
import Derived.Test.YtnlglgafokjhnaaGreatEngD
set_option linter.unusedVariables false
set_option linter.unusedSimpArgs false
namespace Go.Eng
open Go Go.RowKit
variable {P : Program} {S S' Sb : Pl} {fr : Fr} {L L' : LL} {q q' : PH} {w w' : World} {a : Act} {n0 N : Nat} {B : Nat → Prop}
def sub (as : As) (S : Pl) : Pl := fun k => match asGet as k with | some j => S j | none => S k
def AsExt (as as' : As) : Prop := ∀ k j, asGet as k = some j → asGet as' k = some j
structure AsOk (b : Nat) (as : As) : Prop where
  abs : ∀ k j, asGet as k = some j → k < b → j = k
  inj : ∀ k k' j, asGet as k = some j → asGet as k' = some j → k = k'
theorem AsExt.refl (as : As) : AsExt as as := fun _ _ h => h
theorem AsExt.trans {a b c : As} (h : AsExt a b) (h' : AsExt b c) : AsExt a c := fun k j hk => h' k j (h k j hk)
theorem asGet_cons {as : As} {k j u : Nat} : asGet ((k, j) :: as) u = if k = u then some j else asGet as u := by
  simp only [asGet]
  by_cases h : k = u
  · subst h; simp
  · have : Nat.beq k u = false := by rw [Bool.eq_false_iff]; exact fun e => h (Nat.eq_of_beq_eq_true e)
    simp [this, h]
theorem asGet_has : ∀ {as : As} {k j : Nat}, asGet as k = some j → asHas as j = true
  | [], _, _, h => by cases h
  | (u, x) :: r, k, j, h => by
    rw [asGet_cons] at h
    unfold asHas
    split at h
    · cases h; simp
    · split
      · rfl
      · exact asGet_has h
theorem AsOk.nil (b : Nat) : AsOk b [] := ⟨fun _ _ h => (by cases h), fun _ _ _ h => (by cases h)⟩
theorem AsOk.cons {b : Nat} {as : As} {k j : Nat} (h : AsOk b as) (hn : asGet as k = none) (hj : asHas as j = false) (hb : k < b → j = k) : AsExt as ((k, j) :: as) ∧ AsOk b ((k, j) :: as) := by
  refine ⟨fun u x hu => ?_, fun u x hu hub => ?_, fun u u' x hu hu' => ?_⟩
  · rw [asGet_cons, if_neg]
    · exact hu
    · intro e; subst e; rw [hn] at hu; cases hu
  · rw [asGet_cons] at hu
    split at hu
    · rename_i e; subst e; cases hu; exact hb hub
    · exact h.abs u x hu hub
  · rw [asGet_cons] at hu hu'
    split at hu <;> split at hu'
    · rename_i e e'; exact e.symm.trans e'
    · cases hu; rw [asGet_has hu'] at hj; cases hj
    · cases hu'; rw [asGet_has hu] at hj; cases hj
    · exact h.inj u u' x hu hu'
theorem sub_get {as : As} {k j : Nat} (h : asGet as k = some j) : sub as S k = S j := by simp [sub, h]
theorem sub_abs {b : Nat} {as : As} {k : Nat} (h : AsOk b as) (hk : k < b) : sub as S k = S k := by
  unfold sub
  split
  · rename_i j hj; rw [h.abs k j hj hk]
  · rfl
def Got (b : Nat) (as : As) (K : As → Prop) (R : As → Prop) : Prop := ∃ as', AsExt as as' ∧ AsOk b as' ∧ K as' ∧ ∀ as'', AsExt as' as'' → AsOk b as'' → R as''
theorem Got.here {b : Nat} {as : As} {K : As → Prop} {R : As → Prop} (ho : AsOk b as) (hK : K as) (hR : ∀ as'', AsOk b as'' → R as'') : Got b as K R := ⟨as, .refl _, ho, hK, fun as'' _ h => hR as'' h⟩
theorem asK_ok {b : Nat} {as : As} {k j : Nat} {K : As → Prop} (ho : AsOk b as) (h : asK b as k j K) : Got b as K fun as => ∀ S : Pl, sub as S k = S j := by
  unfold asK at h
  split at h
  · rename_i hb
    have hb := Nat.le_of_ble_eq_true hb
    split at h
    · rename_i i hi
      split at h
      · rename_i e
        have e := Nat.eq_of_beq_eq_true e
        subst e
        exact ⟨as, .refl _, ho, h, fun as'' he _ S => sub_get (he _ _ hi)⟩
      · exact h.elim
    · rename_i hn
      split at h
      · exact h.elim
      · rename_i hj
        obtain ⟨h1, h2⟩ := ho.cons hn hj (fun hb' => by omega)
        exact ⟨_, h1, h2, h, fun as'' he _ S => sub_get (he _ _ (by rw [asGet_cons, if_pos rfl]))⟩
  · rename_i hb
    have hb : k < b := by
      rcases Nat.lt_or_ge k b with h | h
      · exact h
      · rw [Nat.ble_eq_true_of_le h] at hb; cases hb
    split at h
    · rename_i e
      have e := Nat.eq_of_beq_eq_true e
      subst e
      split at h
      · exact .here ho h fun as'' ho' S => sub_abs ho' hb
      split at h
      · exact h.elim
      · exact .here ho h fun as'' ho' S => sub_abs ho' hb
    · exact h.elim
theorem dec_iff {p p' : Prop} (d : Decidable p) (d' : Decidable p') (h : p ↔ p') : @decide p d = @decide p' d' := by
  by_cases hp : p
  · have := h.1 hp; simp [hp, this]
  · have : ¬ p' := fun h' => hp (h.2 h'); simp [hp, this]
mutual
theorem mSV_ok : ∀ {ac tm : SV} {b : Nat} {as : As} {K : As → Prop}, AsOk b as → mSV b tm ac as K → Got b as K fun as => ∀ (S : Pl) v, okv S ac v → okv (sub as S) tm v := by
  intro ac tm b as K ho h
  unfold mSV at h
  split at h
  · exact .here ho h fun _ _ _ _ _ => trivial
  · obtain ⟨⟨rfl⟩, h⟩ := h; exact .here ho h fun _ _ _ _ hv => hv
  · obtain ⟨⟨rfl⟩, h⟩ := h; exact .here ho h fun _ _ _ _ hv => hv
  · rename_i x p d
    obtain ⟨⟨e⟩, h⟩ := h
    refine .here ho h fun _ _ _ v hv => ?_
    have hv : v = .bool (@decide p d) := hv
    show v = .bool x
    rw [hv]
    cases x
    · have : ¬ p := fun hp => by simpa using e.2 hp
      simp [this]
    · have : p := e.1 rfl
      simp [this]
  · obtain ⟨⟨rfl⟩, h⟩ := h; exact .here ho h fun _ _ _ _ hv => hv
  · rename_i x p d
    obtain ⟨⟨e⟩, h⟩ := h
    refine .here ho h fun _ _ _ v hv => ?_
    have hv : v = .bool (@decide p d) := hv
    show v = .bool x
    rw [hv]
    cases x
    · have : ¬ p := fun hp => by simpa using e.2 hp
      simp [this]
    · have : p := e.1 rfl
      simp [this]
  · rename_i p d p' d'
    obtain ⟨⟨e⟩, h⟩ := h
    refine .here ho h fun _ _ _ v hv => ?_
    have hv : v = .bool (@decide p' d') := hv
    show v = .bool (@decide p d)
    rw [hv, dec_iff d' d e.symm]
  · rename_i p d y
    obtain ⟨⟨e⟩, h⟩ := h
    refine .here ho h fun _ _ _ v hv => ?_
    have hv : v = .bool y := hv
    show v = .bool (@decide p d)
    rw [hv]
    cases y
    · have : ¬ p := fun hp => by simpa using e.1 hp
      simp [this]
    · have : p := e.2 rfl
      simp [this]
  · rename_i p d y
    obtain ⟨⟨e⟩, h⟩ := h
    refine .here ho h fun _ _ _ v hv => ?_
    have hv : v = .bool y := hv
    show v = .bool (@decide p d)
    rw [hv]
    cases y
    · have : ¬ p := fun hp => by simpa using e.1 hp
      simp [this]
    · have : p := e.2 rfl
      simp [this]
  · obtain ⟨⟨rfl⟩, h⟩ := h
    obtain ⟨as', h1, h2, h3, h4⟩ := asK_ok ho h
    refine ⟨as', h1, h2, h3, fun as'' e o S v hv => ?_⟩
    simp only [okv] at hv ⊢
    rw [h4 as'' e o S]; exact hv
  · obtain ⟨as', h1, h2, h3, h4⟩ := asK_ok ho h
    refine ⟨as', h1, h2, h3, fun as'' e o S v hv => ?_⟩
    simp only [okv] at hv ⊢
    rw [h4 as'' e o S]; exact hv
  · obtain ⟨as', h1, h2, h3, h4⟩ := asK_ok ho h
    refine ⟨as', h1, h2, h3, fun as'' e o S v hv => ?_⟩
    simp only [okv] at hv ⊢
    rw [h4 as'' e o S]; exact hv
  · obtain ⟨⟨rfl, rfl, rfl, rfl⟩, h⟩ := h
    obtain ⟨as', h1, h2, h3, h4⟩ := asK_ok ho h
    refine ⟨as', h1, h2, h3, fun as'' e o S v hv => ?_⟩
    simp only [okv] at hv ⊢
    rw [h4 as'' e o S]; exact hv
  · exact .here ho h fun _ _ _ _ hv => .inl hv
  · obtain ⟨as', h1, h2, h3, h4⟩ := asK_ok ho h
    refine ⟨as', h1, h2, h3, fun as'' e o S v hv => ?_⟩
    simp only [okv] at hv ⊢
    rw [h4 as'' e o S]; exact .inr hv
  · obtain ⟨as', h1, h2, h3, h4⟩ := asK_ok ho h
    refine ⟨as', h1, h2, h3, fun as'' e o S v hv => ?_⟩
    simp only [okv] at hv ⊢
    rw [h4 as'' e o S]; exact hv
  · obtain ⟨⟨rfl⟩, h⟩ := h
    obtain ⟨as', h1, h2, h3, h4⟩ := asK_ok ho h
    refine ⟨as', h1, h2, h3, fun as'' e o S v hv => ?_⟩
    simp only [okv] at hv ⊢
    rw [h4 as'' e o S]; exact hv
  · obtain ⟨as', h1, h2, h3, h4⟩ := asK_ok ho h
    refine ⟨as', h1, h2, h3, fun as'' e o S v hv => ?_⟩
    simp only [okv] at hv ⊢
    rw [h4 as'' e o S]; exact hv
  · obtain ⟨⟨rfl, rfl⟩, h⟩ := h; exact .here ho h fun _ _ _ _ hv => hv
  · obtain ⟨as', h1, h2, h3, h4⟩ := mL_ok ho h
    exact ⟨as', h1, h2, h3, fun as'' e o S v ⟨vs, hv, hl⟩ => ⟨vs, hv, h4 as'' e o S vs hl⟩⟩
  · obtain ⟨as', h1, h2, h3, h4⟩ := mL_ok ho h
    exact ⟨as', h1, h2, h3, fun as'' e o S v ⟨vs, hv, hl⟩ => ⟨vs, hv, h4 as'' e o S vs hl⟩⟩
  · split at h
    · rename_i e
      have e := Nat.eq_of_beq_eq_true e
      subst e
      obtain ⟨as', h1, h2, h3, h4⟩ := mL_ok ho h
      exact ⟨as', h1, h2, h3, fun as'' e o S v ⟨vs, hv, hl⟩ => ⟨vs, hv, h4 as'' e o S vs hl⟩⟩
    · exact h.elim
  · obtain ⟨hK, hv'⟩ := mVL_ok h
    refine .here ho hK fun _ _ S v ⟨vs, hv, hl⟩ => ?_
    have := hv' S vs hl
    subst this
    rw [hv]
    simp [okv]
  · obtain ⟨hK, hv'⟩ := mVL_ok h
    refine .here ho hK fun _ _ S v ⟨vs, hv, hl⟩ => ?_
    have := hv' S vs hl
    subst this
    rw [hv]
    simp [okv]
  · exact h.elim
theorem mL_ok : ∀ {ac tm : List SV} {b : Nat} {as : As} {K : As → Prop}, AsOk b as → mL b tm ac as K → Got b as K fun as => ∀ (S : Pl) vs, okL S ac vs → okL (sub as S) tm vs := by
  intro ac tm b as K ho h
  unfold mL at h
  split at h
  · exact .here ho h fun _ _ _ vs hv => by cases vs <;> first | trivial | cases hv
  · obtain ⟨as1, e1, o1, h1, r1⟩ := mSV_ok ho h
    obtain ⟨as2, e2, o2, h2, r2⟩ := mL_ok o1 h1
    refine ⟨as2, e1.trans e2, o2, h2, fun as'' e o S vs hv => ?_⟩
    cases vs with
    | nil => cases hv
    | cons v vs => exact ⟨r1 as'' (e2.trans e) o S v hv.1, r2 as'' e o S vs hv.2⟩
  · exact h.elim
theorem mVL_ok : ∀ {ac : List SV} {tm : List Value} {K : Prop}, mVL tm ac K → K ∧ ∀ (S : Pl) vs, okL S ac vs → vs = tm := by
  intro ac tm K h
  unfold mVL at h
  split at h
  · exact ⟨h, fun _ vs hv => by cases vs <;> first | rfl | cases hv⟩
  · obtain ⟨as1, e1, o1, h1, r1⟩ := mSV_ok (AsOk.nil 0) h
    obtain ⟨hK, r2⟩ := mVL_ok h1
    refine ⟨hK, fun S vs hv => ?_⟩
    cases vs with
    | nil => cases hv
    | cons v vs =>
      have e1 : v = _ := r1 as1 (.refl _) o1 S v hv.1
      rw [e1, r2 S vs hv.2]
  · exact h.elim
end
def pcOk (w : World) (F : Nat → Prop) : List PC → List Value → Prop
  | [], [] => True
  | .w v :: r, u :: s => u = v ∧ pcOk w F r s
  | .row sz n xs :: r, u :: s => (∃ A c, u = .slice A n c ∧ n ≤ c ∧ xs.length = n * sz ∧ ∀ j y, xs[j]? = some y → ∃ a, A = some a ∧ a.spot = none ∧ F a.block ∧ w.cell? ⟨a.block, a.off + j, none⟩ = some y) ∧ pcOk w F r s
  | _, _ => False
def caOk (w : World) (F : Nat → Prop) (S : Pl) : List CA → List Value → Prop
  | [], [] => True
  | .w x :: r, v :: vs => okv S x v ∧ caOk w F S r vs
  | .sl sz n xs :: r, v :: vs => (∃ A c, v = .slice A n c ∧ n ≤ c ∧ xs.length = n * sz ∧ ∀ j u, xs[j]? = some u → ∃ a, A = some a ∧ a.spot = none ∧ F a.block ∧ w.cell? ⟨a.block, a.off + j, none⟩ = some u) ∧ caOk w F S r vs
  | .pt cs :: r, v :: vs => (∃ a us, v = .pointer (some a) ∧ a.spot = none ∧ us.length = cs.length ∧ (∀ (j : Nat) u, us[j]? = some u → F a.block ∧ w.cell? ⟨a.block, a.off + j, none⟩ = some u) ∧ pcOk w F cs us) ∧ caOk w F S r vs
  | _, _ => False
def roFree (as : As) : List Nat → Bool
  | [] => true
  | k :: r => match asHas as k with | true => false | false => roFree as r
theorem roFree_mem {as : As} : ∀ {ro : List Nat} {k : Nat}, roFree as ro = true → k ∈ ro → asHas as k = false
  | [], _, _, h => by cases h
  | u :: r, k, h, hk => by
    unfold roFree at h
    split at h
    · cases h
    · rename_i hu
      rcases List.mem_cons.1 hk with rfl | hk
      · exact hu
      · exact roFree_mem h hk
theorem roFree_sub {as : As} {ro ro' : List Nat} (h : roFree as ro' = true) (hs : ∀ k, k ∈ ro → k ∈ ro') : roFree as ro = true := by
  induction ro with
  | nil => rfl
  | cons k r ih =>
    unfold roFree
    rw [roFree_mem h (hs k (by simp))]
    exact ih fun j hj => hs j (by simp [hj])
theorem own_row_in {k e sz m : Nat} {ys : List Value} (hch : chunk 0 S k (.arr e sz m ys) w) {F : Nat → Prop} (hF : ∀ b, blk S k (.arr e sz m ys) = some b → F b) :
    m ≤ (S k).c ∧ ys.length = m * sz ∧ (S k).n = m ∧ ∀ j u, ys[j]? = some u → ∃ a, (S k).A = some a ∧ a.spot = none ∧ F a.block ∧ w.cell? ⟨a.block, a.off + j, none⟩ = some u := by
  have hnc := own_cap hch
  obtain ⟨hown, hn, hsz, h1, hA⟩ := hch
  refine ⟨hnc, hown.1, hn, fun j u hu => ?_⟩
  rcases hA with hA | hA
  · have : ys = [] := by
      rcases hown.2 with ⟨_, hn0⟩ | ⟨g, cap, cur, hv, _⟩
      · exact List.eq_nil_of_length_eq_zero (by rw [hown.1, hn0]; simp)
      · rw [hA] at hv; cases hv
    subst this
    simp at hu
  · have hcell := hown.cells (g := (S k).b) (by simp [Value.ownBlock, hA]) j u hu
    rw [Addr.add_lit] at hcell
    exact ⟨_, hA, rfl, hF _ (by simp [blk, hA]), hcell⟩
theorem ro_row_in {A : Option Addr} {xs : List Value} (hon : PH.on q w) (hR : Reads q A xs) {F : Nat → Prop} (f1 : ∀ b o v, q b o = some v → F b) :
    ∀ j u, xs[j]? = some u → ∃ a, A = some a ∧ a.spot = none ∧ F a.block ∧ w.cell? ⟨a.block, a.off + j, none⟩ = some u := fun j u hu => by
  have hrd := (hR j (List.getElem?_eq_some_iff.1 hu).1).trans hu
  obtain ⟨ad, rfl, hs, hcell⟩ := rd_cell hon hrd
  refine ⟨ad, rfl, hs, ?_, hcell⟩
  obtain ⟨b, o, s⟩ := ad
  cases hs
  exact f1 b (o + j) u hrd
theorem pcG_ok : ∀ {cs : List PC} {ac : List SV} {ro : List Nat} {K : List Nat → Prop}, pcG (fun t y K => mSV 0 t y [] fun _ => K) q L cs ac ro K →
    ∃ ro', (∀ k, k ∈ ro → k ∈ ro') ∧ K ro' ∧ ∀ (as'' : As) us, roFree as'' ro' = true → okL S ac us → PH.on q w → (∀ k lb, getL L k = some lb → chunk 0 S k lb w) →
      ∀ F : Nat → Prop, (∀ b o v, q b o = some v → F b) → (∀ k lb b, getL L k = some lb → asHas as'' k = false → blk S k lb = some b → F b) → us.length = cs.length ∧ pcOk w F cs us
  | [], [], ro, K, h => ⟨ro, fun _ h => h, h, fun as'' us _ hu _ _ F _ _ => by cases us with | nil => exact ⟨rfl, trivial⟩ | cons _ _ => cases hu⟩
  | [], _ :: _, _, _, h => by exact h.elim
  | _ :: _, [], _, _, h => by exact h.elim
  | .w v :: r, y :: s, ro, K, h => by
    obtain ⟨as1, e1, o1, h1, r1⟩ := mSV_ok (AsOk.nil 0) (show mSV 0 (.v v) y [] fun _ => pcG (fun t y K => mSV 0 t y [] fun _ => K) q L r s ro K from h)
    obtain ⟨ro', i2, h2, r2⟩ := pcG_ok h1
    refine ⟨ro', i2, h2, fun as'' us hr hu hon hch F f1 f2 => ?_⟩
    cases us with
    | nil => cases hu
    | cons u us =>
      obtain ⟨g1, g2⟩ := r2 as'' us hr hu.2 hon hch F f1 f2
      exact ⟨by simp [g1], r1 as1 (.refl _) o1 S u hu.1, g2⟩
  | .row sz n xs :: r, y :: s, ro, K, h => by
    replace h : (match (generalizing := false) y with
          | .v (.slice A m c) => Ob (m = n ∧ m ≤ c ∧ xs.length = m * sz ∧ Reads q A xs) ∧ pcG (fun t y K => mSV 0 t y [] fun _ => K) q L r s ro K
          | .own j => (match getL L j with
            | some (.arr _ sz' m ys) => (match Nat.beq sz' sz with | true => Ob (m = n ∧ ys = xs) ∧ pcG (fun t y K => mSV 0 t y [] fun _ => K) q L r s (j :: ro) K | false => False)
            | _ => False)
          | .vw j lo sz' m _ => (match getL L j with
            | some (.arr _ sz'' n0 ys) => (match Nat.beq sz' sz, Nat.beq sz'' sz with | true, true => Ob (m = n ∧ lo + m ≤ n0 ∧ vwC ys lo sz m = xs) ∧ pcG (fun t y K => mSV 0 t y [] fun _ => K) q L r s (j :: ro) K | _, _ => False)
            | _ => False)
          | _ => False) := h
    split at h
    · rename_i A m c
      obtain ⟨⟨rfl, hmc, hl, hR⟩, h⟩ := h
      obtain ⟨ro', i2, h2, r2⟩ := pcG_ok h
      refine ⟨ro', i2, h2, fun as'' us hr hu hon hch F f1 f2 => ?_⟩
      cases us with
      | nil => cases hu
      | cons u us =>
        obtain ⟨g1, g2⟩ := r2 as'' us hr hu.2 hon hch F f1 f2
        exact ⟨by simp [g1], ⟨A, c, hu.1, hmc, hl, ro_row_in hon hR f1⟩, g2⟩
    · rename_i j
      split at h
      rotate_left
      · exact h.elim
      rename_i E' sz' m ys hk
      split at h
      rotate_left
      · exact h.elim
      rename_i hsz
      have hsz := Nat.eq_of_beq_eq_true hsz
      subst hsz
      obtain ⟨⟨rfl, rfl⟩, h⟩ := h
      obtain ⟨ro', i2, h2, r2⟩ := pcG_ok h
      refine ⟨ro', fun k hk => i2 k (by simp [hk]), h2, fun as'' us hr hu hon hch F f1 f2 => ?_⟩
      cases us with
      | nil => cases hu
      | cons u us =>
        obtain ⟨g1, g2⟩ := r2 as'' us hr hu.2 hon hch F f1 f2
        have hu1 : u = .slice (S j).A (S j).n (S j).c := hu.1
        obtain ⟨p1, p2, p3, p4⟩ := own_row_in (hch j _ hk) (F := F) (fun b hb => f2 j _ b hk (roFree_mem hr (i2 j (by simp))) hb)
        exact ⟨by simp [g1], ⟨(S j).A, (S j).c, by rw [hu1, p3], p1, p2, p4⟩, g2⟩
    · rename_i j lo sz' m _
      split at h
      rotate_left
      · exact h.elim
      rename_i E' sz'' n0 ys hk
      split at h
      rotate_left
      · exact h.elim
      rename_i hsz hsz'
      have hsz := Nat.eq_of_beq_eq_true hsz
      have hsz' := Nat.eq_of_beq_eq_true hsz'
      subst hsz hsz'
      obtain ⟨⟨rfl, hb, rfl⟩, h⟩ := h
      obtain ⟨ro', i2, h2, r2⟩ := pcG_ok h
      refine ⟨ro', fun k hk => i2 k (by simp [hk]), h2, fun as'' us hr hu hon hch F f1 f2 => ?_⟩
      cases us with
      | nil => cases hu
      | cons u us =>
        obtain ⟨g1, g2⟩ := r2 as'' us hr hu.2 hon hch F f1 f2
        obtain ⟨A, c, rfl, hmc, hl, hcell⟩ := vw_cells hu.1 (hch j _ hk) hb
        refine ⟨by simp [g1], ⟨A, c, rfl, hmc, hl, fun i u hi => ?_⟩, g2⟩
        obtain ⟨a, p1, p2, p3, p4, _, p5⟩ := hcell i u hi
        exact ⟨a, p1, p2, f2 j _ _ hk (roFree_mem hr (i2 j (by simp))) (by simp [blk, p3, p4]), p5⟩
    · exact h.elim
theorem pcArgs_ok {F : Nat → Prop} (hon : PH.on q w) (f1 : ∀ b o v, q b o = some v → F b) : ∀ {cs : List PC} {us : List Value}, pcArgs q cs us → pcOk w F cs us
  | [], [], _ => trivial
  | [], _ :: _, h => h.elim
  | _ :: _, [], h => h.elim
  | .w _ :: _, _ :: _, h => ⟨h.1, pcArgs_ok hon f1 h.2⟩
  | .row _ _ _ :: _, _ :: _, h => by
    obtain ⟨⟨A, c, e, h1, h2, h3⟩, h⟩ := h
    exact ⟨⟨A, c, e, h1, h2, ro_row_in hon h3 f1⟩, pcArgs_ok hon f1 h⟩
theorem mA_ok : ∀ {ac : List SV} {tm : List CA} {as : As} {ro : List Nat} {K : As → List Nat → Prop}, AsOk 0 as → mA q L tm ac as ro K →
    ∃ as' ro', AsExt as as' ∧ AsOk 0 as' ∧ (∀ k, k ∈ ro → k ∈ ro') ∧ K as' ro' ∧ ∀ as'' vs, AsExt as' as'' → AsOk 0 as'' → roFree as'' ro' = true → okL S ac vs → PH.on q w → (∀ k lb, getL L k = some lb → chunk 0 S k lb w) →
      ∀ F : Nat → Prop, (∀ b o v, q b o = some v → F b) → (∀ k lb b, getL L k = some lb → asHas as'' k = false → blk S k lb = some b → F b) → caOk w F (sub as'' S) tm vs
  | [], [], as, ro, K, ho, h => by
    refine ⟨as, ro, .refl _, ho, fun _ h => h, h, fun as'' vs _ _ _ hv _ _ F _ _ => ?_⟩
    cases vs with
    | nil => trivial
    | cons _ _ => cases hv
  | [], _ :: _, _, _, _, _, h => by simp [mA] at h
  | y :: s, [], _, _, _, _, h => by simp [mA] at h
  | y :: s, .w x :: r, as, ro, K, ho, h => by
    simp only [mA] at h
    obtain ⟨as1, e1, o1, h1, r1⟩ := mSV_ok ho h
    obtain ⟨as2, ro2, e2, o2, i2, h2, r2⟩ := mA_ok o1 h1
    refine ⟨as2, ro2, e1.trans e2, o2, i2, h2, fun as'' vs e o hr hv hon hch F f1 f2 => ?_⟩
    cases vs with
    | nil => cases hv
    | cons v vs => exact ⟨r1 as'' (e2.trans e) o S v hv.1, r2 as'' vs e o hr hv.2 hon hch F f1 f2⟩
  | y :: s, .sl sz n xs :: r, as, ro, K, ho, h => by
    simp only [mA] at h
    split at h
    · rename_i A m c
      obtain ⟨⟨rfl, hmc, hl, hR⟩, h⟩ := h
      obtain ⟨as2, ro2, e2, o2, i2, h2, r2⟩ := mA_ok ho h
      refine ⟨as2, ro2, e2, o2, i2, h2, fun as'' vs e o hr hv hon hch F f1 f2 => ?_⟩
      cases vs with
      | nil => cases hv
      | cons v vs =>
        refine ⟨⟨A, c, hv.1, hmc, hl, fun j u hu => ?_⟩, r2 as'' vs e o hr hv.2 hon hch F f1 f2⟩
        have hrd := (hR j (List.getElem?_eq_some_iff.1 hu).1).trans hu
        obtain ⟨ad, rfl, hs, hcell⟩ := rd_cell hon hrd
        refine ⟨ad, rfl, hs, ?_, hcell⟩
        obtain ⟨b, o, s⟩ := ad
        cases hs
        exact f1 b (o + j) u hrd
    · rename_i k
      split at h
      rotate_left
      · exact h.elim
      rename_i E' sz' m ys hk
      split at h
      rotate_left
      · exact h.elim
      rename_i hsz
      have hsz := Nat.eq_of_beq_eq_true hsz
      subst hsz
      obtain ⟨⟨rfl, rfl⟩, h⟩ := h
      obtain ⟨as2, ro2, e2, o2, i2, h2, r2⟩ := mA_ok ho h
      refine ⟨as2, ro2, e2, o2, fun k' hk' => i2 k' (by simp [hk']), h2, fun as'' vs e o hr hv hon hch F f1 f2 => ?_⟩
      cases vs with
      | nil => cases hv
      | cons v vs =>
        refine ⟨?_, r2 as'' vs e o hr hv.2 hon hch F f1 f2⟩
        have hv1 : v = .slice (S k).A (S k).n (S k).c := hv.1
        obtain ⟨hown, hn, hsz, h1, hA⟩ := hch k _ hk
        have hnc : m ≤ (S k).c := by
          rcases hown.2 with ⟨e, hn0⟩ | ⟨g, cap, cur, e, _, _, hcap, _⟩
          · omega
          · injection e with _ e2 e3; omega
        refine ⟨(S k).A, (S k).c, by rw [hv1, hn], hnc, hown.1, fun j u hu => ?_⟩
        rcases hA with hA | hA
        · have : ys = [] := by
            rcases hown.2 with ⟨_, hn0⟩ | ⟨g, cap, cur, hv, _⟩
            · exact List.eq_nil_of_length_eq_zero (by rw [hown.1, hn0]; simp)
            · rw [hA] at hv; cases hv
          subst this
          simp at hu
        · have hcell := hown.cells (g := (S k).b) (by simp [Value.ownBlock, hA]) j u hu
          rw [Addr.add_lit] at hcell
          exact ⟨_, hA, rfl, f2 k _ _ hk (roFree_mem hr (i2 k (by simp))) (by simp [blk, hA]), hcell⟩
    · rename_i k lo sz' m _
      split at h
      rotate_left
      · exact h.elim
      rename_i E' sz'' n0 ys hk
      split at h
      rotate_left
      · exact h.elim
      rename_i hsz hsz'
      have hsz := Nat.eq_of_beq_eq_true hsz
      have hsz' := Nat.eq_of_beq_eq_true hsz'
      subst hsz hsz'
      obtain ⟨⟨rfl, hb, rfl⟩, h⟩ := h
      obtain ⟨as2, ro2, e2, o2, i2, h2, r2⟩ := mA_ok ho h
      refine ⟨as2, ro2, e2, o2, fun k' hk' => i2 k' (by simp [hk']), h2, fun as'' vs e o hr hv hon hch F f1 f2 => ?_⟩
      cases vs with
      | nil => cases hv
      | cons v vs =>
        refine ⟨?_, r2 as'' vs e o hr hv.2 hon hch F f1 f2⟩
        obtain ⟨A, c, rfl, hmc, hl, hcell⟩ := vw_cells hv.1 (hch k _ hk) hb
        refine ⟨A, c, rfl, hmc, hl, fun j u hu => ?_⟩
        obtain ⟨a, g1, g2, g3, g4, _, g5⟩ := hcell j u hu
        exact ⟨a, g1, g2, f2 k _ _ hk (roFree_mem hr (i2 k (by simp))) (by simp [blk, g3, g4]), g5⟩
    · exact h.elim
  | y :: s, .pt cs :: r, as, ro, K, ho, h => by
    simp only [mA] at h
    split at h
    · rename_i k
      split at h
      rotate_left
      · exact h.elim
      rename_i T acs hk
      obtain ⟨ro1, i1, h, r1⟩ := pcG_ok (S := S) (w := w) h
      obtain ⟨as2, ro2, e2, o2, i2, h2, r2⟩ := mA_ok ho h
      refine ⟨as2, ro2, e2, o2, fun k' hk' => i2 k' (i1 k' (by simp [hk'])), h2, fun as'' vs e o hr hv hon hch F f1 f2 => ?_⟩
      cases vs with
      | nil => cases hv
      | cons v vs =>
        refine ⟨?_, r2 as'' vs e o hr hv.2 hon hch F f1 f2⟩
        have hv1 : v = .pointer (some ⟨(S k).b, 0, none⟩) := hv.1
        obtain ⟨_, us, hg, hus⟩ := hch k _ hk
        have hr1 : roFree as'' ro1 = true := roFree_sub hr i2
        obtain ⟨g1, g2⟩ := r1 as'' us hr1 hus hon hch F f1 f2
        refine ⟨_, us, hv1, rfl, g1, fun j u hu => ⟨f2 k _ _ hk (roFree_mem hr1 (i1 k (by simp))) rfl, ?_⟩, g2⟩
        simp only [World.cell?, hg, Nat.zero_add]
        simpa using hu
    · rename_i a
      obtain ⟨⟨hsp, us, hl, hR, hpc⟩, h⟩ := h
      obtain ⟨as2, ro2, e2, o2, i2, h2, r2⟩ := mA_ok ho h
      refine ⟨as2, ro2, e2, o2, i2, h2, fun as'' vs e o hr hv hon hch F f1 f2 => ?_⟩
      cases vs with
      | nil => cases hv
      | cons v vs =>
        refine ⟨⟨a, us, hv.1, hsp, hl, fun j u hu => ?_, pcArgs_ok hon f1 hpc⟩, r2 as'' vs e o hr hv.2 hon hch F f1 f2⟩
        obtain ⟨a', e', _, g2, g3⟩ := ro_row_in hon hR f1 j u hu
        cases e'
        exact ⟨g2, g3⟩
    · exact h.elim
end Go.Eng
