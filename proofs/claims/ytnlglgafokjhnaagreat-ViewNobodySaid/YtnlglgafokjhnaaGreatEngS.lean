/-
  Texts that the law leans on. Nothing here is trusted.
-/
import Derived.Test.YtnlglgafokjhnaaGreatEngQ
import Derived.Test.YtnlglgafokjhnaaGreatEngR
set_option linter.unusedVariables false
set_option linter.unusedSimpArgs false
namespace Go.Eng
open Go Go.RowKit
variable {P : Program} {S S' Sb : Pl} {fr : Fr} {L L' : LL} {q q' : PH} {w0 : W0} {w w' : World} {a : Act} {n0 N : Nat} {B : Nat → Prop} {E : Env}
variable {r : Option Nat} {n : Nat}
def toX : Ex → Exit
  | .norm => .normal
  | .ret => .ret
  | .exit n => .exit n
  | .goto n => .goto n
def QE (w0 : W0) (Sb : Pl) (B : Nat → Prop) (n0 N : Nat) (K : Ke) (e : Exit) (a : Act) (w : World) : Prop := ∃ x, e = toX x ∧ ∃ w1, Ext w0 w1 ∧ St w1 Sb B n0 N (K x) a w
theorem QE.ext {w0 w1 : W0} {Sb : Pl} {B : Nat → Prop} {n0 N : Nat} {K : Ke} {e : Exit} {a : Act} {w : World} (h : Ext w0 w1) (hq : QE w1 Sb B n0 N K e a w) : QE w0 Sb B n0 N K e a w := by
  obtain ⟨x, hx, w2, h2, hs⟩ := hq
  exact ⟨x, hx, w2, h.trans h2, hs⟩
theorem least {ι : Type} {p : ι → Prop} (μ : ι → Nat) : (∃ i, p i) → ∃ i, p i ∧ ∀ j, p j → μ i ≤ μ j := by
  rintro ⟨i, hi⟩
  have : ∀ n, ∀ i, p i → μ i = n → ∃ i, p i ∧ ∀ j, p j → μ i ≤ μ j := by
    intro n
    induction n using Nat.strongRecOn with
    | _ n ih =>
      intro i hi hn
      by_cases h : ∃ j, p j ∧ μ j < μ i
      · obtain ⟨j, hj, hlt⟩ := h
        exact ih (μ j) (by omega) j hj rfl
      · exact ⟨i, hi, fun j hj => Nat.le_of_not_lt fun hlt => h ⟨j, hj, hlt⟩⟩
  exact this _ i hi rfl
open Classical in
theorem wpIn_loopG {ι : Type} {c : Code} {F : Fence} {Q : Exit → Act → World → Prop} (H : ι → Act → World → Prop) (μ : ι → Nat) {i0 : ι} (h0 : H i0 a w)
    (round : ∀ i a w, H i a w → c.wpIn F n P (Exit.then (fun a' w' => ∃ j, H j a' w' ∧ μ j < μ i) Q) a w) : (Code.loop c).wpIn F n P Q a w := by
  let m : Act → World → Nat := fun a w => if h : ∃ i, H i a w then μ (Classical.choose (least μ h)) else 0
  have hm : ∀ a w, (h : ∃ i, H i a w) → ∃ i, H i a w ∧ μ i = m a w := fun a w h => by
    have := Classical.choose_spec (least (p := fun i => H i a w) μ h)
    exact ⟨_, this.1, by simp only [m, dif_pos h]⟩
  have hle : ∀ a w i, H i a w → m a w ≤ μ i := fun a w i hi => by
    have h : ∃ i, H i a w := ⟨i, hi⟩
    have := Classical.choose_spec (least (p := fun i => H i a w) μ h)
    simp only [m, dif_pos h]
    exact this.2 i hi
  refine wpIn_loop (fun a w => ∃ i, H i a w) m ⟨i0, h0⟩ fun a w h => ?_
  obtain ⟨i, hi, e⟩ := hm a w h
  refine Code.wpIn_mono ?_ (round i a w hi)
  intro x a' w' hx
  cases x <;> simp only [Exit.then] at hx ⊢ <;> try exact hx
  obtain ⟨j, hj, hlt⟩ := hx
  exact ⟨⟨j, hj⟩, by have := hle a' w' j hj; omega⟩
theorem hasKey_get {k : Nat} : ∀ {L : LL}, hasKey k L = true → ∃ y, getL L k = some y
  | [], h => by cases h
  | (u, y) :: r, h => by
    unfold hasKey at h
    rw [getL_c]
    split at h
    · rename_i e; first | exact ⟨_, rfl⟩ | (rw [e]; exact ⟨_, rfl⟩)
    · rename_i e; first | exact hasKey_get h | (rw [e]; exact hasKey_get h)
theorem dfrIn_ok {rest : LL} {k : Nat} : ∀ {L : LL}, dfrIn rest L = true → getL L k = some .dfr → ∃ y, getL rest k = some y
  | [], _, hk => by cases hk
  | (u, y) :: r, h, hk => by
    rw [getL_cons] at hk
    split at hk
    · rename_i e
      subst e
      cases hk
      simp only [dfrIn] at h
      split at h
      · rename_i hu; exact hasKey_get hu
      · cases h
    · refine dfrIn_ok (L := r) ?_ hk
      cases y <;> simp only [dfrIn] at h <;> first | exact h | (split at h <;> first | cases h | exact h)
theorem mLB_dfr {b : Nat} {x : LB} {as : As} {K : As → Prop} (h : mLB b x .dfr as K) : x = .dfr := by
  cases x <;> simp only [mLB] at h
  rfl
theorem lies_lt {N0 b k : Nat} {as as' : As} {y x : LB} (ho : AsOk b as) (ho' : AsOk b as') (hk : k < b) (hx : ∀ j, x.has j = true → j < b) (h : Lies N0 S (sub as' S) k k y x) : Lies N0 S (sub as S) k k y x := by
  have e : ∀ j, j < b → sub as S j = sub as' S j := fun j hj => by rw [sub_abs ho hj, sub_abs ho' hj]
  exact ⟨(blk_congr (e k hk)).trans h.1, fun w hw => chunk_congr (e k hk) (fun j hj => e j (hx j hj)) (h.2 w hw)⟩
theorem sameL_ok {N0 b : Nat} {ac : LL} {as : As} {K : Prop} : ∀ {tm : LL}, sameL b tm ac as K → ltLL b tm = true →
    K ∧ ∀ k x, getL tm k = some x → asHas as k = false ∧ k < b ∧ ∃ y, getL ac k = some y ∧ (y = .dfr → x = .dfr) ∧ ∀ (as : As) (S : Pl), AsOk b as → Lies N0 S (sub as S) k k y x
  | [], h, _ => ⟨h, fun _ _ hk => by cases hk⟩
  | (k, x) :: r, h, hl => by
    rw [sameL_c] at h
    split at h
    · exact h.elim
    rename_i hk
    split at h
    rotate_left
    · exact h.elim
    rename_i y hy
    have hd : y = .dfr → x = .dfr := fun e => by subst e; exact mLB_dfr h
    obtain ⟨as1, e1, o1, h1, r1⟩ := mLB_ok (N0 := N0) (AsOk.nil b) h
    have hl0 := hl
    rw [ltLL_c] at hl
    split at hl
    rotate_left
    · cases hl
    rename_i hu
    have hu : k < b := Nat.le_of_ble_eq_true hu
    have hlr : ltLL b r = true := by
      cases x with
      | cells T cs =>
        simp only at hl
        split at hl
        · exact hl
        · cases hl
      | row _ _ _ cs =>
        simp only at hl
        split at hl
        · exact hl
        · cases hl
      | arr _ _ _ _ => exact hl
      | dfr => exact hl
      | mp _ _ => exact hl
      | sb _ _ _ => exact hl
      | loop _ _ => exact hl
    obtain ⟨hK, hr⟩ := sameL_ok h1 hlr
    refine ⟨hK, fun k' x' hk' => ?_⟩
    have hlt : ∀ j, hasLL j ((k, x) :: r) = true → j < b := fun j hj => ltLL_has hl0 hj
    rw [getL_cons] at hk'
    split at hk'
    · rename_i e
      subst e
      cases hk'
      refine ⟨hk, hu, y, hy, hd, fun as2 S o2 => lies_lt o2 o1 hu (fun j hj => hlt j ?_) (r1 as1 (.refl _) o1 S k k (sub_abs o1 hu))⟩
      exact getL_hasLL (L := (k, x) :: r) (j := k) (lb := x) (by rw [getL_cons, if_pos rfl]) (.inr hj)
    · exact hr k' x' hk'
theorem Cfg.tell {as : As} {nk : Nat} {tm rest : LL} {fr2 : Fr} (hc : Cfg w0 Sb B n0 N S q fr L a w) (h0 : n0 ≤ nk) (ho : AsOk nk as)
    (hL : ∀ k x, getL tm k = some x → ∃ j y, asGet as k = some j ∧ getL L j = some y ∧ Lies 0 S (sub as S) j k y x)
    (hR : ∀ k x, getL rest k = some x → asHas as k = false ∧ ∃ y, getL L k = some y ∧ Lies 0 S (sub as S) k k y x)
    (hF : okF (sub as S) fr2 a.tmps) (hD : ∀ d, getL L d = some .dfr → d < nk ∧ getL rest d = some .dfr) : Cfg w0 Sb B n0 N (sub as S) q fr2 (appL tm rest) a w := by
  have hd : ∀ d, getL L d = some .dfr → d < nk ∧ getL (appL tm rest) d = some .dfr := fun d hd => by
    obtain ⟨h1, h2⟩ := hD d hd
    refine ⟨h1, ?_⟩
    rw [getL_appL]
    split
    · rename_i x hx
      obtain ⟨j, y, hj, _⟩ := hL d x hx
      have := ho.abs d j hj h1
      subst this
      have := (hR j _ h2).1
      rw [asGet_has hj] at this
      cases this
    · exact h2
  exact ⟨fun k hk => (sub_abs ho (by omega)).trans (hc.ag k hk), fun d hd' hB => (hd d (hc.b d hd' hB)).2, hc.m.tell ho hL hR, hF, hc.n, hc.d⟩
theorem reads_vw {q : PH} {A : Option Addr} {xs : List Value} {lo sz m : Nat} (h : Reads q A xs) : Reads q (A.map (·.add (lo * sz))) (vwC xs lo sz m) := by
  intro j hj
  unfold vwC at hj ⊢
  rw [List.length_take, List.length_drop] at hj
  rw [List.getElem?_take_of_lt (by omega), List.getElem?_drop]
  have := h (lo * sz + j) (by omega)
  rw [← this]
  rcases A with _ | ⟨b, o, s⟩
  · rfl
  · cases s with
    | none => simp [rd, Addr.add_lit, Nat.add_assoc]
    | some s =>
      have hx : xs[lo * sz + j]? = none := by rw [← this]; rfl
      rw [List.getElem?_eq_none_iff] at hx
      omega
theorem frzF_ok : ∀ {ts : List (Nat × Nat)} {q : PH} {fr : Fr} {L : LL} {K : PH → Fr → LL → Prop}, Cfg w0 Sb B n0 N S q fr L a w → frzF ts q fr L K →
    ∃ q' fr' L', q.le q' ∧ Cfg w0 Sb B n0 N S q' fr' L' a w ∧ K q' fr' L'
  | [], q, fr, L, K, hc, h => ⟨q, fr, L, fun _ _ _ h => h, hc, h⟩
  | (t, o) :: r, q, fr, L, K, hc, h => by
    replace h : (match nilAt fr t with
        | .vw k lo sz m _ => (match getL L k with
          | some (.arr _ sz' n xs) => (match Nat.beq sz' sz with
            | true => Ob (lo + m ≤ n) ∧ ∀ q' A c A0 c0 m', q.le q' → n ≤ c0 → Reads q' A0 xs → m' = m → m' ≤ c → Reads q' A (vwC xs lo sz m) → fFr (setF (fzF k (.slice A0 n c0) fr) t (.v (.slice A m' c))) fun fr => fLL (fzLL k (.slice A0 n c0) (remL L k)) fun L => frzF r q' fr L K
            | false => False)
          | _ => False)
        | _ => match frzAt fr L t o with
        | none => frzF r q fr L K
        | some k => (match getL L k with
          | some (.arr _ _ n xs) => ∀ q' A c, q.le q' → n ≤ c → Reads q' A xs → fFr (fzF k (.slice A n c) fr) fun fr => fLL (fzLL k (.slice A n c) (remL L k)) fun L => frzF r q' fr L K
          | _ => frzF r q fr L K)) := h
    split at h
    · rename_i k lo sz m ex ev
      have ht : okv S (.vw k lo sz m ex) (a.tmps.getD t undef) := by
        have := hc.f t
        unfold nilAt at ev
        split at ev
        · cases ev
        · rwa [ev] at this
      split at h
      rotate_left
      · exact h.elim
      rename_i e sz' n xs hk
      split at h
      rotate_left
      · exact h.elim
      rename_i hs
      have hs := Nat.eq_of_beq_eq_true hs
      subst hs
      obtain ⟨⟨hb⟩, h⟩ := h
      obtain ⟨q1, h1, h2, h3, h4⟩ := frz_ok hc hk
      obtain ⟨A, c, hv, hmc, hA, _⟩ := ht
      have hR : Reads q1 A (vwC xs lo sz' m) := by
        rcases hA with rfl | rfl
        · exact fun j hj => by simp [vwC] at hj
        · exact reads_vw h3
      have h := h q1 A c (S k).A (S k).c m h1 h2 h3 rfl hmc hR
      rw [fFr_eq, fLL_eq] at h
      obtain ⟨q2, fr2, L2, g1, g2, g3⟩ := frzF_ok (h4.frame (okF_setF h4.f (by rw [hv]; rfl))) h
      exact ⟨q2, fr2, L2, fun b o v hq => g1 b o v (h1 b o v hq), g2, g3⟩
    split at h
    · exact frzF_ok hc h
    rename_i k hfr
    split at h
    · rename_i e sz n xs hk
      obtain ⟨q1, h1, h2, h3, h4⟩ := frz_ok hc hk
      have h := h q1 (S k).A (S k).c h1 h2 h3
      rw [fFr_eq, fLL_eq] at h
      obtain ⟨q2, fr2, L2, g1, g2, g3⟩ := frzF_ok h4 h
      exact ⟨q2, fr2, L2, fun b o v hq => g1 b o v (h1 b o v hq), g2, g3⟩
    · exact frzF_ok hc h
theorem leK_refl (gr : Bool) (q : PH) : leK gr q q := by cases gr; rfl; exact fun _ _ _ h => h
theorem tell_ok {nk : Nat} {tm rest : LL} {tf kf : Fr} (h0 : n0 ≤ nk) (hkf : ltF nk kf = true) (hrest : ltLL nk rest = true) (hc : Cfg w0 Sb B n0 N S q fr L a w)
    (h : mFr nk tf fr [] fun as => mLL nk tm L as fun as => mFr nk kf fr as fun as => sameL nk rest L as (dfrIn rest L = true)) : ∃ S', Cfg w0 Sb B n0 N S' q (appF tf kf) (appL tm rest) a w := by
  obtain ⟨as3, e3, o3, hK, r3⟩ := mFr_ok (AsOk.nil nk) h
  obtain ⟨as4, e4, o4, hK, r4⟩ := mLL_ok (N0 := 0) o3 hK
  obtain ⟨as5, e5, o5, hK, r5⟩ := mFr_ok o4 hK
  obtain ⟨hdf, r6⟩ := sameL_ok (N0 := 0) hK hrest
  refine ⟨sub as5 S, hc.tell h0 o5 (fun k x hk => ?_) (fun k x hk => ?_) (okF_appF (r3 as5 (e4.trans e5) o5 S _ hc.f) (r5 as5 (.refl _) o5 S _ hc.f)) (fun d hd => ?_)⟩
  · obtain ⟨u, y, g1, g2, g3⟩ := r4 as5 e5 o5 k x hk
    exact ⟨u, y, g1, g2, g3 S⟩
  · obtain ⟨g1, g2, y, g3, _, g4⟩ := r6 k x hk
    exact ⟨g1, y, g3, g4 as5 S o5⟩
  · obtain ⟨y, hy⟩ := dfrIn_ok hdf hd
    obtain ⟨g1, g2, y', g3, g4, _⟩ := r6 d y hy
    rw [hd] at g3
    cases g3
    exact ⟨g2, by rw [hy, g4 rfl]⟩
theorem loop_ok {I : Inv} {nk : Nat} {body : Nat → PH → Fr → LL → Ke → Prop} {K : Ke} {c : Code}
    (hbody : ∀ {w0 nk q fr L K S a w}, Cfg w0 Sb B n0 N S q fr L a w → body nk q fr L K → c.wpIn (FF r) n P (QE w0 Sb B n0 N K) a w)
    (hc : Cfg w0 Sb B n0 N S q fr L a w) (h : loopK I n0 nk q fr L body K) : (Code.loop c).wpIn (FF r) n P (QE w0 Sb B n0 N K) a w := by
  unfold loopK at h
  split at h
  · exact h.elim
  obtain ⟨S, fr, L, nk, hc, h⟩ := nilF_ok hc h
  obtain ⟨q, fr, L, _, hc, h⟩ := frzF_ok hc h
  rw [fFr_eq] at h
  split at h
  rotate_left
  · exact h.elim
  rename_i h0 hkf
  have h0 := Nat.le_of_ble_eq_true h0
  obtain ⟨i0, ⟨hi0⟩, hrd0, h⟩ := h
  obtain ⟨as1, e1, o1, h, r1⟩ := mFr_ok (AsOk.nil nk) h
  obtain ⟨as2, e2, o2, h, r2⟩ := mLL_ok (N0 := 0) o1 h
  rw [fLL_eq] at h
  split at h
  rotate_left
  · exact h.elim
  rename_i hrest hhid
  have hlt : ∀ j, hasLL j (restL as2 L) = true → j < nk := fun j hj => ltLL_has hrest hj
  have hk0 : okF S (keepF I.keep fr) a.tmps := okF_keepF hc.f I.keep
  have head0 : Cfg w0 Sb B n0 N (sub as2 S) q (appF (I.fr nk i0) (keepF I.keep fr)) (appL (I.L nk i0) (restL as2 L)) a w := by
    refine hc.tell h0 o2 (fun k x hk => ?_) (fun k x hk => ?_) (okF_appF (r1 as2 e2 o2 S _ hc.f) (okF_congr (fun k hk => sub_abs o2 (ltF_has hkf hk)) hk0)) (fun d hd => ?_)
    · obtain ⟨j, y, g1, g2, g3⟩ := r2 as2 (.refl _) o2 k x hk
      exact ⟨j, y, g1, g2, g3 S⟩
    · have g := getL_restL.2 x hk
      have g2 : getL L k = some x := (getL_restL.1 g).symm.trans hk
      have hkn : k < nk := hlt k (getL_hasLL hk (.inl rfl))
      refine ⟨g, x, g2, blk_congr (sub_abs o2 hkn), fun w hw => chunk_congr (sub_abs o2 hkn) (fun j hj => sub_abs o2 (hlt j (getL_hasLL hk (.inr hj)))) hw⟩
    · have g := hidFree_ok hhid hd
      have g2 : getL (restL as2 L) d = some .dfr := (getL_restL.1 g).trans hd
      exact ⟨hlt d (getL_hasLL g2 (.inl rfl)), g2⟩
  have hround : ∀ q1, leK I.gr q q1 → loopRound I n0 nk q (keepF I.keep fr) (restL as2 L) body K q1 := by
    intro q1 hq1
    revert h hq1
    generalize I.gr = g
    cases g with
    | false => intro h hq1; have hq1 : q = q1 := hq1; subst hq1; exact h
    | true => intro h hq1; exact h q1 hq1
  clear h
  refine wpIn_loopG (ι := I.ι) (fun i a w => I.ok i ∧ ∃ w1 q1 S, Ext w0 w1 ∧ leK I.gr q q1 ∧ I.rd q1 i ∧ Cfg w1 Sb B n0 N S q1 (appF (I.fr nk i) (keepF I.keep fr)) (appL (I.L nk i) (restL as2 L)) a w) I.μ (i0 := i0) ⟨hi0, w0, q, _, .refl _, leK_refl _ _, hrd0.out, head0⟩ ?_
  rintro i a w ⟨hi, w1, q1, S, hx1, hq1, hrd, hc⟩
  have h := hround q1 hq1 i hi hrd
  split at h
  rotate_left
  · exact h.elim
  rw [fFr_eq, fLL_eq, fN_eq] at h
  refine Code.wpIn_mono ?_ (hbody hc h)
  rintro e a' w' ⟨x, rfl, w2, hx2, hst⟩
  cases x with
  | ret => exact ⟨.ret, rfl, w2, hx1.trans hx2, hst⟩
  | exit m => exact ⟨.exit m, rfl, w2, hx1.trans hx2, hst⟩
  | goto m => exact ⟨.goto m, rfl, w2, hx1.trans hx2, hst⟩
  | norm =>
    obtain ⟨S', q', fr', L', nk', hc', hK⟩ := hst
    obtain ⟨S', fr', L', nk', hc', hK⟩ := nilF_ok hc' hK
    obtain ⟨q', fr', L', _, hc', hK⟩ := frzF_ok hc' hK
    obtain ⟨j, ⟨hj, hlt'⟩, hrd', ⟨hle⟩, hK⟩ := hK
    obtain ⟨S2, hc2⟩ := tell_ok h0 hkf hrest hc' hK
    refine ⟨j, ⟨hj, w2, q', S2, hx1.trans hx2, hle, hrd'.out, hc2⟩, hlt'⟩
theorem cut_ok {I : Cut} {va : Ke → Prop} {vb : Nat → PH → Fr → LL → Prop} {K : Ke} {x y : Code}
    (hx : ∀ {K S a w}, Cfg w0 Sb B n0 N S q fr L a w → va K → x.wpIn (FF r) n P (QE w0 Sb B n0 N K) a w)
    (hy : ∀ {w0 nk q fr L S a w}, Cfg w0 Sb B n0 N S q fr L a w → vb nk q fr L → y.wpIn (FF r) n P (QE w0 Sb B n0 N K) a w)
    (hc : Cfg w0 Sb B n0 N S q fr L a w) (h : cutK I n0 q fr va vb K) : (Code.seq x y).wpIn (FF r) n P (QE w0 Sb B n0 N K) a w := by
  unfold cutK at h
  rw [fFr_eq, fLL_eq, fN_eq] at h
  split at h
  rotate_left
  · exact h.elim
  rename_i h0 hkf hrest
  have h0 := Nat.le_of_ble_eq_true h0
  obtain ⟨h1, h2⟩ := h
  have hnext : ∀ q1, leK I.gr q q1 → cutNext I I.base (keepF I.keep fr) I.rest vb q1 := by
    intro q1 hq1
    revert h2 hq1
    generalize I.gr = g
    cases g with
    | false => intro h hq1; have hq1 : q = q1 := hq1; subst hq1; exact h
    | true => intro h hq1; exact h q1 hq1
  refine wpIn_seq (Code.wpIn_mono ?_ (hx hc h1))
  rintro e a' w' ⟨z, rfl, w2, hx2, hst⟩
  cases z with
  | ret => exact ⟨.ret, rfl, w2, hx2, hst⟩
  | exit m => exact ⟨.exit m, rfl, w2, hx2, hst⟩
  | goto m => exact ⟨.goto m, rfl, w2, hx2, hst⟩
  | norm =>
    obtain ⟨S', q', fr', L', nk', hc', hK⟩ := hst
    obtain ⟨S', fr', L', nk', hc', hK⟩ := nilF_ok hc' hK
    obtain ⟨q', fr', L', _, hc', hK⟩ := frzF_ok hc' hK
    obtain ⟨j, ⟨hj⟩, ⟨hle⟩, hK⟩ := hK
    obtain ⟨S2, hc2⟩ := tell_ok h0 hkf hrest hc' hK
    have h := hnext q' hle j hj
    split at h
    rotate_left
    · exact h.elim
    rw [fN_eq, fFr_eq, fLL_eq] at h
    exact Code.wpIn_mono (fun _ _ _ hq => hq.ext hx2) (hy hc2 h)
end Go.Eng
