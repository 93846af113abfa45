/-
  Texts that the law leans on. Nothing here is trusted.
-/
import Derived.Test.YtnlglgafokjhnaaGreatVN1
set_option linter.unusedVariables false
set_option linter.unusedSimpArgs false
section
namespace Go.Eng
open Go Go.RowKit
namespace Exe
noncomputable section
variable {P : Program} {S S' Sb : Pl} {fr fr' : Fr} {L L' : LL} {q q' : PH} {w0 : W0} {w w' : World} {a a' : Act} {n0 N : Nat} {B : Nat → Prop} {X : XE} {xi : XI} {Yx' : Yx}
variable {r : Option Nat} {n : Nat} {Q : Exit → Act → World → Prop} {M M' : Mm} {nk nk' : Nat} {y : SV} {Y : Ye} {all : List Oper} {ops : Array Oper}
def stX (tr : List Tc) (z : Nat × Fr × Mm) (i : Nat) : Nat × Fr × Mm := match tr[i]? with | some t => (t.nk, t.fr, t.M) | none => z
theorem xtrace_c {o : Oper} {l : List Oper} {fr : Fr} : xtrace X xi Yx' N all (o :: l) nk fr M = (match xstep X xi Yx' all o nk fr M with
      | none => none
      | some (y, nk', M') => (match putX N o.dst y fr, Nat.ble nk nk', R.ltK nk' y with
        | some fr', true, true => (match xtrace X xi Yx' N all l nk' fr' M' with
          | none => none
          | some (l, z) => some (⟨nk, fr, M, y⟩ :: l, z))
        | _, _, _ => none)) := rfl
structure TrAt (X : XE) (xi : XI) (Yx' : Yx) (N : Nat) (all : List Oper) (tr : List Tc) (z : Nat × Fr × Mm) (i : Nat) (o : Oper) (t : Tc) : Prop where
  get : tr[i]? = some t
  step : xstep X xi Yx' all o t.nk t.fr t.M = some (t.y, (stX tr z (i + 1)).1, (stX tr z (i + 1)).2.2)
  put : putX N o.dst t.y t.fr = some (stX tr z (i + 1)).2.1
  le : t.nk ≤ (stX tr z (i + 1)).1
  lt : hV (stX tr z (i + 1)).1 t.y
theorem xtrace_ok : ∀ {l : List Oper} {nk : Nat} {fr : Fr} {M : Mm} {tr : List Tc} {z : Nat × Fr × Mm}, xtrace X xi Yx' N all l nk fr M = some (tr, z) →
    tr.length = l.length ∧ stX tr z 0 = (nk, fr, M) ∧ ∀ i o, l[i]? = some o → ∃ t, TrAt X xi Yx' N all tr z i o t
  | [], nk, fr, M, tr, z, h => by
    cases h
    exact ⟨rfl, rfl, fun i o h => by simp at h⟩
  | o :: l, nk, fr, M, tr, z, h => by
    rw [xtrace_c] at h
    split at h
    · cases h
    rename_i y nk' M' hs
    split at h
    rotate_left
    · cases h
    rename_i fr' hp hle hlt
    split at h
    · cases h
    rename_i tr' z' hx
    cases h
    obtain ⟨h1, h2, h3⟩ := xtrace_ok hx
    have e1 : stX (⟨nk, fr, M, y⟩ :: tr') z 1 = (nk', fr', M') := h2
    refine ⟨by simp [h1], rfl, fun i o' ho => ?_⟩
    cases i with
    | zero =>
      cases ho
      refine ⟨⟨nk, fr, M, y⟩, rfl, ?_, ?_, ?_, ?_⟩
      · rw [Nat.zero_add, e1]; exact hs
      · rw [Nat.zero_add, e1]; exact hp
      · rw [Nat.zero_add, e1]; exact Nat.le_of_ble_eq_true hle
      · rw [Nat.zero_add, e1]; exact ltKR hlt
    | succ i =>
      obtain ⟨t, g1, g2, g3, g4, g5⟩ := h3 i o' (by simpa using ho)
      exact ⟨t, by simpa using g1, g2, g3, g4, g5⟩
section
variable {tr : List Tc} {z : Nat × Fr × Mm}
theorem stX_at {i : Nat} {t : Tc} (h : tr[i]? = some t) : stX tr z i = (t.nk, t.fr, t.M) := by unfold stX; rw [h]
structure Trc (X : XE) (xi : XI) (Yx' : Yx) (N : Nat) (all : List Oper) (tr : List Tc) (z : Nat × Fr × Mm) (nk : Nat) (fr : Fr) (M : Mm) : Prop where
  len : tr.length = all.length
  zero : stX tr z 0 = (nk, fr, M)
  at_ : ∀ i o, all[i]? = some o → ∃ t, TrAt X xi Yx' N all tr z i o t
theorem Trc.mono (h : Trc X xi Yx' N all tr z nk fr M) : ∀ (d i : Nat), i + d ≤ all.length → (stX tr z i).1 ≤ (stX tr z (i + d)).1
  | 0, i, _ => Nat.le_refl _
  | d + 1, i, hd => by
    have h1 := Trc.mono h d i (by omega)
    obtain ⟨t, g⟩ := h.at_ (i + d) _ (List.getElem?_eq_getElem (by omega))
    have := g.le
    rw [stX_at g.get] at h1
    exact Nat.le_trans h1 this
theorem Trc.mono' (h : Trc X xi Yx' N all tr z nk fr M) {i j : Nat} (hij : i ≤ j) (hj : j ≤ all.length) : (stX tr z i).1 ≤ (stX tr z j).1 := by
  have := h.mono (j - i) i (by omega)
  rwa [Nat.add_sub_cancel' hij] at this
theorem Trc.calm (h : Trc X xi Yx' N all tr z nk fr M) : ∀ (d i : Nat), i + d ≤ all.length → (∀ e o, all[e]? = some o → isEff X o.op = true → i ≤ e → e < i + d → False) → (stX tr z (i + d)).1 = (stX tr z i).1 ∧ (stX tr z (i + d)).2.2 = (stX tr z i).2.2
  | 0, i, _, _ => ⟨rfl, rfl⟩
  | d + 1, i, hd, hno => by
    obtain ⟨h1, h2⟩ := Trc.calm h d i (by omega) (fun e o ho he hi hd => hno e o ho he hi (by omega))
    have ho := List.getElem?_eq_getElem (l := all) (i := i + d) (by omega)
    obtain ⟨t, g⟩ := h.at_ (i + d) _ ho
    have hc : isEff X all[i + d].op = false := by
      cases hb : isEff X all[i + d].op with
      | false => rfl
      | true => exact (hno (i + d) _ ho hb (by omega) (by omega)).elim
    obtain ⟨k1, k2⟩ := xstep_same hc g.step
    rw [stX_at g.get] at h1 h2
    exact ⟨k1.trans h1, k2.trans h2⟩
theorem Trc.calm' (h : Trc X xi Yx' N all tr z nk fr M) {i j : Nat} (hij : i ≤ j) (hj : j ≤ all.length) (hno : ∀ e o, all[e]? = some o → isEff X o.op = true → i ≤ e → e < j → False) : (stX tr z j).1 = (stX tr z i).1 ∧ (stX tr z j).2.2 = (stX tr z i).2.2 := by
  have := h.calm (j - i) i (by omega) (fun e o ho he hi hd => hno e o ho he hi (by omega))
  rwa [Nat.add_sub_cancel' hij] at this
theorem Trc.hFs (h : Trc X xi Yx' N all tr z nk fr M) (hf : hF nk fr) : ∀ i, i ≤ all.length → hF (stX tr z i).1 (stX tr z i).2.1
  | 0, _ => by rw [h.zero]; exact hf
  | i + 1, hi => by
    have ih := Trc.hFs h hf i (by omega)
    obtain ⟨t, g⟩ := h.at_ i _ (List.getElem?_eq_getElem (by omega))
    rw [stX_at g.get] at ih
    exact putX_h g.put (ih.mono g.le) g.lt
theorem allKeep_ok {bs : List Nat} {i k : Nat} : ∀ {l : List Oper} {s : List Tc} {e0 : Nat}, allKeep X bs i k l s e0 = true → ∀ (e : Nat) (oe : Oper) (te : Tc), l[e]? = some oe → s[e]? = some te → isEff X oe.op = true → (i < e0 + e ∧ bit ((nth bs (e0 + e)).getD 0) i = true) ∨ effKeeps k oe te = true
  | [], _, _, _, e, oe, te, ho, _, _ => by simp at ho
  | _ :: _, [], _, _, e, oe, te, _, ht, _ => by simp at ht
  | o :: l, t :: s, e0, h, e, oe, te, ho, ht, he => by
    simp only [allKeep, Bool.and_eq_true] at h
    cases e with
    | zero =>
      cases ho
      cases ht
      have h1 := h.1
      rw [he] at h1
      dsimp only at h1
      split at h1
      · rename_i hb
        simp only [Bool.and_eq_true] at hb
        exact .inl ⟨Nat.le_of_ble_eq_true hb.1, hb.2⟩
      · exact .inr h1
    | succ e =>
      have := allKeep_ok h.2 e oe te (by simpa using ho) (by simpa using ht) he
      rw [show e0 + (e + 1) = e0 + 1 + e from by omega]
      exact this
theorem xput_other {M M' : Mm} {k j : Nat} {x : Option LB} (h : xput M k x = some M') (hk : Nat.beq j k = false) : M'.get j = M.get j := by
  rw [xput_get h, if_neg (fun e => by subst e; rw [Nat.beq_refl] at hk; cases hk)]
theorem effKeeps_ok {k : Nat} {o : Oper} {t : Tc} (h : effKeeps k o t = true) (hs : xstep X xi Yx' all o t.nk t.fr t.M = some (y, nk', M')) : M'.get k = t.M.get k := by
  unfold xstep at hs
  split at hs
  · cases hs
  · cases hs; rfl
  unfold effKeeps at h
  split at h
  · cases h
  rename_i hk
  generalize o.op = op at h hs
  cases op <;> first
    | (cases h; done)
    | skip
  · -- alloc
    rename_i t1
    have hs : lift1 t.nk (xallocB X.E.T t1 t.nk t.M) = some (y, nk', M') := hs
    unfold lift1 at hs
    split at hs
    rotate_left
    · cases hs
    rename_i y1 M1 h1
    cases hs
    have al : ∀ {y M'}, xalloc X.E.T t1 t.nk t.M = some (y, M') → M'.get k = t.M.get k := fun {y M'} h => by
      unfold xalloc at h
      split at h
      · cases h
      · split at h
        · rename_i h2; cases h; exact xput_other h2 hk
        · cases h
    unfold xallocB at h1
    split at h1
    · split at h1
      · split at h1
        · rename_i h2; cases h1; exact xput_other h2 hk
        · cases h1
      · exact al h1
    · exact al h1
  · -- box
    rename_i t1 x
    have hs : lift1 t.nk (xboxM X.E.T t1 t.nk (opv t.fr x) t.M) = some (y, nk', M') := hs
    unfold lift1 at hs
    split at hs
    rotate_left
    · cases hs
    rename_i y1 M1 h1
    cases hs
    unfold xboxM at h1
    split at h1
    · cases h1
    split at h1
    rotate_left
    · cases h1
    split at h1
    · rename_i h2; cases h1; exact xput_other h2 hk
    · cases h1
  · -- store
    rename_i t1 p x
    have hs : liftU t.nk (xstore X.E.T t1 (opv t.fr p) (opv t.fr x) t.M) = some (y, nk', M') := hs
    unfold liftU at hs
    split at hs
    rotate_left
    · cases hs
    rename_i M1 h1
    cases hs
    dsimp only at h
    split at h
    rotate_left
    · cases h
    rename_i k2 o2 hp
    split at h
    · cases h
    rename_i hk2
    rw [hp] at h1
    unfold xstore at h1
    split at h1
    · cases h1
    dsimp only at h1
    split at h1
    · split at h1
      · split at h1
        · exact xput_other h1 hk2
        · cases h1
      · split at h1
        · exact xput_other h1 hk2
        · cases h1
      · cases h1
    · cases h1
theorem Trc.keep (h : Trc X xi Yx' N all tr z nk fr M) {bs : List Nat} {i0 k : Nat} (hk : allKeep X bs i0 k all tr 0 = true) : ∀ i, i ≤ all.length → (∀ e oe, all[e]? = some oe → isEff X oe.op = true → i0 < e → e < i → bit ((nth bs e).getD 0) i0 = true → False) → (stX tr z i).2.2.get k = M.get k
  | 0, _, _ => by rw [h.zero]
  | i + 1, hi, hno => by
    have ih := Trc.keep h hk i (by omega) (fun e oe g1 g2 g3 g4 => hno e oe g1 g2 g3 (by omega))
    have ho := List.getElem?_eq_getElem (l := all) (i := i) (by omega)
    obtain ⟨t, g⟩ := h.at_ i _ ho
    rw [stX_at g.get] at ih
    cases he : isEff X all[i].op with
    | false =>
      obtain ⟨_, e2⟩ := xstep_same he g.step
      rw [e2]; exact ih
    | true =>
      have hkk := allKeep_ok hk i _ t ho g.get he
      rw [Nat.zero_add] at hkk
      rcases hkk with ⟨h1, h2⟩ | h1
      · exact (hno i _ ho he h1 (by omega) h2).elim
      · rw [effKeeps_ok h1 g.step]; exact ih
theorem ldSafe_ok (h : Trc X xi Yx' N all tr z nk fr M) {bs : List Nat} {o : Oper} {t : Tc} {i : Nat} (hg : tr[i]? = some t) (hls : ldSafe X bs i all tr o t = true) (hc : xstep X xi Yx' all o t.nk t.fr t.M = some (t.y, t.nk, t.M)) {p : Nat} (hp : p ≤ all.length)
    (hno : ∀ e oe, all[e]? = some oe → isEff X oe.op = true → i < e → e < p → bit ((nth bs e).getD 0) i = true → False) :
    xstep X xi Yx' all o (stX tr z p).1 t.fr (stX tr z p).2.2 = some (t.y, (stX tr z p).1, (stX tr z p).2.2) := by
  have hi : i < tr.length := (List.getElem?_eq_some_iff.1 hg).1
  unfold ldSafe at hls
  split at hls
  rotate_left
  · cases hls
  rename_i k t0 r hk
  simp only [Bool.and_eq_true] at hls
  obtain ⟨h1, h2⟩ := hls
  have hz : (stX (t0 :: r) z 0).1 = t0.nk := rfl
  have hle : t0.nk ≤ (stX (t0 :: r) z p).1 := by rw [← hz]; exact h.mono' (Nat.zero_le _) hp
  have e1 := h.keep h2 i (by rw [← h.len]; omega) (fun e _ _ _ g1 g2 _ => by omega)
  rw [stX_at hg] at e1
  have e2 := h.keep h2 p hp hno
  have e3 : (stX (t0 :: r) z p).2.2.get k = t.M.get k := e2.trans e1.symm
  generalize (stX (t0 :: r) z p).1 = nk2 at hle
  generalize (stX (t0 :: r) z p).2.2 = M2 at e3
  unfold ldKey at hk
  split at hk
  rotate_left
  · cases hk
  rename_i t1 x hop hgd
  split at hk
  rotate_left
  · cases hk
  rename_i k' o' hx
  cases hk
  have form : ∀ nk M, xstep X xi Yx' all o nk t.fr M = liftC nk M (xcalm2 X.E.T (.load t1 x) t.fr M.get) := by
    intro nk M
    unfold xstep
    rw [hgd]
    show xop X xi Yx' nk t.fr M o.op = _
    rw [hop]
    rfl
  rw [form] at hc ⊢
  have e4 : xcalm2 X.E.T (.load t1 x) t.fr M2.get = xcalm2 X.E.T (.load t1 x) t.fr t.M.get := by
    have e5 : xload X.E.T M2.get t1 (opv t.fr x) = xload X.E.T t.M.get t1 (opv t.fr x) := by
      rw [hx]
      unfold xload
      dsimp only
      rw [e3]
    have e6 : xrd X.E.T (.load t1 x) t.fr M2.get = xrd X.E.T (.load t1 x) t.fr t.M.get := by
      cases x with
      | tmp s =>
        have hx' : get t.fr s = .lp k o' := hx
        simp only [xrd, hx', e3]
      | _ => rfl
    unfold xcalm2
    rw [e6]
    unfold xcalm
    dsimp only
    rw [e5]
  rw [e4]
  obtain ⟨_, _, u, hu, hy, _⟩ := liftC_same hc
  rw [hu]
  have hlt : R.ltK nk2 u = true := by
    rw [hy] at h1
    have := (ltKR (nb_lt h1)).mono hle
    rw [R.ltK_eq]
    exact ltK_of u this
  unfold liftC
  dsimp only
  rw [hlt, ← hy]
theorem putX_get {dst : Option Nat} {fr1 : Fr} (h : putX N dst y fr = some fr1) (t : Nat) : get fr1 t = if dst = some t then y else get fr t := by
  unfold putX at h
  split at h
  · cases h; simp
  · split at h
    · cases h; rw [get_cons]; simp
    · cases h
theorem Trc.keeps (h : Trc X xi Yx' N all tr z nk fr M) {t : Nat} : ∀ i, i ≤ all.length → (∀ j o, j < i → all[j]? = some o → o.dst ≠ some t) → get (stX tr z i).2.1 t = get fr t
  | 0, _, _ => by rw [h.zero]
  | i + 1, hi, hno => by
    have ih := Trc.keeps h i (by omega) (fun j o hj ho => hno j o (by omega) ho)
    have ho := List.getElem?_eq_getElem (l := all) (i := i) (by omega)
    obtain ⟨tc, g⟩ := h.at_ i _ ho
    rw [stX_at g.get] at ih
    rw [putX_get g.put, if_neg (hno i _ (by omega) ho)]
    exact ih
theorem Trc.lays (h : Trc X xi Yx' N all tr z nk fr M) {j t : Nat} {o : Oper} {tc : Tc} (ho : all[j]? = some o) (hd : o.dst = some t) (htc : tr[j]? = some tc) (hun : ∀ j' o', all[j']? = some o' → o'.dst = some t → j' = j) :
    ∀ i, i ≤ all.length → j < i → get (stX tr z i).2.1 t = tc.y
  | 0, _, hj => by omega
  | i + 1, hi, hj => by
    have ho2 := List.getElem?_eq_getElem (l := all) (i := i) (by omega)
    obtain ⟨t2, g⟩ := h.at_ i _ ho2
    rw [putX_get g.put]
    by_cases e : j = i
    · subst e
      rw [ho] at ho2
      cases ho2
      have hg := g.get
      rw [htc] at hg
      cases hg
      rw [if_pos hd]
    · rw [if_neg (fun hd2 => e (hun i _ ho2 hd2).symm)]
      have := Trc.lays h ho hd htc hun i (by omega) (by omega)
      rw [stX_at g.get] at this
      exact this
end
theorem slotOk_ok {bs : List Nat} {i t : Nat} : ∀ {l : List Oper} {j0 : Nat}, slotOk bs i t l j0 = true → ∀ j o, l[j]? = some o → o.dst = some t → i = j0 + j ∨ (j0 + j < i ∧ bit ((nth bs i).getD 0) (j0 + j) = true) ∨ (i < j0 + j ∧ bit ((nth bs (j0 + j)).getD 0) i = true)
  | [], j0, _, j, o, ho, _ => by simp at ho
  | o1 :: l, j0, h, j, o, ho, hd => by
    simp only [slotOk, Bool.and_eq_true] at h
    cases j with
    | zero =>
      cases ho
      have h1 := h.1
      rw [hd] at h1
      dsimp only at h1
      rw [Nat.beq_refl] at h1
      dsimp only at h1
      rw [Nat.add_zero]
      split at h1
      · rename_i e; exact .inl (Nat.eq_of_beq_eq_true e)
      · rename_i e1 e2; exact .inr (.inl ⟨Nat.le_of_ble_eq_true e2, h1⟩)
      · rename_i e1 e2
        refine .inr (.inr ⟨?_, h1⟩)
        have : ¬ j0 < i := fun hlt => by
          have : Nat.blt j0 i = true := Nat.ble_eq_true_of_le hlt
          rw [this] at e2; cases e2
        have : i ≠ j0 := Nat.ne_of_beq_eq_false e1
        omega
    | succ j =>
      have := slotOk_ok h.2 j o (by simpa using ho) hd
      rw [show j0 + (j + 1) = j0 + 1 + j from by omega]
      exact this
theorem dstOk_ok {i d : Nat} : ∀ {l : List Oper} {j0 : Nat}, dstOk i d l j0 = true → ∀ j o, l[j]? = some o → o.dst = some d → i = j0 + j
  | [], j0, _, j, o, ho, _ => by simp at ho
  | o1 :: l, j0, h, j, o, ho, hd => by
    simp only [dstOk, Bool.and_eq_true] at h
    cases j with
    | zero =>
      cases ho
      have h1 := h.1
      rw [hd] at h1
      dsimp only at h1
      rw [Nat.beq_refl] at h1
      exact Nat.eq_of_beq_eq_true h1
    | succ j =>
      have := dstOk_ok h.2 j o (by simpa using ho) hd
      omega
theorem slotsOk_ok {bs : List Nat} : ∀ {l : List Oper} {i0 : Nat}, slotsOk bs all l i0 = true → ∀ i o, l[i]? = some o → (∀ t ∈ opsL o ++ guardL all o, slotOk bs (i0 + i) t all 0 = true) ∧ ∀ d, o.dst = some d → dstOk (i0 + i) d all 0 = true
  | [], i0, _, i, o, ho => by simp at ho
  | o1 :: l, i0, h, i, o, ho => by
    simp only [slotsOk, Bool.and_eq_true, List.all_eq_true] at h
    cases i with
    | zero =>
      cases ho
      refine ⟨h.1.1, fun d hd => ?_⟩
      have := h.1.2
      rw [hd] at this
      exact this
    | succ i =>
      have := slotsOk_ok h.2 i o (by simpa using ho)
      rw [show i0 + (i + 1) = i0 + 1 + i from by omega]
      exact this
theorem xeffs_ok {bs : List Nat} {m : Nat} : ∀ {l : List Oper} {e0 : Nat}, xeffs X bs m l e0 = true → ∀ e o, l[e]? = some o → isEff X o.op = true → e0 + e < m → bit ((nth bs m).getD 0) (e0 + e) = true
  | [], e0, _, e, o, ho, _, _ => by simp at ho
  | o1 :: l, e0, h, e, o, ho, he, hlt => by
    simp only [xeffs, Bool.and_eq_true] at h
    cases e with
    | zero =>
      cases ho
      have h1 := h.1
      rw [he] at h1
      simp only [Bool.or_eq_true, beq_iff_eq] at h1
      have : Nat.blt e0 m = true := Nat.ble_eq_true_of_le hlt
      rw [this] at h1
      simpa using h1
    | succ e =>
      rw [show e0 + (e + 1) = e0 + 1 + e from by omega]
      exact xeffs_ok h.2 e o (by simpa using ho) he (by omega)
theorem xpairs_ok {bs : List Nat} {i : Nat} {oi : Oper} {ti : Tc} {nkF : Nat} {MF : Mm} {frF : Fr} : ∀ {l : List Oper} {s : List Tc} {e0 : Nat}, xpairs X xi Yx' all bs i oi ti nkF MF l s e0 = true → ∀ e oe te, l[e]? = some oe → s[e]? = some te → isEff X oe.op = true →
    xpair X xi Yx' all bs (earlyAl X all oe) i (e0 + e) oi ti te (stX s (nkF, frF, MF) (e + 1)).1 (stX s (nkF, frF, MF) (e + 1)).2.2 = true
  | [], [], e0, _, e, oe, te, ho, _, _ => by simp at ho
  | [], _ :: _, e0, h, e, oe, te, ho, _, _ => by simp at ho
  | _ :: _, [], e0, h, e, oe, te, ho, ht, _ => by simp at ht
  | o1 :: l, t1 :: s, e0, h, e, oe, te, ho, ht, he => by
    simp only [xpairs, Bool.and_eq_true] at h
    cases e with
    | zero =>
      cases ho
      cases ht
      have h1 := h.1
      rw [he] at h1
      dsimp only at h1
      cases s with
      | nil => exact h1
      | cons t2 s => exact h1
    | succ e =>
      have := xpairs_ok (frF := frF) h.2 e oe te (by simpa using ho) (by simpa using ht) he
      rw [show e0 + (e + 1) = e0 + 1 + e from by omega]
      exact this
theorem xchk_ok {bs : List Nat} {tr : List Tc} {nkF : Nat} {MF : Mm} : ∀ {l : List Oper} {s : List Tc} {i0 : Nat}, xchk X xi Yx' all bs tr nkF MF l s i0 = true → ∀ i o t, l[i]? = some o → s[i]? = some t →
    (isEff X o.op = true → (match earlyAl X all o with | true => true | false => xeffs X bs (i0 + i) all 0) = true) ∧ (isEff X o.op = false → (ldSafe X bs (i0 + i) all tr o t || xpairs X xi Yx' all bs (i0 + i) o t nkF MF all tr 0) = true)
  | [], [], i0, _, i, o, t, ho, _ => by simp at ho
  | [], _ :: _, i0, h, i, o, t, ho, _ => by simp at ho
  | _ :: _, [], i0, h, i, o, t, ho, ht => by simp at ht
  | o1 :: l, t1 :: s, i0, h, i, o, t, ho, ht => by
    simp only [xchk, Bool.and_eq_true] at h
    cases i with
    | zero =>
      cases ho
      cases ht
      have h1 := h.1
      exact ⟨fun he => by rw [he] at h1; exact h1, fun he => by rw [he] at h1; exact h1⟩
    | succ i =>
      have := xchk_ok h.2 i o t (by simpa using ho) (by simpa using ht)
      rw [show i0 + (i + 1) = i0 + 1 + i from by omega]
      exact this
theorem edgesOk_ok : ∀ {l : List Oper} {i0 : Nat}, edgesOk all l i0 = true → ∀ i o, l[i]? = some o → ∀ e ∈ o.after, Region.binds .any e = true → e.on < i0 + i
  | [], i0, _, i, o, ho, _, _, _ => by simp at ho
  | o1 :: l, i0, h, i, o, ho, e, he, hb => by
    simp only [edgesOk, Bool.and_eq_true, List.all_eq_true] at h
    cases i with
    | zero =>
      cases ho
      have := h.1 e (by simpa using he)
      rw [hb] at this
      simp only [Bool.not_true, Bool.false_or] at this
      exact Nat.le_of_ble_eq_true this
    | succ i =>
      have := edgesOk_ok h.2 i o (by simpa using ho) e he hb
      omega
theorem befs_some {i : Nat} (hi : i < ops.toList.length) : ∃ m, (befs ops.toList [])[i]? = some m ∧ (nth (befs ops.toList []) i).getD 0 = m := by
  obtain ⟨_, h2, _⟩ := befs_get (l := ops.toList) (bs := [])
  have : i < (befs ops.toList []).length := by rw [h2]; simpa using hi
  refine ⟨_, List.getElem?_eq_getElem this, ?_⟩
  rw [nth_get, List.getElem?_eq_getElem this]
  rfl
structure Ea where
  j : Nat
  t : Nat
  d : Nat
  b : Nat
structure EFact (X : XE) (w0 : W0) (q : PH) (S : Pl) (L : LL) (w : World) (x : Ea) : Prop where
  h : ∃ vs, w.heap[x.b]? = some (.cells vs.toArray x.t (0, 0)) ∧ okL S0 (valL (ty X.E.T x.t).zero) vs
  f : ¬ w0.F x.b
  q : ∀ o, q x.b o = none
  l : ∀ k lb, getL L k = some lb → blk S k lb ≠ some x.b
theorem okL_val {S S' : Pl} {l : List Value} {vs : List Value} (h : okL S (valL l) vs) : okL S' (valL l) vs := by
  refine okL_congr _ (fun k hk => ?_) h
  have h0 : hS 0 (valL l) := hS.valL _
  have := h0 k hk
  omega
def w0E (w0 : W0) (w : World) (q : PH) (E : List Ea) (hs : w0.w.heap.size ≤ w.heap.size) : W0 where
  w := w
  F := fun b => w0.F b ∨ (b < w.heap.size ∧ ∃ x ∈ E, x.b = b)
  lt := fun b h => h.elim (fun h => Nat.lt_of_lt_of_le (w0.lt b h) hs) (fun h => h.1)
  F0 := w0.F0
  sub := fun b h => .inl (w0.sub b h)
  q := fun b o => @ite _ (∃ x ∈ E, x.b = b) (Classical.propDecidable _) none (q b o)
theorem exec (hX : XOk P X) (hI : InlOk P (XInl xi)) (hYr : YRel Yx' Y) (hY : YOk P Sb Y n0) {o : Oper} {fr' : Fr} {E : List Ea} (hc : Cfg w0 Sb B n0 N S q fr L a w) (hE : ∀ x ∈ E, EFact X w0 q S L w x) (h0 : n0 ≤ nk) (hR : Rep M L) (hf : hF nk fr) (hl : hL nk L)
    (h : xstep X xi Yx' all o nk fr M = some (y, nk', M')) (hp : putX N o.dst y fr = some fr') {R : Act → World → Prop}
    (hK : ∀ a' w' S' q' L', Cfg w0 Sb B n0 N S' q' fr' L' a' w' → Rep M' L' → hF nk' fr' → hL nk' L' → (∀ x ∈ E, EFact X w0 q' S' L' w' x) → R a' w') :
    nk ≤ nk' ∧ hV nk' y ∧ ((Region.wanted o (yielded all.toArray a.tmps) = true ∧ Oper.wpIn (FF r) n P o a w R Q) ∨
      (Region.wanted o (yielded all.toArray a.tmps) = false ∧ R (a.put o.dst undef) w)) := by
  let w1 : W0 := w0E w0 w q E hc.m.be.size
  have hlt : ∀ x ∈ E, x.b < w.heap.size := fun x hx => by
    obtain ⟨vs, hh, _⟩ := (hE x hx).h
    exact (Array.getElem?_eq_some_iff.1 hh).1
  have q1 : ∀ {b o v}, w1.q b o = some v → (¬ ∃ x ∈ E, x.b = b) ∧ q b o = some v := fun {b o v} hq => by
    have hq : @ite _ (∃ x ∈ E, x.b = b) (Classical.propDecidable _) none (q b o) = some v := hq
    split at hq
    · cases hq
    · rename_i hn; exact ⟨hn, hq⟩
  have hext : Ext w0 w1 := ⟨rfl, fun b hb => .inl hb, hc.m.be, fun b o v hq hF => hc.m.gw b o v (q1 hq).2 hF⟩
  have hm1 : Mem w1 q S L w := by
    refine ⟨hc.m.ch, hc.m.ap, hc.m.po, fun k lb hk b hb hF => ?_, hc.m.on, Bel.refl w1, fun b o v hq hF => ?_⟩
    · rcases hF with hF | ⟨_, x, hx, rfl⟩
      · exact hc.m.fz k lb hk b hb hF
      · exact (hE x hx).l k lb hk hb
    · show @ite _ (∃ x ∈ E, x.b = b) (Classical.propDecidable _) none (q b o) = some v
      split
      · rename_i hx
        obtain ⟨x, hx, rfl⟩ := hx
        rw [(hE x hx).q o] at hq
        cases hq
      · exact hq
  have hc1 : Cfg w1 Sb B n0 N S q fr L a w := by
    refine ⟨hc.ag, hc.b, hm1, hc.f, hc.n, ?_⟩
    obtain ⟨Hs, e1, e2, e3⟩ := hc.d
    exact ⟨Hs, e1, e2, fun b hb => ⟨.inl (e3 b hb).1, (e3 b hb).2.1, (hc.m.be.block b (e3 b hb).1).trans (e3 b hb).2.2⟩⟩
  have back : ∀ a' w', St w1 Sb B n0 N (XK nk' fr' M') a' w' → R a' w' := by
    rintro a' w' ⟨S', q', fr1, L', k', hc', hfr, h1, h2, h3⟩
    rw [hfr] at hc'
    refine hK a' w' S' q' L' ⟨hc'.ag, hc'.b, hext.mem hc'.m, hc'.f, hc'.n, ?_⟩ h1 h2 h3 fun x hx => ?_
    · obtain ⟨Hs, e1, e2, e3⟩ := hc'.d
      refine ⟨Hs, e1, e2, fun b hb => ?_⟩
      obtain ⟨f1, f2, f3⟩ := e3 b hb
      rcases f1 with f1 | ⟨_, x, hx, rfl⟩
      · exact ⟨f1, f2, (hc.m.be.block b f1).symm.trans f3⟩
      · obtain ⟨vs, hh, _⟩ := (hE x hx).h
        have f3 : w.heap[x.b]? = some (.deferred (some [])) := f3
        rw [hh] at f3
        cases f3
    · have hF1 : w1.F x.b := .inr ⟨hlt x hx, x, hx, rfl⟩
      obtain ⟨vs, hh, hok⟩ := (hE x hx).h
      refine ⟨⟨vs, (hc'.m.be.block x.b hF1).trans hh, hok⟩, (hE x hx).f, fun o => ?_, fun k lb hk hb => hc'.m.fz k lb hk x.b hb hF1⟩
      cases hq : q' x.b o with
      | none => rfl
      | some v => exact ((q1 (hc'.m.gw x.b o v hq hF1)).1 ⟨x, hx, rfl⟩).elim
  obtain ⟨g1, g2, g3⟩ := xstep_run (r := r) (n := n) (Q := Q) (fr' := fr') hX hI hYr hY hc1 h0 hR hf hl h hp
  refine ⟨g1, g2, ?_⟩
  rcases g3 with ⟨hw, g3⟩ | ⟨hw, g3⟩
  · exact .inl ⟨hw, Oper.wpIn_mono back g3⟩
  · exact .inr ⟨hw, back _ _ g3⟩
theorem readersOk_ok {d : Nat} : ∀ {l : List Oper}, readersOk X d all l = true → ∀ (i : Nat) (o : Oper), l[i]? = some o → d ∈ opsL o ++ guardL all o → isEff X o.op = true
  | [], _, i, o, ho, _ => by simp at ho
  | o1 :: l, h, i, o, ho, hd => by
    simp only [readersOk, Bool.and_eq_true, Bool.or_eq_true, List.all_eq_true] at h
    cases i with
    | zero =>
      cases ho
      rcases h.1 with h1 | h1
      · have := h1 d hd
        rw [Nat.beq_refl] at this
        cases this
      · exact h1
    | succ i => exact readersOk_ok h.2 i o (by simpa using ho) hd
theorem earlyAl_ok {o : Oper} (h : earlyAl X all o = true) : ∃ t d, o.op = .alloc t ∧ o.guard = none ∧ o.dst = some d ∧ (ty X.E.T t).d ≠ .other ∧ (∀ n e, (ty X.E.T t).d ≠ .arr n e) ∧ ∀ (i : Nat) (o' : Oper), all[i]? = some o' → d ∈ opsL o' ++ guardL all o' → isEff X o'.op = true := by
  unfold earlyAl at h
  split at h
  · rename_i t d h1 h2 h3
    split at h
    · cases h
    · cases h
    · rename_i N1 N2
      exact ⟨t, d, h1, h2, h3, N2, N1, fun i o' => readersOk_ok h i o'⟩
  · cases h
theorem alloc_step {o : Oper} {t : Nat} (h1 : o.op = .alloc t) (h2 : o.guard = none) (h3 : (ty X.E.T t).d ≠ .other) (h4 : ∀ n e, (ty X.E.T t).d ≠ .arr n e) :
    xstep X xi Yx' all o nk fr M = (match xput M nk (some (.cells t (valL (ty X.E.T t).zero))) with | some M' => some (.lp nk 0, nk + 1, M') | none => none) := by
  unfold xstep xguard
  rw [h2]
  dsimp only
  rw [h1]
  show lift1 nk (xallocB X.E.T t nk M) = _
  unfold xallocB
  split
  · rename_i n e hd; exact (h4 n e hd).elim
  · unfold xalloc
    split
    · rename_i hd; exact (h3 hd).elim
    · unfold lift1
      cases xput M nk (some (.cells t (valL (ty X.E.T t).zero))) <;> rfl
structure DS (X : XE) (w0 : W0) (Sb : Pl) (B : Nat → Prop) (n0 N : Nat) (ops : Array Oper) (tr : List Tc) (z : Nat × Fr × Mm) (fr : Fr) (listed : Array Bool) (a : Act) (w : World) (p : Nat) (S : Pl) (q : PH) (L : LL) (G : Fr) (E : List Ea) : Prop where
  pn : p ≤ ops.toList.length
  pe : ∀ e o, ops.toList[e]? = some o → isEff X o.op = true → (listed.getD e false = true ↔ e < p ∨ ∃ x ∈ E, x.j = e)
  c : Cfg w0 Sb B n0 N S q G L a w
  r : Rep (stX tr z p).2.2 L
  f : hF (stX tr z p).1 G
  l : hL (stX tr z p).1 L
  g1 : ∀ i o t d, ops.toList[i]? = some o → tr[i]? = some t → listed.getD i false = true → (∀ x ∈ E, x.j ≠ i) → o.dst = some d → get G d = t.y
  g2 : ∀ t, (∀ i o, ops.toList[i]? = some o → listed.getD i false = true → o.dst ≠ some t) → get G t = get fr t
  e : ∀ x ∈ E, p ≤ x.j ∧ (∃ o, ops.toList[x.j]? = some o ∧ earlyAl X ops.toList o = true ∧ o.op = .alloc x.t ∧ o.dst = some x.d) ∧ EFact X w0 q S L w x ∧ get G x.d = .v (.pointer (some ⟨x.b, 0, none⟩))
  nd : ∀ x ∈ E, ∀ y ∈ E, x.b = y.b → x.j = y.j
structure DInv (X : XE) (w0 : W0) (Sb : Pl) (B : Nat → Prop) (n0 N : Nat) (ops : Array Oper) (tr : List Tc) (z : Nat × Fr × Mm) (fr : Fr) (listed : Array Bool) (a : Act) (w : World) : Prop where
  cl : ClosedL ops listed
  sz : listed.size = ops.size
  ex : ∃ p S q L G E, DS X w0 Sb B n0 N ops tr z fr listed a w p S q L G E
theorem opsL_mem {o : Oper} {t : Nat} (h : Operand.tmp t ∈ o.op.operands.toList) : t ∈ opsL o := List.mem_filterMap.2 ⟨_, h, rfl⟩
theorem DS.adv1 {tr : List Tc} {z : Nat × Fr × Mm} {fr : Fr} {listed : Array Bool} {p : Nat} {G : Fr} {E : List Ea} (hT : Trc X xi Yx' N ops.toList tr z nk fr M) (h0 : n0 ≤ nk) (hslots : slotsOk (befs ops.toList []) ops.toList ops.toList 0 = true)
    (h : DS X w0 Sb B n0 N ops tr z fr listed a w p S q L G E) (hp : p < ops.toList.length) (hno : ∀ o, ops.toList[p]? = some o → isEff X o.op = true → ∃ x ∈ E, x.j = p) :
    ∃ S' L' G' E', DS X w0 Sb B n0 N ops tr z fr listed a w (p + 1) S' q L' G' E' ∧ ∀ x ∈ E', x ∈ E := by
  have ho := List.getElem?_eq_getElem (l := ops.toList) (i := p) hp
  obtain ⟨tc, ht⟩ := hT.at_ p _ ho
  cases he : isEff X ops.toList[p].op with
  | false =>
    obtain ⟨k1, k2⟩ := xstep_same he ht.step
    have e1 : (stX tr z (p + 1)).1 = (stX tr z p).1 := by rw [stX_at ht.get]; exact k1
    have e2 : (stX tr z (p + 1)).2.2 = (stX tr z p).2.2 := by rw [stX_at ht.get]; exact k2
    refine ⟨S, L, G, E, ⟨hp, fun e o hoe hee => ?_, h.c, by rw [e2]; exact h.r, by rw [e1]; exact h.f, by rw [e1]; exact h.l, h.g1, h.g2, fun x hx => ?_, h.nd⟩, fun x hx => hx⟩
    · rw [h.pe e o hoe hee]
      have : e ≠ p := fun e' => by subst e'; rw [ho] at hoe; cases hoe; rw [he] at hee; cases hee
      constructor
      · rintro (h | h)
        · exact .inl (by omega)
        · exact .inr h
      · rintro (h | h)
        · exact .inl (by omega)
        · exact .inr h
    · obtain ⟨f1, ⟨o, f2, f3⟩, f4⟩ := h.e x hx
      refine ⟨?_, ⟨o, f2, f3⟩, f4⟩
      have : x.j ≠ p := fun e' => by
        rw [e', ho] at f2
        cases f2
        obtain ⟨t, d, g, _⟩ := earlyAl_ok f3.1
        rw [g] at he
        cases he
      omega
  | true =>
    obtain ⟨x, hx, hxj⟩ := hno _ ho he
    obtain ⟨_, ⟨o, f2, f3, f4, f5⟩, fE, fG⟩ := h.e x hx
    rw [hxj, ho] at f2
    cases f2
    obtain ⟨t, d, g1, g2, g3, g4, g5, _⟩ := earlyAl_ok f3
    rw [g1] at f4
    cases f4
    rw [g3] at f5
    cases f5
    have hst := ht.step
    rw [alloc_step g1 g2 g4 g5] at hst
    split at hst
    rotate_left
    · cases hst
    rename_i M1 hM1
    simp only [Option.some.injEq, Prod.mk.injEq] at hst
    obtain ⟨hy, hk, hM⟩ := hst
    have hP : stX tr z p = (tc.nk, tc.fr, tc.M) := stX_at ht.get
    have hn0 : n0 ≤ tc.nk := by
      have := hT.mono' (Nat.zero_le p) h.pn
      rw [hT.zero, hP] at this
      exact Nat.le_trans h0 this
    have hR := h.r
    have hf := h.f
    have hl := h.l
    rw [hP] at hR hf hl
    have hR : Rep tc.M L := hR
    have hf : hF tc.nk G := hf
    have hl : hL tc.nk L := hl
    let S1 := updS S tc.nk ⟨x.b, none, 0, 0, default⟩
    have hS1 : ∀ k, k ≠ tc.nk → S1 k = S k := fun k hk => updS_other hk
    have hlk : ∀ k lb, getL L k = some lb → k < tc.nk := fun k lb hk => hl.key hk
    have hLk : ∀ k, hasLL k L = true → S1 k = S k := fun k hk => hS1 k (fun e => by have := hl k hk; omega)
    have hch : ∀ k lb, getL L k = some lb → chunk 0 S1 k lb w ∧ blk S1 k lb = blk S k lb := fun k lb hk => by
      have hm := (h.c.m.congr hLk).ch k lb hk
      exact ⟨hm, blk_congr (hLk k (getL_hasLL hk (.inl rfl)))⟩
    obtain ⟨vs, hh, hok⟩ := fE.h
    have hm : Mem w0 q S1 ((tc.nk, .cells x.t (valL (ty X.E.T x.t).zero)) :: L) w := by
      have gl : ∀ k lb, getL ((tc.nk, .cells x.t (valL (ty X.E.T x.t).zero)) :: L) k = some lb → (k = tc.nk ∧ lb = .cells x.t (valL (ty X.E.T x.t).zero)) ∨ (k ≠ tc.nk ∧ getL L k = some lb) := fun k lb hk => by
        rw [getL_cons] at hk
        split at hk
        · rename_i e; cases hk; exact .inl ⟨e.symm, rfl⟩
        · rename_i e; exact .inr ⟨fun e' => e e'.symm, hk⟩
      have hb1 : blk S1 tc.nk (.cells x.t (valL (ty X.E.T x.t).zero)) = some x.b := by simp [blk, S1, updS_same]
      refine ⟨fun k lb hk => ?_, fun k lb k' lb' hk hk' hne b hb hb' => ?_, fun k lb hk b hb o => ?_, fun k lb hk b hb => ?_, h.c.m.on, h.c.m.be, h.c.m.gw⟩
      · rcases gl k lb hk with ⟨rfl, rfl⟩ | ⟨_, hk⟩
        · refine ⟨Nat.zero_le _, vs, ?_, okL_val hok⟩
          simp only [S1, updS_same]
          exact hh
        · exact (hch k lb hk).1
      · rcases gl k lb hk with ⟨rfl, rfl⟩ | ⟨h1, hk⟩ <;> rcases gl k' lb' hk' with ⟨rfl, rfl⟩ | ⟨h2, hk'⟩
        · exact hne rfl
        · rw [hb1] at hb
          rw [(hch k' lb' hk').2] at hb'
          cases hb
          exact fE.l k' lb' hk' hb'
        · rw [hb1] at hb'
          rw [(hch k lb hk).2] at hb
          cases hb'
          exact fE.l k lb hk hb
        · rw [(hch k lb hk).2] at hb
          rw [(hch k' lb' hk').2] at hb'
          exact h.c.m.ap k lb k' lb' hk hk' hne b hb hb'
      · rcases gl k lb hk with ⟨rfl, rfl⟩ | ⟨h1, hk⟩
        · rw [hb1] at hb; cases hb; exact fE.q o
        · rw [(hch k lb hk).2] at hb; exact h.c.m.po k lb hk b hb o
      · rcases gl k lb hk with ⟨rfl, rfl⟩ | ⟨h1, hk⟩
        · rw [hb1] at hb; cases hb; exact fE.f
        · rw [(hch k lb hk).2] at hb; exact h.c.m.fz k lb hk b hb
    have hget : ∀ t, get ((x.d, SV.lp tc.nk 0) :: G) t = if x.d = t then .lp tc.nk 0 else get G t := fun t => by rw [get_cons]
    have hcfg : Cfg w0 Sb B n0 N S1 q ((x.d, .lp tc.nk 0) :: G) ((tc.nk, .cells x.t (valL (ty X.E.T x.t).zero)) :: L) a w := by
      refine ⟨fun k hk => (hS1 k (by omega)).trans (h.c.ag k hk), fun d hd hB => ?_, hm, fun t => ?_, h.c.n, h.c.d⟩
      · rw [getL_cons, if_neg (by omega)]
        exact h.c.b d hd hB
      · rw [hget]
        split
        · rename_i e
          subst e
          have := h.c.f x.d
          rw [fG] at this
          have this : a.tmps.getD x.d undef = .pointer (some ⟨x.b, 0, none⟩) := this
          rw [this]
          simp [okv, S1, updS_same]
        · exact okv_congr _ (fun k hk => hS1 k (fun e => by subst e; have := hf.opv (.tmp t) tc.nk hk; omega)) (h.c.f t)
    have hE : ∀ y ∈ E, y.j ≠ p → EFact X w0 q S1 ((tc.nk, .cells x.t (valL (ty X.E.T x.t).zero)) :: L) w y := fun y hy hyp => by
      obtain ⟨_, _, gE, _⟩ := h.e y hy
      refine ⟨gE.h, gE.f, gE.q, fun k lb hk hb => ?_⟩
      rw [getL_cons] at hk
      split at hk
      · rename_i e
        cases hk
        subst e
        have hb : some (S1 tc.nk).b = some y.b := hb
        simp only [S1, updS_same, Option.some.injEq] at hb
        exact hyp ((h.nd y hy x hx hb.symm).trans hxj)
      · rw [(hch k lb hk).2] at hb
        exact gE.l k lb hk hb
    have uniq : ∀ {j : Nat} {oj : Oper} {d : Nat}, ops.toList[j]? = some oj → oj.dst = some d → ∀ j' o', ops.toList[j']? = some o' → o'.dst = some d → j' = j := fun {j oj d} hoj hdj j' o' ho' hd' => by
      have := dstOk_ok ((slotsOk_ok hslots j oj hoj).2 d (by simpa using hdj)) j' o' ho' hd'
      omega
    have hlp : listed.getD p false = true := (h.pe p _ ho he).2 (.inr ⟨x, hx, hxj⟩)
    refine ⟨S1, _, (x.d, .lp tc.nk 0) :: G, E.filter (fun y => !(Nat.beq y.j p)), ⟨hp, fun e o hoe hee => ?_, hcfg, ?_, ?_, ?_, fun i o t d hoi hti hli hni hdi => ?_, fun t hno => ?_, fun y hy => ?_, fun y hy y' hy' hb => ?_⟩, fun y hy => (List.mem_filter.1 hy).1⟩
    · rw [h.pe e o hoe hee]
      constructor
      · rintro (h1 | ⟨y, hy, rfl⟩)
        · exact .inl (by omega)
        · by_cases hyp : y.j = p
          · exact .inl (by omega)
          · exact .inr ⟨y, List.mem_filter.2 ⟨hy, by cases hb : Nat.beq y.j p with | false => rfl | true => exact (hyp (Nat.eq_of_beq_eq_true hb)).elim⟩, rfl⟩
      · rintro (h1 | ⟨y, hy, rfl⟩)
        · by_cases hep : e = p
          · exact .inr ⟨x, hx, by rw [hep, hxj]⟩
          · exact .inl (by omega)
        · exact .inr ⟨y, (List.mem_filter.1 hy).1, rfl⟩
    · rw [← hM]
      exact hR.new hM1
    · rw [← hk]
      exact (hf.mono (Nat.le_succ _)).cons (hV_lp (Nat.lt_succ_self _))
    · rw [← hk]
      exact (hl.mono (Nat.le_succ _)).new (Nat.lt_succ_self _) (.cells (.valL _))
    · rw [hget]
      by_cases hip : i = p
      · subst hip
        rw [ho] at hoi
        cases hoi
        rw [ht.get] at hti
        cases hti
        rw [g3] at hdi
        cases hdi
        rw [if_pos rfl]
        exact hy
      · rw [if_neg (fun e => hip (uniq ho g3 i o hoi (by rw [hdi, e])))]
        refine h.g1 i o t d hoi hti hli (fun y hyE hyi => ?_) hdi
        exact hni y (List.mem_filter.2 ⟨hyE, by cases hb : Nat.beq y.j p with | false => rfl | true => exact (hip (hyi.symm.trans (Nat.eq_of_beq_eq_true hb))).elim⟩) hyi
    · rw [hget, if_neg (fun e => hno p _ ho hlp (by rw [g3, e]))]
      exact h.g2 t hno
    · obtain ⟨hyE, hyp⟩ := List.mem_filter.1 hy
      have hyp : y.j ≠ p := fun e => by rw [e, Nat.beq_refl] at hyp; cases hyp
      obtain ⟨k1, ⟨o, k2, k3, k4, k5⟩, k6, k7⟩ := h.e y hyE
      refine ⟨by omega, ⟨o, k2, k3, k4, k5⟩, hE y hyE hyp, ?_⟩
      rw [hget, if_neg (fun e => hyp (uniq ho g3 y.j o k2 (by rw [k5, e])))]
      exact k7
    · exact h.nd y (List.mem_filter.1 hy).1 y' (List.mem_filter.1 hy').1 hb
theorem DS.adv {tr : List Tc} {z : Nat × Fr × Mm} {fr : Fr} {listed : Array Bool} (hT : Trc X xi Yx' N ops.toList tr z nk fr M) (h0 : n0 ≤ nk) (hslots : slotsOk (befs ops.toList []) ops.toList ops.toList 0 = true) :
    ∀ (d : Nat) {p : Nat} {S : Pl} {L : LL} {G : Fr} {E : List Ea}, DS X w0 Sb B n0 N ops tr z fr listed a w p S q L G E → p + d ≤ ops.toList.length → (∀ e o, ops.toList[e]? = some o → isEff X o.op = true → p ≤ e → e < p + d → ∃ x ∈ E, x.j = e) →
    ∃ S' L' G' E', DS X w0 Sb B n0 N ops tr z fr listed a w (p + d) S' q L' G' E' ∧ ∀ x ∈ E', x ∈ E
  | 0, p, S, L, G, E, h, _, _ => ⟨S, L, G, E, h, fun _ h => h⟩
  | d + 1, p, S, L, G, E, h, hp, hno => by
    obtain ⟨S1, L1, G1, E1, h1, h2⟩ := DS.adv1 hT h0 hslots h (by omega) (fun o ho he => hno p o ho he (Nat.le_refl _) (by omega))
    obtain ⟨S2, L2, G2, E2, h3, h4⟩ := DS.adv hT h0 hslots d h1 (by omega) (fun e o ho he g1 g2 => by
      rcases (h1.pe e o ho he).1 ((h.pe e o ho he).2 (.inr (hno e o ho he (by omega) (by omega)))) with h5 | h5
      · omega
      · exact h5)
    refine ⟨S2, L2, G2, E2, ?_, fun x hx => h2 x (h4 x hx)⟩
    rw [show p + (d + 1) = p + 1 + d from by omega]
    exact h3
theorem xput_le {M M2 : Mm} {k j : Nat} {x y : Option LB} {M' : Mm} (h : xput M k x = some M') (hj : j ≤ k) : ∃ M3, xput M2 j y = some M3 := by
  unfold xput at h ⊢
  split at h
  · rename_i hb
    have hb : Nat.blt k 1000000000 = true := hb
    have : Nat.blt j 1000000000 = true := Nat.ble_eq_true_of_le (Nat.le_trans (Nat.succ_le_succ hj) (Nat.le_of_ble_eq_true hb))
    rw [this]
    exact ⟨_, rfl⟩
  · cases h
theorem dinv_step (hX : XOk P X) (hI : InlOk P (XInl xi)) (hYr : YRel Yx' Y) (hY : YOk P Sb Y n0) {tr : List Tc} {z : Nat × Fr × Mm} {fr : Fr} {nk : Nat} {M : Mm} (hT : Trc X xi Yx' N ops.toList tr z nk fr M) (h0 : n0 ≤ nk)
    (hreg : regOk ops = true) (hchk : xchk X xi Yx' ops.toList (befs ops.toList []) tr z.1 z.2.2 ops.toList tr 0 = true) {listed : Array Bool} (hd : DInv X w0 Sb B n0 N ops tr z fr listed a w) {i : Nat} (hi : i ∈ Region.ready .any ops listed) :
    wpOpIn (FF r) n P ops Q i (fun a' w' => DInv X w0 Sb B n0 N ops tr z fr (listed.setIfInBounds i true) a' w') a w := by
  obtain ⟨hcl, hsz, p, S, q, L, G, E, hD⟩ := hd
  have hcl' := Closed_ready hcl hi
  obtain ⟨hun, o, hop, hall⟩ := mem_ready.1 hi
  have ho : ops.toList[i]? = some o := by rw [Array.getElem?_toList]; exact hop
  have hil : i < ops.toList.length := (List.getElem?_eq_some_iff.1 ho).1
  have hil2 : i < listed.size := by rw [hsz]; simpa using hil
  have hunf : listed.getD i false = false := by
    rw [Array.getD_eq_getD_getElem?, Array.getElem?_eq_getElem hil2] at hun ⊢
    exact hun
  simp only [regOk, Bool.and_eq_true] at hreg
  obtain ⟨⟨⟨hedge, hslots⟩, hnd⟩, hsel⟩ := hreg
  have hall' : ∀ o', ops[i]? = some o' → ∀ e ∈ o'.after, Region.binds .any e = true → listed.getD e.on false = true := fun o' ho' => by rw [hop] at ho'; cases ho'; exact hall
  have bef_i : ∀ {j : Nat}, bit ((nth (befs ops.toList []) i).getD 0) j = true → listed.getD j false = true ∧ j < i := fun {j} hb => by
    obtain ⟨m, hm1, hm2⟩ := befs_some hil
    rw [hm2] at hb
    exact bef_listed hcl i hm1 hb hall'
  have bef_j : ∀ {j : Nat}, j < ops.toList.length → bit ((nth (befs ops.toList []) j).getD 0) i = true → listed.getD j false = false := fun {j} hj hb => by
    obtain ⟨m, hm1, hm2⟩ := befs_some hj
    rw [hm2] at hb
    cases hl : listed.getD j false with
    | false => rfl
    | true =>
      have := (bef_listed hcl j hm1 hb (fun o2 ho2 e he hbn => hcl j o2 hl ho2 e he hbn)).1
      rw [hunf] at this
      cases this
  obtain ⟨tc, ht⟩ := hT.at_ i o ho
  obtain ⟨hs1, hs2⟩ := slotsOk_ok hslots i o ho
  rw [Nat.zero_add] at hs1 hs2
  have uniq : ∀ {j : Nat} {oj : Oper} {d : Nat}, ops.toList[j]? = some oj → oj.dst = some d → ∀ j' o', ops.toList[j']? = some o' → o'.dst = some d → j' = j := fun {j oj d} hoj hdj j' o' ho' hd' => by
    have := dstOk_ok ((slotsOk_ok hslots j oj hoj).2 d (by simpa using hdj)) j' o' ho' hd'
    omega
  have hii : (listed.setIfInBounds i true).getD i false = true := by simp [hil2]
  have slot : ∀ {p S L G E}, DS X w0 Sb B n0 N ops tr z fr listed a w p S q L G E → (∀ x ∈ E, isEff X o.op = true → i ≤ x.j) → ∀ t, t ∈ opsL o ++ guardL ops.toList o → get G t = get tc.fr t := fun {p S L G E} hD hEi t htm => by
    have hst : tc.fr = (stX tr z i).2.1 := by rw [stX_at ht.get]
    rw [hst]
    have hok := slotOk_ok (hs1 t htm)
    by_cases hw : ∃ j oj, ops.toList[j]? = some oj ∧ oj.dst = some t ∧ listed.getD j false = true
    · obtain ⟨j, oj, hoj, hdj, hlj⟩ := hw
      obtain ⟨tj, gj⟩ := hT.at_ j oj hoj
      have hjl : j < ops.toList.length := (List.getElem?_eq_some_iff.1 hoj).1
      have hji : j < i := by
        rcases hok j oj hoj hdj with e | ⟨e1, e2⟩ | ⟨e1, e2⟩
        · rw [Nat.zero_add] at e; subst e; rw [hunf] at hlj; cases hlj
        · rw [Nat.zero_add] at e1; exact e1
        · rw [Nat.zero_add] at e1 e2
          rw [bef_j hjl e2] at hlj
          cases hlj
      rw [hD.g1 j oj tj t hoj gj.get hlj (fun x hx hxj => by
        obtain ⟨_, ⟨o2, f2, f3, _, f5⟩, _⟩ := hD.e x hx
        rw [hxj, hoj] at f2
        cases f2
        obtain ⟨_, d, _, _, k3, _, _, k6⟩ := earlyAl_ok f3
        rw [hdj] at k3
        cases k3
        have := hEi x hx (k6 i o ho htm)
        omega) hdj]
      exact (hT.lays hoj hdj gj.get (uniq hoj hdj) i (by omega) hji).symm
    · rw [hD.g2 t (fun j oj hoj hlj hdj => hw ⟨j, oj, hoj, hdj, hlj⟩)]
      refine (hT.keeps i (by omega) fun j oj hj hoj hdj => ?_).symm
      rcases hok j oj hoj hdj with e | ⟨e1, e2⟩ | ⟨e1, e2⟩
      · omega
      · rw [Nat.zero_add] at e2
        exact hw ⟨j, oj, hoj, hdj, (bef_i e2).1⟩
      · omega
  have step_congr : ∀ {G : Fr}, (∀ t, t ∈ opsL o ++ guardL ops.toList o → get G t = get tc.fr t) → ∀ {nk : Nat} {M : Mm}, xstep X xi Yx' ops.toList o nk G M = xstep X xi Yx' ops.toList o nk tc.fr M := fun {G} slot {nk M} => by
    have hop2 : xop X xi Yx' nk G M o.op = xop X xi Yx' nk tc.fr M o.op := xop_congr fun x hx => by
      cases x with
      | tmp t => exact slot t (List.mem_append_left _ (opsL_mem hx))
      | const v => cases v <;> rfl
      | _ => rfl
    have hg : xguard ops.toList o.guard G = xguard ops.toList o.guard tc.fr := by
      unfold xguard
      cases hgd : o.guard with
      | none => rfl
      | some g =>
        obtain ⟨j, want⟩ := g
        dsimp only
        cases hds : dstOf ops.toList j with
        | none => rfl
        | some t =>
          dsimp only
          rw [slot t (List.mem_append_right _ (by unfold guardL; rw [hgd]; dsimp only; rw [hds]; simp))]
    unfold xstep
    rw [hg, hop2]
  have putG : ∀ {y : SV} {G fr1 fr2 : Fr} {y' : SV}, putX N o.dst y' fr1 = some fr2 → ∃ G', putX N o.dst y G = some G' := fun {y G fr1 fr2 y'} h => by
    unfold putX at h ⊢
    split
    · exact ⟨_, rfl⟩
    · rename_i d hd
      rw [hd] at h
      dsimp only at h
      split at h
      · exact ⟨_, rfl⟩
      · cases h
  have h0p : ∀ {p}, p ≤ ops.toList.length → n0 ≤ (stX tr z p).1 := fun {p} hpn => by
    have := hT.mono' (Nat.zero_le p) hpn
    rw [hT.zero] at this
    exact Nat.le_trans h0 this
  have lay : ∀ {R : Act → World → Prop}, ((Region.wanted o (yielded ops.toList.toArray a.tmps) = true ∧ Oper.wpIn (FF r) n P o a w R Q) ∨ (Region.wanted o (yielded ops.toList.toArray a.tmps) = false ∧ R (a.put o.dst undef) w)) → wpOpIn (FF r) n P ops Q i R a w := fun {R} g3 => by
    unfold wpOpIn
    rw [hop]
    dsimp only
    have hto : ops.toList.toArray = ops := by simp
    rw [hto] at g3
    rcases g3 with ⟨hw, g3⟩ | ⟨hw, g3⟩
    · rw [if_pos hw]
      exact g3
    · rw [if_neg (by rw [hw]; simp)]
      exact ⟨fun _ _ => trivial, g3⟩
  have run : ∀ {p p' nk' : Nat} {M' : Mm} {S L G E}, DS X w0 Sb B n0 N ops tr z fr listed a w p S q L G E → (∀ x ∈ E, isEff X o.op = true → i ≤ x.j) → xstep X xi Yx' ops.toList o (stX tr z p).1 tc.fr (stX tr z p).2.2 = some (tc.y, nk', M') → p' ≤ ops.toList.length → nk' = (stX tr z p').1 → M' = (stX tr z p').2.2 →
      (∀ e oe, ops.toList[e]? = some oe → isEff X oe.op = true → ((listed.setIfInBounds i true).getD e false = true ↔ e < p' ∨ ∃ x ∈ E, x.j = e)) → (∀ x ∈ E, p' ≤ x.j) →
      wpOpIn (FF r) n P ops Q i (fun a' w' => DInv X w0 Sb B n0 N ops tr z fr (listed.setIfInBounds i true) a' w') a w := by
    intro p p' nk' M' S L G E hD hEi hst hp' e1 e2 hpe' hEp
    obtain ⟨G', hG'⟩ := putG (y := tc.y) (G := G) ht.put
    have hget : ∀ t, get G' t = if o.dst = some t then tc.y else get G t := putX_get hG'
    have := exec (r := r) (n := n) (Q := Q) (fr' := G') (E := E) (R := fun a' w' => DInv X w0 Sb B n0 N ops tr z fr (listed.setIfInBounds i true) a' w') hX hI hYr hY hD.c (fun x hx => (hD.e x hx).2.2.1) (h0p hD.pn) hD.r hD.f hD.l ((step_congr (slot hD hEi)).trans hst) hG' (by
      intro a w S' q' L' hc' h1 h2 h3 hE'
      refine ⟨hcl', by simpa using hsz, p', S', q', L', G', E, hp', hpe', hc', by rw [← e2]; exact h1, by rw [← e1]; exact h2, by rw [← e1]; exact h3, fun j oj tj d hoj htj hlj hnE hdj => ?_, fun t hno => ?_, fun x hx => ?_, hD.nd⟩
      · rw [hget]
        by_cases hji : j = i
        · subst hji
          rw [ho] at hoj
          cases hoj
          rw [ht.get] at htj
          cases htj
          rw [if_pos hdj]
        · rw [if_neg (fun hd2 => hji (uniq ho hd2 j oj hoj hdj))]
          rw [getD_set_ne false (Ne.symm hji)] at hlj
          exact hD.g1 j oj tj d hoj htj hlj hnE hdj
      · rw [hget]
        rw [if_neg (hno i o ho hii)]
        exact hD.g2 t fun j oj hoj hlj => hno j oj hoj (getD_set_true hlj)
      · obtain ⟨k1, ⟨o2, k2, k3, k4, k5⟩, _, k7⟩ := hD.e x hx
        refine ⟨hEp x hx, ⟨o2, k2, k3, k4, k5⟩, hE' x hx, ?_⟩
        rw [hget]
        have hli : listed.getD x.j false = true := (hD.pe x.j o2 k2 (by rw [k4]; rfl)).2 (.inr ⟨x, hx, rfl⟩)
        have hxi : x.j ≠ i := fun e => by rw [e, hunf] at hli; cases hli
        rw [if_neg (fun hd2 => hxi (uniq ho hd2 x.j o2 k2 k5))]
        exact k7)
    exact lay this.2.2
  obtain ⟨hck1, hck2⟩ := xchk_ok hchk i o tc ho ht.get
  rw [Nat.zero_add] at hck1 hck2
  have xne : ∀ {p S L G E}, DS X w0 Sb B n0 N ops tr z fr listed a w p S q L G E → ∀ x ∈ E, x.j ≠ i := fun {p S L G E} hD x hx e => by
    obtain ⟨_, ⟨o2, k2, _, k4, _⟩, _⟩ := hD.e x hx
    have hli : listed.getD x.j false = true := (hD.pe x.j o2 k2 (by rw [k4]; rfl)).2 (.inr ⟨x, hx, rfl⟩)
    rw [e, hunf] at hli
    cases hli
  cases he : isEff X o.op with
  | true =>
    have hip : ∀ {p S L G E}, DS X w0 Sb B n0 N ops tr z fr listed a w p S q L G E → p ≤ i := fun {p S L G E} hD => by
      rcases Nat.lt_or_ge i p with h | h
      · have := (hD.pe i o ho he).2 (.inl h)
        rw [hunf] at this
        cases this
      · exact h
    cases hea : earlyAl X ops.toList o with
    | false =>
      have hck1 := hck1 he
      rw [hea] at hck1
      have hx := xeffs_ok hck1
      have hall2 : ∀ e oe, ops.toList[e]? = some oe → isEff X oe.op = true → p ≤ e → e < i → ∃ x ∈ E, x.j = e := fun e oe hoe hee h1 h2 => by
        have := hx e oe hoe hee (by rw [Nat.zero_add]; exact h2)
        rw [Nat.zero_add] at this
        rcases (hD.pe e oe hoe hee).1 (bef_i this).1 with h | h
        · omega
        · exact h
      obtain ⟨S1, L1, G1, E1, hD1, hsub⟩ := DS.adv hT h0 hslots (i - p) hD (by have := hip hD; omega) (fun e oe hoe hee h1 h2 => hall2 e oe hoe hee h1 (by have := hip hD; omega))
      rw [show p + (i - p) = i by have := hip hD; omega] at hD1
      have hst := ht.step
      have hP : stX tr z i = (tc.nk, tc.fr, tc.M) := stX_at ht.get
      refine run (p := i) (p' := i + 1) hD1 (fun x hx _ => (hD1.e x hx).1) (by rw [hP]; exact hst) (by omega) rfl rfl (fun e oe hoe hee => ?_) (fun x hx => ?_)
      · by_cases hei : e = i
        · subst hei; simp [hil2]
        · rw [getD_set_ne false (Ne.symm hei), hD1.pe e oe hoe hee]
          constructor
          · rintro (h | h)
            · exact .inl (by omega)
            · exact .inr h
          · rintro (h | h)
            · exact .inl (by omega)
            · exact .inr h
      · have h1 := (hD1.e x hx).1
        have h2 := xne hD1 x hx
        omega
    | true =>
      obtain ⟨t, d, g1, g2, g3, g4, g5, g6⟩ := earlyAl_ok hea
      have hst := ht.step
      rw [alloc_step g1 g2 g4 g5] at hst
      split at hst
      rotate_left
      · cases hst
      rename_i M1 hM1
      have hle : (stX tr z p).1 ≤ tc.nk := by
        have := hT.mono' (hip hD) (by omega)
        rw [stX_at ht.get] at this
        exact this
      obtain ⟨M2, hM2⟩ := xput_le (M2 := (stX tr z p).2.2) (y := some (.cells t (valL (ty X.E.T t).zero))) hM1 hle
      have hgen : ∀ (k : Nat) (hk : k = (stX tr z p).1), wpOpIn (FF r) n P ops Q i (fun a' w' => DInv X w0 Sb B n0 N ops tr z fr (listed.setIfInBounds i true) a' w') a w := by
        intro k hk
        rw [← hk] at hM2
        obtain ⟨G', hG'⟩ := putG (y := .lp k 0) (G := G) ht.put
        have hG2 : G' = (d, .lp k 0) :: G := by
          unfold putX at hG'
          rw [g3] at hG'
          dsimp only at hG'
          split at hG' <;> cases hG'
          rfl
        have hf := hD.f
        have hl := hD.l
        have hR := hD.r
        rw [← hk] at hf hl
        have hst2 : xstep X xi Yx' ops.toList o k G (stX tr z p).2.2 = some (.lp k 0, k + 1, M2) := by
          rw [alloc_step g1 g2 g4 g5, hM2]
        have := exec (r := r) (n := n) (Q := Q) (fr' := G') (E := E) (R := fun a' w' => DInv X w0 Sb B n0 N ops tr z fr (listed.setIfInBounds i true) a' w') hX hI hYr hY hD.c (fun x hx => (hD.e x hx).2.2.1) (by rw [hk]; exact h0p hD.pn) hR hf hl hst2 hG' (by
          intro a w S' q' L' hc' h1 h2 h3 hE'
          subst hG2
          have hgl : ∀ j, getL L' j = if k = j then some (.cells t (valL (ty X.E.T t).zero)) else getL L j := fun j => by
            rw [h1 j, xput_get hM2, hR j]
          have hnk : getL L' k = some (.cells t (valL (ty X.E.T t).zero)) := by rw [hgl, if_pos rfl]
          have hin : ∀ j lb, getL L j = some lb → getL L' j = some lb ∧ j ≠ k := fun j lb hj => by
            have hjk : j ≠ k := fun e => by have := hl.key hj; omega
            exact ⟨by rw [hgl, if_neg (Ne.symm hjk)]; exact hj, hjk⟩
          have hm : Mem w0 q' S' L w := ⟨fun j lb hj => hc'.m.ch j lb (hin j lb hj).1, fun j lb j' lb' hj hj' => hc'.m.ap j lb j' lb' (hin j lb hj).1 (hin j' lb' hj').1, fun j lb hj => hc'.m.po j lb (hin j lb hj).1, fun j lb hj => hc'.m.fz j lb (hin j lb hj).1, hc'.m.on, hc'.m.be, hc'.m.gw⟩
          obtain ⟨_, vs, hh, hok⟩ := hc'.m.ch k _ hnk
          let x0 : Ea := ⟨i, t, d, (S' k).b⟩
          have hx0 : EFact X w0 q' S' L w x0 := ⟨⟨vs, hh, okL_val hok⟩, hc'.m.fz k _ hnk _ rfl, hc'.m.po k _ hnk _ rfl, fun j lb hj hb => hc'.m.ap j lb k _ (hin j lb hj).1 hnk (hin j lb hj).2 _ hb rfl⟩
          have hget : ∀ u, get ((d, SV.v (.pointer (some ⟨(S' k).b, 0, none⟩))) :: G) u = if d = u then .v (.pointer (some ⟨(S' k).b, 0, none⟩)) else get G u := fun u => by rw [get_cons]
          refine ⟨hcl', by simpa using hsz, p, S', q', L, (d, .v (.pointer (some ⟨(S' k).b, 0, none⟩))) :: G, x0 :: E, hD.pn, fun e oe hoe hee => ?_, ⟨hc'.ag, fun e he hB => hD.c.b e he hB, hm, fun u => ?_, hc'.n, hc'.d⟩, hR, ?_, hD.l, fun j oj tj e hoj htj hlj hnE hdj => ?_, fun u hno => ?_, fun x hx => ?_, fun x hx y hy hb => ?_⟩
          · by_cases hei : e = i
            · subst hei
              simp only [hii, true_iff]
              exact .inr ⟨x0, .head _, rfl⟩
            · rw [getD_set_ne false (Ne.symm hei), hD.pe e oe hoe hee]
              constructor
              · rintro (h | ⟨x, hx, h⟩)
                · exact .inl h
                · exact .inr ⟨x, .tail _ hx, h⟩
              · rintro (h | ⟨x, hx, h⟩)
                · exact .inl h
                · rcases List.mem_cons.1 hx with rfl | hx
                  · exact (hei h.symm).elim
                  · exact .inr ⟨x, hx, h⟩
          · have := hc'.f u
            rw [get_cons] at this
            rw [hget]
            split at this
            · rename_i e; rw [if_pos e]; exact this
            · rename_i e; rw [if_neg e]; exact this
          · rw [← hk]
            exact hf.cons (fun j hj => by simp [SV.has] at hj)
          · rw [hget]
            have hji : j ≠ i := fun e' => hnE x0 (.head _) e'.symm
            rw [if_neg (fun e' => hji (uniq ho g3 j oj hoj (by rw [hdj, e'])))]
            rw [getD_set_ne false (Ne.symm hji)] at hlj
            exact hD.g1 j oj tj e hoj htj hlj (fun x hx => hnE x (.tail _ hx)) hdj
          · rw [hget, if_neg (fun e' => hno i o ho hii (by rw [g3, e']))]
            exact hD.g2 u fun j oj hoj hlj => hno j oj hoj (getD_set_true hlj)
          · rcases List.mem_cons.1 hx with rfl | hx
            · exact ⟨hip hD, ⟨o, ho, hea, g1, g3⟩, hx0, by rw [hget, if_pos rfl]⟩
            · obtain ⟨k1, ⟨o2, k2, k3, k4, k5⟩, _, k7⟩ := hD.e x hx
              have hE'' := hE' x hx
              refine ⟨k1, ⟨o2, k2, k3, k4, k5⟩, ⟨hE''.h, hE''.f, hE''.q, fun j lb hj hb => hE''.l j lb (hin j lb hj).1 hb⟩, ?_⟩
              rw [hget, if_neg (fun e' => xne hD x hx (uniq ho g3 x.j o2 k2 (by rw [k5, e'])))]
              exact k7
          · rcases List.mem_cons.1 hx with rfl | hx <;> rcases List.mem_cons.1 hy with rfl | hy
            · rfl
            · exact ((hE' y hy).l k _ hnk (congrArg some hb)).elim
            · exact ((hE' x hx).l k _ hnk (congrArg some hb.symm)).elim
            · exact hD.nd x hx y hy hb)
        exact lay this.2.2
      exact hgen _ rfl
  | false =>
    have hEi : ∀ x ∈ E, isEff X o.op = true → i ≤ x.j := fun x hx h => by rw [he] at h; cases h
    have hpairs0 := hck2 he
    have fin : xstep X xi Yx' ops.toList o (stX tr z p).1 tc.fr (stX tr z p).2.2 = some (tc.y, (stX tr z p).1, (stX tr z p).2.2) → wpOpIn (FF r) n P ops Q i (fun a' w' => DInv X w0 Sb B n0 N ops tr z fr (listed.setIfInBounds i true) a' w') a w := fun h => by
      refine run hD hEi h hD.pn rfl rfl (fun e oe hoe hee => ?_) (fun x hx => (hD.e x hx).1)
      have hei : e ≠ i := fun e' => by subst e'; rw [ho] at hoe; cases hoe; rw [he] at hee; cases hee
      rw [getD_set_ne false (Ne.symm hei)]
      exact hD.pe e oe hoe hee
    have canon : xstep X xi Yx' ops.toList o tc.nk tc.fr tc.M = some (tc.y, tc.nk, tc.M) := by
      have := ht.step
      obtain ⟨e1, e2⟩ := xstep_same he this
      rw [e1, e2] at this
      exact this
    have hpn := hD.pn
    rcases Bool.or_eq_true_iff.1 hpairs0 with hls | hpairs
    · refine fin (ldSafe_ok hT ht.get hls canon hpn fun e oe g1 g2 g3 g4 hbit => ?_)
      have hel : e < ops.toList.length := (List.getElem?_eq_some_iff.1 g1).1
      obtain ⟨m, hm1, hm2⟩ := befs_some hel
      have := bef_j hel hbit
      have h' := (hD.pe e oe g1 g2).2 (.inl g4)
      rw [this] at h'
      cases h'
    have pair := fun e oe te hoe hte hee => xpairs_ok (frF := z.2.1) hpairs e oe te hoe hte hee
    rcases Nat.lt_or_ge i p with hip | hip
    · -- later than in the text
      by_cases hex : ∃ e oe, ops.toList[e]? = some oe ∧ isEff X oe.op = true ∧ i ≤ e ∧ e < p
      · have last : ∀ (d : Nat), (∃ e oe, ops.toList[e]? = some oe ∧ isEff X oe.op = true ∧ i ≤ e ∧ e < p ∧ p - e ≤ d) → ∃ e oe, ops.toList[e]? = some oe ∧ isEff X oe.op = true ∧ i ≤ e ∧ e < p ∧ ∀ e' oe', ops.toList[e']? = some oe' → isEff X oe'.op = true → e + 1 ≤ e' → e' < p → False := by
          intro d
          induction d with
          | zero => rintro ⟨e, oe, _, _, _, h1, h2⟩; omega
          | succ d ih =>
            rintro ⟨e, oe, h1, h2, h3, h4, h5⟩
            by_cases hm : ∃ e' oe', ops.toList[e']? = some oe' ∧ isEff X oe'.op = true ∧ e + 1 ≤ e' ∧ e' < p
            · obtain ⟨e', oe', g1, g2, g3, g4⟩ := hm
              exact ih ⟨e', oe', g1, g2, by omega, g4, by omega⟩
            · exact ⟨e, oe, h1, h2, h3, h4, fun e' oe' g1 g2 g3 g4 => hm ⟨e', oe', g1, g2, g3, g4⟩⟩
        obtain ⟨e0, oe0, h1, h2, h3, h4⟩ := hex
        obtain ⟨e, oe, g1, g2, g3, g4, g5⟩ := last (p - e0) ⟨e0, oe0, h1, h2, h3, h4, Nat.le_refl _⟩
        have hei : e ≠ i := fun e' => by subst e'; rw [ho] at g1; cases g1; rw [he] at g2; cases g2
        obtain ⟨te, ge⟩ := hT.at_ e oe g1
        have hp1 := pair e oe te g1 ge.get g2
        rw [Nat.zero_add] at hp1
        have hel : e < ops.toList.length := (List.getElem?_eq_some_iff.1 g1).1
        obtain ⟨k1, k2⟩ := hT.calm' (i := e + 1) (j := p) (by omega) hpn g5
        unfold xpair at hp1
        have hb : Nat.blt e i = false := by
          cases hb : Nat.blt e i with
          | false => rfl
          | true => have : e < i := Nat.le_of_ble_eq_true hb; omega
        rw [hb] at hp1
        dsimp only at hp1
        obtain ⟨m, hm1, hm2⟩ := befs_some hel
        have hm3 : nth (befs ops.toList []) e = some m := by rw [nth_get]; exact hm1
        rw [hm3] at hp1
        dsimp only at hp1
        split at hp1
        · rename_i hbit
          have := bef_j hel (by rw [hm2]; exact hbit)
          have h' := (hD.pe e oe g1 g2).2 (.inl g4)
          rw [this] at h'
          cases h'
        · have := xsame_ok (nk3 := 0) (M3 := .lf) he canon hp1
          refine fin ?_
          rw [k1, k2]
          exact this
      · obtain ⟨k1, k2⟩ := hT.calm' (Nat.le_of_lt hip) hpn (fun e oe g1 g2 g3 g4 => hex ⟨e, oe, g1, g2, g3, g4⟩)
        refine fin ?_
        rw [k1, k2, stX_at ht.get]
        exact canon
    · -- earlier than in the text, or there
      by_cases hex : ∃ e oe, ops.toList[e]? = some oe ∧ isEff X oe.op = true ∧ p ≤ e ∧ e < i
      · have first : ∀ (d : Nat), (∃ e oe, ops.toList[e]? = some oe ∧ isEff X oe.op = true ∧ p ≤ e ∧ e < i ∧ e - p ≤ d) → ∃ e oe, ops.toList[e]? = some oe ∧ isEff X oe.op = true ∧ p ≤ e ∧ e < i ∧ ∀ e' oe', ops.toList[e']? = some oe' → isEff X oe'.op = true → p ≤ e' → e' < e → False := by
          intro d
          induction d with
          | zero => rintro ⟨e, oe, h1, h2, h3, h4, h5⟩; exact ⟨e, oe, h1, h2, h3, h4, fun e' _ _ _ g1 g2 => by omega⟩
          | succ d ih =>
            rintro ⟨e, oe, h1, h2, h3, h4, h5⟩
            by_cases hm : ∃ e' oe', ops.toList[e']? = some oe' ∧ isEff X oe'.op = true ∧ p ≤ e' ∧ e' < e
            · obtain ⟨e', oe', g1, g2, g3, g4⟩ := hm
              exact ih ⟨e', oe', g1, g2, g3, by omega, by omega⟩
            · exact ⟨e, oe, h1, h2, h3, h4, fun e' oe' g1 g2 g3 g4 => hm ⟨e', oe', g1, g2, g3, g4⟩⟩
        obtain ⟨e0, oe0, h1, h2, h3, h4⟩ := hex
        obtain ⟨e, oe, g1, g2, g3, g4, g5⟩ := first (e0 - p) ⟨e0, oe0, h1, h2, h3, h4, Nat.le_refl _⟩
        obtain ⟨te, ge⟩ := hT.at_ e oe g1
        have hp1 := pair e oe te g1 ge.get g2
        rw [Nat.zero_add] at hp1
        obtain ⟨k1, k2⟩ := hT.calm' (i := p) (j := e) g3 (by omega) g5
        rw [stX_at ge.get] at k1 k2
        unfold xpair at hp1
        have hb : Nat.blt e i = true := Nat.ble_eq_true_of_le g4
        rw [hb] at hp1
        dsimp only at hp1
        obtain ⟨m, hm1, hm2⟩ := befs_some hil
        have hm3 : nth (befs ops.toList []) i = some m := by rw [nth_get]; exact hm1
        rw [hm3] at hp1
        dsimp only at hp1
        split at hp1
        · rename_i hbit hea
          have := (bef_i (by rw [hm2]; exact hbit)).1
          rcases (hD.pe e oe g1 g2).1 this with h' | ⟨x, hx, hxe⟩
          · omega
          · obtain ⟨_, ⟨o2, k2, k3, _⟩, _⟩ := hD.e x hx
            rw [hxe, g1] at k2
            cases k2
            rw [k3] at hea
            cases hea
        · have := xsame_ok (nk3 := 0) (M3 := .lf) he canon hp1
          refine fin ?_
          rw [← k1, ← k2]
          exact this
      · obtain ⟨k1, k2⟩ := hT.calm' hip (by omega) (fun e oe g1 g2 g3 g4 => hex ⟨e, oe, g1, g2, g3, g4⟩)
        rw [stX_at ht.get] at k1 k2
        refine fin ?_
        rw [← k1, ← k2]
        exact canon
end
end Exe
end Go.Eng
end
section
namespace Go.Eng
open Go Go.RowKit
namespace Exe
noncomputable section
variable {P : Program} {S S' Sb : Pl} {fr fr' : Fr} {L L' : LL} {q q' : PH} {w0 : W0} {w w' : World} {a a' : Act} {n0 N : Nat} {B : Nat → Prop} {X : XE} {xi : XI} {Yx' : Yx}
variable {r : Option Nat} {n : Nat} {Q : Exit → Act → World → Prop} {M M' : Mm} {nk nk' : Nat} {y : SV} {Y : Ye} {all : List Oper} {ops : Array Oper}
theorem unl_lt {listed : Array Bool} {i : Nat} (hi : i < listed.size) (hu : listed.getD i false = false) : ∀ (l : List Nat), i ∈ l → l.countP (fun j => !(listed.setIfInBounds i true).getD j false) < l.countP (fun j => !listed.getD j false) := by
  have le : ∀ l : List Nat, l.countP (fun j => !(listed.setIfInBounds i true).getD j false) ≤ l.countP (fun j => !listed.getD j false) := fun l =>
    List.countP_mono_left fun j _ hj => by
      cases hl : listed.getD j false with
      | false => rfl
      | true => rw [getD_set_true hl] at hj; cases hj
  intro l
  induction l with
  | nil => intro h; cases h
  | cons x l ih =>
    intro h
    rw [List.countP_cons, List.countP_cons]
    rcases List.mem_cons.1 h with rfl | h
    · have h1 : (listed.setIfInBounds i true).getD i false = true := by simp [hi]
      rw [h1, hu]
      have := le l
      simp only [Bool.not_true, Bool.not_false, if_true, Bool.false_eq_true, if_false]
      omega
    · have h1 := ih h
      by_cases hx : listed.getD x false = true
      · rw [getD_set_true hx, hx]
        simp only [Bool.not_true, Bool.false_eq_true, if_false]
        omega
      · have hx : listed.getD x false = false := by simpa using hx
        rw [hx]
        cases (listed.setIfInBounds i true).getD x false <;> simp only [Bool.not_true, Bool.not_false, if_true, Bool.false_eq_true, if_false] <;> omega
theorem draw_any (hX : XOk P X) (hI : InlOk P (XInl xi)) (hYr : YRel Yx' Y) (hY : YOk P Sb Y n0) {tr : List Tc} {z : Nat × Fr × Mm} {fr : Fr} {nk : Nat} {M : Mm} (hT : Trc X xi Yx' N ops.toList tr z nk fr M) (h0 : n0 ≤ nk)
    (hreg : regOk ops = true) (hchk : xchk X xi Yx' ops.toList (befs ops.toList []) tr z.1 z.2.2 ops.toList tr 0 = true) (hf0 : hF nk fr)
    (hQ : ∀ a w, St w0 Sb B n0 N (XK z.1 z.2.1 z.2.2) a w → Q .normal a w) :
    ∀ (fuel : Nat) (listed : Array Bool) (a : Act) (w : World), DInv X w0 Sb B n0 N ops tr z fr listed a w → (List.range ops.size).countP (fun j => !listed.getD j false) ≤ fuel → wpAnyIn (FF r) n P .any ops Q fuel listed a w := by
  have fin : ∀ (listed : Array Bool) (a : Act) (w : World), DInv X w0 Sb B n0 N ops tr z fr listed a w → Region.ready .any ops listed = [] → Q .normal a w := by
    intro listed a w hd hr
    have hedge : edgesOk ops.toList ops.toList 0 = true := by simp only [regOk, Bool.and_eq_true] at hreg; exact hreg.1.1.1
    have hslots : slotsOk (befs ops.toList []) ops.toList ops.toList 0 = true := by simp only [regOk, Bool.and_eq_true] at hreg; exact hreg.1.1.2
    obtain ⟨hcl, hsz, p0, S0', q, L0', G0', E0, hD0⟩ := hd
    have hall : ∀ i, i < ops.size → listed.getD i false = true := by
      intro i
      induction i using Nat.strongRecOn with
      | _ i ih =>
        intro hi
        cases hl : listed.getD i false with
        | true => rfl
        | false =>
          exfalso
          have hop : ops[i]? = some ops[i] := Array.getElem?_eq_getElem hi
          have : i ∈ Region.ready .any ops listed := by
            refine mem_ready.2 ⟨?_, ops[i], hop, fun e he hb => ?_⟩
            · have hi2 : i < listed.size := by rw [hsz]; exact hi
              rw [Array.getD_eq_getD_getElem?, Array.getElem?_eq_getElem hi2] at hl ⊢
              exact hl
            · have := edgesOk_ok hedge i ops[i] (by rw [Array.getElem?_toList]; exact hop) e he hb
              exact ih e.on (by omega) (by omega)
          rw [hr] at this
          cases this
    have hlen : ops.toList.length = ops.size := by simp
    obtain ⟨S, L, G, E, hD, _⟩ := DS.adv hT h0 hslots (ops.toList.length - p0) hD0 (by have := hD0.pn; omega) (fun e o ho he h1 h2 => by
      rcases (hD0.pe e o ho he).1 (hall e (by have := hD0.pn; omega)) with h | h
      · omega
      · exact h)
    rw [show p0 + (ops.toList.length - p0) = ops.toList.length by have := hD0.pn; omega] at hD
    have hEn : ∀ x ∈ E, False := fun x hx => by
      obtain ⟨k1, ⟨o, k2, _⟩, _⟩ := hD.e x hx
      have := (List.getElem?_eq_some_iff.1 k2).1
      omega
    have hz : stX tr z ops.toList.length = z := by
      unfold stX
      rw [List.getElem?_eq_none (by rw [hT.len]; exact Nat.le_refl _)]
    have uniq : ∀ {j : Nat} {oj : Oper} {d : Nat}, ops.toList[j]? = some oj → oj.dst = some d → ∀ j' o', ops.toList[j']? = some o' → o'.dst = some d → j' = j := fun {j oj d} hoj hdj j' o' ho' hd' => by
      have := dstOk_ok ((slotsOk_ok hslots j oj hoj).2 d (by simpa using hdj)) j' o' ho' hd'
      omega
    have hget : ∀ t, get G t = get z.2.1 t := fun t => by
      by_cases hw : ∃ (j : Nat) (oj : Oper), ops.toList[j]? = some oj ∧ oj.dst = some t
      · obtain ⟨j, oj, hoj, hdj⟩ := hw
        obtain ⟨tj, gj⟩ := hT.at_ j oj hoj
        have hjl : j < ops.toList.length := (List.getElem?_eq_some_iff.1 hoj).1
        rw [hD.g1 j oj tj t hoj gj.get (hall j (by omega)) (fun x hx _ => hEn x hx) hdj]
        have := hT.lays hoj hdj gj.get (uniq hoj hdj) ops.toList.length (Nat.le_refl _) hjl
        rw [hz] at this
        exact this.symm
      · rw [hD.g2 t (fun j oj hoj _ hdj => hw ⟨j, oj, hoj, hdj⟩)]
        have := hT.keeps (t := t) ops.toList.length (Nat.le_refl _) (fun j oj _ hoj hdj => hw ⟨j, oj, hoj, hdj⟩)
        rw [hz] at this
        exact this.symm
    have hfz : hF z.1 z.2.1 := by
      have := hT.hFs hf0 ops.toList.length (Nat.le_refl _)
      rw [hz] at this
      exact this
    have hr := hD.r
    have hl := hD.l
    rw [hz] at hr hl
    refine hQ a w ⟨S, q, z.2.1, L, 0, hD.c.frame (fun t => by rw [← hget t]; exact hD.c.f t), rfl, hr, hfz, hl⟩
  intro fuel
  induction fuel with
  | zero =>
    intro listed a w hd hcn
    have hr : Region.ready .any ops listed = [] := by
      rw [List.eq_nil_iff_forall_not_mem]
      intro i hi
      obtain ⟨hun, o, ho, _⟩ := mem_ready.1 hi
      have hil : i < ops.size := (Array.getElem?_eq_some_iff.1 ho).1
      have hil2 : i < listed.size := by rw [hd.sz]; exact hil
      have h0 := List.countP_eq_zero.1 (Nat.le_zero.1 hcn) i (List.mem_range.2 hil)
      rw [Array.getD_eq_getD_getElem?, Array.getElem?_eq_getElem hil2] at hun h0
      simp only [Option.getD_some] at hun h0
      rw [hun] at h0
      simp at h0
    exact ⟨hr, fin _ _ _ hd hr⟩
  | succ fuel ih =>
    intro listed a w hd hcn
    refine ⟨fin _ _ _ hd, fun i hi => ?_⟩
    refine wpOpIn_mono (fun a' w' hd' => ih _ a' w' hd' ?_) (dinv_step hX hI hYr hY hT h0 hreg hchk hd hi)
    obtain ⟨hun, o, ho, _⟩ := mem_ready.1 hi
    have hil : i < ops.size := (Array.getElem?_eq_some_iff.1 ho).1
    have hil2 : i < listed.size := by rw [hd.sz]; exact hil
    have hunf : listed.getD i false = false := by
      rw [Array.getD_eq_getD_getElem?, Array.getElem?_eq_getElem hil2] at hun ⊢
      exact hun
    have := unl_lt hil2 hunf (List.range ops.size) (List.mem_range.2 hil)
    omega
theorem xdraw_ok (hX : XOk P X) (hI : InlOk P (XInl xi)) (hYr : YRel Yx' Y) (hY : YOk P Sb Y n0) {id : Nat} {nkF : Nat} {frF : Fr} {MF : Mm} (hc : Cfg w0 Sb B n0 N S q fr L a w) (h0 : n0 ≤ nk) (hR : Rep M L) (hf : hF nk fr) (hl : hL nk L)
    (hreg : regOk ops = true) (h : xdraw X xi Yx' N ops.toList nk fr M = some (nkF, frF, MF)) (hQ : nk ≤ nkF → ∀ a w, St w0 Sb B n0 N (XK nkF frF MF) a w → Q .normal a w) : (Code.region id ops true).wpIn (FF r) n P Q a w := by
  unfold xdraw at h
  split at h
  · cases h
  rename_i tr k1 f1 m1 htr
  split at h
  rotate_left
  · cases h
  rename_i hchk
  cases h
  obtain ⟨h1, h2, h3⟩ := xtrace_ok htr
  have hT : Trc X xi Yx' N ops.toList tr (nkF, frF, MF) nk fr M := ⟨h1, h2, h3⟩
  have hle : nk ≤ nkF := by
    have := hT.mono' (Nat.zero_le ops.toList.length) (Nat.le_refl _)
    rw [hT.zero] at this
    have hz : stX tr (nkF, frF, MF) ops.toList.length = (nkF, frF, MF) := by
      unfold stX
      rw [List.getElem?_eq_none (by rw [hT.len]; exact Nat.le_refl _)]
    rw [hz] at this
    exact this
  refine wpIn_region_any hX.e.mix (draw_any hX hI hYr hY hT h0 hreg hchk hf (hQ hle) ops.size _ a _ ?_ ?_)
  · have hdrew : Cl w0 q S L w { w with drawn := w.drawn + 1 } := ⟨fun _ _ _ _ _ => rfl, fun b o v hv => hc.m.on b o v hv, hc.m.be.drew⟩
    have hno : ∀ i, (Array.replicate ops.size false).getD i false = false := fun i => by
      rw [Array.getD_eq_getD_getElem?, Array.getElem?_replicate]; split <;> rfl
    refine ⟨fun j o hj => (by rw [hno] at hj; cases hj), by simp, 0, S, q, L, fr, [], Nat.zero_le _, fun e o _ _ => ⟨fun hh => (by rw [hno] at hh; cases hh), fun hh => (hh.elim (fun hh => absurd hh (Nat.not_lt_zero _)) (fun ⟨_, hh, _⟩ => by cases hh))⟩, hc.mem (hc.m.of_cl hdrew), ?_, ?_, ?_, fun i o t d _ _ hh => (by rw [hno] at hh; cases hh), fun _ _ => rfl, fun _ h => (by cases h), fun _ h => (by cases h)⟩
    · rw [hT.zero]; exact hR
    · rw [hT.zero]; exact hf
    · rw [hT.zero]; exact hl
  · have := List.countP_le_length (p := fun j => !(Array.replicate ops.size false).getD j false) (l := List.range ops.size)
    simpa using this
def vX (X : XE) (xi : XI) (lf N : Nat) (Yx' : Yx) (ro : Option Nat) (c : Code) : Nat → Nat → PH → Fr → LL → Ke → Prop := fun n0 nk q fr L K =>
  ∃ M ex nk' fr' M', Rep M L ∧ hF nk fr ∧ hL nk L ∧ n0 ≤ nk ∧ xC X xi lf N Yx' c ro nk fr M = some (ex, nk', fr', M') ∧ ∀ q' L', Rep M' L' → hF nk' fr' → hL nk' L' → nk ≤ nk' → K ex nk' q' fr' L'
theorem xnorm_c {t : Nat} {x : SV} {fr : Fr} {s : Nat} : xnorm ((t, x) :: fr) s = (match bit s t with | true => xnorm fr s | false => (t, x) :: xnorm fr (Nat.lor s (2 ^ t))) := rfl
theorem xnorm_get : ∀ {fr : Fr} {s t : Nat}, bit s t = false → get (xnorm fr s) t = get fr t
  | [], s, t, _ => rfl
  | (u, x) :: fr, s, t, h => by
    rw [xnorm_c, get_cons]
    cases hu : bit s u with
    | true =>
      dsimp only
      rw [xnorm_get h, if_neg (fun e => by subst e; rw [h] at hu; cases hu)]
    | false =>
      dsimp only
      rw [get_cons]
      by_cases e : u = t
      · rw [if_pos e, if_pos e]
      · rw [if_neg e, if_neg e]
        exact xnorm_get (by rw [bit_lor, h, bit_pow]; simp [e])
theorem xnorm_h : ∀ {fr : Fr} {s k : Nat}, hasF k (xnorm fr s) = true → hasF k fr = true
  | [], s, k, h => h
  | (u, x) :: fr, s, k, h => by
    rw [xnorm_c] at h
    rw [hasF_cons, Bool.or_eq_true]
    split at h
    · exact .inr (xnorm_h h)
    · rw [hasF_cons, Bool.or_eq_true] at h
      exact h.imp id xnorm_h
theorem okF_xnorm {tm : Array Value} (h : okF S fr tm) : okF S (xnorm fr 0) tm := fun t => by
  rw [xnorm_get (by simp [bit])]
  exact h t
theorem xloop_ok {body : Nat → Fr → Mm → XR} {c : Code} {nkF : Nat} {frF : Fr} {MF : Mm} {ex : Ex} {K : Ke}
    (hbody : ∀ {w0 : W0} {nk q fr L S a w} {K : Ke}, Cfg w0 Sb B n0 N S q fr L a w → (∃ M ex nk' fr' M', Rep M L ∧ hF nk fr ∧ hL nk L ∧ n0 ≤ nk ∧ body nk fr M = some (ex, nk', fr', M') ∧ ∀ q' L', Rep M' L' → hF nk' fr' → hL nk' L' → nk ≤ nk' → K ex nk' q' fr' L') → c.wpIn (FF r) n P (QE w0 Sb B n0 N K) a w)
    {lf : Nat} (hc : Cfg w0 Sb B n0 N S q fr L a w) (h0 : n0 ≤ nk) (hR : Rep M L) (hf : hF nk fr) (hl : hL nk L) (h : xloop body lf nk fr M = some (ex, nkF, frF, MF)) (hne : ex ≠ .norm)
    (hK : ∀ q' L', Rep MF L' → hF nkF frF → hL nkF L' → nk ≤ nkF → K ex nkF q' frF L') : (Code.loop c).wpIn (FF r) n P (QE w0 Sb B n0 N K) a w := by
  let H : Nat → Act → World → Prop := fun j a w => ∃ w1 S q fr L nk1 M, Ext w0 w1 ∧ Cfg w1 Sb B n0 N S q fr L a w ∧ nk ≤ nk1 ∧ Rep M L ∧ hF nk1 fr ∧ hL nk1 L ∧ xloop body j nk1 fr M = some (ex, nkF, frF, MF)
  refine wpIn_loopG H id (i0 := lf) ⟨w0, S, q, fr, L, nk, M, .refl _, hc, Nat.le_refl _, hR, hf, hl, h⟩ fun j a w hj => ?_
  obtain ⟨w1, S, q, fr, L, nk1, M, hx, hc, hle, hR, hf, hl, h⟩ := hj
  cases j with
  | zero => cases h
  | succ j =>
    have e : xloop body (j + 1) nk1 fr M = (match body nk1 (xnorm fr 0) M with
      | some (.norm, nk', fr', M') => xloop body j nk' fr' M'
      | r => r) := rfl
    rw [e] at h
    have hfn : hF nk1 (xnorm fr 0) := fun k hk => hf k (xnorm_h hk)
    have hcn := hc.frame (okF_xnorm hc.f)
    generalize hb : body nk1 (xnorm fr 0) M = res at h
    have go : ∀ {ex' nk' fr' M'}, res = some (ex', nk', fr', M') → (∀ q' L', Rep M' L' → hF nk' fr' → hL nk' L' → nk1 ≤ nk' → (∀ (w2 : W0) (S' : Pl) (a' : Act) (w' : World), Ext w0 w2 → Cfg w2 Sb B n0 N S' q' fr' L' a' w' → Exit.then (fun a' w' => ∃ i, H i a' w' ∧ id i < id (j + 1)) (QE w0 Sb B n0 N K) (toX ex') a' w')) →
        c.wpIn (FF r) n P (Exit.then (fun a' w' => ∃ i, H i a' w' ∧ id i < id (j + 1)) (QE w0 Sb B n0 N K)) a w := by
      intro ex' nk' fr' M' hres hgo
      refine Code.wpIn_mono ?_ (hbody (nk := nk1) (K := fun e nk2 q2 fr2 L2 => e = ex' ∧ nk2 = nk' ∧ fr2 = fr' ∧ Rep M' L2 ∧ hF nk' fr' ∧ hL nk' L2 ∧ nk1 ≤ nk') hcn ⟨M, ex', nk', fr', M', hR, hfn, hl, Nat.le_trans h0 hle, hb.trans hres, fun q' L' h1 h2 h3 h4 => ⟨rfl, rfl, rfl, h1, h2, h3, h4⟩⟩)
      rintro e a' w' ⟨x, rfl, w2, hx2, S', q', fr2, L', k', hc', rfl, rfl, rfl, h1, h2, h3, h4⟩
      exact hgo q' L' h1 h2 h3 h4 w2 S' a' w' (hx.trans hx2) hc'
    match res, h with
    | none, h => cases h
    | some (.norm, nk', fr', M'), h =>
      refine go rfl fun q' L' h1 h2 h3 h4 w2 S' a' w' hx2 hc' => ⟨j, ⟨w2, S', q', fr', L', nk', M', hx2, hc', Nat.le_trans hle h4, h1, h2, h3, h⟩, Nat.lt_succ_self j⟩
    | some (.ret, nk', fr', M'), h =>
      cases h
      exact go rfl fun q' L' h1 h2 h3 h4 w2 S' a' w' hx2 hc' => ⟨.ret, rfl, w2, hx2, S', q', _, L', nkF, hc', hK q' L' h1 h2 h3 (Nat.le_trans hle h4)⟩
    | some (.exit m, nk', fr', M'), h =>
      cases h
      exact go rfl fun q' L' h1 h2 h3 h4 w2 S' a' w' hx2 hc' => ⟨.exit m, rfl, w2, hx2, S', q', _, L', nkF, hc', hK q' L' h1 h2 h3 (Nat.le_trans hle h4)⟩
    | some (.goto m, nk', fr', M'), h =>
      cases h
      exact go rfl fun q' L' h1 h2 h3 h4 w2 S' a' w' hx2 hc' => ⟨.goto m, rfl, w2, hx2, S', q', _, L', nkF, hc', hK q' L' h1 h2 h3 (Nat.le_trans hle h4)⟩
theorem xloop_ne {body : Nat → Fr → Mm → XR} : ∀ {lf nk : Nat} {fr : Fr} {M : Mm} {ex : Ex} {nkF : Nat} {frF : Fr} {MF : Mm}, xloop body lf nk fr M = some (ex, nkF, frF, MF) → ex ≠ .norm
  | 0, nk, fr, M, ex, nkF, frF, MF, h => by cases h
  | lf + 1, nk, fr, M, ex, nkF, frF, MF, h => by
    have e : xloop body (lf + 1) nk fr M = (match body nk (xnorm fr 0) M with
      | some (.norm, nk', fr', M') => xloop body lf nk' fr' M'
      | r => r) := rfl
    rw [e] at h
    split at h
    · exact xloop_ne h
    · rename_i hno
      intro hex
      subst hex
      exact hno _ _ _ h
end
end Exe
end Go.Eng
end
section
namespace Go.Eng
open Go Go.RowKit
namespace Exe
noncomputable section
variable {P : Program} {S S' Sb : Pl} {fr fr' : Fr} {L L' : LL} {q q' : PH} {w0 : W0} {w w' : World} {a a' : Act} {n0 N : Nat} {B : Nat → Prop} {X : XE} {xi : XI} {Yx' : Yx}
variable {r : Option Nat} {n : Nat} {Q : Exit → Act → World → Prop} {M M' : Mm} {nk nk' : Nat} {y : SV} {Y : Ye} {lf : Nat}
theorem hB_loop {m : Nat} {st : LoopState} {pe : Option Ex} : hB m (.loop st pe) := fun j hj => by simp [LB.has] at hj
theorem hB_dfr {m : Nat} : hB m .dfr := fun j hj => by simp [LB.has] at hj
theorem xputs_ok {K : Fr → Prop} : ∀ {ps : List Nat} {args : List SV} {fr fr1 : Fr}, xputs ps N args fr = some fr1 → K fr1 → putsF ps args N fr K
  | [], [], fr, fr1, h, hK => by cases h; exact hK
  | [], _ :: _, fr, fr1, h, hK => by cases h
  | p :: ps, [], fr, fr1, h, hK => by cases h
  | p :: ps, x :: xs, fr, fr1, h, hK => by
    have e : xputs (p :: ps) N (x :: xs) fr = (match Nat.blt p N with | true => xputs ps N xs ((p, x) :: fr) | false => none) := rfl
    rw [e] at h
    unfold putsF
    split at h
    · rename_i hp; rw [hp]; exact xputs_ok h hK
    · cases h
theorem xputs_h : ∀ {ps : List Nat} {args : List SV} {fr fr1 : Fr}, xputs ps N args fr = some fr1 → hF nk fr → hS nk args → hF nk fr1
  | [], [], fr, fr1, h, hf, _ => by cases h; exact hf
  | [], _ :: _, fr, fr1, h, _, _ => by cases h
  | p :: ps, [], fr, fr1, h, _, _ => by cases h
  | p :: ps, x :: xs, fr, fr1, h, hf, hs => by
    have e : xputs (p :: ps) N (x :: xs) fr = (match Nat.blt p N with | true => xputs ps N xs ((p, x) :: fr) | false => none) := rfl
    rw [e] at h
    split at h
    · exact xputs_h h (hf.cons hs.head) hs.tail
    · cases h
theorem round_rel {va vb : Code} {ps : List Nat} {args : List SV} {nk1 : Nat} {rr : SV} {K : SV → Nat → PH → LL → Prop} (hk : nk + 2 ≤ nk1) (hR : Rep M L) (hl : hL nk1 L) (hs : hS nk1 args) (hf : hF nk fr)
    (h : xround (xC X xi lf N Yx' va (some nk)) (xC X xi lf N Yx' vb (some nk)) N nk ps fr args nk1 M = some (rr, nk', M')) (hK : ∀ q' L', Rep M' L' → hL nk' L' → K rr nk' q' L') :
    roundK (vX X xi lf N Yx' (some nk) va) (vX X xi lf N Yx' (some nk) vb) N nk ps fr args nk1 q L K := by
  unfold xround at h
  unfold roundK
  split at h
  rotate_left
  · cases h
  rename_i hg
  rw [hR nk, hg]
  dsimp only
  split at h
  · cases h
  rename_i fr1 hp
  refine xputs_ok hp ?_
  have hf1 : hF nk1 fr1 := xputs_h hp (hf.mono (by omega)) hs
  split at h
  rotate_left
  · cases h
  rename_i nk2 fr2 M2 hxa
  split at h
  rotate_left
  · cases h
  rename_i hg2
  split at h
  · cases h
  rename_i M3 hM3
  split at h
  rotate_left
  · cases h
  rename_i ex nk3 fr3 M4 hxb
  split at h
  rotate_left
  · cases h
  rename_i hg4
  refine ⟨M, .norm, nk2, fr2, M2, hR, hf1, hl, Nat.le_refl _, hxa, fun q2 L2 h1 h2 h3 h4 => ?_⟩
  show (match getL L2 nk with
      | some (.loop .ready none) => _
      | _ => False)
  have hk2 : getL L2 nk = some (.loop .ready none) := (h1 nk).trans hg2
  rw [hk2]
  dsimp only
  rw [fLL_eq]
  refine ⟨M3, ex, nk3, fr3, M4, h1.set hk2 hM3, h2, h3.set hB_loop, h4, hxb, fun q4 L4 g1 g2 g3 g4 => ?_⟩
  have hk4 : getL L4 nk = some (.loop .busy none) := (g1 nk).trans hg4
  dsimp only
  rw [hk4]
  dsimp only
  cases ex with
  | norm =>
    dsimp only at h ⊢
    split at h
    · rename_i M5 hM5
      cases h
      rw [fLL_eq]
      exact hK q4 _ (g1.set hk4 hM5) (g3.set hB_loop)
    · cases h
  | ret =>
    dsimp only at h ⊢
    split at h
    · rename_i M5 hM5
      cases h
      rw [fLL_eq]
      exact hK q4 _ (g1.set hk4 hM5) (g3.set hB_loop)
    · cases h
  | exit m =>
    dsimp only at h ⊢
    split at h
    · rename_i M5 hM5
      cases h
      rw [fLL_eq]
      exact hK q4 _ (g1.set hk4 hM5) (g3.set hB_loop)
    · cases h
  | goto m =>
    dsimp only at h ⊢
    split at h
    · rename_i M5 hM5
      cases h
      rw [fLL_eq]
      exact hK q4 _ (g1.set hk4 hM5) (g3.set hB_loop)
    · cases h
theorem done_rel {nk1 : Nat} {ex : Ex} {fr1 : Fr} {K : Ke} {x : SV} (hle : nk ≤ nk1) (hR : Rep M L) (hl : hL nk1 L) (hf : hF nk fr) (h : xdone nk fr nk1 M = some (ex, nk', fr1, M'))
    (hK : ∀ q' L', Rep M' L' → hF nk' fr1 → hL nk' L' → nk ≤ nk' → K ex nk' q' fr1 L') : doneK nk fr K x nk1 q L := by
  have out : ∀ (e : Ex), (match xput M nk none with | some M1 => (match xput M1 (nk + 1) none with | some M2 => some (e, nk1, fr, M2) | none => none) | none => none) = some (ex, nk', fr1, M') → fLL (remL (remL L nk) (nk + 1)) fun L => K e nk1 q fr L := by
    intro e h
    split at h
    · rename_i M1 h1
      split at h
      · rename_i M2 h2
        cases h
        rw [fLL_eq]
        exact hK q _ ((hR.rem h1).rem h2) (hf.mono hle) (hL.rem (hL.rem hl)) hle
      · cases h
    · cases h
  unfold xdone at h
  unfold doneK
  dsimp only at h
  rw [hR nk]
  split at h
  · rename_i e; rw [e]; exact out _ h
  · rename_i e; rw [e]; exact out _ h
  · rename_i e; rw [e]; exact out _ h
  · rename_i e; rw [e]; exact out _ h
  · cases h
theorem xC_ok (hX : XOk P X) (hI : InlOk P (XInl xi)) (hYr : YRel Yx' Y) (c : Code) : codeOk c = true → ∀ ro, CodeOk P N Y ro c (vX X xi lf N Yx' ro c) := by
  induction c with
  | skip =>
    intro _ ro w0 n0 nk Sb S B q fr L K a w r n hr hro hY hc h
    obtain ⟨M, ex, nk', fr', M', hR, hf, hl, h0, h, hK⟩ := h
    cases h
    exact wpIn_skip ⟨.norm, rfl, w0, .refl _, S, q, _, L, _, hc, hK q L hR hf hl (Nat.le_refl _)⟩
  | label l =>
    intro _ ro w0 n0 nk Sb S B q fr L K a w r n hr hro hY hc h
    obtain ⟨M, ex, nk', fr', M', hR, hf, hl, h0, h, hK⟩ := h
    cases h
    exact wpIn_label ⟨.norm, rfl, w0, .refl _, S, q, _, L, _, hc, hK q L hR hf hl (Nat.le_refl _)⟩
  | exit l =>
    intro _ ro w0 n0 nk Sb S B q fr L K a w r n hr hro hY hc h
    obtain ⟨M, ex, nk', fr', M', hR, hf, hl, h0, h, hK⟩ := h
    cases h
    exact wpIn_exit ⟨.exit l, rfl, w0, .refl _, S, q, _, L, _, hc, hK q L hR hf hl (Nat.le_refl _)⟩
  | goto l =>
    intro _ ro w0 n0 nk Sb S B q fr L K a w r n hr hro hY hc h
    obtain ⟨M, ex, nk', fr', M', hR, hf, hl, h0, h, hK⟩ := h
    cases h
    exact wpIn_goto ⟨.goto l, rfl, w0, .refl _, S, q, _, L, _, hc, hK q L hR hf hl (Nat.le_refl _)⟩
  | ret =>
    intro _ ro w0 n0 nk Sb S B q fr L K a w r n hr hro hY hc h
    obtain ⟨M, ex, nk', fr', M', hR, hf, hl, h0, h, hK⟩ := h
    cases h
    exact wpIn_ret ⟨.ret, rfl, w0, .refl _, S, q, _, L, _, hc, hK q L hR hf hl (Nat.le_refl _)⟩
  | refuse s =>
    intro _ ro w0 n0 nk Sb S B q fr L K a w r n hr hro hY hc h
    obtain ⟨M, ex, nk', fr', M', hR, hf, hl, h0, h, hK⟩ := h
    cases h
  | region id ops draw =>
    intro hco ro w0 n0 nk Sb S B q fr L K a w r n hr hro hY hc h
    obtain ⟨M, ex, nk', fr', M', hR, hf, hl, h0, h, hK⟩ := h
    have fin : ∀ {nk1 fr1 M1}, some (Ex.norm, nk1, fr1, M1) = some (ex, nk', fr', M') → nk ≤ nk1 → ∀ a w, St w0 Sb B n0 N (XK nk1 fr1 M1) a w → QE w0 Sb B n0 N K .normal a w := by
      rintro nk1 fr1 M1 he hle a w ⟨S', q', fr2, L', k', hc', rfl, h1, h2, h3⟩
      cases he
      exact ⟨.norm, rfl, w0, .refl _, S', q', _, L', _, hc', hK q' L' h1 h2 h3 hle⟩
    cases draw with
    | false =>
      have h : (match xops X xi Yx' N ops.toList ops.toList nk fr M with | some (nk', fr', M') => some (Ex.norm, nk', fr', M') | none => none) = some (ex, nk', fr', M') := h
      split at h
      · rename_i nk1 fr1 M1 hx
        refine wpIn_region_list ?_
        have := xops_ok (r := r) (n := n) (Q := QE w0 Sb B n0 N K) hX hI hYr hY ops.toList hc h0 hR hf hl hx (fin h)
        simpa using this
      · cases h
    | true =>
      have h : (match xdraw X xi Yx' N ops.toList nk fr M with | some (nk', fr', M') => some (Ex.norm, nk', fr', M') | none => none) = some (ex, nk', fr', M') := h
      split at h
      · rename_i nk1 fr1 M1 hx
        exact xdraw_ok hX hI hYr hY hc h0 hR hf hl hco hx (fin h)
      · cases h
  | seq x y ihx ihy =>
    intro hco ro w0 n0 nk Sb S B q fr L K a w r n hr hro hY hc h
    simp only [codeOk, Bool.and_eq_true] at hco
    obtain ⟨M, ex, nk', fr', M', hR, hf, hl, h0, h, hK⟩ := h
    have h : (match xC X xi lf N Yx' x ro nk fr M with
      | some (.norm, nk', fr', M') => xC X xi lf N Yx' y ro nk' fr' M'
      | r => r) = some (ex, nk', fr', M') := h
    have go : ∀ {ex1 nk1 fr1 M1}, xC X xi lf N Yx' x ro nk fr M = some (ex1, nk1, fr1, M1) → (∀ q' L', Rep M1 L' → hF nk1 fr1 → hL nk1 L' → nk ≤ nk1 → thenE (fun nk q fr L => vX X xi lf N Yx' ro y n0 nk q fr L K) K ex1 nk1 q' fr1 L') → (Code.seq x y).wpIn (FF r) n P (QE w0 Sb B n0 N K) a w := by
      intro ex1 nk1 fr1 M1 hx hgo
      refine wpIn_seq (Code.wpIn_mono ?_ (ihx hco.1 ro (K := thenE (fun nk q fr L => vX X xi lf N Yx' ro y n0 nk q fr L K) K) hr hro hY hc ⟨M, ex1, nk1, fr1, M1, hR, hf, hl, h0, hx, hgo⟩))
      rintro e a' w' ⟨z, rfl, w1, hx1, hst⟩
      cases z with
      | norm =>
        obtain ⟨S', q', fr', L', nk', hc', hK⟩ := hst
        exact Code.wpIn_mono (fun _ _ _ hq => hq.ext hx1) (ihy hco.2 ro hr hro hY hc' hK)
      | ret => exact ⟨.ret, rfl, w1, hx1, hst⟩
      | exit m => exact ⟨.exit m, rfl, w1, hx1, hst⟩
      | goto m => exact ⟨.goto m, rfl, w1, hx1, hst⟩
    generalize hx : xC X xi lf N Yx' x ro nk fr M = res at h
    match res, hx, h with
    | none, hx, h => cases h
    | some (.norm, nk1, fr1, M1), hx, h => exact go hx fun q' L' h1 h2 h3 h4 => ⟨M1, ex, nk', fr', M', h1, h2, h3, Nat.le_trans h0 h4, h, fun q2 L2 g1 g2 g3 g4 => hK q2 L2 g1 g2 g3 (Nat.le_trans h4 g4)⟩
    | some (.ret, nk1, fr1, M1), hx, h => cases h; exact go hx hK
    | some (.exit m, nk1, fr1, M1), hx, h => cases h; exact go hx hK
    | some (.goto m, nk1, fr1, M1), hx, h => cases h; exact go hx hK
  | cond g x y ihx ihy =>
    intro hco ro w0 n0 nk Sb S B q fr L K a w r n hr hro hY hc h
    simp only [codeOk, Bool.and_eq_true] at hco
    obtain ⟨M, ex, nk', fr', M', hR, hf, hl, h0, h, hK⟩ := h
    have hg := opv_ok hc.f g
    have h : (match opv fr g with
      | .bb true => xC X xi lf N Yx' x ro nk fr M
      | .bb false => xC X xi lf N Yx' y ro nk fr M
      | _ => none) = some (ex, nk', fr', M') := h
    split at h
    · rename_i e; rw [e] at hg; exact wpIn_cond_true hg (ihx hco.1 ro hr hro hY hc ⟨M, ex, nk', fr', M', hR, hf, hl, h0, h, hK⟩)
    · rename_i e; rw [e] at hg; exact wpIn_cond_false hg (ihy hco.2 ro hr hro hY hc ⟨M, ex, nk', fr', M', hR, hf, hl, h0, h, hK⟩)
    · cases h
  | block id x ihx =>
    intro hco ro w0 n0 nk Sb S B q fr L K a w r n hr hro hY hc h
    obtain ⟨M, ex, nk', fr', M', hR, hf, hl, h0, h, hK⟩ := h
    have h : (match xC X xi lf N Yx' x ro nk fr M with
      | some (.exit n, nk', fr', M') => (match Nat.beq n id with | true => some (.norm, nk', fr', M') | false => some (.exit n, nk', fr', M'))
      | r => r) = some (ex, nk', fr', M') := h
    have go : ∀ {ex1 nk1 fr1 M1}, xC X xi lf N Yx' x ro nk fr M = some (ex1, nk1, fr1, M1) → (∀ q' L', Rep M1 L' → hF nk1 fr1 → hL nk1 L' → nk ≤ nk1 → blkE id K ex1 nk1 q' fr1 L') → (Code.block id x).wpIn (FF r) n P (QE w0 Sb B n0 N K) a w := by
      intro ex1 nk1 fr1 M1 hx hgo
      refine wpIn_block (Code.wpIn_mono ?_ (ihx hco ro (K := blkE id K) hr hro hY hc ⟨M, ex1, nk1, fr1, M1, hR, hf, hl, h0, hx, hgo⟩))
      rintro e a' w' ⟨z, rfl, w1, hx1, hst⟩
      cases z with
      | norm => exact ⟨.norm, rfl, w1, hx1, hst⟩
      | ret => exact ⟨.ret, rfl, w1, hx1, hst⟩
      | goto m => exact ⟨.goto m, rfl, w1, hx1, hst⟩
      | exit m =>
        simp only [Exit.inBlock, toX]
        obtain ⟨S', q', fr', L', nk', hc', hK⟩ := hst
        have hb : blkE id K (.exit m) = (match Nat.beq m id with | true => K .norm | false => K (.exit m)) := rfl
        rw [hb] at hK
        cases e : Nat.beq m id with
        | true =>
          rw [e] at hK
          rw [if_pos (Nat.eq_of_beq_eq_true e)]
          exact ⟨.norm, rfl, w1, hx1, S', q', fr', L', nk', hc', hK⟩
        | false =>
          rw [e] at hK
          rw [if_neg (fun e' => by subst e'; simp at e)]
          exact ⟨.exit m, rfl, w1, hx1, S', q', fr', L', nk', hc', hK⟩
    generalize hx : xC X xi lf N Yx' x ro nk fr M = res at h
    match res, hx, h with
    | none, hx, h => cases h
    | some (.norm, nk1, fr1, M1), hx, h => cases h; exact go hx hK
    | some (.ret, nk1, fr1, M1), hx, h => cases h; exact go hx hK
    | some (.goto m, nk1, fr1, M1), hx, h => cases h; exact go hx hK
    | some (.exit m, nk1, fr1, M1), hx, h =>
      refine go hx fun q' L' h1 h2 h3 h4 => ?_
      have hb : blkE id K (.exit m) = (match Nat.beq m id with | true => K .norm | false => K (.exit m)) := rfl
      rw [hb]
      dsimp only at h
      cases e : Nat.beq m id with
      | true => rw [e] at h; cases h; exact hK q' L' h1 h2 h3 h4
      | false => rw [e] at h; cases h; exact hK q' L' h1 h2 h3 h4
  | loop x ihx =>
    intro hco ro w0 n0 nk Sb S B q fr L K a w r n hr hro hY hc h
    obtain ⟨M, ex, nk', fr', M', hR, hf, hl, h0, h, hK⟩ := h
    have h : xloop (xC X xi lf N Yx' x ro) lf nk fr M = some (ex, nk', fr', M') := h
    exact xloop_ok (fun hc h => ihx hco ro hr hro hY hc h) hc h0 hR hf hl h (xloop_ne h) hK
  | scope x ihx =>
    intro hco ro w0 n0 nk Sb S B q fr L K a w r n hr hro hY hc h
    obtain ⟨M, ex, nk', fr', M', hR, hf, hl, h0, h, hK⟩ := h
    have h : (match xC X xi lf N Yx' x ro nk fr M with
      | some (.goto _, _, _, _) => none
      | r => r) = some (ex, nk', fr', M') := h
    have go : ∀ {ex1 nk1 fr1 M1}, xC X xi lf N Yx' x ro nk fr M = some (ex1, nk1, fr1, M1) → (∀ q' L', Rep M1 L' → hF nk1 fr1 → hL nk1 L' → nk ≤ nk1 → scopeE K ex1 nk1 q' fr1 L') → (Code.scope x).wpIn (FF r) n P (QE w0 Sb B n0 N K) a w := by
      intro ex1 nk1 fr1 M1 hx hgo
      refine wpIn_scope (Code.wpIn_mono ?_ (ihx hco ro (K := scopeE K) hr hro hY hc ⟨M, ex1, nk1, fr1, M1, hR, hf, hl, h0, hx, hgo⟩))
      rintro e a' w' ⟨z, rfl, w1, hx1, hst⟩
      cases z with
      | norm => exact ⟨.norm, rfl, w1, hx1, hst⟩
      | ret => exact ⟨.ret, rfl, w1, hx1, hst⟩
      | exit m => exact ⟨.exit m, rfl, w1, hx1, hst⟩
      | goto m =>
        obtain ⟨S', q', fr', L', nk', hc', hK⟩ := hst
        exact hK.elim
    generalize hx : xC X xi lf N Yx' x ro nk fr M = res at h
    match res, hx, h with
    | none, hx, h => cases h
    | some (.norm, nk1, fr1, M1), hx, h => cases h; exact go hx hK
    | some (.ret, nk1, fr1, M1), hx, h => cases h; exact go hx hK
    | some (.exit m, nk1, fr1, M1), hx, h => cases h; exact go hx hK
    | some (.goto m, nk1, fr1, M1), hx, h => cases h
  | rangeFunc g ps assign body iha ihb =>
    intro hco ro w0 n0 nk Sb S B q fr L K a w r n hr hro hY hc h
    simp only [codeOk, Bool.and_eq_true] at hco
    obtain ⟨M, ex, nk', fr', M', hR, hf, hl, h0, h, hK⟩ := h
    have h : xrange xi N Yx' (xC X xi lf N Yx' assign) (xC X xi lf N Yx' body) g ps ro nk fr M = some (ex, nk', fr', M') := h
    unfold xrange at h
    split at h
    rotate_left
    · cases h
    rename_i it cs hg
    have hA := @iha hco.1 (some nk)
    have hB := @ihb hco.2 (some nk)
    have hgv : hV nk (.fn it cs) := by rw [← hg]; exact hf.opv g
    have hargs : hS (nk + 2) (.yl nk :: cs) := by
      refine hS.cons (fun k hk => ?_) (fun k hk => ?_)
      · have := hgv k (by simpa [SV.has] using hk); omega
      · have : Nat.beq nk k = true := by simpa [SV.has] using hk
        have := Nat.eq_of_beq_eq_true this
        omega
    have hlt := ltF_of hf
    have hltL := ltLL_of hl
    have hrel : ∀ {L1 : LL} {M1 : Mm}, (∀ M2, xput M1 nk (some (.loop .ready none)) = some M2 → Rep M2 L1) → hL (nk + 2) L1 → xgo xi N Yx' (xC X xi lf N Yx' assign) (xC X xi lf N Yx' body) ps it cs nk fr M1 = some (ex, nk', fr', M') →
        XInl xi ((nk, roundK (vX X xi lf N Yx' (some nk) assign) (vX X xi lf N Yx' (some nk) body) N nk ps.toList fr) :: Y) it (.yl nk :: cs) (nk + 2) q L1 (doneK nk fr K) := by
      intro L1 M1 hR1 hl1 h
      unfold xgo at h
      split at h
      · cases h
      rename_i M2 hM2
      replace hR1 := hR1 M2 hM2
      split at h
      rotate_left
      · cases h
      rename_i r1 nk1 M3 hxi
      split at h
      rotate_left
      · cases h
      rename_i hle
      have hle := Nat.le_of_ble_eq_true hle
      refine ⟨_, M2, r1, nk1, M3, fun k hx hk => ?_, hR1, hl1, hargs, hxi, fun q' L' g1 g2 => done_rel hle g1 g2 hf h hK⟩
      rw [yxGet_c] at hk
      split at hk
      · rename_i e
        cases hk
        have e := Nat.eq_of_beq_eq_true e
        subst e
        refine ⟨_, by simp only [yGet]; rw [Nat.beq_refl], fun args nk2 q2 L2 M2 r2 nk3 M4 K2 hk2 hR2 hl2 hs2 hx2 hK2 => round_rel hk2 hR2 hl2 hs2 hf hx2 hK2⟩
      · rename_i e
        obtain ⟨hh, g1, g2⟩ := hYr k hx hk
        exact ⟨hh, by simp only [yGet]; rw [e]; exact g1, g2⟩
    cases ro with
    | none =>
      dsimp only at h
      split at h
      rotate_left
      · cases h
      rename_i M1 hM1
      have hr : r = none := hr
      subst hr
      have hR1 : ∀ M2, xput M1 nk (some (.loop .ready none)) = some M2 → Rep M2 ((nk, .loop .ready none) :: (nk + 1, .dfr) :: L) := fun M2 hM2 => (hR.new hM1).new hM2
      have hl1 : hL (nk + 2) ((nk, .loop .ready none) :: (nk + 1, .dfr) :: L) := ((hl.mono (by omega)).new (by omega) hB_dfr).new (by omega) hB_loop
      refine range_ok hI hA hB hg hc h0 hlt hY hltL (fun fn => ?_) (hrel hR1 hl1 h)
      have hm1 := hc.m.newDfr (k := nk + 1) (ltLL_none hltL (by omega))
      have hm2 := hm1.newRec (nk := nk) (by
        rw [hasLL_c]
        have : Nat.beq (nk + 1) nk = false := by rw [Bool.eq_false_iff]; intro e; have := Nat.eq_of_beq_eq_true e; omega
        simp only [this, LB.has]
        exact ltLL_none hltL (Nat.le_refl _)) { state := .ready, pending := none, fn := fn, tmps := a.tmps, params := ps, assign := assign, body := body, defers := w.heap.size } rfl rfl
      have hb : (w.alloc (.deferred (some []))).heap.size = w.heap.size + 1 := World.size_alloc _ _
      rw [hb] at hm2
      refine ⟨_, [{ target := .collected w.heap.size, args := #[] }], _, [nk + 1], (run_enterLoop_outer fn a.tmps ps assign body).trans ?_, fun k hk => ?_, hm2, ?_, ?_, ?_, ?_, fun d hd => ?_, ?_, fun d hd => ?_⟩
      · rw [updS_same]
      · rw [updS_other (by omega), updS_other (by omega)]
      · rw [updS_same]
      · rw [updS_same]
      · rw [updS_same]
      · rw [updS_same]
      · have := ltLL_has hltL (getL_hasLL hd (.inl rfl))
        rw [getL_cons, if_neg (by omega), getL_cons, if_neg (by omega)]
        exact hd
      · exact ⟨by simp [markOf, updS_other, updS_same], by simp⟩
      · have : d = nk + 1 := by simpa using hd
        subst this
        exact ⟨rfl, by rw [getL_cons, if_neg (by omega), getL_cons, if_pos rfl]⟩
    | some l0 =>
      dsimp only at h
      split at h
      rotate_left
      · cases h
      rename_i st pe hL0
      rw [← hR l0] at hL0
      have hr : r = some (Sb l0).b := hr
      subst hr
      have hl0 := hro l0 rfl
      have hR1 : ∀ M2, xput M nk (some (.loop .ready none)) = some M2 → Rep M2 ((nk, .loop .ready none) :: L) := fun M2 hM2 => hR.new hM2
      have hl1 : hL (nk + 2) ((nk, .loop .ready none) :: L) := (hl.mono (by omega)).new (by omega) hB_loop
      refine range_ok hI hA hB hg hc h0 hlt hY hltL (fun fn => ?_) (hrel hR1 hl1 h)
      have hh := hc.m.recHeap hL0
      rw [hc.ag l0 hl0] at hh
      have hm2 := hc.m.newRec (nk := nk) (ltLL_none hltL (Nat.le_refl _)) { state := .ready, pending := none, fn := fn, tmps := a.tmps, params := ps, assign := assign, body := body, defers := (Sb l0).r.defers } rfl rfl
      refine ⟨_, [], _, [], (run_enterLoop_inner hh fn a.tmps ps assign body).trans ?_, fun k hk => ?_, hm2, ?_, ?_, ?_, ?_, fun d hd => ?_, ⟨rfl, .nil⟩, fun d hd => by cases hd⟩
      · rw [updS_same]
      · rw [updS_other (by omega)]
      · rw [updS_same]
      · rw [updS_same]
      · rw [updS_same]
      · rw [updS_same]
      · have := ltLL_has hltL (getL_hasLL hd (.inl rfl))
        rw [getL_cons, if_neg (by omega)]
        exact hd
theorem xres_c {T : Tab} {v : ResultVar} {rs : List ResultVar} : xres T (v :: rs) fr M = (match (match v with | .tmp t => some (get fr t) | .cell t ty => xload T M.get ty (get fr t)) with
      | some x => (match xres T rs fr M with | some l => some (x :: l) | none => none)
      | none => none) := rfl
theorem xres_ok {T : Tab} (hR : Rep M L) : ∀ {rs : List ResultVar} {l : List SV} {K : List SV → Prop}, xres T rs fr M = some l → K l → resK T q rs fr L K
  | [], l, K, h, hK => by cases h; exact hK
  | .tmp t :: rs, l, K, h, hK => by
    rw [xres_c] at h
    dsimp only at h
    split at h
    · rename_i l' hl
      cases h
      unfold resK
      rw [fSV_eq]
      exact xres_ok hR hl hK
    · cases h
  | .cell t ty :: rs, l, K, h, hK => by
    rw [xres_c] at h
    dsimp only at h
    split at h
    · rename_i x hx
      split at h
      · rename_i l' hl
        cases h
        unfold resK
        exact xload_ok hR hx (xres_ok hR hl hK)
      · cases h
    · cases h
def PrimsOk (P : Program) (X : XE) : Prop := ∀ f p, X.prim.get f = some p → ∀ (w0 : W0) args nk q L M vs w (S : Pl) (r : Option Nat) n y nk' M', p args nk M = some (y, nk', M') → Rep M L → hL nk L → hS nk args → okL S args vs → Mem w0 q S L w →
  (∀ args w, (callFunc f args).run P w = .ok (.enter f args) w) ∧
  CallsIn (FF r) n P f vs.toArray w fun e w' => ∃ v S' q' L', e = .returned v ∧ okv S' y v ∧ (∀ k, k < nk → S' k = S k) ∧ Mem w0 q' S' L' w' ∧ (∀ d, d < nk → getL L d = some .dfr → getL L' d = some .dfr) ∧ Rep M' L' ∧ hL nk' L'
def bodiesOk (T : Tr Func) : Bool := T.all fun _ fn => match fn.body with | some c => codeOk c | none => true
theorem xN_ok (hX : XOk P X) (hPr : PrimsOk P X) (hC : bodiesOk X.E.FT = true) : ∀ d, InlOk P (XInl (xN X lf d))
  | 0 => fun w0 Y f args nk q L K vs w S r n h hY hvs hm => by
    obtain ⟨Yx', M, y, nk', M', hYr, hR, hl, hs, h, hK⟩ := h
    cases h
  | d + 1 => fun w0 Y f args nk q L K vs w S r n h hY hvs hm => by
    obtain ⟨Yx', M, y, nk', M', hYr, hR, hl, hs, h, hK⟩ := h
    have h : (match X.prim.get f with
    | some p => p args nk M
    | none => (match X.E.FT.get f with
      | none => none
      | some fn => (match fn.body with
        | none => none
        | some c => (match Nat.ble args.length fn.ntmps with
          | false => none
          | true => (match xC X (xN X lf d) lf fn.ntmps Yx' c none nk (argF args 0) M with
            | some (ex, nk', fr', M') => (match (match ex with | .norm => true | .ret => true | _ => false) with
              | true => (match xres X.E.T fn.results.toList fr' M' with
                | some l => some (oneOr l, nk', M')
                | none => none)
              | false => none)
            | none => none))))) = some (y, nk', M') := h
    split at h
    · rename_i p hp
      obtain ⟨h1, h2⟩ := hPr f p hp w0 args nk q L M vs w S r n y nk' M' h hR hl hs hvs hm
      refine ⟨h1, h2.mono ?_⟩
      rintro e w' ⟨v, S', q', L', rfl, g1, g2, g3, g4, g5, g6⟩
      exact ⟨v, y, S', q', L', nk', rfl, g1, g2, g3, g4, hK q' L' g5 g6⟩
    split at h
    · cases h
    rename_i fn hfn
    split at h
    · cases h
    rename_i c hc
    split at h
    · cases h
    rename_i hN
    have hN := Nat.le_of_ble_eq_true hN
    split at h
    rotate_left
    · cases h
    rename_i ex nk1 fr1 M1 hxc
    split at h
    rotate_left
    · cases h
    rename_i hex
    split at h
    rotate_left
    · cases h
    rename_i l hres
    cases h
    have hco : codeOk c = true := by
      have := Tr.all_get hC hfn
      rw [hc] at this
      exact this
    obtain ⟨hP, hname⟩ := hX.e.FT f fn hfn
    refine ⟨fun args w => ?_, ?_⟩
    · have hname' : ¬ fn.name = "runtime.NumGoroutine" := by simpa using hname
      simp [callFunc, hP, hname', hc]
    have hlen := okL_length hvs
    have hargsF : ∀ (l : List SV) (i : Nat), hS nk l → hF nk (argF l i) := by
      intro l
      induction l with
      | nil => intro i _ k hk; cases hk
      | cons x r ih => intro i h; exact (ih (i + 1) h.tail).cons h.head
    show CallsIn (FF none) n P f vs.toArray w _
    refine callsIn_of_wp_marks hP hc trivial ?_
    let wb : W0 := { w0 with F0 := w0.F, sub := fun _ h => h }
    have hmb : Mem wb q S L w := ⟨hm.ch, hm.ap, hm.po, hm.fz, hm.on, ⟨hm.be.os, hm.be.tape, hm.be.output, hm.be.size, hm.be.block⟩, hm.gw⟩
    have hcfg : Cfg wb S (fun d => getL L d = some .dfr) nk fn.ntmps S q (argF args 0) L { tmps := vs.toArray ++ Array.replicate (fn.ntmps - vs.toArray.size) undef, defers := [] } w :=
      ⟨fun _ _ => rfl, fun _ _ h => h, hmb, okF_args hvs _, by simp; omega, .nil _⟩
    have hcode := xC_ok (N := fn.ntmps) (lf := lf) hX (xN_ok hX hPr hC d) hYr c hco none (n := n) (r := none) (K := fun e nk2 q2 fr2 L2 => e = ex ∧ nk2 = nk' ∧ fr2 = fr1 ∧ Rep M' L2 ∧ hF nk' fr1 ∧ hL nk' L2) rfl (fun _ h => by cases h) hY hcfg
      ⟨M, ex, nk', fr1, M', hR, hargsF args 0 hs, hl, Nat.le_refl _, hxc, fun q' L' h1 h2 h3 h4 => ⟨rfl, rfl, rfl, h1, h2, h3⟩⟩
    refine Code.wpIn_mono ?_ hcode
    rintro e a' w' ⟨x, rfl, w1, hx1, S', q', fr', L', k', hc', rfl, rfl, rfl, hR', hf', hl'⟩
    obtain ⟨Hs, hd1, hd2, hd3⟩ := hc'.d
    have hmw : Mem w0 q' S' L' w' := by
      have := hx1.mem hc'.m
      exact ⟨this.ch, this.ap, this.po, this.fz, this.on, ⟨this.be.os, this.be.tape, this.be.output, this.be.size, this.be.block⟩, this.gw⟩
    have fin : LeavesInM (FF none) n P fn a'.tmps (fun e w' => ∃ v x S' q' L' nk', e = .returned v ∧ okv S' x v ∧ (∀ k, k < nk → S' k = S k) ∧ Mem w0 q' S' L' w' ∧ (∀ d, d < nk → getL L d = some .dfr → getL L' d = some .dfr) ∧ K x nk' q' L') a'.defers .returning w' := by
      rw [hd1]
      refine leave_marks Hs hmw hd2 (fun b hb => ?_) fun w2 hm2 => ?_
      · obtain ⟨k1, k2, k3⟩ := hd3 b hb
        refine ⟨(hc'.m.be.block b k1).trans k3, fun hF => k2 ?_, fun k lb hk e => hc'.m.fz k lb hk b e k1⟩
        rw [hx1.F0]
        exact hF
      obtain ⟨l2, v, hK2, hv, hr⟩ := results_ok (K := fun l2 => l2 = l) hX.e.T hc'.f hm2 (xres_ok hR' hres rfl)
      subst hK2
      exact ⟨v, hr, v, oneOr l2, S', q', L', k', rfl, hv, hc'.ag, hm2, fun d hd hdL => hc'.b d hd hdL, hK q' L' hR' hl'⟩
    cases x with
    | norm => exact fin
    | ret => exact fin
    | exit m => cases hex
    | goto m => cases hex
def isTrue (x : Option (SV × Nat × Mm)) : Bool := match x with | some (.bb true, _, _) => true | _ => false
theorem closed_true (hX : XOk P X) (hPr : PrimsOk P X) (hC : bodiesOk X.E.FT = true) {d f : Nat} (h : isTrue (xN X lf d [] f [] 0 .lf) = true) :
    (∀ args w, (callFunc f args).run P w = .ok (.enter f args) w) ∧ ∀ w, Calls P f #[] w fun e w' => e = .returned (.bool true) ∧ Below w.heap.size w w' := by
  have main : ∀ w, (∀ args w, (callFunc f args).run P w = .ok (.enter f args) w) ∧ CallsIn (FF none) 0 P f (#[] : Array Value) w fun e w' => e = .returned (.bool true) ∧ Below w.heap.size w w' := by
    intro w
    unfold isTrue at h
    split at h
    · rename_i nk' M' hx
      have := xN_ok hX hPr hC (lf := lf) d (.all w) [] f [] 0 (phOf w) [] (fun x _ _ _ => x = .bb true) [] w S0 none 0 ⟨[], .lf, .bb true, nk', M', fun k hx hk => (by cases hk), fun k => rfl, fun k hk => (by cases hk), .nil, hx, fun _ _ _ _ => rfl⟩ (fun k hd hk => by simp [yGet] at hk) trivial (Mem.start w S0)
      refine ⟨this.1, this.2.mono ?_⟩
      rintro e w' ⟨v, x, S', q', L', nk', rfl, hxv, _, hm, _, rfl⟩
      have hxv : v = .bool true := hxv
      exact ⟨by rw [hxv], hm.be.below⟩
    · cases h
  refine ⟨(main default).1, fun w => ?_⟩
  have h3 : CallsIn Fence.wide 0 P f (#[] : Array Value) w _ := (main w).2
  exact callsIn_wide.1 h3
end
end Exe
end Go.Eng
end
