/-
  Texts that the law leans on. Nothing here is trusted.
-/
import Derived.Test.YtnlglgafokjhnaaGreatEngR
set_option linter.unusedVariables false
set_option linter.unusedSimpArgs false
namespace Go.Eng
open Go Go.RowKit
variable {P : Program} {S S' Sb : Pl} {fr : Fr} {L L' : LL} {q q' : PH} {w0 : W0} {w w' : World} {a : Act} {n0 N : Nat} {B : Nat → Prop} {E : Env}
variable {r : Option Nat} {n : Nat} {Q : Exit → Act → World → Prop}
theorem rK_eq {as : As} {nk k : Nat} {K : Nat → Prop} : rK as nk k K = K (ren as nk k) := by
  unfold rK ren
  split
  · rename_i j h; simp
  · rename_i h; rw [fN_eq]
mutual
theorem rSV_eq {as : As} {nk : Nat} : ∀ (x : SV) {K : SV → Prop}, rSV as nk x K = K (renSV (ren as nk) x)
  | .lp k o, K => by simp only [rSV, renSV, rK_eq]
  | .own k, K => by simp only [rSV, renSV, rK_eq]
  | .yl k, K => by simp only [rSV, renSV, rK_eq]
  | .vw k _ _ _ _, K => by simp only [rSV, renSV, rK_eq]
  | .lq k, K => by simp only [rSV, renSV, rK_eq]
  | .ls k _, K => by simp only [rSV, renSV, rK_eq]
  | .mr k, K => by simp only [rSV, renSV, rK_eq]
  | .agg l, K => by simp only [rSV, renSV]; rw [rSVL_eq l]
  | .tup l, K => by simp only [rSV, renSV]; rw [rSVL_eq l]
  | .fn f l, K => by simp only [rSV, renSV]; rw [rSVL_eq l]
  | .v x, K => by simp only [rSV, renSV]; rw [fSV_eq]
  | .bb b, K => by simp only [rSV, renSV]; rw [fSV_eq]
  | .b p d, K => by simp only [rSV, renSV]; rw [fSV_eq]
  | .el A j, K => by simp only [rSV, renSV]; rw [fSV_eq]
  | .bad, K => by simp only [rSV, renSV]; rw [fSV_eq]
theorem rSVL_eq {as : As} {nk : Nat} : ∀ (x : List SV) {K : List SV → Prop}, rSVL as nk x K = K (renL (ren as nk) x)
  | [], K => by simp only [rSVL, renL]
  | x :: r, K => by simp only [rSVL, renL]; rw [rSV_eq x, rSVL_eq r]
end
theorem rLB_eq {as : As} {nk : Nat} (x : LB) {K : LB → Prop} : rLB as nk x K = K (renLB (ren as nk) x) := by
  cases x with
  | cells T l => simp only [rLB, renLB, rSVL_eq]
  | row E sz n l => simp only [rLB, renLB, rSVL_eq]
  | arr E sz n xs => simp only [rLB, renLB]; rw [fLB_eq]
  | dfr => simp only [rLB, renLB]; rw [fLB_eq]
  | mp es c => simp only [rLB, renLB]; rw [fLB_eq]
  | sb E n xs => simp only [rLB, renLB]; rw [fLB_eq]
  | loop st pe => simp only [rLB, renLB]; rw [fLB_eq]
theorem rLL_eq {as : As} {nk : Nat} {rest : LL} : ∀ (l : LL) {K : LL → Prop}, rLL as nk l rest K = K (appL (renLL (ren as nk) l) rest)
  | [], K => by simp only [rLL, renLL, appL_n]
  | (k, x) :: r, K => by simp only [rLL, renLL, appL_c]; rw [rK_eq, rLB_eq, rLL_eq r]
mutual
theorem okv_ren {σ : Nat → Nat} : ∀ (x : SV) {v : Value}, okv S (renSV σ x) v ↔ okv (fun k => S (σ k)) x v
  | .lp _ _, v => by simp [renSV, okv]
  | .own _, v => by simp [renSV, okv]
  | .yl _, v => by simp [renSV, okv]
  | .vw _ _ _ _ _, v => by simp [renSV, okv]
  | .lq _, v => by simp [renSV, okv]
  | .ls _ _, v => by simp [renSV, okv]
  | .mr _, v => by simp [renSV, okv]
  | .agg l, v => by simp only [renSV, okv, okL_ren l]
  | .tup l, v => by simp only [renSV, okv, okL_ren l]
  | .fn f l, v => by simp only [renSV, okv, okL_ren l]
  | .v _, v => by simp [renSV, okv]
  | .bb _, v => by simp [renSV, okv]
  | .b _ _, v => by simp [renSV, okv]
  | .el _ _, v => by simp [renSV, okv]
  | .bad, v => by simp [renSV, okv]
theorem okL_ren {σ : Nat → Nat} : ∀ (l : List SV) {vs : List Value}, okL S (renL σ l) vs ↔ okL (fun k => S (σ k)) l vs
  | [], [] => by simp [renL, okL]
  | [], _ :: _ => by simp [renL, okL]
  | _ :: _, [] => by simp [renL, okL]
  | x :: r, v :: vs => by simp only [renL, okL, okv_ren x, okL_ren r]
end
theorem chunk_ren {σ : Nat → Nat} {k : Nat} {lb : LB} : chunk 0 S (σ k) (renLB σ lb) w ↔ chunk 0 (fun k => S (σ k)) k lb w := by
  cases lb with
  | cells T l => simp only [renLB, chunk, okL_ren]
  | row E sz n l => simp only [renLB, chunk, okL_ren]
  | arr E sz n xs => rfl
  | dfr => rfl
  | mp es c => rfl
  | sb E n xs => rfl
  | loop st pe => rfl
theorem blk_ren {σ : Nat → Nat} {k : Nat} {lb : LB} : blk S (σ k) (renLB σ lb) = blk (fun k => S (σ k)) k lb := by
  cases lb <;> rfl
theorem getL_ren {σ : Nat → Nat} {j : Nat} {y : LB} : ∀ {L : LL}, getL (renLL σ L) j = some y → ∃ k x, σ k = j ∧ y = renLB σ x ∧ getL L k = some x
  | [], h => by cases h
  | (u, x) :: r, h => by
    simp only [renLL, getL_cons] at h
    split at h
    · rename_i e; cases h; exact ⟨u, x, e, rfl, by rw [getL_cons, if_pos rfl]⟩
    · rename_i e
      obtain ⟨k, x', h1, h2, h3⟩ := getL_ren h
      exact ⟨k, x', h1, h2, by rw [getL_cons, if_neg (fun e' => e (by rw [e']; exact h1))]; exact h3⟩
def frameW (q : PH) (w : World) (S : Pl) (L : LL) : W0 := ⟨w, fun b => b < w.heap.size ∧ ∀ k lb, getL L k = some lb → blk S k lb ≠ some b, fun _ h => h.1, fun b => b < w.heap.size ∧ ∀ k lb, getL L k = some lb → blk S k lb ≠ some b, fun _ h => h, q⟩
def CSOk (P : Program) (s : CS) : Prop :=
  (∀ args w, (callFunc s.f args).run P w = .ok (.enter s.f args) w) ∧
  ∀ w q S i vs, s.ok i → RdsOk q (s.rds i) → Mem (frameW q w S (s.L i)) q S (s.L i) w → caOk w (frameW q w S (s.L i)).F S (s.args i) vs →
    Calls P s.f vs.toArray w fun e w' => ∃ v S' q' g, e = .returned v ∧ okv S' (s.resG i g) v ∧ (∀ k, k < s.keys → S' k = S k) ∧ Mem (frameW q w S (s.L i)) q' S' (s.LG i g) w' ∧
      q.le q' ∧ s.okG i g ∧ RdsOk q' (s.rdsG i g) ∧ (s.gr = false → q' = q ∧ s.resG i g = s.res i ∧ s.LG i g = s.L' i)
theorem CSOk.plain {P : Program} {s : CS} (h1 : ∀ args w, (callFunc s.f args).run P w = .ok (.enter s.f args) w)
    (h2 : ∀ w q S i vs, s.ok i → RdsOk q (s.rds i) → Mem (frameW q w S (s.L i)) q S (s.L i) w → caOk w (frameW q w S (s.L i)).F S (s.args i) vs →
      Calls P s.f vs.toArray w fun e w' => ∃ v S', e = .returned v ∧ okv S' (s.res i) v ∧ (∀ k, k < s.keys → S' k = S k) ∧ Mem (frameW q w S (s.L i)) q S' (s.L' i) w')
    (hdef : ∃ g : s.γ, ∀ i, s.resG i g = s.res i ∧ s.LG i g = s.L' i ∧ s.okG i g ∧ s.rdsG i g = [] := by exact ⟨(), fun _ => ⟨rfl, rfl, trivial, rfl⟩⟩) : CSOk P s := by
  refine ⟨h1, fun w q S i vs a b c d => (h2 w q S i vs a b c d).mono ?_⟩
  rintro e w' ⟨v, S', rfl, hv, hS, hm⟩
  obtain ⟨g, hg⟩ := hdef
  obtain ⟨g1, g2, g3, g4⟩ := hg i
  exact ⟨v, S', q, g, rfl, by rw [g1]; exact hv, hS, by rw [g2]; exact hm, fun _ _ _ h => h, g3, by rw [g4]; trivial, fun _ => ⟨rfl, g1, g2⟩⟩
def CSsOk (P : Program) (Δ : List CS) : Prop := ∀ f s, findC Δ f = some s → s.f = f ∧ (s.calm = true → CalmOk P s) ∧ (s.calm = false → CSOk P s)
theorem asLt_get {m nk : Nat} : ∀ {as : As} {k j : Nat}, asLt m nk as = true → asGet as k = some j → k < m ∧ j < nk
  | [], _, _, _, h => by cases h
  | (u, x) :: r, k, j, h, hk => by
    unfold asLt at h
    rw [asGet_cons] at hk
    split at h
    · rename_i h1 h2
      split at hk
      · rename_i e; subst e; cases hk; exact ⟨Nat.le_of_ble_eq_true h1, Nat.le_of_ble_eq_true h2⟩
      · exact asLt_get h hk
    · cases h
theorem callC_ok {s : CS} (hs : CSOk P s) {nk : Nat} {args : List SV} {vs : List Value} {K : SV → Nat → PH → LL → Prop} (hvs : okL S args vs) (hm : Mem w0 q S L w) (h : callC s n0 nk q fr L args K) :
    n0 ≤ nk ∧ ltF nk fr = true ∧ (∀ d, getL L d = some .dfr → d < nk) ∧ Calls P s.f vs.toArray w fun e w' => ∃ v x S' q' L' nk', e = .returned v ∧ okv S' x v ∧ (∀ k, k < nk → S' k = S k) ∧ Mem w0 q' S' L' w' ∧ (∀ d, getL L d = some .dfr → getL L' d = some .dfr) ∧ K x nk' q' L' := by
  unfold callC at h
  split at h
  rotate_left
  · exact h.elim
  rename_i h0 hf hltL
  refine ⟨Nat.le_of_ble_eq_true h0, hf, fun d hd => ltLL_has hltL (getL_hasLL hd (.inl rfl)), ?_⟩
  obtain ⟨i, ⟨hok⟩, ⟨hrd⟩, h⟩ := h
  obtain ⟨as1, ro1, e1, o1, _, h, r1⟩ := mA_ok (S := S) (w := w) (AsOk.nil 0) h
  obtain ⟨as2, e2, o2, h, r2⟩ := mLL_ok (N0 := 0) o1 h
  split at h
  rotate_left
  · exact h.elim
  rename_i has hro hhid
  have hand : ∀ k x, getL (s.L i) k = some x → ∃ j y, asGet as2 k = some j ∧ getL L j = some y ∧ Lies 0 S (sub as2 S) j k y x := fun k x hk => by
    obtain ⟨j, y, g1, g2, g3⟩ := r2 as2 (.refl _) o2 k x hk
    exact ⟨j, y, g1, g2, g3 S⟩
  have hFin : ∀ b, b < w.heap.size → (∀ k x, getL (s.L i) k = some x → blk (sub as2 S) k x ≠ some b) → (frameW q w (sub as2 S) (s.L i)).F b := fun b h1 h2 => ⟨h1, h2⟩
  have hnot : ∀ b, (∀ k x, getL (s.L i) k = some x → ∃ j y, asGet as2 k = some j ∧ getL L j = some y ∧ blk S j y ≠ some b) → ∀ k x, getL (s.L i) k = some x → blk (sub as2 S) k x ≠ some b := fun b hb k x hk => by
    obtain ⟨j, y, g1, g2, g3⟩ := hb k x hk
    obtain ⟨j', y', g1', g2', g4⟩ := hand k x hk
    rw [g1] at g1'; cases g1'
    rw [g2] at g2'; cases g2'
    rw [g4.1]; exact g3
  have hm1 : Mem (frameW q w (sub as2 S) (s.L i)) q (sub as2 S) (s.L i) w := by
    refine ⟨fun k x hk => ?_, fun k x k' x' hk hk' hne b hb hb' => ?_, fun k x hk b hb o => ?_, fun k x hk b hb hF => hF.2 k x hk hb, hm.on, Bel.refl (frameW q w (sub as2 S) (s.L i)), fun _ _ _ hv _ => hv⟩
    · obtain ⟨j, y, g1, g2, g3⟩ := hand k x hk
      exact g3.2 w (hm.ch j y g2)
    · obtain ⟨j, y, g1, g2, g3⟩ := hand k x hk
      obtain ⟨j', y', g1', g2', g3'⟩ := hand k' x' hk'
      rw [g3.1] at hb; rw [g3'.1] at hb'
      exact hm.ap j y j' y' g2 g2' (fun e => hne (o2.inj k k' j g1 (by rw [e]; exact g1'))) b hb hb'
    · obtain ⟨j, y, g1, g2, g3⟩ := hand k x hk
      rw [g3.1] at hb
      exact hm.po j y g2 b hb o
  have hblk : ∀ j y b, getL L j = some y → asHas as2 j = false → blk S j y = some b → (frameW q w (sub as2 S) (s.L i)).F b := fun j y b hj hja hb => by
    refine hFin b (blk_lt (hm.ch j y hj) hb).2 (hnot b fun k x hk => ?_)
    obtain ⟨j', y', g1, g2, g3⟩ := hand k x hk
    exact ⟨j', y', g1, g2, fun e => hm.ap j' y' j y g2 hj (fun e' => by subst e'; rw [asGet_has g1] at hja; cases hja) b e hb⟩
  have hq : ∀ b o v, q b o = some v → (frameW q w (sub as2 S) (s.L i)).F b := fun b o v hv => by
    refine hFin b (on_lt hm.on hv) (hnot b fun k x hk => ?_)
    obtain ⟨j', y', g1, g2, g3⟩ := hand k x hk
    exact ⟨j', y', g1, g2, fun e => by rw [hm.po j' y' g2 b e o] at hv; cases hv⟩
  have hca := r1 as2 vs e2 o2 hro hvs hm.on hm.ch _ hq hblk
  refine (hs.2 w q (sub as2 S) i vs hok hrd hm1 hca).mono ?_
  rintro e w' ⟨v, S', q', g, rfl, hv, hS, hm2, hqq, hokg, hrdg, hgr⟩
  have h : K (renSV (ren as2 nk) (s.resG i g)) (nk + s.more) q' (appL (renLL (ren as2 nk) (s.LG i g)) (restL as2 L)) := by
    cases hg : s.gr with
    | false =>
      rw [hg] at h
      obtain ⟨e1, e2, e3⟩ := hgr hg
      dsimp only at h
      rw [rLL_eq, rSV_eq, fN_eq] at h
      rw [e1, e2, e3]
      exact h
    | true =>
      rw [hg] at h
      have h := h q' g hqq hokg hrdg
      rw [rLL_eq, rSV_eq, fN_eq] at h
      exact h
  let Sc : Pl := fun j => if j < nk then S j else S' (j - nk)
  have hσ : (fun k => Sc (ren as2 nk k)) = S' := by
    funext k
    simp only [Sc, ren]
    split
    · rename_i j hj
      obtain ⟨g1, g2⟩ := asLt_get has hj
      rw [if_pos g2, hS k g1, sub_get hj]
    · rw [if_neg (by omega)]
      congr 1
      omega
  have hlow : ∀ k, k < nk → Sc k = S k := fun k hk => by simp only [Sc]; rw [if_pos hk]
  have hrest : ∀ j y, getL (restL as2 L) j = some y → getL L j = some y ∧ asHas as2 j = false ∧ j < nk := fun j y hj => by
    have g := getL_restL.2 y hj
    have g2 : getL L j = some y := (getL_restL.1 g).symm.trans hj
    exact ⟨g2, g, ltLL_has hltL (getL_hasLL g2 (.inl rfl))⟩
  have hcong : ∀ j y, getL L j = some y → (∀ u, y.has u = true → Sc u = S u) := fun j y hj u hu => hlow u (ltLL_has hltL (getL_hasLL hj (.inr hu)))
  refine ⟨v, _, Sc, q', _, _, rfl, okv_ren _ |>.2 (by rw [hσ]; exact hv), hlow, ?_, fun d hd => ?_, h⟩
  · -- memory, behind the call
    have new : ∀ j y, getL (renLL (ren as2 nk) (s.LG i g)) j = some y → ∃ k x, ren as2 nk k = j ∧ y = renLB (ren as2 nk) x ∧ getL (s.LG i g) k = some x ∧ blk Sc j y = blk S' k x := fun j y hj => by
      obtain ⟨k, x, g1, g2, g3⟩ := getL_ren hj
      refine ⟨k, x, g1, g2, g3, ?_⟩
      rw [← g1, g2, blk_ren, hσ]
    have old : ∀ j y, getL (restL as2 L) j = some y → ∀ b, blk Sc j y = some b → blk S j y = some b ∧ (frameW q w (sub as2 S) (s.L i)).F b := fun j y hj b hb => by
      obtain ⟨g1, g2, g3⟩ := hrest j y hj
      rw [blk_congr (hlow j g3)] at hb
      exact ⟨hb, hblk j y b g1 g2 hb⟩
    refine ⟨fun j y hj => ?_, fun j y j' y' hj hj' hne b hb hb' => ?_, fun j y hj b hb o => ?_, fun j y hj b hb hF => ?_, ?_, ?_, ?_⟩
    · rw [getL_appL] at hj
      split at hj
      · rename_i y' hy'
        cases hj
        obtain ⟨k, x, g1, g2, g3, _⟩ := new j y hy'
        rw [← g1, g2, chunk_ren, hσ]
        exact hm2.ch k x g3
      · obtain ⟨g1, g2, g3⟩ := hrest j y hj
        refine chunk_congr (hlow j g3) (hcong j y g1) ?_
        refine chunk_same (hm.ch j y g1) fun b hb => ?_
        exact hm2.be.block b (hblk j y b g1 g2 hb)
    · rw [getL_appL] at hj hj'
      split at hj <;> split at hj'
      · rename_i h1 _ y2 h2
        cases hj; cases hj'
        obtain ⟨k, x, g1, g2, g3, g4⟩ := new j y h1
        obtain ⟨k', x', g1', g2', g3', g4'⟩ := new j' y' h2
        rw [g4] at hb; rw [g4'] at hb'
        exact hm2.ap k x k' x' g3 g3' (fun e => hne (by rw [← g1, ← g1', e])) b hb hb'
      · rename_i h1 _ h2
        cases hj
        obtain ⟨k, x, g1, g2, g3, g4⟩ := new j y h1
        rw [g4] at hb
        exact hm2.fz k x g3 b hb (old j' y' hj' b hb').2
      · rename_i h1 _ y2 h2
        cases hj'
        obtain ⟨k, x, g1, g2, g3, g4⟩ := new j' y' h2
        rw [g4] at hb'
        exact hm2.fz k x g3 b hb' (old j y hj b hb).2
      · obtain ⟨g1, g2, g3⟩ := hrest j y hj
        obtain ⟨g1', g2', g3'⟩ := hrest j' y' hj'
        exact hm.ap j y j' y' g1 g1' hne b (old j y hj b hb).1 (old j' y' hj' b hb').1
    · rw [getL_appL] at hj
      split at hj
      · rename_i y' hy'
        cases hj
        obtain ⟨k, x, g1, g2, g3, g4⟩ := new j y hy'
        rw [g4] at hb
        exact hm2.po k x g3 b hb o
      · obtain ⟨g1, g2, g3⟩ := hrest j y hj
        cases hq' : q' b o with
        | none => rfl
        | some v' =>
          have := hm2.gw b o v' hq' (old j y hj b hb).2
          have this : q b o = some v' := this
          rw [hm.po j y g1 b (old j y hj b hb).1 o] at this
          cases this
    · rw [getL_appL] at hj
      split at hj
      · rename_i y' hy'
        cases hj
        obtain ⟨k, x, g1, g2, g3, g4⟩ := new j y hy'
        rw [g4] at hb
        refine hm2.fz k x g3 b hb (hFin b (Nat.lt_of_lt_of_le (w0.lt b hF) hm.be.size) (hnot b fun k' x' hk' => ?_))
        obtain ⟨j', y', p1, p2, p3⟩ := hand k' x' hk'
        exact ⟨j', y', p1, p2, fun e => hm.fz j' y' p2 b e hF⟩
      · obtain ⟨g1, g2, g3⟩ := hrest j y hj
        exact hm.fz j y g1 b (old j y hj b hb).1 hF
    · exact hm2.on
    · refine ⟨hm2.be.os.trans hm.be.os, hm2.be.tape.trans hm.be.tape, hm2.be.output.trans hm.be.output, Nat.le_trans hm.be.size hm2.be.size, fun b hF => ?_⟩
      refine (hm2.be.block b (hFin b (Nat.lt_of_lt_of_le (w0.lt b hF) hm.be.size) (hnot b fun k' x' hk' => ?_))).trans (hm.be.block b hF)
      obtain ⟨j', y', p1, p2, p3⟩ := hand k' x' hk'
      exact ⟨j', y', p1, p2, fun e => hm.fz j' y' p2 b e hF⟩
    · intro b o v' hv' hF
      refine hm.gw b o v' (hm2.gw b o v' hv' (hFin b (Nat.lt_of_lt_of_le (w0.lt b hF) hm.be.size) (hnot b fun k' x' hk' => ?_))) hF
      obtain ⟨j', y', p1, p2, p3⟩ := hand k' x' hk'
      exact ⟨j', y', p1, p2, fun e => hm.fz j' y' p2 b e hF⟩
  · have g := hidFree_ok hhid hd
    have g2 : getL (restL as2 L) d = some .dfr := (getL_restL.1 g).trans hd
    rw [getL_appL]
    split
    · rename_i x hx
      exfalso
      obtain ⟨k, x', g3, g4, g5⟩ := getL_ren hx
      have hdn := (hrest d _ g2).2.2
      unfold ren at g3
      split at g3
      · rename_i j hj
        subst g3
        rw [asGet_has hj] at g
        cases g
      · omega
    · exact g2
def GOk (P : Program) (E : Env) : Prop := SpecsOk P E.Γ ∧ CSsOk P E.Δ
theorem GOk.calm (h : GOk P E) : CalmsOk P E.Δ := fun f s hs => ⟨(h.2 f s hs).1, (h.2 f s hs).2.1⟩
theorem Cfg.frame {fr' : Fr} (hc : Cfg w0 Sb B n0 N S q fr L a w) (hf : okF S fr' a.tmps) : Cfg w0 Sb B n0 N S q fr' L a w := ⟨hc.ag, hc.b, hc.m, hf, hc.n, hc.d⟩
theorem okF_setF {tm : Array Value} {t : Nat} {x : SV} (h : okF S fr tm) (hx : okv S x (tm.getD t undef)) : okF S (setF fr t x) tm := by
  intro u
  unfold setF
  rw [get_cons]
  split
  · rename_i e; subst e; exact hx
  · exact h u
theorem Mem.relabel {k : Nat} {lb lb' : LB} (h : Mem w0 q S L w) (hk : getL L k = some lb) (hc : chunk 0 S k lb' w) (hb : blk S k lb' = blk S k lb) : Mem w0 q S (setL L k lb') w := by
  have g : ∀ j l, getL (setL L k lb') j = some l → ∃ l', getL L j = some l' ∧ blk S j l = blk S j l' ∧ chunk 0 S j l w := fun j l hj => by
    rw [getL_setL] at hj
    split at hj
    · rename_i e; subst e; rw [hk] at hj; cases hj; exact ⟨lb, hk, hb, hc⟩
    · exact ⟨l, hj, rfl, h.ch j l hj⟩
  refine ⟨fun j l hj => ?_, fun j l j' l' hj hj' hne b hb1 hb2 => ?_, fun j l hj b hb1 o => ?_, fun j l hj b hb1 => ?_, h.on, h.be, h.gw⟩
  · obtain ⟨_, _, _, h3⟩ := g j l hj; exact h3
  · obtain ⟨x, h1, h2, _⟩ := g j l hj
    obtain ⟨x', h1', h2', _⟩ := g j' l' hj'
    rw [h2] at hb1; rw [h2'] at hb2
    exact h.ap j x j' x' h1 h1' hne b hb1 hb2
  · obtain ⟨x, h1, h2, _⟩ := g j l hj; rw [h2] at hb1; exact h.po j x h1 b hb1 o
  · obtain ⟨x, h1, h2, _⟩ := g j l hj; rw [h2] at hb1; exact h.fz j x h1 b hb1
theorem nil_new {n0 nk e sz : Nat} {K : LL → Prop} (hc : Cfg w0 Sb B n0 N S q fr L a w) (h : newK n0 nk fr L (.arr e (sz + 1) 0 []) K) :
    ∃ S', Cfg w0 Sb B n0 N S' q fr ((nk, .arr e (sz + 1) 0 []) :: L) a w ∧ okv S' (.own nk) (.slice none 0 0) ∧ (∀ k, k ≠ nk → S' k = S k) ∧ K ((nk, .arr e (sz + 1) 0 []) :: L) := by
  obtain ⟨h0, h1, h2, hK⟩ := newK_ok h
  have hm : Mem w0 q (updS S nk (locOf none 0 0)) ((nk, .arr e (sz + 1) 0 []) :: L) w :=
    hc.m.new h2 (Below.refl _ w) (chunk_arr (World.ownsRow_nil w 0 e (sz + 1)) (by omega) (fun x hx => by cases hx) (.inl rfl)) (fun b hb => by simp [blk, updS_same, locOf] at hb)
  exact ⟨_, hc.new h0 h1 h2 hm, by simp [okv, updS_same, locOf], fun k hk => updS_other hk, hK⟩
theorem nilF_ok : ∀ {ts : List (Nat × Nat × Nat × Nat)} {n0 nk : Nat} {S : Pl} {fr : Fr} {L : LL} {K : Nat → Fr → LL → Prop}, Cfg w0 Sb B n0 N S q fr L a w → nilF ts n0 nk fr L K →
    ∃ S' fr' L' nk', Cfg w0 Sb B n0 N S' q fr' L' a w ∧ K nk' fr' L'
  | [], n0, nk, S, fr, L, K, hc, h => ⟨S, fr, L, nk, hc, h⟩
  | (t, o, e, sz) :: r, n0, nk, S, fr, L, K, hc, h => by
    unfold nilF at h
    split at h
    · exact h.elim
    rename_i sz
    have ht := hc.f t
    split at h
    · rename_i eg
      unfold nilAt at eg
      split at eg
      · cases eg
      rw [eg] at ht
      obtain ⟨S', hc', hv, _, hK⟩ := nil_new hc h
      rw [fN_eq] at hK
      have ht : a.tmps.getD t undef = .slice none 0 0 := ht
      exact nilF_ok (hc'.frame (okF_setF hc'.f (by rw [ht]; exact hv))) hK
    · rename_i k x eg
      split at h
      · rename_i T cs hk
        split at h
        · rename_i hn
          obtain ⟨S', hc', hv, hS, hK⟩ := nil_new hc h
          rw [fLL_eq, fN_eq] at hK
          have hkn : k ≠ nk := fun e' => by
            subst e'
            obtain ⟨_, _, h2, _⟩ := newK_ok h
            rw [getL_hasLL hk (.inl rfl)] at h2
            cases h2
          have hk' : getL ((nk, LB.arr e (sz + 1) 0 []) :: L) k = some (.cells T cs) := by rw [getL_cons, if_neg (fun e' => hkn e'.symm)]; exact hk
          obtain ⟨g1, vs, g2, g3⟩ := hc'.m.ch k _ hk'
          obtain ⟨u, hu, hu2⟩ := okL_nth g3 hn
          have hu2 : u = .slice none 0 0 := hu2
          subst hu2
          have g4 : okL S' (setN cs o (.own nk)) vs := by
            have := okL_set o g3 hv
            rwa [List.set_getElem?_self' hu] at this
          exact nilF_ok (hc'.turn hk' (by simp) (hc'.m.relabel (lb' := .cells T (setN cs o (.own nk))) hk' ⟨g1, vs, g2, g4⟩ rfl)) hK
        · exact nilF_ok hc h
      · exact nilF_ok hc h
    · exact nilF_ok hc h
where
  List.set_getElem?_self' {α : Type} {l : List α} {i : Nat} {x : α} (h : l[i]? = some x) : l.set i x = l := by
    apply List.ext_getElem?
    intro j
    rw [List.getElem?_set]
    split
    · rename_i e; subst e
      split
      · exact h.symm
      · rename_i h2; rw [List.getElem?_eq_none (by omega)] at h; cases h
    · rfl
end Go.Eng
