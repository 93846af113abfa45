/-
  Texts that the law leans on. Nothing here is trusted.
-/
import Derived.Test.YtnlglgafokjhnaaGreatEngF
import Derived.Deep.AppendLies
import Derived.Laws.MakeOwn
import Derived.TacticsIn
set_option linter.unusedVariables false
set_option linter.unusedSimpArgs false
namespace Go.Eng
open Go Go.RowKit
variable {P : Program} {T : Tab} {Γ : List Spec} {S S' : Pl} {fr : Fr} {L : LL} {q : PH} {w0 : W0} {w w' : World} {a : Act}
structure Mem (w0 : W0) (q : PH) (S : Pl) (L : LL) (w : World) : Prop where
  ch : ∀ k lb, getL L k = some lb → chunk 0 S k lb w
  ap : ∀ k lb k' lb', getL L k = some lb → getL L k' = some lb' → k ≠ k' → ∀ b, blk S k lb = some b → blk S k' lb' ≠ some b
  po : ∀ k lb, getL L k = some lb → ∀ b, blk S k lb = some b → ∀ o, q b o = none
  fz : ∀ k lb, getL L k = some lb → ∀ b, blk S k lb = some b → ¬ w0.F b
  on : PH.on q w
  be : Bel w0 w
  gw : ∀ b o v, q b o = some v → w0.F b → w0.q b o = some v
theorem Mem.cl (h : Mem w0 q S L w) : Cl w0 q S L w w := ⟨fun _ _ _ _ _ => rfl, h.on, h.be⟩
theorem blk_lt {k : Nat} {lb : LB} {N0 : Nat} (h : chunk N0 S k lb w) {b : Nat} (hb : blk S k lb = some b) : N0 ≤ b ∧ b < w.heap.size := by
  have lt : ∀ {o : Obj} {b : Nat}, w.heap[b]? = some o → b < w.heap.size := fun h => (Array.getElem?_eq_some_iff.1 h).1
  cases lb with
  | cells T cs => cases hb; obtain ⟨h1, vs, h2, _⟩ := h; exact ⟨h1, lt h2⟩
  | dfr => cases hb; exact ⟨h.1, lt h.2⟩
  | mp es c => cases hb; exact ⟨h.1, lt h.2⟩
  | sb E n xs => cases hb; obtain ⟨h1, _, _, _, _, _, _, h6, _⟩ := h; exact ⟨h1, lt h6⟩
  | loop st pe => cases hb; exact ⟨h.1, lt h.2⟩
  | arr E sz n xs =>
    obtain ⟨h1, h2, h3, h4, h5⟩ := h
    refine h1.lt b ?_
    simp only [blk] at hb
    cases hA : (S k).A with
    | none => rw [hA] at hb; cases hb
    | some ad => rw [hA] at hb; simpa [Value.ownBlock] using hb
  | row E sz n cs =>
    obtain ⟨xs, ⟨h1, h2, h3, h4, h5⟩, _⟩ := h
    refine h1.lt b ?_
    simp only [blk] at hb
    cases hA : (S k).A with
    | none => rw [hA] at hb; cases hb
    | some ad => rw [hA] at hb; simpa [Value.ownBlock] using hb
theorem on_lt (h : PH.on q w) {b o : Nat} {v : Value} (hq : q b o = some v) : b < w.heap.size := World.block_lt_of_cell? w _ (h b o v hq)
theorem Cl.below {w1 : World} (hch : ∀ k lb, getL L k = some lb → chunk 0 S k lb w1) (h : Cl w0 q S L w1 w) (hb : Below w.heap.size w w') : Cl w0 q S L w1 w' := by
  refine ⟨fun k lb hk b hbk => ?_, fun b o v hv => ?_, h.be.trans hb⟩
  · have h1 := h.ch k lb hk b hbk
    have h2 := (blk_lt (chunk_same (hch k lb hk) (h.ch k lb hk)) hbk).2
    exact (hb.block b h2).trans h1
  · have h1 := h.on b o v hv
    exact (hb.cell (World.block_lt_of_cell? w _ h1)).trans h1
theorem Mem.of_cl (h : Mem w0 q S L w) (hc : Cl w0 q S L w w') : Mem w0 q S L w' :=
  ⟨fun k lb hk => chunk_same (h.ch k lb hk) (hc.ch k lb hk), h.ap, h.po, h.fz, hc.on, hc.be, h.gw⟩
theorem Mem.below (h : Mem w0 q S L w) (hb : Below w.heap.size w w') : Mem w0 q S L w' := h.of_cl (Cl.below h.ch h.cl hb)
mutual
theorem okv_congr : ∀ (x : SV) {v : Value}, (∀ k, x.has k = true → S' k = S k) → okv S x v → okv S' x v
  | .bad, _, _, _ => trivial
  | .v _, _, _, h => h
  | .bb _, _, _, h => h
  | .b _ _, _, _, h => h
  | .el _ _, _, _, h => h
  | .lp k o, v, hk, h => by have := hk k (by simp [SV.has]); simp only [okv, this] at h ⊢; exact h
  | .own k, v, hk, h => by have := hk k (by simp [SV.has]); simp only [okv, this] at h ⊢; exact h
  | .yl k, v, hk, h => by have := hk k (by simp [SV.has]); simp only [okv, this] at h ⊢; exact h
  | .vw k _ _ _ _, v, hk, h => by have := hk k (by simp [SV.has]); simp only [okv, this] at h ⊢; exact h
  | .ls k n, v, hk, h => by have := hk k (by simp [SV.has]); simp only [okv, this] at h ⊢; exact h
  | .mr k, v, hk, h => by have := hk k (by simp [SV.has]); simp only [okv, this] at h ⊢; exact h
  | .lq k, v, hk, h => by have := hk k (by simp [SV.has]); simp only [okv, this] at h ⊢; exact h
  | .agg cs, v, hk, h => by obtain ⟨vs, rfl, h⟩ := h; exact ⟨vs, rfl, okL_congr cs (fun k hk' => hk k (by simpa [SV.has] using hk')) h⟩
  | .tup cs, v, hk, h => by obtain ⟨vs, rfl, h⟩ := h; exact ⟨vs, rfl, okL_congr cs (fun k hk' => hk k (by simpa [SV.has] using hk')) h⟩
  | .fn f cs, v, hk, h => by obtain ⟨vs, rfl, h⟩ := h; exact ⟨vs, rfl, okL_congr cs (fun k hk' => hk k (by simpa [SV.has] using hk')) h⟩
theorem okL_congr : ∀ (l : List SV) {vs : List Value}, (∀ k, hasL k l = true → S' k = S k) → okL S l vs → okL S' l vs
  | [], [], _, _ => trivial
  | [], _ :: _, _, h => by cases h
  | _ :: _, [], _, h => by cases h
  | x :: r, v :: vs, hk, h => ⟨okv_congr x (fun k hk' => hk k (by simp [hasL, hk'])) h.1, okL_congr r (fun k hk' => hk k (by unfold hasL; split <;> simp_all)) h.2⟩
end
theorem get_has : ∀ {fr : Fr} {t k : Nat}, (get fr t).has k = true → hasF k fr = true
  | [], t, k, h => by simp [get_n, SV.has] at h
  | (u, x) :: r, t, k, h => by
    rw [get_c] at h
    rw [hasF_c]
    split at h
    · rw [h]
    · split
      · rfl
      · exact get_has h
theorem okF_congr {tm : Array Value} (hk : ∀ k, hasF k fr = true → S' k = S k) (h : okF S fr tm) : okF S' fr tm :=
  fun t => okv_congr _ (fun k h' => hk k (get_has h')) (h t)
theorem getL_hasLL : ∀ {L : LL} {k j : Nat} {lb : LB}, getL L j = some lb → (j = k ∨ lb.has k = true) → hasLL k L = true
  | [], _, _, _, h, _ => by cases h
  | (u, y) :: r, k, j, lb, h, ho => by
    rw [getL_c] at h
    rw [hasLL_c]
    split at h
    · rename_i hu
      cases h
      have hu := Nat.eq_of_beq_eq_true hu
      subst hu
      rcases ho with rfl | hc
      · simp
      · split
        · rfl
        · simp [hc]
    · split
      · rfl
      · split
        · rfl
        · exact getL_hasLL h ho
theorem chunk_congr {N0 : Nat} {k : Nat} {lb : LB} (h1 : S' k = S k) (h2 : ∀ j, lb.has j = true → S' j = S j) (h : chunk N0 S k lb w) : chunk N0 S' k lb w := by
  cases lb with
  | cells T cs => obtain ⟨a1, vs, a2, a3⟩ := h; exact ⟨by rw [h1]; exact a1, vs, by rw [h1]; exact a2, okL_congr cs h2 a3⟩
  | row E sz n cs => obtain ⟨xs, a2, a3⟩ := h; exact ⟨xs, by rw [h1]; exact a2, okL_congr cs h2 a3⟩
  | arr E sz n xs => simp only [chunk, h1] at h ⊢; exact h
  | dfr => simp only [chunk, h1] at h ⊢; exact h
  | mp es c => simp only [chunk, h1] at h ⊢; exact h
  | sb E n xs => simp only [chunk, h1] at h ⊢; exact h
  | loop st pe => simp only [chunk, h1] at h ⊢; exact h
theorem blk_congr {k : Nat} {lb : LB} (h : S' k = S k) : blk S' k lb = blk S k lb := by cases lb <;> simp [blk, h]
theorem Mem.congr (h : Mem w0 q S L w) (hk : ∀ k, hasLL k L = true → S' k = S k) : Mem w0 q S' L w := by
  have e : ∀ k lb, getL L k = some lb → S' k = S k := fun k lb hl => hk k (getL_hasLL hl (.inl rfl))
  refine ⟨fun k lb hl => chunk_congr (e k lb hl) (fun j hj => hk j (getL_hasLL hl (.inr hj))) (h.ch k lb hl), fun k lb k' lb' hl hl' hne b hb => ?_, fun k lb hl b hb => ?_, fun k lb hl b hb => ?_, h.on, h.be, h.gw⟩
  · rw [blk_congr (e k lb hl)] at hb
    rw [blk_congr (e k' lb' hl')]
    exact h.ap k lb k' lb' hl hl' hne b hb
  · rw [blk_congr (e k lb hl)] at hb
    exact h.po k lb hl b hb
  · rw [blk_congr (e k lb hl)] at hb
    exact h.fz k lb hl b hb
theorem getL_cons {k j : Nat} {x : LB} : getL ((k, x) :: L) j = if k = j then some x else getL L j := by
  simp only [getL_c]
  by_cases h : k = j
  · subst h; simp
  · have : Nat.beq k j = false := by rw [Bool.eq_false_iff]; exact fun e => h (Nat.eq_of_beq_eq_true e)
    simp [this, h]
theorem get_cons {t u : Nat} {x : SV} : get ((t, x) :: fr) u = if t = u then x else get fr u := by
  simp only [get_c]
  by_cases h : t = u
  · subst h; simp
  · have : Nat.beq t u = false := by rw [Bool.eq_false_iff]; exact fun e => h (Nat.eq_of_beq_eq_true e)
    simp [this, h]
theorem okF_put {tm : Array Value} {d : Nat} {x : SV} {v : Value} (h : okF S fr tm) (hx : okv S x v) (hd : d < tm.size) : okF S ((d, x) :: fr) (tm.setIfInBounds d v) := by
  intro t
  rw [get_cons]
  by_cases e : d = t
  · subst e
    simpa [hd] using hx
  · rw [if_neg e]
    have := h t
    simpa [Array.getElem?_setIfInBounds_ne e] using this
theorem getL_setL {k j : Nat} {x : LB} : ∀ {L : LL}, getL (setL L k x) j = if k = j then (getL L k).map (fun _ => x) else getL L j
  | [] => by simp [setL_n, getL_n]
  | (u, y) :: r => by
    simp only [setL_c]
    by_cases h : u = k
    · subst h
      simp only [Nat.beq_refl, getL_cons]
      by_cases e : u = j <;> simp [e]
    · have hb : Nat.beq u k = false := by rw [Bool.eq_false_iff]; exact fun e => h (Nat.eq_of_beq_eq_true e)
      simp only [hb, getL_cons, getL_setL (L := r)]
      by_cases e : k = j
      · subst e
        simp [h]
      · simp [e]
theorem getL_remL {k j : Nat} : ∀ {L : LL}, getL (remL L k) j = if k = j then none else getL L j
  | [] => by simp [remL_n, getL_n]
  | (u, y) :: r => by
    simp only [remL_c]
    by_cases h : u = k
    · subst h
      simp only [Nat.beq_refl, getL_remL (L := r), getL_cons]
      by_cases e : u = j <;> simp [e]
    · have hb : Nat.beq u k = false := by rw [Bool.eq_false_iff]; exact fun e => h (Nat.eq_of_beq_eq_true e)
      simp only [hb, getL_cons, getL_remL (L := r)]
      by_cases e : k = j
      · subst e
        simp [h]
      · simp [e]
def updS (S : Pl) (k : Nat) (l : Loc) : Pl := fun j => if j = k then l else S j
theorem updS_same {k : Nat} {l : Loc} : updS S k l k = l := by simp [updS]
theorem updS_other {k j : Nat} {l : Loc} (h : j ≠ k) : updS S k l j = S j := by simp [updS, h]
theorem Mem.new {key : Nat} {lb : LB} {l : Loc} (h : Mem w0 q S L w) (hf : hasLL key L = false) (hb : Below w.heap.size w w')
    (hc : chunk 0 (updS S key l) key lb w') (hn : ∀ b, blk (updS S key l) key lb = some b → w.heap.size ≤ b) : Mem w0 q (updS S key l) ((key, lb) :: L) w' := by
  have hne : ∀ k, hasLL k L = true → updS S key l k = S k := fun k hk => updS_other (fun e => by subst e; rw [hf] at hk; cases hk)
  have h2 := (h.below hb).congr hne
  have fresh : ∀ k lb', getL L k = some lb' → ∀ b, blk (updS S key l) k lb' = some b → b < w.heap.size := fun k lb' hk b hbk => by
    rw [blk_congr (hne k (getL_hasLL hk (.inl rfl)))] at hbk
    exact (blk_lt (h.ch k lb' hk) hbk).2
  refine ⟨fun k lb' hk => ?_, fun k1 l1 k2 l2 hk1 hk2 hne' b hb1 hb2 => ?_, fun k lb' hk b hbk o => ?_, fun k lb' hk b hbk hF => ?_, h2.on, h2.be, h2.gw⟩
  · rw [getL_cons] at hk
    split at hk
    · rename_i e; subst e; cases hk; exact hc
    · exact h2.ch k lb' hk
  · rw [getL_cons] at hk1 hk2
    split at hk1
    · rename_i e; subst e; cases hk1
      rw [if_neg hne'] at hk2
      have := fresh k2 l2 hk2 b hb2
      have := hn b hb1
      omega
    · split at hk2
      · rename_i e; subst e; cases hk2
        have := fresh k1 l1 hk1 b hb1
        have := hn b hb2
        omega
      · exact h2.ap k1 l1 k2 l2 hk1 hk2 hne' b hb1 hb2
  · rw [getL_cons] at hk
    split at hk
    · rename_i e; subst e; cases hk
      cases hq : q b o with
      | none => rfl
      | some v => have := on_lt h.on hq; have := hn b hbk; omega
    · exact h2.po k lb' hk b hbk o
  · rw [getL_cons] at hk
    split at hk
    · rename_i e; subst e; cases hk
      have := hn b hbk
      have := w0.lt b hF
      have := h.be.size
      omega
    · exact h2.fz k lb' hk b hbk hF
theorem Mem.turn {k : Nat} {lb lb' : LB} {b : Nat} (h : Mem w0 q S L w) (hk : getL L k = some lb) (hb : blk S k lb = some b) (hg : w.grownBy w' (some b))
    (hc : chunk 0 S k lb' w') (hb' : blk S k lb' = some b) : Mem w0 q S (setL L k lb') w' := by
  have same : ∀ c, c < w.heap.size → c ≠ b → w'.heap[c]? = w.heap[c]? := fun c hc hne => hg.block c hc (fun e => hne (by injection e))
  refine ⟨fun j l hj => ?_, fun k1 l1 k2 l2 hk1 hk2 hne' c hb1 hb2 => ?_, fun j l hj c hcj o => ?_, fun j l hj c hcj => ?_, fun c o v hv => ?_, ?_, h.gw⟩
  · rw [getL_setL] at hj
    split at hj
    · rename_i e; subst e; rw [hk] at hj; cases hj; exact hc
    · rename_i e
      refine chunk_same (h.ch j l hj) fun c hcj => same c (blk_lt (h.ch j l hj) hcj).2 fun e' => ?_
      subst e'
      exact h.ap k lb j l hk hj e c hb hcj
  · rw [getL_setL] at hk1 hk2
    split at hk1
    · rename_i e; subst e
      rw [if_neg hne'] at hk2
      rw [hk] at hk1; cases hk1
      rw [hb'] at hb1; cases hb1
      exact h.ap k lb k2 l2 hk hk2 hne' b hb hb2
    · rename_i e1
      split at hk2
      · rename_i e; subst e
        rw [hk] at hk2; cases hk2
        rw [hb'] at hb2; cases hb2
        exact h.ap k1 l1 k lb hk1 hk hne' b hb1 hb
      · exact h.ap k1 l1 k2 l2 hk1 hk2 hne' c hb1 hb2
  · rw [getL_setL] at hj
    split at hj
    · rename_i e; subst e
      rw [hk] at hj; cases hj
      rw [hb'] at hcj; cases hcj
      exact h.po k lb hk b hb o
    · exact h.po j l hj c hcj o
  · rw [getL_setL] at hj
    split at hj
    · rename_i e; subst e
      rw [hk] at hj; cases hj
      rw [hb'] at hcj; cases hcj
      exact h.fz k lb hk b hb
    · exact h.fz j l hj c hcj
  · have h1 := h.on c o v hv
    have hne : c ≠ b := fun e => by subst e; rw [h.po k lb hk c hb o] at hv; cases hv
    exact (World.cell?_of_block (w := w) (same c (on_lt h.on hv) hne)).trans h1
  · exact h.be.grown hg (fun j e => by cases e; exact h.fz k lb hk b hb)
theorem Mem.rem (h : Mem w0 q S L w) (k : Nat) : Mem w0 q S (remL L k) w := by
  have g : ∀ {j lb}, getL (remL L k) j = some lb → getL L j = some lb := fun {j lb} hj => by
    rw [getL_remL] at hj
    split at hj
    · cases hj
    · exact hj
  exact ⟨fun j lb hj => h.ch j lb (g hj), fun k1 l1 k2 l2 h1 h2 => h.ap k1 l1 k2 l2 (g h1) (g h2), fun j lb hj => h.po j lb (g hj), fun j lb hj => h.fz j lb (g hj), h.on, h.be, h.gw⟩
end Go.Eng
