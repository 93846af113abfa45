/-
  Texts that the law leans on. Nothing here is trusted.
-/
import Derived.Test.YtnlglgafokjhnaaGreatEngN
set_option linter.unusedVariables false
set_option linter.unusedSimpArgs false
namespace Go.Eng
open Go Go.RowKit
variable {P : Program} {S S' Sb : Pl} {fr : Fr} {L L' : LL} {q q' : PH} {w0 : W0} {w w' : World} {a : Act} {n0 N : Nat} {B : Nat → Prop} {E : Env}
variable {r : Option Nat} {n : Nat} {Q : Exit → Act → World → Prop}
theorem mapR_eq {α β : Type} (f : α → β) : ∀ l : List α, mapR f l = l.map f
  | [] => rfl
  | x :: r => congrArg (List.cons (f x)) (mapR_eq f r)
theorem okv_fz0 {k : Nat} {x : SV} {u : Value} (h : okv S x u) : okv S (fz0 k (.slice (S k).A (S k).n (S k).c) x) u := by
  cases x with
  | own j =>
    show okv S (match Nat.beq j k with | true => SV.v (.slice (S k).A (S k).n (S k).c) | false => .own j) u
    cases e : Nat.beq j k with
    | true =>
      have := Nat.eq_of_beq_eq_true e
      subst this
      exact h
    | false => exact h
  | _ => exact h
theorem okL_map {f : SV → SV} (hf : ∀ x u, okv S x u → okv S (f x) u) : ∀ {cs : List SV} {vs : List Value}, okL S cs vs → okL S (cs.map f) vs
  | [], [], _ => trivial
  | _ :: _, _ :: _, h => ⟨hf _ _ h.1, okL_map hf h.2⟩
  | [], _ :: _, h => h.elim
  | _ :: _, [], h => h.elim
theorem okv_fz1 {k : Nat} {x : SV} {u : Value} (h : okv S x u) : okv S (fz1 k (.slice (S k).A (S k).n (S k).c) x) u := by
  cases x with
  | agg cs =>
    obtain ⟨vs, e, h⟩ := h
    refine ⟨vs, e, ?_⟩
    rw [mapR_eq]
    exact okL_map (fun _ _ h => okv_fz0 h) h
  | _ => exact okv_fz0 (k := k) h
theorem okv_fz2 {k : Nat} {x : SV} {u : Value} (h : okv S x u) : okv S (fz2 k (.slice (S k).A (S k).n (S k).c) x) u := by
  cases x with
  | tup cs =>
    obtain ⟨vs, e, h⟩ := h
    refine ⟨vs, e, ?_⟩
    rw [mapR_eq]
    exact okL_map (fun _ _ h => okv_fz1 h) h
  | fn f cs =>
    obtain ⟨vs, e, h⟩ := h
    refine ⟨vs, e, ?_⟩
    rw [mapR_eq]
    exact okL_map (fun _ _ h => okv_fz1 h) h
  | _ => exact okv_fz1 (k := k) h
theorem get_fzF {k : Nat} {v : Value} {t : Nat} : ∀ {fr : Fr}, get (fzF k v fr) t = fz2 k v (get fr t)
  | [] => rfl
  | (u, x) :: r => by
    show get ((u, fz2 k v x) :: fzF k v r) t = _
    rw [get_cons, get_cons, get_fzF (fr := r)]
    split <;> rfl
theorem getL_fzLL {k : Nat} {v : Value} {j : Nat} : ∀ {L : LL}, getL (fzLL k v L) j = (getL L j).map (fzLB k v)
  | [] => rfl
  | (u, x) :: r => by
    show getL ((u, fzLB k v x) :: fzLL k v r) j = _
    rw [getL_cons, getL_cons, getL_fzLL (L := r)]
    split <;> rfl
theorem blk_fzLB {k j : Nat} {v : Value} {lb : LB} : blk S j (fzLB k v lb) = blk S j lb := by cases lb <;> rfl
theorem chunk_fzLB {k j : Nat} {lb : LB} (h : chunk 0 S j lb w) : chunk 0 S j (fzLB k (.slice (S k).A (S k).n (S k).c) lb) w := by
  cases lb with
  | cells T cs =>
    obtain ⟨h1, vs, h2, h3⟩ := h
    refine ⟨h1, vs, h2, ?_⟩
    rw [mapR_eq]
    exact okL_map (fun _ _ h => okv_fz2 h) h3
  | row E sz n cs =>
    obtain ⟨xs, h2, h3⟩ := h
    refine ⟨xs, h2, ?_⟩
    rw [mapR_eq]
    exact okL_map (fun _ _ h => okv_fz2 h) h3
  | _ => exact h
theorem cell_of_cells {w : World} {b o t : Nat} {cur : Array Value} {fz : Nat × Nat} (h : w.heap[b]? = some (.cells cur t fz)) : w.cell? ⟨b, o, none⟩ = cur[o]? := by simp [World.cell?, h]
def addPH (q : PH) (b : Nat) (xs : List Value) : PH := fun c o => if c = b then xs[o]? else q c o
theorem frz_ok {k e sz n : Nat} {xs : List Value} (hc : Cfg w0 Sb B n0 N S q fr L a w) (hk : getL L k = some (.arr e sz n xs)) :
    ∃ q', q.le q' ∧ n ≤ (S k).c ∧ Reads q' (S k).A xs ∧ Cfg w0 Sb B n0 N S q' (fzF k (.slice (S k).A n (S k).c) fr) (fzLL k (.slice (S k).A n (S k).c) (remL L k)) a w := by
  have hch := hc.m.ch k _ hk
  obtain ⟨⟨h1, h2⟩, h3, h4, h5, h6⟩ := hch
  have hm := hc.m.rem k
  have mk : ∀ q', (PH.on q' w) → (∀ j lb, getL (remL L k) j = some lb → ∀ b, blk S j lb = some b → ∀ o, q' b o = none) → (∀ b o v, q' b o = some v → w0.F b → w0.q b o = some v) → Cfg w0 Sb B n0 N S q' (fzF k (.slice (S k).A n (S k).c) fr) (fzLL k (.slice (S k).A n (S k).c) (remL L k)) a w := fun q' hon hpo hgw => by
    rw [← h3]
    have g : ∀ {j lb}, getL (fzLL k (.slice (S k).A (S k).n (S k).c) (remL L k)) j = some lb → ∃ l0, getL (remL L k) j = some l0 ∧ lb = fzLB k (.slice (S k).A (S k).n (S k).c) l0 := fun {j lb} hj => by
      rw [getL_fzLL] at hj
      cases hl : getL (remL L k) j with
      | none => rw [hl] at hj; cases hj
      | some l0 => rw [hl] at hj; exact ⟨l0, rfl, by simpa using hj.symm⟩
    refine ⟨hc.ag, fun d hd hB => ?_, ⟨fun j lb hj => ?_, fun j lb j' lb' hj hj' hne b hb hb' => ?_, fun j lb hj b hb => ?_, fun j lb hj b hb => ?_, hon, hm.be, hgw⟩, fun t => ?_, hc.n, hc.d⟩
    · have := hc.b d hd hB
      rw [getL_fzLL, getL_remL]
      by_cases e : k = d
      · subst e; rw [hk] at this; cases this
      · rw [if_neg e, this]; rfl
    · obtain ⟨l0, g1, rfl⟩ := g hj
      exact chunk_fzLB (hm.ch j l0 g1)
    · obtain ⟨l0, g1, rfl⟩ := g hj
      obtain ⟨l1, g2, rfl⟩ := g hj'
      rw [blk_fzLB] at hb hb'
      exact hm.ap j l0 j' l1 g1 g2 hne b hb hb'
    · obtain ⟨l0, g1, rfl⟩ := g hj
      rw [blk_fzLB] at hb
      exact hpo j l0 g1 b hb
    · obtain ⟨l0, g1, rfl⟩ := g hj
      rw [blk_fzLB] at hb
      exact hm.fz j l0 g1 b hb
    · rw [get_fzF]
      exact okv_fz2 (hc.f t)
  rcases h2 with ⟨h2, hn0⟩ | ⟨g, cap, cur, hv, hg, hh, hle, hmx, hcs, htk⟩
  · have hx : xs = [] := by
      apply List.eq_nil_of_length_eq_zero
      rw [h1, hn0, Nat.zero_mul]
    refine ⟨q, fun _ _ _ h => h, by omega, ?_, mk q hc.m.on hm.po hc.m.gw⟩
    rw [hx]
    exact fun j hj => by simp at hj
  · injection hv with hA hn hcp
    have hb : blk S k (.arr e sz n xs) = some g := by simp [blk, hA]
    refine ⟨addPH q g xs, fun b o v hq => ?_, by omega, fun j hj => ?_, mk _ (fun b o v hq => ?_) (fun j lb hj b hb' o => ?_) (fun b o v hv hF => ?_)⟩
    · unfold addPH
      split
      · rename_i e; subst e
        rw [hc.m.po k _ hk b hb o] at hq
        cases hq
      · exact hq
    · rw [hA]
      show addPH q g xs g (0 + j) = _
      unfold addPH
      rw [if_pos rfl, Nat.zero_add]
    · unfold addPH at hq
      split at hq
      · rename_i e; subst e
        rw [cell_of_cells hh, ← Array.getElem?_toList]
        rw [← htk, List.getElem?_take] at hq
        split at hq
        · exact hq
        · cases hq
      · exact hc.m.on b o v hq
    · have hne : b ≠ g := fun e => by
        subst e
        have hj' := hj
        rw [getL_remL] at hj'
        split at hj'
        · cases hj'
        · rename_i ne
          exact hc.m.ap k _ j lb hk hj' ne b hb hb'
      unfold addPH
      rw [if_neg hne]
      exact hm.po j lb hj b hb' o
    · unfold addPH at hv
      split at hv
      · rename_i e; subst e; exact absurd hF (hc.m.fz k _ hk b hb)
      · exact hc.m.gw b o v hv hF
theorem frzKs_ok : ∀ {ks : List Nat} {q : PH} {fr : Fr} {L : LL} {K : PH → Fr → LL → Prop}, Cfg w0 Sb B n0 N S q fr L a w → frzKs ks q fr L K →
    ∃ q' fr' L', q.le q' ∧ Cfg w0 Sb B n0 N S q' fr' L' a w ∧ K q' fr' L'
  | [], q, fr, L, K, hc, h => ⟨q, fr, L, fun _ _ _ h => h, hc, h⟩
  | k :: r, q, fr, L, K, hc, h => by
    replace h : (match getL L k with
      | some (.arr _ _ n xs) => ∀ q' A c, q.le q' → n ≤ c → Reads q' A xs → fFr (fzF k (.slice A n c) fr) fun fr => fLL (fzLL k (.slice A n c) (remL L k)) fun L => frzKs r q' fr L K
      | _ => frzKs r q fr L K) := h
    split at h
    · rename_i e sz n xs hk
      obtain ⟨q1, h1, h2, h3, h4⟩ := frz_ok hc hk
      have h := h q1 (S k).A (S k).c h1 h2 h3
      rw [fFr_eq, fLL_eq] at h
      obtain ⟨q2, fr2, L2, g1, g2, g3⟩ := frzKs_ok h4 h
      exact ⟨q2, fr2, L2, fun b o v hq => g1 b o v (h1 b o v hq), g2, g3⟩
    · exact frzKs_ok hc h
theorem Mem.mark {b : Nat} (h : Mem w0 q S L w) (hL : ∀ k lb, getL L k = some lb → blk S k lb ≠ some b) (hF : ¬ w0.F b) (hg : w.grownBy w' (some b)) (hcell : ∀ o, w'.cell? ⟨b, o, none⟩ = w.cell? ⟨b, o, none⟩) : Mem w0 q S L w' := by
  have same : ∀ c, c < w.heap.size → c ≠ b → w'.heap[c]? = w.heap[c]? := fun c hc hne => hg.block c hc (fun e => hne (by injection e))
  refine ⟨fun j l hj => ?_, h.ap, h.po, h.fz, fun c o v hv => ?_, h.be.grown hg (fun j e => by cases e; exact hF), h.gw⟩
  · refine chunk_same (h.ch j l hj) fun c hcj => same c (blk_lt (h.ch j l hj) hcj).2 fun e' => ?_
    subst e'
    exact hL j l hj hcj
  · have h1 := h.on c o v hv
    by_cases e : c = b
    · subst e; rw [hcell]; exact h1
    · exact (World.cell?_of_block (w := w) (same c (on_lt h.on hv) e)).trans h1
theorem grownBy_freeze (w : World) (b o : Nat) (hb : b < w.heap.size) : w.grownBy (w.freeze ⟨b, o, none⟩ 1) (some b) := by
  unfold World.freeze
  rw [if_neg (by decide)]
  refine ⟨rfl, rfl, rfl, by simp, fun k hk hne => ?_⟩
  have : b ≠ k := fun e => hne (by rw [e])
  simp [Array.getElem?_modify, this]
theorem cell_freeze (w : World) (b o j : Nat) : (w.freeze ⟨b, o, none⟩ 1).cell? ⟨b, j, none⟩ = w.cell? ⟨b, j, none⟩ := by
  unfold World.freeze World.cell?
  rw [if_neg (by decide)]
  simp only [Array.getElem?_modify, if_true]
  cases e : w.heap[b]? with
  | none => rfl
  | some x => cases x <;> rfl
theorem fz_step (hT : TabOk P E.T) {o : Oper} {src t e e' sz m k nk : Nat} {x : Operand} {xs : List Value} {K : Kt} (hop : o.op = .convert src t x) (hc : Cfg w0 Sb B n0 N S q fr L a w)
    (h0 : src = t) (h2 : (ty E.T t).d = .slice e) (h3 : (ty E.T e).d = .int .u8) (hx : opv fr x = .own k) (hk : getL L k = some (.arr e' sz m xs)) (hn : 0 < m)
    (h : ∀ q' A c, q.le q' → m ≤ c → Reads q' A xs → fFr (fzF k (.slice A m c) fr) fun fr => fLL (fzLL k (.slice A m c) (remL L k)) fun L => putK N o.dst (.v (.slice A m c)) fr fun fr => K nk q' fr L) : Oper.wpIn (FF r) n P o a w (St w0 Sb B n0 N K) Q := by
  subst h0
  have hxv := opv_ok hc.f x
  rw [hx] at hxv
  have hxv : a.eval x = .slice (S k).A (S k).n (S k).c := hxv
  have t2 : P.underlying src = some (.slice e) := by have := (hT src (by rw [h2]; simp)).d; rw [h2] at this; exact this.1
  have t3 : P.underlying e = some (.int .u8) := by have := (hT e (by rw [h3]; simp)).d; rw [h3] at this; exact this
  obtain ⟨q', hle, hcap, hR, hc'⟩ := frz_ok hc hk
  obtain ⟨⟨h1, hv2⟩, h4, h5, h6, h7⟩ := hc.m.ch k _ hk
  rcases hv2 with ⟨_, hn0⟩ | ⟨g, cap, cur, hv, hg, hh, _⟩
  · omega
  injection hv with hA _ _
  have hb : blk S k (.arr e' sz m xs) = some g := by simp [blk, hA]
  have hlt : g < w.heap.size := (Array.getElem?_eq_some_iff.1 hh).1
  have hsh : w.shape? g = some (e', cur.size) := by simp [World.shape?, hh]
  have hr : (convert src src (.slice (S k).A (S k).n (S k).c)).run P w = .ok (.slice (S k).A (S k).n (S k).c) (w.freeze ⟨g, cur.size, none⟩ 1) := by
    rw [hA]
    simp [convert, run_underlying t2, run_underlying t3, markStringish, hsh]
  have hK := h q' (S k).A (S k).c hle hcap hR
  rw [fFr_eq, fLL_eq] at hK
  have hF : ¬ w0.F g := hc.m.fz k _ hk g hb
  have hsep : ∀ j lb, getL (fzLL k (.slice (S k).A m (S k).c) (remL L k)) j = some lb → blk S j lb ≠ some g := fun j lb hj e1 => by
    rw [getL_fzLL, getL_remL] at hj
    by_cases ej : k = j
    · rw [if_pos ej] at hj; cases hj
    · rw [if_neg ej] at hj
      cases hl : getL L j with
      | none => rw [hl] at hj; cases hj
      | some l0 =>
        rw [hl] at hj
        have hj : fzLB k (.slice (S k).A m (S k).c) l0 = lb := by simpa using hj
        subst hj
        rw [blk_fzLB] at e1
        exact hc.m.ap k _ j l0 hk hl ej g hb e1
  have hm := hc'.m.mark hsep hF (grownBy_freeze w g cur.size hlt) (cell_freeze w g cur.size)
  refine wpIn_value (nd_of hop (by simp)) (run_exec (s := convert src src (a.eval x)) (by simp only [execOp, hop]) (by rw [hxv]; exact hr)) ?_
  obtain ⟨fr', hK', hc2⟩ := (hc'.mem hm).put (v := .slice (S k).A (S k).n (S k).c) hK (by show _ = _; rw [h4])
  exact ⟨S, _, fr', _, nk, hc2, hK'⟩
end Go.Eng
