/-
  Texts that the law leans on. Nothing here is trusted.
-/
import Derived.Test.YtnlglgafokjhnaaGreatEngW
import Derived.RangeFuncLeaves
set_option linter.unusedVariables false
set_option linter.unusedSimpArgs false
namespace Go.Eng
open Go Go.RowKit
variable {P : Program} {S S' Sb : Pl} {fr : Fr} {L L' : LL} {q q' : PH} {w0 : W0} {w w' : World} {a : Act} {n0 N : Nat} {B : Nat → Prop} {E : Env}
variable {r : Option Nat} {n : Nat}
theorem Mem.lose {k b : Nat} {lb : LB} (h : Mem w0 q S L w) (hk : getL L k = some lb) (hb : blk S k lb = some b) (hg : w.grownBy w' (some b)) : Mem w0 q S (remL L k) w' := by
  have same : ∀ c, c < w.heap.size → c ≠ b → w'.heap[c]? = w.heap[c]? := fun c hc hne => hg.block c hc (fun e => hne (by injection e))
  have g : ∀ {j lb}, getL (remL L k) j = some lb → getL L j = some lb ∧ j ≠ k := fun {j lb} hj => by
    rw [getL_remL] at hj
    split at hj
    · cases hj
    · rename_i e; exact ⟨hj, fun e' => e e'.symm⟩
  refine ⟨fun j l hj => ?_, fun k1 l1 k2 l2 hk1 hk2 hne' c hb1 hb2 => h.ap k1 l1 k2 l2 (g hk1).1 (g hk2).1 hne' c hb1 hb2, fun j l hj c hcj o => h.po j l (g hj).1 c hcj o, fun j l hj c hcj => h.fz j l (g hj).1 c hcj, fun c o v hv => ?_, ?_, h.gw⟩
  · refine chunk_same (h.ch j l (g hj).1) fun c hcj => same c (blk_lt (h.ch j l (g hj).1) hcj).2 fun e' => ?_
    subst e'
    exact h.ap k lb j l hk (g hj).1 (fun e => (g hj).2 e.symm) c hb hcj
  · have h1 := h.on c o v hv
    have hne : c ≠ b := fun e => by subst e; rw [h.po k lb hk c hb o] at hv; cases hv
    exact (World.cell?_of_block (w := w) (same c (on_lt h.on hv) hne)).trans h1
  · exact h.be.grown hg (fun j e => by cases e; exact h.fz k lb hk b hb)
theorem Mem.other {b : Nat} (h : Mem w0 q S L w) (hL : ∀ k lb, getL L k = some lb → blk S k lb ≠ some b) (hq : ∀ o, q b o = none) (hF : ¬ w0.F b) (hg : w.grownBy w' (some b)) : Mem w0 q S L w' := by
  have same : ∀ c, c < w.heap.size → c ≠ b → w'.heap[c]? = w.heap[c]? := fun c hc hne => hg.block c hc (fun e => hne (by injection e))
  refine ⟨fun j l hj => ?_, h.ap, h.po, h.fz, fun c o v hv => ?_, h.be.grown hg (fun j e => by cases e; exact hF), h.gw⟩
  · refine chunk_same (h.ch j l hj) fun c hcj => same c (blk_lt (h.ch j l hj) hcj).2 fun e' => ?_
    subst e'
    exact hL j l hj hcj
  · have h1 := h.on c o v hv
    have hne : c ≠ b := fun e => by subst e; rw [hq o] at hv; cases hv
    exact (World.cell?_of_block (w := w) (same c (on_lt h.on hv) hne)).trans h1
theorem leave_marks {fn : Func} {tmps : Array Value} {R : Ending → World → Prop} : ∀ (Hs : List Nat) {w : World}, Mem w0 q S L w → Hs.Nodup →
    (∀ b ∈ Hs, w.heap[b]? = some (.deferred (some [])) ∧ ¬ w0.F b ∧ ∀ k lb, getL L k = some lb → blk S k lb ≠ some b) →
    (∀ w', Mem w0 q S L w' → ∃ v, (results fn tmps).run P w' = .ok v w' ∧ R (.returned v) w') →
    LeavesInM (FF r) n P fn tmps R (Hs.map markOf) .returning w
  | [], w, hm, _, _, h => h w hm
  | b :: Hs, w, hm, hn, hD, h => by
    obtain ⟨hb, hF, hL⟩ := hD b (by simp)
    refine ⟨by simp, .inl ⟨b, _, rfl, run_takeDeferred hb, ?_⟩⟩
    have hq : ∀ o, q b o = none := fun o => by
      cases e : q b o with
      | none => rfl
      | some v =>
        have := hm.on b o v e
        simp [World.cell?, hb] at this
    have hg := grownBy_putObj' w b (.deferred none)
    have hm' := hm.other hL hq hF hg
    refine leave_marks Hs hm' (List.nodup_cons.1 hn).2 (fun c hc => ?_) h
    obtain ⟨hc1, hc2, hc3⟩ := hD c (by simp [hc])
    refine ⟨?_, hc2, hc3⟩
    rw [hg.block c (Array.getElem?_eq_some_iff.1 hc1).1 (fun e => by injection e with e; subst e; exact (List.nodup_cons.1 hn).1 hc)]
    exact hc1
theorem getL_dropA {b k : Nat} {L0 : LL} : ∀ {L : LL}, (getL (dropA b L0 L) k = getL L k ∨ (getL (dropA b L0 L) k = none)) ∧ (b ≤ k → getL L0 k = some .dfr → getL (dropA b L0 L) k = none) ∧ ((k < b ∨ getL L0 k ≠ some .dfr) → getL (dropA b L0 L) k = getL L k)
  | [] => ⟨.inl rfl, fun _ _ => rfl, fun _ => rfl⟩
  | (u, x) :: r => by
    obtain ⟨h1, h2, h3⟩ := getL_dropA (b := b) (k := k) (L0 := L0) (L := r)
    unfold dropA
    split
    · rename_i hb
      have hb := Nat.le_of_ble_eq_true hb
      split
      · rename_i hu
        by_cases e : u = k
        · subst e
          exact ⟨.inr (h2 hb hu), h2, fun h => by rcases h with h | h; omega; exact absurd hu h⟩
        · rw [getL_cons, if_neg e]
          exact ⟨h1, h2, h3⟩
      · rename_i hu
        by_cases e : u = k
        · subst e
          refine ⟨.inl (by rw [getL_cons, getL_cons]; simp), fun _ h => (hu h).elim, fun _ => by rw [getL_cons, getL_cons]; simp⟩
        · rw [getL_cons, getL_cons, if_neg e, if_neg e]
          exact ⟨h1, h2, h3⟩
    · rename_i hb
      by_cases e : u = k
      · subst e
        refine ⟨.inl (by rw [getL_cons, getL_cons]; simp), fun h => ?_, fun _ => by rw [getL_cons, getL_cons]; simp⟩
        rw [Nat.ble_eq_true_of_le h] at hb; cases hb
      · rw [getL_cons, getL_cons, if_neg e, if_neg e]
        exact ⟨h1, h2, h3⟩
def resOne (tmps : Array Value) : ResultVar → Sem Value
  | .tmp t => pure (tmps.getD t undef)
  | .cell a t => do loadVar t (← asAddr (tmps.getD a undef))
theorem resK_ok (hT : TabOk P E.T) {tmps : Array Value} (hf : okF S fr tmps) (hm : Mem w0 q S L w) : ∀ (rs : List ResultVar) {K : List SV → Prop}, resK E.T q rs fr L K →
    ∃ l vs, K l ∧ okL S l vs ∧ (rs.mapM (resOne tmps)).run P w = .ok vs w
  | [], K, h => ⟨[], [], h, trivial, by simp⟩
  | .tmp t :: r, K, h => by
    simp only [resK] at h
    rw [fSV_eq] at h
    obtain ⟨l, vs, h1, h2, h3⟩ := resK_ok hT hf hm r h
    refine ⟨_, tmps.getD t undef :: vs, h1, ⟨hf t, h2⟩, ?_⟩
    simp [List.mapM_cons, resOne, h3]
  | .cell t ty :: r, K, h => by
    simp only [resK] at h
    obtain ⟨v, sv, h, hv, hr⟩ := loadK_ok (C := fun w' => w' = w) (w1 := w) hT hm.ch (fun w' e => by rw [e]; exact hm.cl) h (hf t)
    obtain ⟨l, vs, h1, h2, h3⟩ := resK_ok hT hf hm r h
    refine ⟨_, v :: vs, h1, ⟨hv, h2⟩, ?_⟩
    have hr := hr w rfl
    have hone : (resOne tmps (.cell t ty)).run P w = .ok v w := by
      simp only [resOne]
      revert hr
      generalize tmps.getD t undef = u
      intro hr
      cases u <;> simp [Instr.loadAt, Instr.sureAddr] at hr
      rename_i A
      cases A <;> simp [Instr.loadAt, Instr.sureAddr] at hr
      simpa [asAddr] using hr
    simp [List.mapM_cons, hone, h3]
theorem results_ok (hT : TabOk P E.T) {fn : Func} {tmps : Array Value} (hf : okF S fr tmps) (hm : Mem w0 q S L w) {K : List SV → Prop} (h : resK E.T q fn.results.toList fr L K) :
    ∃ l v, K l ∧ okv S (oneOr l) v ∧ (results fn tmps).run P w = .ok v w := by
  obtain ⟨l, vs, h1, h2, h3⟩ := resK_ok hT hf hm _ h
  have hr : (results fn tmps).run P w = .ok (if h : vs.toArray.size = 1 then vs.toArray[0] else .tuple vs.toArray) w := by
    have e : results fn tmps = (do
      let vs ← fn.results.mapM (resOne tmps)
      pure (if h : vs.size = 1 then vs[0] else .tuple vs)) := by
      unfold results
      congr 1
    rw [e, Array.mapM_eq_mapM_toList]
    simp [h3]
  refine ⟨l, _, h1, ?_, hr⟩
  have hl := okL_length h2
  match l, vs, h2, hl with
  | [x], [v], h2, _ => exact h2.1
  | [], [], h2, _ => exact ⟨[], rfl, trivial⟩
  | x :: y :: l, v :: u :: vs, h2, _ => exact ⟨v :: u :: vs, rfl, h2⟩
theorem get_argF {i t : Nat} : ∀ {args : List SV} {vs : List Value}, okL S args vs → okv S (get (argF args i) t) (if i ≤ t then vs.getD (t - i) undef else undef)
  | [], [], _ => trivial
  | x :: args, v :: vs, h => by
    simp only [argF, get_cons]
    split
    · rename_i e
      subst e
      simpa using h.1
    · rename_i e
      have := get_argF (i := i + 1) (t := t) h.2
      by_cases hi : i ≤ t
      · rw [if_pos hi]
        rw [if_pos (by omega)] at this
        obtain ⟨d, rfl⟩ : ∃ d, t = i + 1 + d := ⟨t - i - 1, by omega⟩
        have e2 : i + 1 + d - i = d + 1 := by omega
        have e3 : i + 1 + d - (i + 1) = d := by omega
        rw [e3] at this
        rw [e2]
        simpa using this
      · rw [if_neg hi]
        rw [if_neg (by omega)] at this
        exact this
  | [], _ :: _, h => by cases h
  | _ :: _, [], h => by cases h
theorem okF_args {args : List SV} {vs : List Value} (h : okL S args vs) (m : Nat) : okF S (argF args 0) (vs.toArray ++ Array.replicate m undef) := by
  intro t
  have h1 := get_argF (i := 0) (t := t) h
  simp only [Nat.zero_le, if_true, Nat.sub_zero] at h1
  have e : (vs.toArray ++ Array.replicate m undef).getD t undef = vs.getD t undef := by
    rw [Array.getD_eq_getD_getElem?, Array.getElem?_append]
    by_cases ht : t < vs.length
    · simp [ht]
    · simp [ht]
      by_cases h2 : t - vs.length < m <;> simp [h2]
  rw [e]
  exact h1
def FTOk (P : Program) (FT : Tr Func) : Prop := ∀ f fn, FT.get f = some fn → P.funcs[f]? = some fn ∧ (fn.name == "runtime.NumGoroutine") = false
theorem vcN_ok (hmix : P.follows .mixedOrders = true) (hT : TabOk P E.T) (hΓ : GOk P E) (hF : FTOk P E.FT) : ∀ d, InlOk P (vcN E d)
  | 0 => fun _ _ _ _ _ _ _ _ _ _ _ _ _ h => h.elim
  | d + 1 => fun w0 Y f args nk q L K vs w S r n h hY hvs hm => by
    simp only [vcN] at h
    split at h
    · exact h.elim
    rename_i fn hfn
    split at h
    · exact h.elim
    rename_i c hc
    split at h
    · exact h.elim
    rename_i hN
    have hN := Nat.le_of_ble_eq_true hN
    rw [fFr_eq] at h
    obtain ⟨hP, hname⟩ := hF f fn hfn
    refine ⟨fun args w => ?_, ?_⟩
    · have hname' : ¬ fn.name = "runtime.NumGoroutine" := by simpa using hname
      simp [callFunc, hP, hname', hc]
    have hlen := okL_length hvs
    show CallsIn (FF none) n P f vs.toArray w _
    refine callsIn_of_wp_marks hP hc trivial ?_
    let wb : W0 := { w0 with F0 := w0.F, sub := fun _ h => h }
    have hmb : Mem wb q S L w := ⟨hm.ch, hm.ap, hm.po, hm.fz, hm.on, ⟨hm.be.os, hm.be.tape, hm.be.output, hm.be.size, hm.be.block⟩, hm.gw⟩
    have hcfg : Cfg wb S (fun d => getL L d = some .dfr) nk fn.ntmps S q (argF args 0) L { tmps := vs.toArray ++ Array.replicate (fn.ntmps - vs.toArray.size) undef, defers := [] } w :=
      ⟨fun _ _ => rfl, fun _ _ h => h, hmb, okF_args hvs _, by simp; omega, .nil _⟩
    have hcode := vcC_ok (N := fn.ntmps) hmix hT hΓ (vcN_ok hmix hT hΓ hF d) f (E.wr f) c Y none (n := n) (r := none) rfl (fun _ h => by cases h) hY hcfg h
    refine Code.wpIn_mono ?_ hcode
    rintro e a' w' ⟨x, rfl, w1, hx1, S', q', fr', L', nk', hc', hK⟩
    obtain ⟨Hs, hd1, hd2, hd3⟩ := hc'.d
    have hmw : Mem w0 q' S' L' w' := by
      have := hx1.mem hc'.m
      exact ⟨this.ch, this.ap, this.po, this.fz, this.on, ⟨this.be.os, this.be.tape, this.be.output, this.be.size, this.be.block⟩, this.gw⟩
    have fin : (fLL (dropD nk L') fun L => resK E.T q' fn.results.toList fr' L fun l => fSV (oneOr l) fun r => K r nk' q' L) →
        LeavesInM (FF none) n P fn a'.tmps (fun e w' => ∃ v x S' q' L' nk', e = .returned v ∧ okv S' x v ∧ (∀ k, k < nk → S' k = S k) ∧ Mem w0 q' S' L' w' ∧ (∀ d, d < nk → getL L d = some .dfr → getL L' d = some .dfr) ∧ K x nk' q' L') a'.defers .returning w' := by
      intro hK
      rw [fLL_eq] at hK
      rw [hd1]
      refine leave_marks Hs hmw hd2 (fun b hb => ?_) fun w2 hm2 => ?_
      · obtain ⟨k1, k2, k3⟩ := hd3 b hb
        refine ⟨(hc'.m.be.block b k1).trans k3, fun hF => k2 ?_, fun k lb hk e => hc'.m.fz k lb hk b e k1⟩
        rw [hx1.F0]
        exact hF
      have hm3 : Mem w0 q' S' (dropD nk L') w2 := hm2.less fun k x hk => by
        obtain ⟨g1, g2, g3⟩ := getL_dropA (b := nk) (k := k) (L0 := L') (L := L')
        unfold dropD at hk
        rcases g1 with g1 | g1
        · rw [← g1]; exact hk
        · rw [g1] at hk; cases hk
      obtain ⟨l, v, hK, hv, hr⟩ := results_ok hT hc'.f hm3 hK
      rw [fSV_eq] at hK
      refine ⟨v, hr, v, oneOr l, S', q', dropD nk L', nk', rfl, hv, hc'.ag, hm3, fun d hd hdL => ?_, hK⟩
      unfold dropD
      rw [(getL_dropA (b := nk) (k := d) (L0 := L') (L := L')).2.2 (.inl hd)]
      exact hc'.b d hd hdL
    cases x with
    | norm => exact fin hK
    | ret => exact fin hK
    | exit m => exact hK.elim
    | goto m => exact hK.elim
end Go.Eng
