/-
  Texts that the law leans on. Nothing here is trusted.
-/
import Derived.Test.YtnlglgafokjhnaaGreatEngV
import Derived.Test.YtnlglgafokjhnaaGreatEngWa
import Derived.Scope
set_option linter.unusedVariables false
set_option linter.unusedSimpArgs false
namespace Go.Eng
open Go Go.RowKit
variable {P : Program} {S S' Sb : Pl} {fr : Fr} {L L' : LL} {q q' : PH} {w0 : W0} {w w' : World} {a : Act} {n0 N : Nat} {B : Nat → Prop} {E : Env}
variable {r : Option Nat} {n : Nat}
section
variable (E : Env) (inl : Inl) (f : Nat) (wr : Bool) (n0 N : Nat) (Y : Ye) (ro : Option Nat) (nk : Nat) (q : PH) (fr : Fr) (L : LL) (K : Ke)
theorem vcC_region (id : Nat) (ops : Array Oper) (draw : Bool) : vcC E inl f wr n0 N (.region id ops draw) Y ro nk q fr L K = ((match draw with
    | false => fN (nk + ops.toList.length) fun nk' => vcOps E inl Y wr n0 N ops.toList ops.toList nk nk' q fr L (K .norm)
    | true => Ob (Region.lexB .any ops = true) ∧ (match calmOnly E.T E.Γ E.Δ ops.toList with
      | true => fN (nk + ops.toList.length) fun nk' => vcOps E inl Y wr n0 N ops.toList ops.toList nk nk' q fr L (K .norm)
      | false => (match Nat.ble n0 nk with
        | true => ∃ pl : Pn, Ob (planOk ops pl = true) ∧ vcP ltF ltLL (fun op fr L q K => calmK E.T E.Γ E.Δ wr q op fr L K) (fun n0 key dst op nk q fr L K => effK E inl Y wr n0 N key dst op nk q fr L K) N ops.toList pl [] nk q fr L (K .norm)
        | false => False)))) := rfl
theorem vcC_seq (a b : Code) : vcC E inl f wr n0 N (.seq a b) Y ro nk q fr L K = ((match firstReg b with
    | none => vcC E inl f wr n0 N a Y ro nk q fr L (thenE (fun nk q fr L => vcC E inl f wr n0 N b Y ro nk q fr L K) K)
    | some id => (match E.cut f id with
      | false => vcC E inl f wr n0 N a Y ro nk q fr L (thenE (fun nk q fr L => vcC E inl f wr n0 N b Y ro nk q fr L K) K)
      | true => ∃ I : Cut, cutK I n0 q fr (fun K => vcC E inl f wr n0 N a Y ro nk q fr L K) (fun nk q fr L => vcC E inl f wr n0 N b Y ro nk q fr L K) K))) := rfl
theorem vcC_cond (c : Operand) (x y : Code) : vcC E inl f wr n0 N (.cond c x y) Y ro nk q fr L K = ((match opv fr c with
    | .bb true => vcC E inl f wr n0 N x Y ro nk q fr L K
    | .bb false => vcC E inl f wr n0 N y Y ro nk q fr L K
    | .b p _ => (p → vcC E inl f wr n0 N x Y ro nk q fr L K) ∧ (¬ p → vcC E inl f wr n0 N y Y ro nk q fr L K)
    | _ => False)) := rfl
theorem vcC_block (id : Nat) (c : Code) : vcC E inl f wr n0 N (.block id c) Y ro nk q fr L K = (vcC E inl f wr n0 N c Y ro nk q fr L (blkE id K)) := rfl
theorem vcC_loop (body : Code) : vcC E inl f wr n0 N (.loop body) Y ro nk q fr L K = ((match firstReg body with
    | none => False
    | some id => (match E.inv f id nk with
      | none => ∃ I : Inv, loopK I n0 nk q fr L (fun nk q fr L K => vcC E inl f wr n0 N body Y ro nk q fr L K) K
      | some I => loopK I n0 nk q fr L (fun nk q fr L K => vcC E inl f wr n0 N body Y ro nk q fr L K) K))) := rfl
theorem vcC_rangeFunc (g : Operand) (ps : Array Nat) (assign body : Code) : vcC E inl f wr n0 N (.rangeFunc g ps assign body) Y ro nk q fr L K = ((match Nat.ble n0 nk, ltF nk fr, ltLL nk L with
    | true, true, true =>
      (match opv fr g with
      | .fn it cs =>
        (match ro with
        | none => inl ((nk, roundK (fun n0 nk' q fr L K => vcC E inl f wr n0 N assign Y (some nk) nk' q fr L K) (fun n0 nk' q fr L K => vcC E inl f wr n0 N body Y (some nk) nk' q fr L K) N nk ps.toList fr) :: Y)
            it (.yl nk :: cs) (nk + 2) q ((nk, .loop .ready none) :: (nk + 1, .dfr) :: L) (doneK nk fr K)
        | some l0 => (match getL L l0 with
          | some (.loop _ _) => inl ((nk, roundK (fun n0 nk' q fr L K => vcC E inl f wr n0 N assign Y (some nk) nk' q fr L K) (fun n0 nk' q fr L K => vcC E inl f wr n0 N body Y (some nk) nk' q fr L K) N nk ps.toList fr) :: Y)
            it (.yl nk :: cs) (nk + 2) q ((nk, .loop .ready none) :: L) (doneK nk fr K)
          | _ => False))
      | _ => False)
    | _, _, _ => False)) := rfl
theorem vcC_scope (c : Code) : vcC E inl f wr n0 N (.scope c) Y ro nk q fr L K = (vcC E inl f wr n0 N c Y ro nk q fr L (scopeE K)) := rfl
theorem vcC_refuse (s : String) : vcC E inl f wr n0 N (.refuse s) Y ro nk q fr L K = False := rfl
end
theorem stepR_scope {b : Frame} {k : List Item} {cs : List Frame} {c : Code} : step P (lone (b.atR a (.code (.scope c) :: k)) cs w) = .next (lone (b.atR a (.code c :: .inScope c :: k)) cs w) :=
  step_lone_go (by simp [stepG, stepG.exec, Frame.atR])
theorem stepR_inScope {b : Frame} {k : List Item} {cs : List Frame} {c : Code} : step P (lone (b.atR a (.inScope c :: k)) cs w) = .next (lone (b.atR a k) cs w) :=
  step_lone_go (by simp [stepG, stepG.exec, Frame.atR])
theorem wpIn_scope {F : Fence} {Q : Exit → Act → World → Prop} {c : Code} (h : c.wpIn F n P (Exit.noGoto Q) a w) : (Code.scope c).wpIn F n P Q a w := by
  intro b k cs hro hb hr
  have h0 : (lone (b.atR a (.code (.scope c) :: k)) cs w).fenced P F := fenced_calm hb hr rfl
  obtain ⟨e, a₁, w₁, hq, harr⟩ := h b (.inScope c :: k) cs hro hb hr
  cases e with
  | normal => exact ⟨.normal, a₁, w₁, hq, .head h0 stepR_scope (StepsIn.trans harr (.one (fenced_calm hb hr rfl) stepR_inScope))⟩
  | exit id =>
    have hx : exitTo id (.inScope c :: k) = exitTo id k := by simp [exitTo]
    exact ⟨.exit id, a₁, w₁, hq, fun k' hk => .head h0 stepR_scope (harr.1 k' (by rw [hx]; exact hk)),
      fun hr' hk => let ⟨k₁, h1, h2⟩ := harr.2 hr' (by rw [hx]; exact hk); ⟨k₁, h1, .head h0 stepR_scope h2⟩⟩
  | goto l => exact hq.elim
  | ret => exact ⟨_, a₁, w₁, hq, .of_steps (.one h0 stepR_scope) harr⟩
  | panic ch => exact ⟨_, a₁, w₁, hq, .of_steps (.one h0 stepR_scope) harr⟩
  | outgrown => exact ⟨_, a₁, w₁, hq, .of_steps (.one h0 stepR_scope) harr⟩
def CSound (P : Program) (E : Env) (inl : Inl) (f : Nat) (wr : Bool) (N : Nat) (c : Code) : Prop := ∀ (Y : Ye) (ro : Option Nat), CodeOk P N Y ro c (fun n0 nk q fr L K => vcC E inl f wr n0 N c Y ro nk q fr L K)
theorem cs_skip {inl : Inl} (hmix : P.follows .mixedOrders = true) (hT : TabOk P E.T) (hΓ : GOk P E) (hI : InlOk P inl) {f : Nat} {wr : Bool}  : CSound P E inl f wr N (.skip ) := fun Y ro =>
  fun {w0 n0 nk Sb S B q fr L K a w r n} hr hro hY hc h => wpIn_skip ⟨.norm, rfl, w0, .refl _, S, q, fr, L, nk, hc, h⟩
theorem cs_label {inl : Inl} (hmix : P.follows .mixedOrders = true) (hT : TabOk P E.T) (hΓ : GOk P E) (hI : InlOk P inl) {f : Nat} {wr : Bool} {l : Nat} : CSound P E inl f wr N (.label l) := fun Y ro =>
  fun {w0 n0 nk Sb S B q fr L K a w r n} hr hro hY hc h => wpIn_label ⟨.norm, rfl, w0, .refl _, S, q, fr, L, nk, hc, h⟩
theorem cs_exit {inl : Inl} (hmix : P.follows .mixedOrders = true) (hT : TabOk P E.T) (hΓ : GOk P E) (hI : InlOk P inl) {f : Nat} {wr : Bool} {l : Nat} : CSound P E inl f wr N (.exit l) := fun Y ro =>
  fun {w0 n0 nk Sb S B q fr L K a w r n} hr hro hY hc h => wpIn_exit ⟨.exit l, rfl, w0, .refl _, S, q, fr, L, nk, hc, h⟩
theorem cs_goto {inl : Inl} (hmix : P.follows .mixedOrders = true) (hT : TabOk P E.T) (hΓ : GOk P E) (hI : InlOk P inl) {f : Nat} {wr : Bool} {l : Nat} : CSound P E inl f wr N (.goto l) := fun Y ro =>
  fun {w0 n0 nk Sb S B q fr L K a w r n} hr hro hY hc h => wpIn_goto ⟨.goto l, rfl, w0, .refl _, S, q, fr, L, nk, hc, h⟩
theorem cs_ret {inl : Inl} (hmix : P.follows .mixedOrders = true) (hT : TabOk P E.T) (hΓ : GOk P E) (hI : InlOk P inl) {f : Nat} {wr : Bool}  : CSound P E inl f wr N (.ret ) := fun Y ro =>
  fun {w0 n0 nk Sb S B q fr L K a w r n} hr hro hY hc h => wpIn_ret ⟨.ret, rfl, w0, .refl _, S, q, fr, L, nk, hc, h⟩
theorem cs_scope {inl : Inl} (hmix : P.follows .mixedOrders = true) (hT : TabOk P E.T) (hΓ : GOk P E) (hI : InlOk P inl) {f : Nat} {wr : Bool} {c : Code} (hx : CSound P E inl f wr N c) : CSound P E inl f wr N (.scope c) := fun Y ro =>
  fun {w0 n0 nk Sb S B q fr L K a w r n} hr hro hY hc h => by
    replace h := Eq.mp (vcC_scope _ _ _ _ _ _ _ _ _ _ _ _ _ _) h; try dsimp only at h
    refine wpIn_scope (Code.wpIn_mono ?_ (hx Y ro hr hro hY hc h))
    rintro e a' w' ⟨z, rfl, w1, hx1, hst⟩
    cases z with
    | norm => exact ⟨.norm, rfl, w1, hx1, hst⟩
    | ret => exact ⟨.ret, rfl, w1, hx1, hst⟩
    | exit m => exact ⟨.exit m, rfl, w1, hx1, hst⟩
    | goto m =>
      obtain ⟨S', q', fr', L', nk', hc', hK⟩ := hst
      exact hK.elim
theorem cs_refuse {inl : Inl} (hmix : P.follows .mixedOrders = true) (hT : TabOk P E.T) (hΓ : GOk P E) (hI : InlOk P inl) {f : Nat} {wr : Bool} {s : String} : CSound P E inl f wr N (.refuse s) := fun Y ro =>
  fun _ _ _ _ h => by replace h := Eq.mp (vcC_refuse _ _ _ _ _ _ _ _ _ _ _ _ _ _) h; exact h.elim
theorem cs_region {inl : Inl} (hmix : P.follows .mixedOrders = true) (hT : TabOk P E.T) (hΓ : GOk P E) (hI : InlOk P inl) {f : Nat} {wr : Bool} {id : Nat} {ops : Array Oper} {draw : Bool} : CSound P E inl f wr N (.region id ops draw) := fun Y ro =>
  fun {w0 n0 nk Sb S B q fr L K a w r n} hr hro hY hc h => by
    have hQ : ∀ a w, St w0 Sb B n0 N (K .norm) a w → QE w0 Sb B n0 N K .normal a w := fun a w h => ⟨.norm, rfl, w0, .refl _, h⟩
    cases draw with
    | false =>
      replace h := Eq.mp (vcC_region _ _ _ _ _ _ _ _ _ _ _ _ _ _ _ _) h; try dsimp only at h
      rw [fN_eq] at h
      refine wpIn_region_list ?_
      have := vcOps_ok (r := r) (n := n) hT hΓ hI hY hQ ops.toList hc h
      simpa using this
    | true =>
      replace h := Eq.mp (vcC_region _ _ _ _ _ _ _ _ _ _ _ _ _ _ _ _) h; try dsimp only at h
      obtain ⟨⟨hB⟩, h⟩ := h
      split at h
      · rename_i hcalm; rw [fN_eq] at h; exact draw_ok hmix hT hΓ hQ hc hB hcalm h
      · split at h
        · rename_i hle
          obtain ⟨pl, ⟨hpl⟩, h⟩ := h
          exact plan_ok hmix hT hΓ hI hY (fun ch a a' w hh => by obtain ⟨x, hx, _⟩ := hh; cases x <;> cases hx) hQ hc (Nat.le_of_ble_eq_true hle) hpl h
        · exact h.elim
theorem cs_seq {inl : Inl} (hmix : P.follows .mixedOrders = true) (hT : TabOk P E.T) (hΓ : GOk P E) (hI : InlOk P inl) {f : Nat} {wr : Bool} {x y : Code} (hx : CSound P E inl f wr N x) (hy : CSound P E inl f wr N y) : CSound P E inl f wr N (.seq x y) := fun Y ro =>
  fun {w0 n0 nk Sb S B q fr L K a w r n} hr hro hY hc h => by
    replace h := Eq.mp (vcC_seq _ _ _ _ _ _ _ _ _ _ _ _ _ _ _) h; try dsimp only at h
    have plain : (vcC E inl f wr n0 N x Y ro nk q fr L (thenE (fun nk q fr L => vcC E inl f wr n0 N y Y ro nk q fr L K) K)) → (Code.seq x y).wpIn (FF r) n P (QE w0 Sb B n0 N K) a w := fun h => by
      refine wpIn_seq (Code.wpIn_mono ?_ (hx Y ro hr hro hY hc h))
      rintro e a' w' ⟨z, rfl, w1, hx1, hst⟩
      cases z with
      | norm =>
        obtain ⟨S', q', fr', L', nk', hc', hK⟩ := hst
        exact Code.wpIn_mono (fun _ _ _ hq => hq.ext hx1) (hy Y ro hr hro hY hc' hK)
      | ret => exact ⟨.ret, rfl, w1, hx1, hst⟩
      | exit m => exact ⟨.exit m, rfl, w1, hx1, hst⟩
      | goto m => exact ⟨.goto m, rfl, w1, hx1, hst⟩
    split at h
    · exact plain h
    split at h
    · exact plain h
    obtain ⟨I, h⟩ := h
    exact cut_ok (fun hc h => hx Y ro hr hro hY hc h) (fun hc h => hy Y ro hr hro hY hc h) hc h
theorem cs_cond {inl : Inl} (hmix : P.follows .mixedOrders = true) (hT : TabOk P E.T) (hΓ : GOk P E) (hI : InlOk P inl) {f : Nat} {wr : Bool} {g : Operand} {x y : Code} (hx : CSound P E inl f wr N x) (hy : CSound P E inl f wr N y) : CSound P E inl f wr N (.cond g x y) := fun Y ro =>
  fun {w0 n0 nk Sb S B q fr L K a w r n} hr hro hY hc h => by
    have hg := opv_ok hc.f g
    replace h := Eq.mp (vcC_cond _ _ _ _ _ _ _ _ _ _ _ _ _ _ _ _) h; try dsimp only at h
    split at h
    · rename_i e; rw [e] at hg; exact wpIn_cond_true hg (hx Y ro hr hro hY hc h)
    · rename_i e; rw [e] at hg; exact wpIn_cond_false hg (hy Y ro hr hro hY hc h)
    · rename_i p d e
      rw [e] at hg
      by_cases hp : p
      · exact wpIn_cond_true (by rw [hg]; simp [hp]) (hx Y ro hr hro hY hc (h.1 hp))
      · exact wpIn_cond_false (by rw [hg]; simp [hp]) (hy Y ro hr hro hY hc (h.2 hp))
    · exact h.elim
theorem cs_block {inl : Inl} (hmix : P.follows .mixedOrders = true) (hT : TabOk P E.T) (hΓ : GOk P E) (hI : InlOk P inl) {f : Nat} {wr : Bool} {id : Nat} {x : Code} (hx : CSound P E inl f wr N x) : CSound P E inl f wr N (.block id x) := fun Y ro =>
  fun {w0 n0 nk Sb S B q fr L K a w r n} hr hro hY hc h => by
    replace h := Eq.mp (vcC_block _ _ _ _ _ _ _ _ _ _ _ _ _ _ _) h; try dsimp only at h
    refine wpIn_block (Code.wpIn_mono ?_ (hx Y ro hr hro hY hc h))
    rintro e a' w' ⟨z, rfl, w1, hx1, hst⟩
    cases z with
    | norm => exact ⟨.norm, rfl, w1, hx1, hst⟩
    | ret => exact ⟨.ret, rfl, w1, hx1, hst⟩
    | goto m => exact ⟨.goto m, rfl, w1, hx1, hst⟩
    | exit m =>
      simp only [Exit.inBlock, toX]
      obtain ⟨S', q', fr', L', nk', hc', hK⟩ := hst
      have hb : blkE id K (.exit m) = (match Nat.beq m id with | true => K .norm | false => K (.exit m)) := rfl
      rw [hb] at hK
      cases e : Nat.beq m id with
      | true =>
        rw [e] at hK
        rw [if_pos (Nat.eq_of_beq_eq_true e)]
        exact ⟨.norm, rfl, w1, hx1, S', q', fr', L', nk', hc', hK⟩
      | false =>
        rw [e] at hK
        rw [if_neg (fun e' => by subst e'; simp at e)]
        exact ⟨.exit m, rfl, w1, hx1, S', q', fr', L', nk', hc', hK⟩
theorem cs_loop {inl : Inl} (hmix : P.follows .mixedOrders = true) (hT : TabOk P E.T) (hΓ : GOk P E) (hI : InlOk P inl) {f : Nat} {wr : Bool} {x : Code} (hx : CSound P E inl f wr N x) : CSound P E inl f wr N (.loop x) := fun Y ro =>
  fun {w0 n0 nk Sb S B q fr L K a w r n} hr hro hY hc h => by
    replace h := Eq.mp (vcC_loop _ _ _ _ _ _ _ _ _ _ _ _ _ _) h; try dsimp only at h
    split at h
    · exact h.elim
    split at h
    · obtain ⟨I, h⟩ := h
      exact loop_ok (fun hc h => hx Y ro hr hro hY hc h) hc h
    exact loop_ok (fun hc h => hx Y ro hr hro hY hc h) hc h
theorem cs_rangeFunc {inl : Inl} (hmix : P.follows .mixedOrders = true) (hT : TabOk P E.T) (hΓ : GOk P E) (hI : InlOk P inl) {f : Nat} {wr : Bool} {g : Operand} {ps : Array Nat} {assign body : Code} (hassign : CSound P E inl f wr N assign) (hbody : CSound P E inl f wr N body) : CSound P E inl f wr N (.rangeFunc g ps assign body) := fun Y ro =>
  fun {w0 n0 nk Sb S B q fr L K a w r n} hr hro hY hc h => by
    replace h := Eq.mp (vcC_rangeFunc _ _ _ _ _ _ _ _ _ _ _ _ _ _ _ _ _) h; try dsimp only at h
    split at h
    rotate_left
    · exact h.elim
    rename_i h0 hlt hltL
    have h0 := Nat.le_of_ble_eq_true h0
    split at h
    rotate_left
    · exact h.elim
    rename_i it cs hg
    have hA := @hassign Y (some nk)
    have hB := @hbody Y (some nk)
    split at h
    · have hr : r = none := hr
      subst hr
      refine range_ok hI hA hB hg hc h0 hlt hY hltL (fun fn => ?_) h
      have hm1 := hc.m.newDfr (k := nk + 1) (ltLL_none hltL (by omega))
      have hm2 := hm1.newRec (nk := nk) (by
        rw [hasLL_c]
        have : Nat.beq (nk + 1) nk = false := by rw [Bool.eq_false_iff]; intro e; have := Nat.eq_of_beq_eq_true e; omega
        simp only [this, LB.has]
        exact ltLL_none hltL (Nat.le_refl _)) { state := .ready, pending := none, fn := fn, tmps := a.tmps, params := ps, assign := assign, body := body, defers := w.heap.size } rfl rfl
      have hb : (w.alloc (.deferred (some []))).heap.size = w.heap.size + 1 := World.size_alloc _ _
      rw [hb] at hm2
      refine ⟨_, [{ target := .collected w.heap.size, args := #[] }], _, [nk + 1], (run_enterLoop_outer fn a.tmps ps assign body).trans ?_, fun k hk => ?_, hm2, ?_, ?_, ?_, ?_, fun d hd => ?_, ?_, fun d hd => ?_⟩
      · rw [updS_same]
      · rw [updS_other (by omega), updS_other (by omega)]
      · rw [updS_same]
      · rw [updS_same]
      · rw [updS_same]
      · rw [updS_same]
      · have := ltLL_has hltL (getL_hasLL hd (.inl rfl))
        rw [getL_cons, if_neg (by omega), getL_cons, if_neg (by omega)]
        exact hd
      · exact ⟨by simp [markOf, updS_other, updS_same], by simp⟩
      · have : d = nk + 1 := by simpa using hd
        subst this
        exact ⟨rfl, by rw [getL_cons, if_neg (by omega), getL_cons, if_pos rfl]⟩
    · rename_i l0
      have hr : r = some (Sb l0).b := hr
      subst hr
      have hl0 := hro l0 rfl
      split at h
      rotate_left
      · exact h.elim
      rename_i st pe hL0
      refine range_ok hI hA hB hg hc h0 hlt hY hltL (fun fn => ?_) h
      have hh := hc.m.recHeap hL0
      rw [hc.ag l0 hl0] at hh
      have hm2 := hc.m.newRec (nk := nk) (ltLL_none hltL (Nat.le_refl _)) { state := .ready, pending := none, fn := fn, tmps := a.tmps, params := ps, assign := assign, body := body, defers := (Sb l0).r.defers } rfl rfl
      refine ⟨_, [], _, [], (run_enterLoop_inner hh fn a.tmps ps assign body).trans ?_, fun k hk => ?_, hm2, ?_, ?_, ?_, ?_, fun d hd => ?_, ⟨rfl, .nil⟩, fun d hd => by cases hd⟩
      · rw [updS_same]
      · rw [updS_other (by omega)]
      · rw [updS_same]
      · rw [updS_same]
      · rw [updS_same]
      · rw [updS_same]
      · have := ltLL_has hltL (getL_hasLL hd (.inl rfl))
        rw [getL_cons, if_neg (by omega)]
        exact hd
theorem vcC_ok {inl : Inl} (hmix : P.follows .mixedOrders = true) (hT : TabOk P E.T) (hΓ : GOk P E) (hI : InlOk P inl) (f : Nat) (wr : Bool) (c : Code) : CSound P E inl f wr N c := by
  induction c with
  | skip   => exact cs_skip hmix hT hΓ hI
  | label l  => exact cs_label hmix hT hΓ hI
  | exit l  => exact cs_exit hmix hT hΓ hI
  | goto l  => exact cs_goto hmix hT hΓ hI
  | ret   => exact cs_ret hmix hT hΓ hI
  | scope c ih => exact cs_scope hmix hT hΓ hI ih
  | refuse s  => exact cs_refuse hmix hT hΓ hI
  | region id ops draw  => exact cs_region hmix hT hΓ hI
  | seq x y ihx ihy => exact cs_seq hmix hT hΓ hI ihx ihy
  | cond g x y ihx ihy => exact cs_cond hmix hT hΓ hI ihx ihy
  | block id x ihx => exact cs_block hmix hT hΓ hI ihx
  | loop x ihx => exact cs_loop hmix hT hΓ hI ihx
  | rangeFunc g ps assign body ihassign ihbody => exact cs_rangeFunc hmix hT hΓ hI ihassign ihbody
end Go.Eng
