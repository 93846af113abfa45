/-
  Texts that the law leans on. Nothing here is trusted.
-/
import Derived.Test.YtnlglgafokjhnaaGreatEngS
set_option linter.unusedVariables false
set_option linter.unusedSimpArgs false
namespace Go.Eng
open Go Go.RowKit
structure Tau where
  S : Pl
  q : PH
  L : LL
  nk : Nat
  w : World
section
variable {P : Program} {ops : Array Oper} {w0 : W0} {r : Option Nat} {n N n0 : Nat} {Sb : Pl} {B : Nat → Prop} {Q : Exit → Act → World → Prop}
abbrev Fits (w0 : W0) (τ : Tau) (w : World) : Prop := Cl w0 τ.q τ.S τ.L τ.w w
structure TauOk (w0 : W0) (N n0 : Nat) (Sb : Pl) (B : Nat → Prop) (τ : Tau) (a : Act) : Prop where
  m : Mem w0 τ.q τ.S τ.L τ.w
  d : MarksOk w0 a.defers
  n : a.tmps.size = N
  ag : ∀ k, k < n0 → τ.S k = Sb k
  le : n0 ≤ τ.nk
  b : ∀ d, d < n0 → B d → getL τ.L d = some .dfr
theorem TauOk.put {τ : Tau} {a : Act} (h : TauOk w0 N n0 Sb B τ a) (d : Option Tmp) (v : Value) : TauOk w0 N n0 Sb B τ (a.put d v) :=
  ⟨h.m, by cases d <;> exact h.d, by rw [← h.n]; cases d <;> simp [Act.put], h.ag, h.le, h.b⟩
def ClosedL (ops : Array Oper) (listed : Array Bool) : Prop := ∀ j o, listed.getD j false = true → ops[j]? = some o → ∀ e ∈ o.after, Region.binds .any e = true → listed.getD e.on false = true
def Dp (ops : Array Oper) (c i : Nat) : Prop := ∀ listed, ClosedL ops listed → i ∈ Region.ready .any ops listed → listed.getD c false = true
structure Later (ops : Array Oper) (Φ : List (Nat × List Nat)) (i : Nat) (τ τ' : Tau) : Prop where
  S : ∀ k, k < τ.nk → τ'.S k = τ.S k
  q : τ.q.le τ'.q
  nk : τ.nk ≤ τ'.nk
  keep : ∀ c F, (c, F) ∈ Φ → ¬ Dp ops c i → ∀ k ∈ F, ∀ lb, getL τ.L k = some lb → getL τ'.L k = some lb ∧ ∀ b, blk τ.S k lb = some b → τ'.w.heap[b]? = τ.w.heap[b]?
theorem Later.refl {Φ : List (Nat × List Nat)} {i : Nat} (τ : Tau) : Later ops Φ i τ τ := ⟨fun _ _ => rfl, fun _ _ _ h => h, Nat.le_refl _, fun _ _ _ _ _ _ _ h => ⟨h, fun _ _ => rfl⟩⟩
def stepD (P : Program) (ops : Array Oper) (w0 : W0) (r : Option Nat) (n N n0 : Nat) (Sb : Pl) (B : Nat → Prop) (Q : Exit → Act → World → Prop) (Φ : List (Nat × List Nat)) (τ : Tau) (i : Nat) (next : Tau → Act → Prop) (a : Act) : Prop :=
  match ops[i]? with
  | none => next τ a
  | some o => if Region.wanted o (yielded ops a.tmps) = true then ∀ w, Fits w0 τ w → o.wpIn (FF r) n P a w (fun a' w' => ∃ τ', Later ops Φ i τ τ' ∧ TauOk w0 N n0 Sb B τ' a' ∧ Fits w0 τ' w' ∧ next τ' a') Q else next τ (a.put o.dst undef)
def wpD (P : Program) (ops : Array Oper) (w0 : W0) (r : Option Nat) (n N n0 : Nat) (Sb : Pl) (B : Nat → Prop) (Q : Exit → Act → World → Prop) (Kf : Tau → Act → Prop) : Nat → List (Nat × List Nat) → Tau → Array Bool → Act → Prop
  | 0, _, τ, listed, a => Region.ready .any ops listed = [] ∧ Kf τ a
  | fuel + 1, Φ, τ, listed, a => (Region.ready .any ops listed = [] → Kf τ a) ∧ ∀ i ∈ Region.ready .any ops listed, stepD P ops w0 r n N n0 Sb B Q Φ τ i (fun τ' a' => wpD P ops w0 r n N n0 Sb B Q Kf fuel Φ τ' (listed.setIfInBounds i true) a') a
variable {Kf : Tau → Act → Prop}
theorem stepD_mono {Φ Φ' : List (Nat × List Nat)} {τ : Tau} {i : Nat} {next next' : Tau → Act → Prop} {a : Act} (hΦ : ∀ x, x ∈ Φ' → x ∈ Φ) (h : stepD P ops w0 r n N n0 Sb B Q Φ τ i next a)
    (hn : ∀ τ' a', next τ' a' → next' τ' a') : stepD P ops w0 r n N n0 Sb B Q Φ' τ i next' a := by
  unfold stepD at *
  split
  · rename_i ho; simp only [ho] at h; exact hn _ _ h
  · rename_i o ho
    simp only [ho] at h
    split
    · rename_i hw
      rw [if_pos hw] at h
      intro w hf
      exact Oper.wpIn_mono (fun a' w' ⟨τ', h1, h2, h3, h4⟩ => ⟨τ', ⟨h1.S, h1.q, h1.nk, fun c F hc => h1.keep c F (hΦ _ hc)⟩, h2, h3, hn _ _ h4⟩) (h w hf)
    · rename_i hw
      rw [if_neg hw] at h
      exact hn _ _ h
theorem wpD_weak {Φ Φ' : List (Nat × List Nat)} (hΦ : ∀ x, x ∈ Φ' → x ∈ Φ) : ∀ {fuel : Nat} {τ : Tau} {listed : Array Bool} {a : Act}, wpD P ops w0 r n N n0 Sb B Q Kf fuel Φ τ listed a → wpD P ops w0 r n N n0 Sb B Q Kf fuel Φ' τ listed a
  | 0, _, _, _, h => h
  | fuel + 1, τ, listed, a, h => ⟨h.1, fun i hi => stepD_mono hΦ (h.2 i hi) fun _ _ h' => wpD_weak hΦ h'⟩
theorem wpIn_shift {o : Oper} {a : Act} {d : Option Tmp} {v : Value} {w : World} {next : Act → World → Prop} (hnd : ∀ c, o.op ≠ .defer c) (he : execOp (a.put d v).eval o = execOp a.eval o) (hdd : ∀ t, d = some t → o.dst ≠ some t)
    (hQp : ∀ ch a a' w, Q (.panic ch) a w → Q (.panic ch) a' w) (h : o.wpIn (FF r) n P (a.put d v) w next Q) : o.wpIn (FF r) n P a w (fun a' w' => (∃ u df, a' = ({ a with defers := df } : Act).put o.dst u) ∧ next (a'.put d v) w') Q := by
  refine ⟨fun _ _ => trivial, ?_⟩
  have h2 := h.2
  rw [Oper.semAt_eq _ _ _ hnd] at h2 ⊢
  rw [he] at h2
  have cm : ∀ u, (a.put d v).put o.dst u = (a.put o.dst u).put d v := fun u => Act.put_comm a v u hdd
  have hdf : ∀ x : Deferred, ({ a.put d v with defers := x :: (a.put d v).defers } : Act).put o.dst undef = (({ a with defers := x :: a.defers } : Act).put o.dst undef).put d v := fun x => by
    rw [← Act.put_comm _ v undef hdd]
    cases d <;> rfl
  revert h2
  generalize (execOp a.eval o).run P w = res
  intro h2
  cases res with
  | halt x w' => cases x <;> simp only [Oper.uponIn] at h2 ⊢ <;> first | exact hQp _ _ _ _ h2 | exact h2
  | ok nx w' =>
    cases nx <;> simp only [Oper.uponIn] at h2 ⊢
    case value u => rw [cm] at h2; exact ⟨⟨u, a.defers, rfl⟩, h2⟩
    case skip => rw [cm] at h2; exact ⟨⟨undef, a.defers, rfl⟩, h2⟩
    case defer x => rw [hdf] at h2; exact ⟨⟨undef, _, rfl⟩, h2⟩
    case enter f args =>
      refine ⟨h2.1, h2.2.mono fun e w'' he => ?_⟩
      cases e with
      | returned u => simp only at he ⊢; rw [cm] at he; exact ⟨⟨u, a.defers, rfl⟩, he⟩
      | panicked ch => exact hQp _ _ _ _ he
      | outgrown => exact he
    case row rw' args =>
      refine ⟨h2.1, h2.2.mono fun u w'' he => ?_⟩
      rw [cm] at he; exact ⟨⟨u, a.defers, rfl⟩, he⟩
    case round l f tm as bo =>
      refine ⟨h2.1, h2.2.mono fun e w'' he => ?_⟩
      cases e with
      | returned u => simp only at he ⊢; rw [cm] at he; exact ⟨⟨u, a.defers, rfl⟩, he⟩
      | panicked ch => exact hQp _ _ _ _ he
      | outgrown => exact he
    all_goals exact h2
theorem wpIn_at {o : Oper} {a : Act} {x : Value} {w : World} {next : Act → World → Prop} (hnd : ∀ c, o.op ≠ .defer c) (hq : Oper.quietUpon P (fun w' => Below w.heap.size w w') w x ((execOp a.eval o).run P w))
    (h : ∀ w', Below w.heap.size w w' → next (a.put o.dst x) w') : o.wpIn (FF r) n P a w next Q := by
  refine ⟨fun _ _ => trivial, ?_⟩
  rw [Oper.semAt_eq _ _ _ hnd]
  revert hq
  generalize (execOp a.eval o).run P w = res
  intro hy
  cases res with
  | halt x w' => simp only [Oper.quietUpon] at hy
  | ok nx w' =>
    cases nx <;> simp only [Oper.quietUpon] at hy <;> simp only [Oper.uponIn]
    case value u => obtain ⟨rfl, rfl⟩ := hy; exact h _ (.refl _ _)
    case skip => obtain ⟨rfl, rfl⟩ := hy; exact h _ (.refl _ _)
    case enter f args =>
      obtain ⟨rfl, hc⟩ := hy
      exact ⟨fun h => (by cases h), (calls_ff hc).mono fun e w'' ⟨he, hw''⟩ => by subst he; exact h _ hw''⟩
def YD (P : Program) (ops : Array Oper) (w0 : W0) (F : List Nat) (o : Oper) (v : Value) (τ : Tau) (a : Act) : Prop :=
  (∀ k ∈ F, k < τ.nk) ∧ ((Region.wanted o (yielded ops a.tmps) = true ∧ ∀ w, Cl w0 τ.q τ.S (footL F τ.L) τ.w w → Oper.quietUpon P (fun w' => Below w.heap.size w w') w v ((execOp a.eval o).run P w)) ∨ (Region.wanted o (yielded ops a.tmps) = false ∧ v = undef))
theorem Mem.less {q : PH} {L L' : LL} {S : Pl} {w : World} (h : Mem w0 q S L w) (hL : ∀ k x, getL L' k = some x → getL L k = some x) : Mem w0 q S L' w :=
  ⟨fun k x hk => h.ch k x (hL k x hk), fun k x k' x' hk hk' => h.ap k x k' x' (hL k x hk) (hL k' x' hk'), fun k x hk => h.po k x (hL k x hk), fun k x hk => h.fz k x (hL k x hk), h.on, h.be, h.gw⟩
theorem getL_footL {k : Nat} {L : LL} : ∀ {F : List Nat}, getL (footL F L) k = if k ∈ F then getL L k else none
  | [] => rfl
  | j :: F => by
    have ih := getL_footL (k := k) (L := L) (F := F)
    have e : footL (j :: F) L = match getL L j with | some x => (j, x) :: footL F L | none => footL F L := rfl
    rw [e]
    by_cases hj : j = k
    · subst hj
      cases hl : getL L j with
      | none => simp only [ih, hl]; simp
      | some x => simp only [getL_cons]; simp
    · have hk : (k ∈ j :: F) ↔ k ∈ F := by simp [Ne.symm hj]
      cases hl : getL L j with
      | none => simp only [ih, hk]
      | some x => simp only [getL_cons, if_neg hj, ih, hk]
theorem YD.later {Φ : List (Nat × List Nat)} {F : List Nat} {i j : Nat} {o : Oper} {v : Value} {τ τ' : Tau} {a : Act} (h : YD P ops w0 F o v τ a) (hi : (i, F) ∈ Φ) (hl : Later ops Φ j τ τ') (hd : ¬ Dp ops i j) : YD P ops w0 F o v τ' a := by
  refine ⟨fun k hk => Nat.lt_of_lt_of_le (h.1 k hk) hl.nk, h.2.imp (fun ⟨h1, h2⟩ => ⟨h1, fun w hw => h2 w ⟨fun k lb hk b hb => ?_, fun b o v hv => hw.on b o v (hl.q b o v hv), hw.be⟩⟩) id⟩
  rw [getL_footL] at hk
  split at hk
  rotate_left
  · cases hk
  rename_i hkF
  obtain ⟨k1, k2⟩ := hl.keep i F hi hd k hkF lb hk
  have hs := hl.S k (h.1 k hkF)
  have hb' : blk τ'.S k lb = some b := by rw [blk_congr hs]; exact hb
  rw [hw.ch k lb (by rw [getL_footL, if_pos hkF, k1]) b hb', k2 b hb]
theorem Closed_ready {listed : Array Bool} {i : Nat} (h : ClosedL ops listed) (hi : i ∈ Region.ready .any ops listed) : ClosedL ops (listed.setIfInBounds i true) := by
  obtain ⟨h0, oi, ho, hall⟩ := mem_ready.1 hi
  intro j o hj hoj e he hb
  by_cases hji : j = i
  · subst hji
    rw [ho] at hoj
    cases hoj
    exact getD_set_true (hall e he hb)
  · rw [getD_set_ne false (Ne.symm hji)] at hj
    exact getD_set_true (h j o hj hoj e he hb)
theorem wpD_first {F : List Nat} {i : Nat} {oi : Oper} {v : Value} (hnd : ∀ (j : Nat) (o : Oper) c, ops[j]? = some o → o.op ≠ .defer c) (hQp : ∀ ch a a' w, Q (.panic ch) a w → Q (.panic ch) a' w) (hi : ops[i]? = some oi) (hsel : ∀ (j : Nat) (o : Oper) cs b, ops[j]? = some o → o.op ≠ .select cs b) :
    ∀ (fuel : Nat) (Φ : List (Nat × List Nat)) (τ : Tau) (listed : Array Bool) (a : Act), ClosedL ops listed → TauOk w0 N n0 Sb B τ a →
      (∀ j oj, ops[j]? = some oj → j ≠ i → listed.getD j true = false → (∀ e ∈ oj.after, Region.binds .any e = true → e.on ≠ i) → oi.apart ops oj = true) →
      i ∈ Region.ready .any ops listed → YD P ops w0 F oi v τ a →
      wpD P ops w0 r n N n0 Sb B Q Kf fuel ((i, F) :: Φ) τ (listed.setIfInBounds i true) (a.put oi.dst v) → wpD P ops w0 r n N n0 Sb B Q Kf (fuel + 1) Φ τ listed a := by
  have now : ∀ {fuel : Nat} {Φ : List (Nat × List Nat)} {τ : Tau} {listed : Array Bool} {a : Act}, TauOk w0 N n0 Sb B τ a → YD P ops w0 F oi v τ a → wpD P ops w0 r n N n0 Sb B Q Kf fuel ((i, F) :: Φ) τ (listed.setIfInBounds i true) (a.put oi.dst v) →
      stepD P ops w0 r n N n0 Sb B Q Φ τ i (fun τ' a' => wpD P ops w0 r n N n0 Sb B Q Kf fuel Φ τ' (listed.setIfInBounds i true) a') a := fun {fuel Φ τ listed a} ht hy H => by
    have H' := wpD_weak (Φ' := Φ) (fun x hx => List.mem_cons_of_mem _ hx) H
    unfold stepD
    simp only [hi]
    rcases hy.2 with ⟨hw, hv⟩ | ⟨hw, rfl⟩
    · rw [if_pos hw]
      intro w hf
      have hch : ∀ k lb, getL (footL F τ.L) k = some lb → ∀ b, blk τ.S k lb = some b → w.heap[b]? = τ.w.heap[b]? := fun k lb hk b hb => by
        rw [getL_footL] at hk
        split at hk
        · exact hf.ch k lb hk b hb
        · cases hk
      have hcl : Cl w0 τ.q τ.S (footL F τ.L) τ.w w := ⟨hch, hf.on, hf.be⟩
      exact wpIn_at (hnd i oi · hi) (hv w hcl) fun w' hb => ⟨τ, .refl τ, ht.put _ _, Cl.below ht.m.ch hf hb, H'⟩
    · rw [if_neg (by rw [hw]; simp)]
      exact H'
  intro fuel
  induction fuel with
  | zero =>
    intro Φ τ listed a hcl ht _ hr hy H
    refine ⟨fun h => (by rw [h] at hr; cases hr), fun j hj => ?_⟩
    by_cases hji : j = i
    · subst hji; exact now ht hy H
    · have := ready_mono hj hji
      rw [H.1] at this
      cases this
  | succ fuel ih =>
    intro Φ τ listed a hcl ht hfree hr hy H
    refine ⟨fun h => (by rw [h] at hr; cases hr), fun j hj => ?_⟩
    by_cases hji : j = i
    · subst hji; exact now ht hy H
    · have h1 := H.2 j (ready_mono hj hji)
      obtain ⟨hjun, oj, hoj, hall⟩ := mem_ready.1 hj
      have hiun := (mem_ready.1 hr).1
      have hiF : listed.getD i false = false := by
        rcases Nat.lt_or_ge i listed.size with h' | h'
        · simp [h'] at hiun ⊢; exact hiun
        · simp [Array.getElem?_eq_none h'] at hiun
      have hnot : ∀ e ∈ oj.after, Region.binds .any e = true → e.on ≠ i := fun e he hb heq => by
        have h1 := hall e he hb
        rw [heq, hiF] at h1
        cases h1
      have hnd' : ¬ Dp ops i j := fun h => by have := h listed hcl hj; rw [hiF] at this; cases this
      obtain ⟨a1, a2, a3⟩ := Oper.apart_spec (hfree j oj hoj hji hjun hnot)
      have hfree' : ∀ k ok, ops[k]? = some ok → k ≠ i → (listed.setIfInBounds j true).getD k true = false →
          (∀ e ∈ ok.after, Region.binds .any e = true → e.on ≠ i) → oi.apart ops ok = true := fun k ok hk hki hun hno => by
        refine hfree k ok hk hki ?_ hno
        by_cases hjk : j = k
        · subst hjk; exact hjun
        · rw [getD_set_ne true hjk] at hun; exact hun
      have keepY : ∀ u, YD P ops w0 F oi v τ (a.put oj.dst u) := fun u => by
        refine ⟨hy.1, ?_⟩
        rw [execOp_put oi (hsel i oi · · hi) a oj.dst u a3, wanted_put oi a oj.dst u a3]
        exact hy.2
      have goal : ∀ τ' a', TauOk w0 N n0 Sb B τ' a' → YD P ops w0 F oi v τ' a' → wpD P ops w0 r n N n0 Sb B Q Kf fuel ((i, F) :: Φ) τ' ((listed.setIfInBounds i true).setIfInBounds j true) (a'.put oi.dst v) →
          wpD P ops w0 r n N n0 Sb B Q Kf (fuel + 1) Φ τ' (listed.setIfInBounds j true) a' := fun τ' a' t1 t2 t3 => by
        refine ih Φ τ' _ a' (Closed_ready hcl hj) t1 hfree' (ready_mono hr (Ne.symm hji)) t2 ?_
        rw [Array.setIfInBounds_comm _ _ hji]
        exact t3
      unfold stepD at h1 ⊢
      simp only [hoj] at h1 ⊢
      rw [wanted_put oj a oi.dst v a1] at h1
      split
      · rename_i hw
        rw [if_pos hw] at h1
        intro w hf
        refine Oper.wpIn_mono ?_ (wpIn_shift (hnd j oj · hoj) (execOp_put oj (hsel j oj · · hoj) a oi.dst v a1) a2 hQp (h1 w hf))
        rintro a' w' ⟨⟨u, df, rfl⟩, τ', l1, l2, l3, l4⟩
        have e1 : ∀ x, (({ a with defers := df } : Act).put oj.dst u).eval x = (a.put oj.dst u).eval x := fun x => by cases oj.dst <;> rfl
        have e2 : (({ a with defers := df } : Act).put oj.dst u).tmps = (a.put oj.dst u).tmps := by cases oj.dst <;> rfl
        have hok : TauOk w0 N n0 Sb B τ' (({ a with defers := df } : Act).put oj.dst u) := ⟨l2.m, by have := l2.d; cases hd : oi.dst <;> rw [hd] at this <;> exact this, by have := l2.n; cases hd : oi.dst <;> rw [hd] at this <;> simpa [Act.put] using this, l2.ag, l2.le, l2.b⟩
        refine ⟨τ', ⟨l1.S, l1.q, l1.nk, fun c F hc => l1.keep c F (List.mem_cons_of_mem _ hc)⟩, hok, l3, goal τ' _ hok ?_ l4⟩
        have hy' := (keepY u).later (List.mem_cons_self) l1 hnd'
        refine ⟨hy'.1, ?_⟩
        rw [show (({ a with defers := df } : Act).put oj.dst u).eval = (a.put oj.dst u).eval from funext e1, e2]
        exact hy'.2
      · rename_i hw
        rw [if_neg hw] at h1
        refine goal τ _ (ht.put _ _) (keepY _) ?_
        rw [← Act.put_comm a v undef a2]
        exact h1
theorem wpAnyIn_of_D (hQ : ∀ τ a w, Fits w0 τ w → TauOk w0 N n0 Sb B τ a → Kf τ a → Q .normal a w) : ∀ (fuel : Nat) (Φ : List (Nat × List Nat)) (τ : Tau) (listed : Array Bool) (a : Act) (w : World), Fits w0 τ w → TauOk w0 N n0 Sb B τ a →
    wpD P ops w0 r n N n0 Sb B Q Kf fuel Φ τ listed a → wpAnyIn (FF r) n P .any ops Q fuel listed a w
  | 0, Φ, τ, listed, a, w, hf, ht, h => ⟨h.1, hQ τ a w hf ht h.2⟩
  | fuel + 1, Φ, τ, listed, a, w, hf, ht, h => by
    refine ⟨fun h0 => hQ τ a w hf ht (h.1 h0), fun i hi => ?_⟩
    have h1 := h.2 i hi
    unfold stepD at h1
    unfold wpOpIn
    split
    · rename_i ho
      simp only [ho] at h1
      exact wpAnyIn_of_D hQ fuel Φ τ _ a w hf ht h1
    · rename_i o ho
      simp only [ho] at h1
      split
      · rename_i hw
        rw [if_pos hw] at h1
        exact Oper.wpIn_mono (fun a' w' ⟨τ', _, h2, h3, h4⟩ => wpAnyIn_of_D hQ fuel Φ τ' _ a' w' h3 h2 h4) (h1 w hf)
      · rename_i hw
        rw [if_neg hw] at h1
        exact ⟨fun _ _ => trivial, wpAnyIn_of_D hQ fuel Φ τ _ _ w hf (ht.put _ _) h1⟩
theorem memN_iff {k : Nat} : ∀ {l : List Nat}, memN k l = true ↔ k ∈ l
  | [] => by simp [memN]
  | x :: r => by
    have e : memN k (x :: r) = match Nat.beq x k with | true => true | false => memN k r := rfl
    rw [e]
    cases hx : Nat.beq x k with
    | true => have := Nat.eq_of_beq_eq_true hx; subst this; simp
    | false =>
      have : x ≠ k := fun e => by subst e; simp at hx
      simp only [memN_iff (l := r)]
      simp [Ne.symm this]
theorem mem_catN {k : Nat} : ∀ {a b : List Nat}, k ∈ catN a b ↔ k ∈ a ∨ k ∈ b
  | [], b => by simp [catN]
  | x :: r, b => by
    have e : catN (x :: r) b = x :: catN r b := rfl
    rw [e, List.mem_cons, mem_catN, List.mem_cons, or_assoc]
theorem mem_protK {ds : List Nat} {c k : Nat} {F : List Nat} : ∀ {Φ : List (Nat × List Nat)}, (c, F) ∈ Φ → c ∉ ds → k ∈ F → k ∈ protK Φ ds
  | [], h, _, _ => by cases h
  | (c', F') :: r, h, hc, hk => by
    have e : protK ((c', F') :: r) ds = match memN c' ds with | true => protK r ds | false => catN F' (protK r ds) := rfl
    rw [e]
    rcases List.mem_cons.1 h with h | h
    · cases h
      have : memN c ds = false := by
        cases hm : memN c ds with
        | false => rfl
        | true => exact absurd (memN_iff.1 hm) hc
      rw [this]
      exact mem_catN.2 (.inl hk)
    · have := mem_protK h hc hk
      cases memN c' ds with
      | true => exact this
      | false => exact mem_catN.2 (.inr this)
theorem getL_lessL {k : Nat} {ks : List Nat} : ∀ {L : LL}, getL (lessL ks L) k = if k ∈ ks then none else getL L k
  | [] => by simp [lessL, getL_n]
  | (u, x) :: r => by
    have ih := getL_lessL (k := k) (ks := ks) (L := r)
    have e : lessL ks ((u, x) :: r) = match memN u ks with | true => lessL ks r | false => (u, x) :: lessL ks r := rfl
    rw [e, getL_cons]
    cases hm : memN u ks with
    | true =>
      have hu := memN_iff.1 hm
      simp only [ih]
      by_cases e : u = k
      · subst e; rw [if_pos hu, if_pos hu]
      · rw [if_neg e]
    | false =>
      have hu : u ∉ ks := fun h => by rw [memN_iff.2 h] at hm; cases hm
      simp only [getL_cons, ih]
      by_cases e : u = k
      · subst e; rw [if_pos rfl, if_neg hu, if_pos rfl]
      · rw [if_neg e, if_neg e]
theorem depsB_ok {i : Nat} : ∀ {ds acc : List Nat}, depsB ops acc ds = true → (∀ d ∈ acc, d = i ∨ Dp ops d i) → ∀ c ∈ ds, Dp ops c i
  | [], _, _, _, c, hc => by cases hc
  | x :: r, acc, h, ha, c, hc => by
    simp only [depsB, Bool.and_eq_true, List.any_eq_true] at h
    obtain ⟨⟨d, hd, h1⟩, h2⟩ := h
    have hx : Dp ops x i := fun listed hcl hi => by
      cases ho : ops[d]? with
      | none => rw [ho] at h1; simp at h1
      | some o =>
        rw [ho] at h1
        simp only [List.any_eq_true, Bool.and_eq_true, beq_iff_eq] at h1
        obtain ⟨e, he, hb, hon⟩ := h1
        rcases ha d hd with rfl | hdp
        · obtain ⟨_, o', ho', hall⟩ := mem_ready.1 hi
          rw [ho] at ho'
          cases ho'
          have := hall e (by simpa using he) hb
          rwa [hon] at this
        · have := hcl d o (hdp listed hcl hi) ho e (by simpa using he) hb
          rwa [hon] at this
    rcases List.mem_cons.1 hc with rfl | hc
    · exact hx
    · exact depsB_ok h2 (fun d hd => by
        rcases List.mem_cons.1 hd with rfl | hd
        · exact .inr hx
        · exact ha d hd) c hc
theorem guardK_ok {o : Oper} {S : Pl} {fr : Fr} {a : Act} {run skip : Fr → Prop} (hf : okF S fr a.tmps) (h : guardK ops.toList o.guard fr run skip) :
    (∃ fr', okF S fr' a.tmps ∧ run fr' ∧ Region.wanted o (yielded ops a.tmps) = true) ∨ (∃ fr', okF S fr' a.tmps ∧ skip fr' ∧ Region.wanted o (yielded ops a.tmps) = false) := by
  have ea : ops.toList.toArray = ops := by simp
  unfold guardK at h
  unfold Region.wanted
  split at h
  · rename_i hg
    rw [hg]
    exact .inl ⟨fr, hf, h, rfl⟩
  rename_i j want hg
  rw [hg]
  split at h
  · exact h.elim
  rename_i t ht
  have htv := hf t
  have yb : ∀ b, a.tmps.getD t undef = .bool b → yielded ops a.tmps j = some b := fun b hb => by have := yielded_of (all := ops.toList) ht hb; rwa [ea] at this
  split at h
  · rename_i b e
    rw [e] at htv
    have y := yb b htv
    dsimp only
    rw [y]
    cases b <;> cases want <;> simp only at h
    · exact .inl ⟨fr, hf, h, rfl⟩
    · exact .inr ⟨fr, hf, h, rfl⟩
    · exact .inr ⟨fr, hf, h, rfl⟩
    · exact .inl ⟨fr, hf, h, rfl⟩
  · rename_i p d e
    rw [e] at htv
    by_cases hp : p
    · have hv : a.tmps.getD t undef = .bool true := by rw [htv]; simp [hp]
      have y := yb true hv
      have hf' := okF_setF (x := .bb true) hf hv
      dsimp only
      rw [y]
      cases want <;> simp only at h
      · exact .inr ⟨_, hf', h.1 hp, rfl⟩
      · exact .inl ⟨_, hf', h.1 hp, rfl⟩
    · have hv : a.tmps.getD t undef = .bool false := by rw [htv]; simp [hp]
      have y := yb false hv
      have hf' := okF_setF (x := .bb false) hf hv
      dsimp only
      rw [y]
      cases want <;> simp only at h
      · exact .inl ⟨_, hf', h.2 hp, rfl⟩
      · exact .inr ⟨_, hf', h.2 hp, rfl⟩
  · rename_i x e
    rw [e] at htv
    have htv : a.tmps.getD t undef = .tuple x := htv
    have y := yielded_none (all := ops.toList) ht (fun b => by rw [htv]; simp)
    rw [ea] at y
    dsimp only
    rw [y]
    exact .inr ⟨fr, hf, h, rfl⟩
  · exact h.elim
mutual
theorem keysV_has : ∀ (x : SV) {k : Nat}, k ∈ keysV x → x.has k = true
  | .v _, k, h => by simp [keysV] at h
  | .bb _, k, h => by simp [keysV] at h
  | .b _ _, k, h => by simp [keysV] at h
  | .bad, k, h => by simp [keysV] at h
  | .el _ _, k, h => by simp [keysV] at h
  | .lp j o, k, h => by have : k = j := by simpa [keysV] using h
                        subst this; simp [SV.has]
  | .own j, k, h => by have : k = j := by simpa [keysV] using h
                       subst this; simp [SV.has]
  | .yl j, k, h => by have : k = j := by simpa [keysV] using h
                      subst this; simp [SV.has]
  | .ls j n, k, h => by have : k = j := by simpa [keysV] using h
                        subst this; simp [SV.has]
  | .mr j, k, h => by have : k = j := by simpa [keysV] using h
                      subst this; simp [SV.has]
  | .lq j, k, h => by have : k = j := by simpa [keysV] using h
                      subst this; simp [SV.has]
  | .vw j _ _ _ _, k, h => by
    have : k = j := by simpa [keysV] using h
    subst this
    simp [SV.has]
  | .agg l, k, h => by
    have := keysL_has l (k := k) h
    simpa [SV.has] using this
  | .tup l, k, h => by
    have := keysL_has l (k := k) h
    simpa [SV.has] using this
  | .fn f l, k, h => by
    have := keysL_has l (k := k) h
    simpa [SV.has] using this
theorem keysL_has : ∀ (l : List SV) {k : Nat}, k ∈ keysV (.agg l) → hasL k l = true
  | [], k, h => by simp [keysV] at h
  | x :: r, k, h => by
    have e : keysV (.agg (x :: r)) = catN (keysV x) (keysV (.agg r)) := rfl
    rw [e] at h
    unfold hasL
    rcases mem_catN.1 h with h | h
    · rw [keysV_has x h]
    · split
      · rfl
      · exact keysL_has r h
end
theorem keysFr_has : ∀ {fr : Fr} {k : Nat}, k ∈ keysFr fr → hasF k fr = true
  | [], k, h => by simp [keysFr] at h
  | (u, x) :: r, k, h => by
    have e : keysFr ((u, x) :: r) = catN (keysV x) (keysFr r) := rfl
    rw [e] at h
    rw [hasF_c]
    rcases mem_catN.1 h with h | h
    · rw [keysV_has x h]
    · split
      · rfl
      · exact keysFr_has h
theorem foot_in {op : Op} {fr : Fr} {k : Nat} (h : k ∈ footOf op fr) : k ∈ keysFr fr := by
  unfold footOf at h
  split at h <;> first | exact h | cases h
theorem keysC_has : ∀ {cs : List SV} {k : Nat}, k ∈ keysC cs → hasL k cs = true
  | [], k, h => by simp [keysC] at h
  | x :: r, k, h => by
    have e : keysC (x :: r) = catN (keysV x) (keysC r) := rfl
    rw [e] at h
    unfold hasL
    rcases mem_catN.1 h with h | h
    · rw [keysV_has x h]
    · split
      · rfl
      · exact keysC_has h
theorem keysLs_has {L : LL} {k : Nat} : ∀ {F : List Nat}, k ∈ keysLs F L → hasLL k L = true
  | [], h => by simp [keysLs] at h
  | j :: F, h => by
    have e : keysLs (j :: F) L = match getL L j with | some x => catN (keysB x) (keysLs F L) | none => keysLs F L := rfl
    rw [e] at h
    cases hl : getL L j with
    | none => rw [hl] at h; exact keysLs_has h
    | some x =>
      rw [hl] at h
      rcases mem_catN.1 h with h | h
      · cases x with
        | cells T cs => exact getL_hasLL hl (.inr (keysC_has (cs := cs) h))
        | row E sz n cs => exact getL_hasLL hl (.inr (keysC_has (cs := cs) h))
        | _ => simp [keysB] at h
      · exact keysLs_has h
theorem footD_in {op : Op} {fr : Fr} {L : LL} {k : Nat} (h : k ∈ footD op fr L) : k ∈ keysFr fr ∨ hasLL k L = true := by
  unfold footD at h
  split at h
  · rcases mem_catN.1 h with h | h
    · exact .inl h
    · rcases mem_catN.1 h with h | h
      · exact .inr (keysLs_has h)
      · exact .inr (keysLs_has h)
  · exact .inl (foot_in h)
variable {E : Env} {inl : Inl} {Y : Ye} {wr : Bool} {K : Kt}
theorem eff_stepD (hT : TabOk P E.T) (hΓ : GOk P E) (hI : InlOk P inl) (hY : YOk P Sb Y n0) {Φ : List (Nat × List Nat)} {ds : List Nat} {i : Nat} {o : Oper} {τ : Tau} {fr : Fr} {a : Act} {w : World} {Kx : Kt}
    (hds : ∀ c ∈ ds, Dp ops c i) (ht : TauOk w0 N n0 Sb B τ a) (hf : okF τ.S fr a.tmps) (hltL : ltLL τ.nk τ.L = true) (hw : Fits w0 τ w)
    (h : effK E inl Y wr τ.nk N τ.nk o.dst o.op (τ.nk + 1) τ.q fr (lessL (protK Φ ds) τ.L) fun nk2 q2 fr2 L2 => match Nat.ble τ.nk nk2 with
            | true => Ob (τ.q.le q2) ∧ Kx nk2 q2 fr2 (appL (footL (protK Φ ds) τ.L) L2)
            | false => False) :
    o.wpIn (FF r) n P a w (fun a' w' => ∃ τ', Later ops Φ i τ τ' ∧ TauOk w0 N n0 Sb B τ' a' ∧ Fits w0 τ' w' ∧ ∃ fr', okF τ'.S fr' a'.tmps ∧ Kx τ'.nk τ'.q fr' τ'.L) Q := by
  have hm := ht.m.of_cl hw
  let Pk := protK Φ ds
  have hlt0 : ∀ b, (w0.F b ∨ ∃ k lb, getL (footL Pk τ.L) k = some lb ∧ blk τ.S k lb = some b) → b < w.heap.size := fun b hb => by
    rcases hb with hb | ⟨k, lb, hk, hb⟩
    · exact Nat.lt_of_lt_of_le (w0.lt b hb) hm.be.size
    · rw [getL_footL] at hk
      split at hk
      · exact (blk_lt (hm.ch k lb hk) hb).2
      · cases hk
  let w1 : W0 := ⟨w, fun b => w0.F b ∨ ∃ k lb, getL (footL Pk τ.L) k = some lb ∧ blk τ.S k lb = some b, hlt0, fun b => w0.F0 b ∨ ∃ k lb, getL (footL Pk τ.L) k = some lb ∧ blk τ.S k lb = some b, fun b hb => Or.imp (w0.sub b) id hb, τ.q⟩
  have foot : ∀ {k lb}, getL (footL Pk τ.L) k = some lb → k ∈ Pk ∧ getL τ.L k = some lb := fun {k lb} hk => by
    rw [getL_footL] at hk
    split at hk
    · exact ⟨by assumption, hk⟩
    · cases hk
  have less : ∀ {k lb}, getL (lessL Pk τ.L) k = some lb → k ∉ Pk ∧ getL τ.L k = some lb := fun {k lb} hk => by
    rw [getL_lessL] at hk
    split at hk
    · cases hk
    · exact ⟨by assumption, hk⟩
  have hm1 : Mem w1 τ.q τ.S (lessL Pk τ.L) w := by
    have hl := hm.less (L' := lessL Pk τ.L) fun k x hk => (less hk).2
    refine ⟨hl.ch, hl.ap, hl.po, fun k lb hk b hb hF => ?_, hl.on, .refl w1, fun _ _ _ hv _ => hv⟩
    rcases hF with hF | ⟨k', lb', hk', hb'⟩
    · exact hl.fz k lb hk b hb hF
    · obtain ⟨p1, p2⟩ := foot hk'
      obtain ⟨l1, l2⟩ := less hk
      exact hm.ap k lb k' lb' l2 p2 (fun e => l1 (e ▸ p1)) b hb hb'
  have hd1 : MarksOk w1 a.defers := by
    obtain ⟨Hs, e, hn, hH⟩ := ht.d
    refine ⟨Hs, e, hn, fun b hb => ?_⟩
    obtain ⟨k1, k2, k3⟩ := hH b hb
    refine ⟨.inl k1, fun hF0 => ?_, (hm.be.block b k1).trans k3⟩
    rcases hF0 with hF0 | ⟨k, lb, hk, hb⟩
    · exact k2 hF0
    · exact hm.fz k lb (foot hk).2 b hb k1
  have hc : Cfg w1 τ.S (fun d => getL (lessL Pk τ.L) d = some .dfr) τ.nk N τ.S τ.q fr (lessL Pk τ.L) a w := ⟨fun _ _ => rfl, fun _ _ h => h, hm1, hf, ht.n, hd1⟩
  have hY1 : YOk P τ.S Y τ.nk := (hY.congr fun k hk => ht.ag k hk).more ht.le
  refine Oper.wpIn_mono ?_ (effK_ok (r := r) (n := n) (Q := Q) hT hΓ hI hY1 hc h)
  rintro a' w' ⟨S', q', fr', L', nk', hc', hK⟩
  split at hK
  rotate_left
  · exact hK.elim
  rename_i hle
  have hle := Nat.le_of_ble_eq_true hle
  obtain ⟨⟨hq⟩, hK⟩ := hK
  have hag : ∀ k, k < τ.nk → S' k = τ.S k := hc'.ag
  have hlt : ∀ k, hasLL k τ.L = true → k < τ.nk := fun k hk => ltLL_has hltL hk
  have hkt : ∀ {k lb}, getL τ.L k = some lb → k < τ.nk := fun hk => hlt _ (getL_hasLL hk (.inl rfl))
  have hbl : ∀ {k lb}, getL τ.L k = some lb → blk S' k lb = blk τ.S k lb := fun hk => blk_congr (hag _ (hkt hk))
  have hheap : ∀ {k lb b}, getL (footL Pk τ.L) k = some lb → blk τ.S k lb = some b → w'.heap[b]? = w.heap[b]? := fun hk hb => hc'.m.be.block _ (.inr ⟨_, _, hk, hb⟩)
  have ga : ∀ {k lb}, getL (appL (footL Pk τ.L) L') k = some lb → getL (footL Pk τ.L) k = some lb ∨ (getL (footL Pk τ.L) k = none ∧ getL L' k = some lb) := fun {k lb} hk => by
    rw [getL_appL] at hk
    split at hk
    · rename_i x hx; exact .inl (hx.trans hk)
    · rename_i hx; exact .inr ⟨hx, hk⟩
  have chP : ∀ {k lb}, getL (footL Pk τ.L) k = some lb → chunk 0 S' k lb w' := fun {k lb} hk => by
    have h1 := hm.ch k lb (foot hk).2
    have h2 : chunk 0 τ.S k lb w' := chunk_same h1 fun b hb => hheap hk hb
    exact chunk_congr (hag k (hkt (foot hk).2)) (fun j hj => hag j (hlt j (getL_hasLL (foot hk).2 (.inr hj)))) h2
  have fz' : ∀ {k lb}, getL L' k = some lb → ∀ b, blk S' k lb = some b → ¬ w1.F b := fun hk b hb => hc'.m.fz _ _ hk b hb
  have hbel : Bel w0 w' := ⟨hc'.m.be.os.trans hm.be.os, hc'.m.be.tape.trans hm.be.tape, hc'.m.be.output.trans hm.be.output, Nat.le_trans hm.be.size hc'.m.be.size, fun b hF => (hc'.m.be.block b (.inl hF)).trans (hm.be.block b hF)⟩
  have hmem : Mem w0 q' S' (appL (footL Pk τ.L) L') w' := by
    refine ⟨fun k lb hk => ?_, fun k lb k' lb' hk hk' hne b hb hb' => ?_, fun k lb hk b hb o => ?_, fun k lb hk b hb hF => ?_, hc'.m.on, hbel, fun b o v hv hF => hm.gw b o v (hc'.m.gw b o v hv (.inl hF)) hF⟩
    · rcases ga hk with h1 | ⟨_, h1⟩
      · exact chP h1
      · exact hc'.m.ch k lb h1
    · rcases ga hk with h1 | ⟨_, h1⟩ <;> rcases ga hk' with h2 | ⟨_, h2⟩
      · rw [hbl (foot h1).2] at hb
        rw [hbl (foot h2).2] at hb'
        exact hm.ap k lb k' lb' (foot h1).2 (foot h2).2 hne b hb hb'
      · rw [hbl (foot h1).2] at hb
        exact fz' h2 b hb' (.inr ⟨k, lb, h1, hb⟩)
      · rw [hbl (foot h2).2] at hb'
        exact fz' h1 b hb (.inr ⟨k', lb', h2, hb'⟩)
      · exact hc'.m.ap k lb k' lb' h1 h2 hne b hb hb'
    · rcases ga hk with h1 | ⟨_, h1⟩
      · rw [hbl (foot h1).2] at hb
        cases hq' : q' b o with
      | none => rfl
      | some v =>
        have : τ.q b o = some v := hc'.m.gw b o v hq' (.inr ⟨k, lb, h1, hb⟩)
        rw [hm.po k lb (foot h1).2 b hb o] at this
        cases this
      · exact hc'.m.po k lb h1 b hb o
    · rcases ga hk with h1 | ⟨_, h1⟩
      · rw [hbl (foot h1).2] at hb
        exact hm.fz k lb (foot h1).2 b hb hF
      · exact fz' h1 b hb (.inl hF)
  refine ⟨⟨S', q', appL (footL Pk τ.L) L', nk', w'⟩, ⟨hag, hq, hle, fun c F hc hnd k hk lb hlb => ?_⟩, ⟨hmem, ?_, hc'.n, fun k hk => (hag k (Nat.lt_of_lt_of_le hk ht.le)).trans (ht.ag k hk), Nat.le_trans ht.le hle, fun d hd hB => ?_⟩, hmem.cl, fr', hc'.f, hK⟩
  · have hkp : k ∈ Pk := mem_protK hc (fun hcd => hnd (hds c hcd)) hk
    have e : getL (footL Pk τ.L) k = getL τ.L k := by rw [getL_footL, if_pos hkp]
    refine ⟨?_, fun b hb => ?_⟩
    · show getL (appL (footL Pk τ.L) L') k = _
      rw [getL_appL, e, hlb]
    · rw [hheap (e.trans hlb) hb]
      exact hw.ch k lb hlb b hb
  · obtain ⟨Hs, e, hn, hH⟩ := hc'.d
    refine ⟨Hs, e, hn, fun b hb => ?_⟩
    obtain ⟨k1, k2, k3⟩ := hH b hb
    have k1' : w0.F b := by
      rcases k1 with k1 | k1
      · exact k1
      · exact absurd (.inr k1) k2
    exact ⟨k1', fun hF0 => k2 (.inl hF0), (hm.be.block b k1').symm.trans k3⟩
  · show getL (appL (footL Pk τ.L) L') d = _
    have hdL := ht.b d hd hB
    rw [getL_appL]
    split
    · rename_i x hx; rw [(foot hx).2] at hdL; exact hdL
    · rename_i hx
      refine hc'.b d (Nat.lt_of_lt_of_le hd ht.le) ?_
      rw [getL_lessL]
      split
      · rename_i hp; rw [getL_footL, if_pos hp, hdL] at hx; cases hx
      · exact hdL
theorem vcP_eff {q : PH} {ltf : Nat → Fr → Bool} {ltl : Nat → LL → Bool} {cf : CalmF} {ef : EffF} {all : List Oper} {i : Nat} {ds : List Nat} {nx alt : Pn} {Φ : List (Nat × List Nat)} {nk : Nat} {fr : Fr} {L : LL} {K : Kt} : vcP ltf ltl cf ef N all (.eff i ds nx alt) Φ nk q fr L K =
    ((match nth all i with
      | none => False
      | some ⟨dst, op, _, _, _, guard⟩ => guardK all guard fr
        (fun fr => match ltf nk fr, ltl nk L with
          | true, true => fN (nk + 1) fun nk1 => ef nk nk dst op nk1 q fr (lessL (protK Φ ds) L) fun nk2 q2 fr2 L2 => match Nat.ble nk nk2 with
            | true => Ob (q.le q2) ∧ vcP ltf ltl cf ef N all nx Φ nk2 q2 fr2 (appL (footL (protK Φ ds) L) L2) K
            | false => False
          | _, _ => False)
        (fun fr => putK N dst (.v undef) fr fun fr => vcP ltf ltl cf ef N all nx Φ nk q fr L K)) ∧ vcP ltf ltl cf ef N all alt Φ nk q fr L K) := rfl
theorem vcP_wpD (hT : TabOk P E.T) (hΓ : GOk P E) (hI : InlOk P inl) (hY : YOk P Sb Y n0) (hnd : ∀ (j : Nat) (o : Oper) c, ops[j]? = some o → o.op ≠ .defer c) (hs : Region.noSelect ops = true) (hQp : ∀ ch a a' w, Q (.panic ch) a w → Q (.panic ch) a' w) :
    ∀ (p : Pn) {fuel : Nat} {top : Bool} {Φ : List (Nat × List Nat)} {τ : Tau} {fr : Fr} {listed : Array Bool} {a : Act}, planB ops top p listed = true → p.depth ≤ fuel → ClosedL ops listed → TauOk w0 N n0 Sb B τ a → okF τ.S fr a.tmps →
      vcP ltF ltLL (fun op fr L q K => calmK E.T E.Γ E.Δ wr q op fr L K) (fun n0 key dst op nk q fr L K => effK E inl Y wr n0 N key dst op nk q fr L K) N ops.toList p Φ τ.nk τ.q fr τ.L K →
      (top = true → wpD P ops w0 r n N n0 Sb B Q (fun τ a => ∃ fr, okF τ.S fr a.tmps ∧ K τ.nk τ.q fr τ.L) fuel Φ τ listed a) ∧
      ∀ i ∈ p.heads, ∃ f, fuel = f + 1 ∧ stepD P ops w0 r n N n0 Sb B Q Φ τ i (fun τ' a' => wpD P ops w0 r n N n0 Sb B Q (fun τ a => ∃ fr, okF τ.S fr a.tmps ∧ K τ.nk τ.q fr τ.L) f Φ τ' (listed.setIfInBounds i true) a') a
  | .done, fuel, top, Φ, τ, fr, listed, a, hp, _, _, _, hf, h => by
    simp only [planB, Bool.and_eq_true, List.isEmpty_iff] at hp
    refine ⟨fun _ => ?_, fun i hi => by cases hi⟩
    cases fuel with
    | zero => exact ⟨hp.2, fr, hf, h⟩
    | succ f => exact ⟨fun _ => ⟨fr, hf, h⟩, fun i hi => by rw [hp.2] at hi; cases hi⟩
  | .no, fuel, top, Φ, τ, fr, listed, a, hp, _, _, _, _, _ => by
    simp only [planB] at hp
    exact ⟨fun ht => (by rw [ht] at hp; cases hp), fun i hi => by cases hi⟩
  | .calm i nx, fuel, top, Φ, τ, fr, listed, a, hp, hdp, hcl, ht, hf, h => by
    simp only [planB, Bool.and_eq_true, List.contains_iff_mem] at hp
    obtain ⟨⟨⟨_, hi⟩, hfree⟩, hp⟩ := hp
    refine ⟨fun _ => ?_, fun i hi => by cases hi⟩
    cases fuel with
    | zero => exact absurd hdp (by simp [Pn.depth])
    | succ f =>
    have hdp' : nx.depth ≤ f := by simpa [Pn.depth] using hdp
    replace h : (match nth ops.toList i with
      | none => False
      | some ⟨dst, op, _, _, _, guard⟩ => guardK ops.toList guard fr
        (fun fr => fFr (keepF (uses op) fr) fun fo => match ltF τ.nk fo, ltLL τ.nk τ.L with
          | true, true => calmK E.T E.Γ E.Δ wr τ.q op fo (footL (footD op fo τ.L) τ.L) fun x => putK N dst x fr fun fr => vcP ltF ltLL (fun op fr L q K => calmK E.T E.Γ E.Δ wr q op fr L K) (fun n0 key dst op nk q fr L K => effK E inl Y wr n0 N key dst op nk q fr L K) N ops.toList nx ((i, footD op fo τ.L) :: Φ) τ.nk τ.q fr τ.L K
          | _, _ => False)
        (fun fr => putK N dst (.v undef) fr fun fr => vcP ltF ltLL (fun op fr L q K => calmK E.T E.Γ E.Δ wr q op fr L K) (fun n0 key dst op nk q fr L K => effK E inl Y wr n0 N key dst op nk q fr L K) N ops.toList nx ((i, []) :: Φ) τ.nk τ.q fr τ.L K)) := h
    rw [nth_get, Array.getElem?_toList] at h
    split at h
    · exact h.elim
    rename_i dst op oty pos after guard hoi
    have put : ∀ {fr : Fr} {x : SV} {v : Value} {K' : Fr → Prop}, okF τ.S fr a.tmps → putK N dst x fr K' → okv τ.S x v → ∃ fr', K' fr' ∧ okF τ.S fr' (a.put dst v).tmps := by
      intro fr x v K' hf hp hx
      unfold putK at hp
      split at hp
      · exact ⟨fr, hp, hf⟩
      · rename_i d
        split at hp
        · rename_i hd'
          have hd' : d < N := Nat.le_of_ble_eq_true hd'
          exact ⟨_, hp, okF_put hf hx (by rw [ht.n]; exact hd')⟩
        · exact hp.elim
    have fin : ∀ {F : List Nat} {v : Value}, YD P ops w0 F ⟨dst, op, oty, pos, after, guard⟩ v τ a → (∃ fr', vcP ltF ltLL (fun op fr L q K => calmK E.T E.Γ E.Δ wr q op fr L K) (fun n0 key dst op nk q fr L K => effK E inl Y wr n0 N key dst op nk q fr L K) N ops.toList nx ((i, F) :: Φ) τ.nk τ.q fr' τ.L K ∧ okF τ.S fr' (a.put dst v).tmps) →
        wpD P ops w0 r n N n0 Sb B Q (fun τ a => ∃ fr, okF τ.S fr a.tmps ∧ K τ.nk τ.q fr τ.L) (f + 1) Φ τ listed a := by
      rintro F v hy ⟨fr', h', hf'⟩
      refine wpD_first hnd hQp hoi (Region.noSelect_spec hs) f Φ τ listed a hcl ht (Region.free_spec hoi hfree) hi hy ?_
      exact (vcP_wpD hT hΓ hI hY hnd hs hQp nx hp hdp' (Closed_ready hcl hi) (ht.put _ _) hf' h').1 rfl
    rcases guardK_ok (o := ⟨dst, op, oty, pos, after, guard⟩) hf h with ⟨fr1, hf1, h1, hw⟩ | ⟨fr1, hf1, h1, hw⟩
    · rw [fFr_eq] at h1
      split at h1
      · rename_i hlt hltL
        have hm' : Mem w0 τ.q τ.S (footL (footD op (keepF (uses op) fr1) τ.L) τ.L) τ.w := ht.m.less fun k x hk => by
          rw [getL_footL] at hk
          split at hk
          · exact hk
          · cases hk
        obtain ⟨x, sv, hK, hx, hy⟩ := calm_ok (o := ⟨dst, op, oty, pos, after, guard⟩) (C := Cl w0 τ.q τ.S (footL (footD op (keepF (uses op) fr1) τ.L) τ.L) τ.w) hT hΓ.1 hΓ.calm hm'.ch (fun _ h => h) (okF_keepF hf1 _) h1
        exact fin ⟨fun k hk => (footD_in hk).elim (fun h => ltF_has hlt (keysFr_has h)) (fun h => ltLL_has hltL h), .inl ⟨hw, hy⟩⟩ (put hf1 hK hx)
      · exact h1.elim
    · exact fin (F := []) ⟨fun k hk => (by cases hk), .inr ⟨hw, rfl⟩⟩ (put (v := undef) hf1 h1 rfl)
  | .eff i ds nx alt, fuel, top, Φ, τ, fr, listed, a, hp, hdp, hcl, ht, hf, h => by
    simp only [planB, Bool.and_eq_true, Bool.or_eq_true, Bool.not_eq_true', List.contains_iff_mem, List.all_eq_true] at hp
    obtain ⟨⟨⟨⟨htop, hi⟩, hds⟩, hp1⟩, hp2⟩ := hp
    have hdp1 : nx.depth + 1 ≤ fuel := Nat.le_trans (Nat.le_max_left _ _) hdp
    have hdp2 : alt.depth ≤ fuel := Nat.le_trans (Nat.le_max_right _ _) hdp
    rw [vcP_eff] at h
    obtain ⟨h, halt⟩ := h
    cases fuel with
    | zero => exact absurd hdp1 (by omega)
    | succ f =>
    have hdp1' : nx.depth ≤ f := by omega
    have altH := (vcP_wpD hT hΓ hI hY hnd hs hQp alt hp2 hdp2 hcl ht hf halt).2
    have me : stepD P ops w0 r n N n0 Sb B Q Φ τ i (fun τ' a' => wpD P ops w0 r n N n0 Sb B Q (fun τ a => ∃ fr, okF τ.S fr a.tmps ∧ K τ.nk τ.q fr τ.L) f Φ τ' (listed.setIfInBounds i true) a') a := by
      rw [nth_get, Array.getElem?_toList] at h
      split at h
      · exact h.elim
      rename_i dst op oty pos after guard hoi
      unfold stepD
      simp only [hoi]
      rcases guardK_ok (o := ⟨dst, op, oty, pos, after, guard⟩) hf h with ⟨fr1, hf1, h1, hw⟩ | ⟨fr1, hf1, h1, hw⟩
      · rw [if_pos hw]
        intro w hfit
        split at h1
        · rename_i _ hl2
          rw [fN_eq] at h1
          refine Oper.wpIn_mono ?_ (eff_stepD (o := ⟨dst, op, oty, pos, after, guard⟩) (Φ := Φ) (ds := ds) (i := i) (r := r) (n := n) (Q := Q)
            (Kx := fun nk2 q2 fr2 L2 => vcP ltF ltLL (fun op fr L q K => calmK E.T E.Γ E.Δ wr q op fr L K) (fun n0 key dst op nk q fr L K => effK E inl Y wr n0 N key dst op nk q fr L K) N ops.toList nx Φ nk2 q2 fr2 L2 K)
            hT hΓ hI hY (depsB_ok hds fun d hd => .inl (by simpa using hd)) ht hf1 hl2 hfit h1)
          rintro a' w' ⟨τ', l1, l2, l3, fr', hf', hK⟩
          exact ⟨τ', l1, l2, l3, (vcP_wpD hT hΓ hI hY hnd hs hQp nx hp1 hdp1' (Closed_ready hcl hi) l2 hf' hK).1 rfl⟩
        · exact h1.elim
      · rw [if_neg (by rw [hw]; simp)]
        unfold putK at h1
        have fin : ∀ fr', okF τ.S fr' (a.put dst undef).tmps → vcP ltF ltLL (fun op fr L q K => calmK E.T E.Γ E.Δ wr q op fr L K) (fun n0 key dst op nk q fr L K => effK E inl Y wr n0 N key dst op nk q fr L K) N ops.toList nx Φ τ.nk τ.q fr' τ.L K →
            wpD P ops w0 r n N n0 Sb B Q (fun τ a => ∃ fr, okF τ.S fr a.tmps ∧ K τ.nk τ.q fr τ.L) f Φ τ (listed.setIfInBounds i true) (a.put dst undef) := fun fr' hf' h' =>
          (vcP_wpD hT hΓ hI hY hnd hs hQp nx hp1 hdp1' (Closed_ready hcl hi) (ht.put _ _) hf' h').1 rfl
        split at h1
        · exact fin _ hf1 h1
        · rename_i d
          split at h1
          · rename_i hd'
            have hd' : d < N := Nat.le_of_ble_eq_true hd'
            exact fin _ (okF_put (x := .v undef) (v := undef) hf1 rfl (by rw [ht.n]; exact hd')) h1
          · exact h1.elim
    refine ⟨fun htp => ⟨fun h0 => (by rw [h0] at hi; cases hi), fun j hj => ?_⟩, fun j hj => ?_⟩
    · rcases htop with h' | h'
      · rw [htp] at h'; cases h'
      · rcases List.mem_cons.1 (h' j hj) with rfl | hj'
        · exact me
        · obtain ⟨f', e, hst⟩ := altH j hj'
          cases e
          exact hst
    · rcases List.mem_cons.1 hj with rfl | hj'
      · exact ⟨f, rfl, me⟩
      · exact altH j hj'
theorem plan_ok {q : PH} {p : Pn} {S : Pl} {fr : Fr} {L : LL} {a : Act} {w : World} {nk id : Nat} (hmix : P.follows .mixedOrders = true) (hT : TabOk P E.T) (hΓ : GOk P E) (hI : InlOk P inl) (hY : YOk P Sb Y n0) (hQp : ∀ ch a a' w, Q (.panic ch) a w → Q (.panic ch) a' w)
    (hQ : ∀ a w, St w0 Sb B n0 N K a w → Q .normal a w) (hc : Cfg w0 Sb B n0 N S q fr L a w) (hle : n0 ≤ nk) (hp : planOk ops p = true)
    (h : vcP ltF ltLL (fun op fr L q K => calmK E.T E.Γ E.Δ wr q op fr L K) (fun n0 key dst op nk q fr L K => effK E inl Y wr n0 N key dst op nk q fr L K) N ops.toList p [] nk q fr L K) : (Code.region id ops true).wpIn (FF r) n P Q a w := by
  simp only [planOk, Bool.and_eq_true] at hp
  obtain ⟨⟨⟨hnd, hs⟩, hd⟩, hp⟩ := hp
  have hnd' : ∀ (j : Nat) (o : Oper) c, ops[j]? = some o → o.op ≠ .defer c := fun j o c ho he => by
    simp only [noDefer, List.all_eq_true] at hnd
    have := hnd o (by rw [← Array.getElem?_toList] at ho; exact List.mem_of_getElem? ho)
    rw [he] at this
    cases this
  have hcl : ClosedL ops (Array.replicate ops.size false) := fun j o hj => by
    rw [Array.getD_eq_getD_getElem?, Array.getElem?_replicate] at hj
    split at hj <;> cases hj
  have ht : TauOk w0 N n0 Sb B ⟨S, q, L, nk, w⟩ a := ⟨hc.m, hc.d, hc.n, hc.ag, hle, hc.b⟩
  refine wpIn_region_any hmix (wpAnyIn_of_D (Kf := fun τ a => ∃ fr, okF τ.S fr a.tmps ∧ K τ.nk τ.q fr τ.L) (fun τ a w hf ht ⟨fr, hfr, hK⟩ => hQ _ _ ⟨τ.S, τ.q, fr, τ.L, τ.nk, ⟨ht.ag, ht.b, ht.m.of_cl hf, hfr, ht.n, ht.d⟩, hK⟩) ops.size [] ⟨S, q, L, nk, w⟩ _ a _ ?_ ht ?_)
  · exact ⟨fun _ _ _ _ _ => rfl, fun b o v hv => hc.m.on b o v hv, hc.m.be.drew⟩
  · exact (vcP_wpD hT hΓ hI hY hnd' hs hQp p hp (Nat.le_of_ble_eq_true hd) hcl ht hc.f h).1 rfl
end
end Go.Eng
