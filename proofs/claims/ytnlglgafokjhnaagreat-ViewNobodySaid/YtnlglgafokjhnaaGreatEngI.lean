/-
  Texts that the law leans on. Nothing here is trusted.
-/
import Derived.Test.YtnlglgafokjhnaaGreatEngH
set_option linter.unusedVariables false
set_option linter.unusedSimpArgs false
namespace Go.Eng
open Go Go.RowKit
variable {P : Program} {S S' Sb : Pl} {fr : Fr} {L L' : LL} {q q' : PH} {w0 : W0} {w w' : World} {a : Act} {n0 N : Nat} {B : Nat → Prop}
def FF (r : Option Nat) : Fence := { Fence.wide with round := r }
theorem calls_ff {r : Option Nat} {n : Nat} {f : FuncId} {args : Array Value} {R : Ending → World → Prop} (h : Calls P f args w R) : CallsIn (FF r) n P f args w R :=
  (callsIn_wide (n := n)).2 h
def markOf (b : Nat) : Deferred := { target := .collected b, args := #[] }
def MarksOk (w0 : W0) (ms : List Deferred) : Prop := ∃ Hs : List Nat, ms = Hs.map markOf ∧ Hs.Nodup ∧ ∀ b ∈ Hs, w0.F b ∧ ¬ w0.F0 b ∧ w0.w.heap[b]? = some (.deferred (some []))
theorem MarksOk.nil (w0 : W0) : MarksOk w0 [] := ⟨[], rfl, .nil, fun _ h => by cases h⟩
structure Ext (w0 w1 : W0) : Prop where
  F0 : w1.F0 = w0.F0
  F : ∀ b, w0.F b → w1.F b
  be : Bel w0 w1.w
  q : ∀ b o v, w1.q b o = some v → w0.F b → w0.q b o = some v
theorem Ext.refl (w0 : W0) : Ext w0 w0 := ⟨rfl, fun _ h => h, .refl w0, fun _ _ _ h _ => h⟩
theorem Ext.bel {w1 : W0} (h : Ext w0 w1) (hb : Bel w1 w) : Bel w0 w :=
  ⟨hb.os.trans h.be.os, hb.tape.trans h.be.tape, hb.output.trans h.be.output, Nat.le_trans h.be.size hb.size, fun b hF => (hb.block b (h.F b hF)).trans (h.be.block b hF)⟩
theorem Ext.trans {w1 w2 : W0} (h : Ext w0 w1) (h' : Ext w1 w2) : Ext w0 w2 := ⟨h'.F0.trans h.F0, fun b hb => h'.F b (h.F b hb), h.bel h'.be, fun b o v hv hF => h.q b o v (h'.q b o v hv (h.F b hF)) hF⟩
theorem Ext.mem {w1 : W0} (h : Ext w0 w1) (hm : Mem w1 q S L w) : Mem w0 q S L w := ⟨hm.ch, hm.ap, hm.po, fun k x hk b hb hF => hm.fz k x hk b hb (h.F b hF), hm.on, h.bel hm.be, fun b o v hv hF => h.q b o v (hm.gw b o v hv (h.F b hF)) hF⟩
structure Cfg (w0 : W0) (Sb : Pl) (B : Nat → Prop) (n0 N : Nat) (S : Pl) (q : PH) (fr : Fr) (L : LL) (a : Act) (w : World) : Prop where
  ag : ∀ k, k < n0 → S k = Sb k
  b : ∀ d, d < n0 → B d → getL L d = some .dfr
  m : Mem w0 q S L w
  f : okF S fr a.tmps
  n : a.tmps.size = N
  d : MarksOk w0 a.defers
def St (w0 : W0) (Sb : Pl) (B : Nat → Prop) (n0 N : Nat) (K : Kt) (a : Act) (w : World) : Prop :=
  ∃ S q fr L nk, Cfg w0 Sb B n0 N S q fr L a w ∧ K nk q fr L
def HdOk (P : Program) (S : Pl) (k : Nat) (h : Hd) : Prop :=
  ∀ (w0 : W0) args nk1 q L K vs w S1 r n, k + 2 ≤ nk1 → (∀ j, j < k + 2 → S1 j = S j) → h args nk1 q L K → okL S1 args vs → Mem w0 q S1 L w →
    ∃ fn tmps assign body, (Instr.yield (S k).b vs.toArray).run P w = .ok (.round (S k).b fn tmps assign body) w ∧
      RoundIn (FF r) n P (S k).b fn tmps assign body w fun e w' => ∃ b S2 q2 L2 nk2, e = .returned (.bool b) ∧ (∀ j, j < nk1 → S2 j = S1 j) ∧ Mem w0 q2 S2 L2 w' ∧
        (∀ d, d < nk1 → getL L d = some .dfr → getL L2 d = some .dfr) ∧ K (.bb b) nk2 q2 L2
def YOk (P : Program) (S : Pl) (Y : Ye) (n0 : Nat) : Prop := ∀ k h, yGet Y k = some h → k + 2 ≤ n0 ∧ HdOk P S k h
theorem YOk.congr {Y : Ye} (h : YOk P S Y n0) (hs : ∀ k, k < n0 → S' k = S k) : YOk P S' Y n0 := fun k hd hk => by
  obtain ⟨h1, h2⟩ := h k hd hk
  refine ⟨h1, fun w0 args nk1 q L K vs w S1 r n h0 hj => ?_⟩
  rw [hs k (by omega)]
  exact h2 w0 args nk1 q L K vs w S1 r n h0 (fun j hj' => (hj j hj').trans (hs j (by omega)))
theorem YOk.more {Y : Ye} (h : YOk P S Y n0) {n1 : Nat} (hn : n0 ≤ n1) : YOk P S Y n1 := fun k hd hk => ⟨Nat.le_trans (h k hd hk).1 hn, (h k hd hk).2⟩
def InlOk (P : Program) (inl : Inl) : Prop :=
  ∀ (w0 : W0) Y f args nk q L K vs w S r n, inl Y f args nk q L K → YOk P S Y nk → okL S args vs → Mem w0 q S L w →
    (∀ args w, (callFunc f args).run P w = .ok (.enter f args) w) ∧
    CallsIn (FF r) n P f vs.toArray w fun e w' => ∃ v x S' q' L' nk', e = .returned v ∧ okv S' x v ∧ (∀ k, k < nk → S' k = S k) ∧ Mem w0 q' S' L' w' ∧
      (∀ d, d < nk → getL L d = some .dfr → getL L' d = some .dfr) ∧ K x nk' q' L'
mutual
theorem ltK_has : ∀ (x : SV) {b k : Nat}, ltK b x = true → x.has k = true → k < b
  | .lp j _, b, k, h, hk => by have := Nat.eq_of_beq_eq_true (by simpa [SV.has] using hk : Nat.beq j k = true); subst this; exact Nat.le_of_ble_eq_true h
  | .own j, b, k, h, hk => by have := Nat.eq_of_beq_eq_true (by simpa [SV.has] using hk : Nat.beq j k = true); subst this; exact Nat.le_of_ble_eq_true h
  | .yl j, b, k, h, hk => by have := Nat.eq_of_beq_eq_true (by simpa [SV.has] using hk : Nat.beq j k = true); subst this; exact Nat.le_of_ble_eq_true h
  | .ls j _, b, k, h, hk => by have := Nat.eq_of_beq_eq_true (by simpa [SV.has] using hk : Nat.beq j k = true); subst this; exact Nat.le_of_ble_eq_true h
  | .mr j, b, k, h, hk => by have := Nat.eq_of_beq_eq_true (by simpa [SV.has] using hk : Nat.beq j k = true); subst this; exact Nat.le_of_ble_eq_true h
  | .lq j, b, k, h, hk => by have := Nat.eq_of_beq_eq_true (by simpa [SV.has] using hk : Nat.beq j k = true); subst this; exact Nat.le_of_ble_eq_true h
  | .vw j _ _ _ _, b, k, h, hk => by have := Nat.eq_of_beq_eq_true (by simpa [SV.has] using hk : Nat.beq j k = true); subst this; exact Nat.le_of_ble_eq_true h
  | .agg l, b, k, h, hk => ltKL_has l (by simpa [ltK] using h) (by simpa [SV.has] using hk)
  | .tup l, b, k, h, hk => ltKL_has l (by simpa [ltK] using h) (by simpa [SV.has] using hk)
  | .fn _ l, b, k, h, hk => ltKL_has l (by simpa [ltK] using h) (by simpa [SV.has] using hk)
  | .v _, _, _, _, hk => by simp [SV.has] at hk
  | .bb _, _, _, _, hk => by simp [SV.has] at hk
  | .b _ _, _, _, _, hk => by simp [SV.has] at hk
  | .el _ _, _, _, _, hk => by simp [SV.has] at hk
  | .bad, _, _, _, hk => by simp [SV.has] at hk
theorem ltKL_has : ∀ (l : List SV) {b k : Nat}, ltKL b l = true → hasL k l = true → k < b
  | [], _, _, _, hk => by simp [hasL] at hk
  | x :: r, b, k, h, hk => by
    unfold ltKL at h
    unfold hasL at hk
    split at h
    · rename_i hx
      split at hk
      · exact ltK_has x hx (by assumption)
      · exact ltKL_has r h hk
    · cases h
end
theorem ltF_has : ∀ {fr : Fr} {b k : Nat}, ltF b fr = true → hasF k fr = true → k < b
  | [], _, _, _, hk => by simp [hasF_n] at hk
  | (u, x) :: r, b, k, h, hk => by
    rw [ltF_c] at h
    rw [hasF_c] at hk
    split at h
    · rename_i hx
      split at hk
      · exact ltK_has x hx (by assumption)
      · exact ltF_has h hk
    · cases h
theorem ltLL_has : ∀ {L : LL} {b k : Nat}, ltLL b L = true → hasLL k L = true → k < b
  | [], _, _, _, hk => by simp [hasLL_n] at hk
  | (u, x) :: r, b, k, h, hk => by
    rw [ltLL_c] at h
    rw [hasLL_c] at hk
    split at h
    rotate_left
    · cases h
    rename_i hu
    have hu : u < b := Nat.le_of_ble_eq_true hu
    split at hk
    · rename_i e; have := Nat.eq_of_beq_eq_true e; omega
    · cases x with
      | cells T cs =>
        simp only at h
        split at h
        · rename_i hc
          split at hk
          · rename_i hx; exact ltKL_has cs hc (by simpa [LB.has] using hx)
          · exact ltLL_has h hk
        · cases h
      | row E sz n cs =>
        simp only at h
        split at h
        · rename_i hc
          split at hk
          · rename_i hx; exact ltKL_has cs hc (by simpa [LB.has] using hx)
          · exact ltLL_has h hk
        · cases h
      | arr E sz n xs => simp only [LB.has] at hk h; exact ltLL_has h (by simpa using hk)
      | dfr => simp only [LB.has] at hk h; exact ltLL_has h (by simpa using hk)
      | mp es c => simp only [LB.has] at hk h; exact ltLL_has h (by simpa using hk)
      | sb E n xs => simp only [LB.has] at hk h; exact ltLL_has h (by simpa using hk)
      | loop st pe => simp only [LB.has] at hk h; exact ltLL_has h (by simpa using hk)
theorem dLt_has : ∀ {L : LL} {b k : Nat}, dLt b L = true → getL L k = some .dfr → k < b
  | [], _, _, _, hk => by cases hk
  | (u, x) :: r, b, k, h, hk => by
    rw [getL_cons] at hk
    unfold dLt at h
    split at hk
    · rename_i e
      subst e
      cases hk
      simp only at h
      split at h
      · rename_i hu; exact Nat.le_of_ble_eq_true hu
      · cases h
    · cases x with
      | dfr =>
        simp only at h
        split at h
        · exact dLt_has h hk
        · cases h
      | cells T cs => exact dLt_has h hk
      | arr E sz n xs => exact dLt_has h hk
      | row E sz n cs => exact dLt_has h hk
      | loop st pe => exact dLt_has h hk
      | mp es c => exact dLt_has h hk
      | sb E n xs => exact dLt_has h hk
theorem Cfg.put {dst : Option Nat} {x : SV} {v : Value} {K : Fr → Prop} (hc : Cfg w0 Sb B n0 N S q fr L a w) (h : putK N dst x fr K) (hx : okv S x v) : ∃ fr', K fr' ∧ Cfg w0 Sb B n0 N S q fr' L (a.put dst v) w := by
  unfold putK at h
  split at h
  · exact ⟨fr, h, hc⟩
  · rename_i d
    split at h
    · rename_i hd
      have hd : d < N := Nat.le_of_ble_eq_true hd
      exact ⟨_, h, hc.ag, hc.b, hc.m, okF_put hc.f hx (by rw [hc.n]; exact hd), by simp [Act.put, hc.n], hc.d⟩
    · exact h.elim
theorem Cfg.new {key : Nat} {lb : LB} {l : Loc} (hc : Cfg w0 Sb B n0 N S q fr L a w) (h0 : n0 ≤ key) (h1 : hasF key fr = false) (h2 : hasLL key L = false) (hm : Mem w0 q (updS S key l) ((key, lb) :: L) w') :
    Cfg w0 Sb B n0 N (updS S key l) q fr ((key, lb) :: L) a w' := by
  have hne : ∀ d, getL L d = some .dfr → d ≠ key := fun d hd e => by subst e; rw [getL_hasLL hd (.inl rfl)] at h2; cases h2
  have hg : ∀ d, getL L d = some .dfr → getL ((key, lb) :: L) d = some .dfr := fun d hd => by rw [getL_cons, if_neg (fun e => hne d hd e.symm)]; exact hd
  exact ⟨fun k hk => (updS_other (by omega)).trans (hc.ag k hk), fun d hd hB => hg d (hc.b d hd hB), hm, okF_upd h1 hc.f, hc.n, hc.d⟩
theorem Cfg.rem {key k e sz n : Nat} {xs : List Value} {lb : LB} {l : Loc} (hc : Cfg w0 Sb B n0 N S q fr L a w) (h0 : n0 ≤ key) (h1 : hasF key fr = false) (h2 : hasLL key L = false) (hk : getL L k = some (.arr e sz n xs)) (hm : Mem w0 q (updS S key l) ((key, lb) :: remL L k) w') :
    Cfg w0 Sb B n0 N (updS S key l) q fr ((key, lb) :: remL L k) a w' := by
  have hne : ∀ d, getL L d = some .dfr → d ≠ key := fun d hd e => by subst e; rw [getL_hasLL hd (.inl rfl)] at h2; cases h2
  have hg : ∀ d, getL L d = some .dfr → getL ((key, lb) :: remL L k) d = some .dfr := fun d hd => by
    rw [getL_cons, if_neg (fun e => hne d hd e.symm), getL_remL]
    rw [if_neg (fun e => by subst e; rw [hk] at hd; cases hd)]
    exact hd
  exact ⟨fun k hk => (updS_other (by omega)).trans (hc.ag k hk), fun d hd hB => hg d (hc.b d hd hB), hm, okF_upd h1 hc.f, hc.n, hc.d⟩
theorem Cfg.turn {k : Nat} {lb lb' : LB} (hc : Cfg w0 Sb B n0 N S q fr L a w) (hk : getL L k = some lb) (hn : lb ≠ .dfr) (hm : Mem w0 q S (setL L k lb') w') : Cfg w0 Sb B n0 N S q fr (setL L k lb') a w' := by
  have hg : ∀ d, getL L d = some .dfr → getL (setL L k lb') d = some .dfr := fun d hd => by
    rw [getL_setL, if_neg (fun e => by subst e; rw [hk] at hd; cases hd; exact hn rfl)]
    exact hd
  exact ⟨hc.ag, fun d hd hB => hg d (hc.b d hd hB), hm, hc.f, hc.n, hc.d⟩
theorem Cfg.mem (hc : Cfg w0 Sb B n0 N S q fr L a w) (hm : Mem w0 q' S L w') : Cfg w0 Sb B n0 N S q' fr L a w' := ⟨hc.ag, hc.b, hm, hc.f, hc.n, hc.d⟩
section
variable {r : Option Nat} {n : Nat} {o : Oper} {next : Act → World → Prop} {Q : Exit → Act → World → Prop}
theorem wpIn_value {v : Value} (hd : ∀ c, o.op ≠ .defer c) (hr : (execOp a.eval o).run P w = .ok (.value v) w') (h : next (a.put o.dst v) w') : Oper.wpIn (FF r) n P o a w next Q := by
  refine ⟨fun _ _ => trivial, ?_⟩
  rw [Oper.semAt_eq _ _ _ hd, hr]
  exact h
theorem wpIn_skip' (hd : ∀ c, o.op ≠ .defer c) (hr : (execOp a.eval o).run P w = .ok .skip w') (h : next (a.put o.dst undef) w') : Oper.wpIn (FF r) n P o a w next Q := by
  refine ⟨fun _ _ => trivial, ?_⟩
  rw [Oper.semAt_eq _ _ _ hd, hr]
  exact h
theorem wpIn_enter {f : FuncId} {args : Array Value} (hd : ∀ c, o.op ≠ .defer c) (hr : (execOp a.eval o).run P w = .ok (.enter f args) w) {R : Ending → World → Prop} (hc : CallsIn (FF r) (n - 1) P f args w R)
    (h : ∀ e w', R e w' → ∃ v, e = .returned v ∧ next (a.put o.dst v) w') : Oper.wpIn (FF r) n P o a w next Q := by
  refine ⟨fun _ _ => trivial, ?_⟩
  rw [Oper.semAt_eq _ _ _ hd, hr]
  refine ⟨fun h => (by cases h), hc.mono fun e w' he => ?_⟩
  obtain ⟨v, rfl, hn⟩ := h e w' he
  exact hn
theorem wpIn_round {l f : Nat} {tmps : Array Value} {assign body : Code} (hd : ∀ c, o.op ≠ .defer c) (hr : (execOp a.eval o).run P w = .ok (.round l f tmps assign body) w) {R : Ending → World → Prop} (hc : RoundIn (FF r) (n - 1) P l f tmps assign body w R)
    (h : ∀ e w', R e w' → ∃ v, e = .returned v ∧ next (a.put o.dst v) w') : Oper.wpIn (FF r) n P o a w next Q := by
  refine ⟨fun _ _ => trivial, ?_⟩
  rw [Oper.semAt_eq _ _ _ hd, hr]
  refine ⟨fun h => (by cases h), hc.mono fun e w' he => ?_⟩
  obtain ⟨v, rfl, hn⟩ := h e w' he
  exact hn
theorem wpIn_calm {C : World → Prop} {x : Value} (hd : ∀ c, o.op ≠ .defer c) (hCc : ∀ w w', C w → Below w.heap.size w w' → C w') (hy : Yl P C a.eval o x) (hw : C w) (h : ∀ w', C w' → next (a.put o.dst x) w') : Oper.wpIn (FF r) n P o a w next Q := by
  refine ⟨fun _ _ => trivial, ?_⟩
  rw [Oper.semAt_eq _ _ _ hd]
  have hy := hy w hw
  revert hy
  generalize (execOp a.eval o).run P w = res
  intro hy
  cases res with
  | halt x w' => simp only [Oper.quietUpon] at hy
  | ok nx w' =>
    cases nx <;> simp only [Oper.quietUpon] at hy <;> simp only [Oper.uponIn]
    case value u => obtain ⟨rfl, rfl⟩ := hy; exact h _ hw
    case skip => obtain ⟨rfl, rfl⟩ := hy; exact h _ hw
    case enter f args =>
      obtain ⟨rfl, hc⟩ := hy
      exact ⟨fun h => (by cases h), (calls_ff hc).mono fun e w'' ⟨he, hw''⟩ => by subst he; exact h _ (hCc _ _ hw hw'')⟩
theorem wpIn_quiet {C : World → Prop} {x : Value} (hd : ∀ c, o.op ≠ .defer c) (hy : ∀ w, C w → Oper.quietUpon P C w x ((execOp a.eval o).run P w)) (hw : C w) (h : ∀ w', C w' → next (a.put o.dst x) w') : Oper.wpIn (FF r) n P o a w next Q := by
  refine ⟨fun _ _ => trivial, ?_⟩
  rw [Oper.semAt_eq _ _ _ hd]
  have hy := hy w hw
  revert hy
  generalize (execOp a.eval o).run P w = res
  intro hy
  cases res with
  | halt x w' => simp only [Oper.quietUpon] at hy
  | ok nx w' =>
    cases nx <;> simp only [Oper.quietUpon] at hy <;> simp only [Oper.uponIn]
    case value u => obtain ⟨rfl, rfl⟩ := hy; exact h _ hw
    case skip => obtain ⟨rfl, rfl⟩ := hy; exact h _ hw
    case enter f args =>
      obtain ⟨rfl, hc⟩ := hy
      exact ⟨fun h => (by cases h), (calls_ff hc).mono fun e w'' ⟨he, hw''⟩ => by subst he; exact h _ hw''⟩
end
theorem Cfg.back {nk : Nat} (hc : Cfg w0 Sb B n0 N S q fr L a w) (h0 : n0 ≤ nk) (hf : ltF nk fr = true) (hd : ∀ d, getL L d = some .dfr → d < nk) (hs : ∀ k, k < nk → S' k = S k) (hm : Mem w0 q' S' L' w') (hk : ∀ d, d < nk → getL L d = some .dfr → getL L' d = some .dfr) :
    Cfg w0 Sb B n0 N S' q' fr L' a w' :=
  ⟨fun k hk' => (hs k (by omega)).trans (hc.ag k hk'), fun d hd' hB => hk d (by omega) (hc.b d hd' hB), hm, okF_congr (fun k hk' => hs k (ltF_has hf hk')) hc.f, hc.n, hc.d⟩
theorem src_of_reads {A : Option Addr} {m sz : Nat} {ys : List Value} (hon : PH.on q w) (hl : ys.length = m * sz) (hr : Reads q A ys) : Src w A m sz ys :=
  ⟨hl, fun _ _ hv => rd_cell hon ((hr _ (List.getElem?_eq_some_iff.1 hv).1).trans hv)⟩
theorem src_of_own {k e sz n : Nat} {xs : List Value} {N0 : Nat} (h : chunk N0 S k (.arr e sz n xs) w) : Src w (S k).A n sz xs := by
  obtain ⟨hown, hn, _, _, hA⟩ := h
  rw [hn] at hown
  refine ⟨hown.1, fun j v hv => ?_⟩
  rcases hA with hA | hA
  · have : xs = [] := by
      rcases hown.2 with ⟨_, hn0⟩ | ⟨g, cap, cur, hv, _⟩
      · exact List.eq_nil_of_length_eq_zero (by rw [hown.1, hn0]; simp)
      · rw [hA] at hv; cases hv
    subst this
    simp at hv
  · have := hown.cells (g := (S k).b) (by simp [Value.ownBlock, hA]) j v hv
    rw [Addr.add_lit] at this
    exact ⟨_, hA, rfl, this⟩
end Go.Eng
