/-
  Texts that the law leans on. Nothing here is trusted.
-/
import Derived.Test.YtnlglgafokjhnaaGreatEngS
import Derived.RangeFuncNested
set_option linter.unusedVariables false
set_option linter.unusedSimpArgs false
namespace Go.Eng
open Go Go.RowKit
variable {P : Program} {S S' Sb : Pl} {fr : Fr} {L L' : LL} {q q' : PH} {w0 : W0} {w w' : World} {a : Act} {n0 N : Nat} {B : Nat → Prop} {E : Env}
variable {r : Option Nat} {n : Nat}
theorem Mem.turnRec {k : Nat} {st : LoopState} {pe : Option Ex} (st' : LoopState) (pe' : Option Ex) (hm : Mem w0 q S L w) (hk : getL L k = some (.loop st pe)) :
    Mem w0 q S (setL L k (.loop st' pe')) (w.putObj (S k).b (.loop { (S k).r with state := st', pending := pe'.bind jumpOf })) := by
  obtain ⟨hN, hb⟩ := hm.ch k _ hk
  have hlt := (Array.getElem?_eq_some_iff.1 hb).1
  exact hm.turn hk rfl (grownBy_putObj' w _ _) ⟨hN, World.putObj_heap_same hlt⟩ rfl
theorem Mem.recHeap {k : Nat} {st : LoopState} {pe : Option Ex} (hm : Mem w0 q S L w) (hk : getL L k = some (.loop st pe)) : w.heap[(S k).b]? = some (.loop { (S k).r with state := st, pending := pe.bind jumpOf }) := (hm.ch k _ hk).2
theorem putsF_ok {K : Fr → Prop} : ∀ {ps : List Nat} {xs : List SV} {vs : List Value} {fr : Fr} {tm : Array Value}, putsF ps xs N fr K → okF S fr tm → tm.size = N → okL S xs vs →
    ps.length = vs.length ∧ ∃ fr1, K fr1 ∧ okF S fr1 ((ps.zip vs).foldl (fun t (p : Nat × Value) => t.setIfInBounds p.1 p.2) tm) ∧ ((ps.zip vs).foldl (fun t (p : Nat × Value) => t.setIfInBounds p.1 p.2) tm).size = N
  | [], [], [], fr, tm, h, hf, hn, _ => ⟨rfl, fr, h, hf, hn⟩
  | [], [], _ :: _, _, _, _, _, _, hv => by cases hv
  | p :: ps, x :: xs, v :: vs, fr, tm, h, hf, hn, hv => by
    simp only [putsF] at h
    split at h
    · rename_i hp
      have hp : p < N := Nat.le_of_ble_eq_true hp
      obtain ⟨h1, fr1, h2, h3, h4⟩ := putsF_ok (tm := tm.setIfInBounds p v) h (okF_put hf hv.1 (by rw [hn]; exact hp)) (by simp [hn]) hv.2
      exact ⟨by simp [h1], fr1, h2, h3, h4⟩
    · exact h.elim
  | p :: ps, x :: xs, [], _, _, _, _, _, hv => by cases hv
  | [], _ :: _, _, _, _, h, _, _, _ => by simp [putsF] at h
  | _ :: _, [], _, _, _, h, _, _, _ => by simp [putsF] at h
def CodeOk (P : Program) (N : Nat) (Y : Ye) (ro : Option Nat) (c : Code) (v : Nat → Nat → PH → Fr → LL → Ke → Prop) : Prop :=
  ∀ {w0 : W0} {n0 nk : Nat} {Sb S : Pl} {B : Nat → Prop} {q : PH} {fr : Fr} {L : LL} {K : Ke} {a : Act} {w : World} {r : Option Nat} {n : Nat},
    r = ro.map (fun l => (Sb l).b) → (∀ l, ro = some l → l < n0) → YOk P Sb Y n0 → Cfg w0 Sb B n0 N S q fr L a w → v n0 nk q fr L K → c.wpIn (FF r) n P (QE w0 Sb B n0 N K) a w
theorem hd_ok {va vb : Nat → Nat → PH → Fr → LL → Ke → Prop} {nk : Nat} {ps : Array Nat} {Y : Ye} {assign body : Code} {tmps : Array Value} (hA : CodeOk P N Y (some nk) assign va) (hB : CodeOk P N Y (some nk) body vb)
    (hY : YOk P S Y nk) (hf : okF S fr tmps) (hn : tmps.size = N) (hlt : ltF nk fr = true) (h1 : (S nk).r.tmps = tmps) (h2 : (S nk).r.params = ps) (h3 : (S nk).r.assign = assign) (h4 : (S nk).r.body = body) :
    HdOk P S nk (roundK va vb N nk ps.toList fr) := by
  intro w0 args nk1 q L K vs w S1 r n hk1 hS h hvs hm
  unfold roundK at h
  split at h
  rotate_left
  · exact h.elim
  rename_i hL
  have hSk : S1 nk = S nk := hS nk (by omega)
  have hh := hm.recHeap hL
  have hf1 : okF S1 fr tmps := okF_congr (fun k hk => hS k (by have := ltF_has hlt hk; omega)) hf
  obtain ⟨hlen, fr1, h, hf2, hn2⟩ := putsF_ok h hf1 hn hvs
  have hy := run_yield (P := P) (args := vs.toArray) hh (by rw [hSk]; simp only [h2]; simpa using hlen.symm)
  rw [hSk] at hy
  have hfold : (((S nk).r.params.zip vs.toArray).foldl (fun tmps (x : Nat × Value) => tmps.setIfInBounds x.1 x.2) (S nk).r.tmps) = (ps.toList.zip vs).foldl (fun t (p : Nat × Value) => t.setIfInBounds p.1 p.2) tmps := by
    rw [h1, h2, ← Array.foldl_toList, Array.toList_zip]
  refine ⟨_, _, _, _, hy, ?_⟩
  rw [hSk] at hh
  refine roundIn_of_wpIn (F := FF r) trivial ?_
  show Code.wpIn (FF (some (S nk).b)) n P _ _ _ _
  have hY1 : YOk P S1 Y nk1 := (hY.congr (fun k hk => hS k (by omega))).more (by omega)
  have hc : Cfg w0 S1 (fun d => getL L d = some .dfr) nk1 N S1 q fr1 L { tmps := (ps.toList.zip vs).foldl (fun t (p : Nat × Value) => t.setIfInBounds p.1 p.2) tmps, defers := [] } w :=
    ⟨fun _ _ => rfl, fun _ _ h => h, hm, hf2, hn2, .nil _⟩
  have hAx := hA (n := n) (r := some (S nk).b) (by rw [← hSk]; rfl) (fun l e => by cases e; omega) hY1 hc h
  rw [← h3] at hAx
  have e0 : ({ tmps := (((S nk).r.params.zip vs.toArray).foldl (fun tmps (x : Nat × Value) => tmps.setIfInBounds x.1 x.2) (S nk).r.tmps), defers := [] } : Act) = { tmps := (ps.toList.zip vs).foldl (fun t (p : Nat × Value) => t.setIfInBounds p.1 p.2) tmps, defers := [] } := by rw [hfold]
  rw [← e0] at hAx
  refine Code.wpIn_mono ?_ hAx
  rintro e a1 w1 ⟨x, rfl, wa, hxa, S2, q2, fr2, L2, nk2, hc2, hK⟩
  cases x with
  | ret => exact hK.elim
  | exit m => exact hK.elim
  | goto m => exact hK.elim
  | norm =>
    simp only [thenE] at hK
    split at hK
    rotate_left
    · exact hK.elim
    rename_i hL2
    rw [fLL_eq] at hK
    have hS2 : S2 nk = S nk := (hc2.ag nk (by omega)).trans hSk
    have hh2 := hc2.m.recHeap hL2
    rw [hS2] at hh2
    have hm2 := hc2.m.turnRec .busy none hL2
    rw [hS2] at hm2
    refine ⟨_, run_beginRound hh2 rfl, ?_⟩
    have hc3 := hc2.turn hL2 (by simp) hm2
    have hBx := hB (n := n) (r := some (S nk).b) (by rw [← hSk]; rfl) (fun l e => by cases e; omega) hY1 hc3 hK
    rw [← h4] at hBx
    refine Code.wpIn_mono ?_ hBx
    rintro e a3 w3 ⟨x, rfl, wb, hxb, S3, q3, fr3, L3, nk3, hc4, hK⟩
    split at hK
    rotate_left
    · exact hK.elim
    rename_i hL3
    have hS3 : S3 nk = S nk := (hc4.ag nk (by omega)).trans hSk
    have hh3 := hc4.m.recHeap hL3
    rw [hS3] at hh3
    have fin : ∀ {jump : Option Code} {st : LoopState} {pe : Option Ex}, pe.bind jumpOf = jump → (if jump.isNone then LoopState.ready else .done) = st → K (.bb jump.isNone) nk3 q3 (setL L3 nk (.loop st pe)) →
        ∃ v w', (Instr.endRound (S nk).b jump).run P w3 = .ok v w' ∧ ∃ b S4 q4 L4 nk4, Ending.returned v = .returned (.bool b) ∧ (∀ j, j < nk1 → S4 j = S1 j) ∧ Mem w0 q4 S4 L4 w' ∧
          (∀ d, d < nk1 → getL L d = some .dfr → getL L4 d = some .dfr) ∧ K (.bb b) nk4 q4 L4 := by
      intro jump st pe hpe hst hK
      refine ⟨_, _, run_endRound jump hh3, jump.isNone, S3, q3, _, nk3, rfl, hc4.ag, ?_, fun d hd hdL => ?_, hK⟩
      · have := hc4.m.turnRec st pe hL3
        rw [hS3, hpe] at this
        rw [hst]
        exact (hxa.trans hxb).mem this
      · have hg := hc4.b d hd hdL
        rw [getL_setL, if_neg (fun e => by subst e; rw [hL3] at hg; cases hg)]
        exact hg
    cases x <;> simp only [fLL_eq] at hK
    · exact fin (jump := none) (pe := none) rfl rfl hK
    · exact fin (jump := some .ret) (pe := some .ret) rfl rfl hK
    · rename_i m; exact fin (jump := some (.exit m)) (pe := some (.exit m)) rfl rfl hK
    · rename_i m; exact fin (jump := some (.goto m)) (pe := some (.goto m)) rfl rfl hK
end Go.Eng
