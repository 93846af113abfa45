/-
  Texts that the law leans on. Nothing here is trusted.
-/
import Derived.Test.YtnlglgafokjhnaaGreatEngU
set_option linter.unusedVariables false
set_option linter.unusedSimpArgs false
namespace Go.Eng
open Go Go.RowKit
variable {P : Program} {S S' Sb : Pl} {fr : Fr} {L L' : LL} {q q' : PH} {w0 : W0} {w w' : World} {a : Act} {n0 N : Nat} {B : Nat → Prop} {E : Env}
variable {r : Option Nat} {n : Nat}
theorem remL_setL {k : Nat} {x : LB} : ∀ {L : LL}, remL (setL L k x) k = remL L k
  | [] => rfl
  | (u, y) :: r => by
    by_cases h : Nat.beq u k = true
    · simp [setL_c, remL_c, h]
    · have h : Nat.beq u k = false := by rw [Bool.eq_false_iff]; exact h
      simp [setL_c, remL_c, h, remL_setL (L := r)]
theorem range_ok {inl : Inl} (hI : InlOk P inl) {g : Operand} {ps : Array Nat} {assign body : Code} {it : Nat} {cs : List SV} {Y : Ye} {va vb : Nat → Nat → PH → Fr → LL → Ke → Prop} {nk : Nat} {K : Ke} {L1 : LL}
    (hA : CodeOk P N Y (some nk) assign va) (hB : CodeOk P N Y (some nk) body vb) (hg : opv fr g = .fn it cs)
    (hc : Cfg w0 Sb B n0 N S q fr L a w) (h0 : n0 ≤ nk) (hlt : ltF nk fr = true) (hY : YOk P Sb Y n0) (hltL : ltLL nk L = true)
    (enter : ∀ fn, ∃ (S' : Pl) (mark : List Deferred) (w1 : World) (Ds : List Nat), (Instr.enterLoop fn a.tmps ps assign body r).run P w = .ok ((S' nk).b, mark) w1 ∧ (∀ k, k < nk → S' k = S k) ∧ Mem w0 q S' L1 w1 ∧
      (S' nk).r.tmps = a.tmps ∧ (S' nk).r.params = ps ∧ (S' nk).r.assign = assign ∧ (S' nk).r.body = body ∧ (∀ d, getL L d = some .dfr → getL L1 d = some .dfr) ∧ (mark = Ds.map (fun d => markOf (S' d).b) ∧ Ds.Nodup) ∧ ∀ d ∈ Ds, d = nk + 1 ∧ getL L1 d = some .dfr)
    (h : inl ((nk, roundK va vb N nk ps.toList fr) :: Y) it (.yl nk :: cs) (nk + 2) q L1 (doneK nk fr K)) : (Code.rangeFunc g ps assign body).wpIn (FF r) n P (QE w0 Sb B n0 N K) a w := by
  refine wpIn_rangeFunc fun fn _ => ?_
  obtain ⟨S', mark, w1, Ds, hen, hS, hm, e1, e2, e3, e4, hdf, hmark, hDs⟩ := enter fn
  have hgv := opv_ok hc.f g
  rw [hg] at hgv
  obtain ⟨cvs, hgv, hcs⟩ := hgv
  have hltc : ∀ k, hasL k cs = true → k < nk := fun k hk => ltF_has hlt (opv_has (x := g) (by rw [hg]; simpa [SV.has] using hk))
  have hY' : YOk P S' ((nk, roundK va vb N nk ps.toList fr) :: Y) (nk + 2) := by
    have hYS : YOk P S' Y n0 := hY.congr fun k hk => (hS k (by omega)).trans (hc.ag k hk)
    intro k hd hk
    simp only [yGet] at hk
    split at hk
    · rename_i e
      have e := Nat.eq_of_beq_eq_true e
      subst e
      cases hk
      exact ⟨Nat.le_refl _, hd_ok hA hB (hYS.more h0) (okF_congr (fun k hk => hS k (ltF_has hlt hk)) hc.f) hc.n hlt e1 e2 e3 e4⟩
    · exact (hYS.more (by omega)) k hd hk
  obtain ⟨hcf, hcalls⟩ := hI w0 _ it (.yl nk :: cs) (nk + 2) q L1 _ (.func (.yield (S' nk).b) #[] #[] :: cvs) w1 S' r (n - 1) h hY' ⟨rfl, okL_congr cs (fun k hk => hS k (hltc k hk)) hcs⟩ hm
  refine ⟨(S' nk).b, mark, w1, { target := .fn (.func it) cvs.toArray, args := #[.func (.yield (S' nk).b) #[] #[]] }, w1, it, (.func (.yield (S' nk).b) #[] #[] :: cvs).toArray, w1, hen, ?_, fun _ _ => trivial, ?_, fun hx => (by cases hx), ?_⟩
  · have : (resolve a.eval (rangeCall g (S' nk).b) 0) = Deferred.ofValue (a.eval g) #[.func (.yield (S' nk).b) #[] #[]] := by
      simp only [resolve, rangeCall, List.map_toArray, List.map_cons, List.map_nil]
      rfl
    rw [this, hgv]
    simp [Deferred.ofValue]
  · have := hcf (.func (.yield (S' nk).b) #[] #[] :: cvs).toArray w1
    simpa [invoke] using this
  refine hcalls.mono ?_
  rintro e w3 ⟨v, x, S2, q2, L2, nk2, rfl, _, hS2, hm2, hd2, hK⟩
  have hSn : S2 nk = S' nk := hS2 nk (by omega)
  have fin : ∀ {st : LoopState} {pe : Option Ex} {x : Ex} (c : Option Code), getL L2 nk = some (.loop st pe) → st ≠ .busy → pe.bind jumpOf = c → (K x nk2 q2 fr (remL (remL L2 nk) (nk + 1))) →
      (match c with
       | none => x = .norm
       | some c => ∀ {a : Act} {w : World} {Q : Exit → Act → World → Prop}, Q (toX x) a w → c.wpIn (FF r) n P Q a w) → rangePost (FF r) n P (S' nk).b (QE w0 Sb B n0 N K) { a with defers := mark ++ a.defers } (.returned v) w3 := by
    intro st pe x c hL hst hpe hK hx
    have hh := hm2.recHeap hL
    rw [hSn] at hh
    have hm3 := (hm2.turnRec .exhausted pe hL).rem nk
    rw [hSn, remL_setL] at hm3
    refine ⟨_, _, run_endLoop hh hst, ?_⟩
    have hst : ∃ w1, Ext w0 w1 ∧ St w1 Sb B n0 N (K x) { a with defers := mark ++ a.defers } (w3.putObj (S' nk).b (.loop { (S' nk).r with state := .exhausted, pending := pe.bind jumpOf })) := by
      generalize w3.putObj (S' nk).b (.loop { (S' nk).r with state := .exhausted, pending := pe.bind jumpOf }) = w5 at hm3 ⊢
      obtain ⟨Hs, g1, g2, g3⟩ := hc.d
      have hrem : ∀ d, getL L2 d = some .dfr → getL (remL L2 nk) d = some .dfr := fun d hd => by
        rw [getL_remL, if_neg (fun e => by subst e; rw [hL] at hd; cases hd)]
        exact hd
      have hrem2 : ∀ d, d ≠ nk + 1 → getL L2 d = some .dfr → getL (remL (remL L2 nk) (nk + 1)) d = some .dfr := fun d hne hd => by
        rw [getL_remL, if_neg (fun e => hne e.symm)]
        exact hrem d hd
      have hlt2 : ∀ d, getL L d = some .dfr → d < nk := fun d hd => ltLL_has hltL (getL_hasLL hd (.inl rfl))
      have hDm : ∀ d ∈ Ds, getL (remL L2 nk) d = some .dfr := fun d hd => by
        obtain ⟨k1, k2⟩ := hDs d hd
        exact hrem d (hd2 d (by omega) k2)
      let w1 : W0 := ⟨w5, fun b => w0.F b ∨ ∃ d ∈ Ds, b = (S2 d).b, fun b hb => by
        rcases hb with hb | ⟨d, hd, rfl⟩
        · exact Nat.lt_of_lt_of_le (w0.lt b hb) hm3.be.size
        · exact (Array.getElem?_eq_some_iff.1 (hm3.ch d _ (hDm d hd)).2).1, w0.F0, fun b hb => .inl (w0.sub b hb), q2⟩
      have hx1 : Ext w0 w1 := ⟨rfl, fun b hb => .inl hb, hm3.be, hm3.gw⟩
      have hm4 : Mem w1 q2 S2 (remL (remL L2 nk) (nk + 1)) w5 := by
        have hm4 := hm3.rem (nk + 1)
        refine ⟨hm4.ch, hm4.ap, hm4.po, fun k lb hk b hb hF => ?_, hm4.on, .refl w1, fun _ _ _ hv _ => hv⟩
        rcases hF with hF | ⟨d, hd, rfl⟩
        · exact hm4.fz k lb hk b hb hF
        · have k1 := (hDs d hd).1
          rw [getL_remL] at hk
          split at hk
          · cases hk
          · rename_i hne
            exact hm3.ap d _ k lb (hDm d hd) hk (fun e => hne (by omega)) _ rfl hb
      refine ⟨w1, hx1, S2, q2, fr, _, nk2, ⟨fun k hk => ((hS2 k (by omega)).trans (hS k (by omega))).trans (hc.ag k hk), fun d hd hB => ?_, hm4,
        okF_congr (fun k hk => by have := ltF_has hlt hk; exact (hS2 k (by omega)).trans (hS k this)) hc.f, hc.n, Ds.map (fun d => (S2 d).b) ++ Hs, ?_, ?_, fun b hb => ?_⟩, hK⟩
      · have := hc.b d hd hB
        have := hlt2 d this
        exact hrem2 d (by omega) (hd2 d (by omega) (hdf d (hc.b d hd hB)))
      · have m1 : Ds.map (fun d => markOf (S' d).b) = (Ds.map (fun d => (S2 d).b)).map markOf := by
          rw [List.map_map]
          exact List.map_congr_left fun d hd => by rw [Function.comp, hS2 d (by have := (hDs d hd).1; omega)]
        rw [List.map_append, hmark.1, m1, ← g1]
      · refine List.nodup_append.2 ⟨?_, g2, fun x hx y hy e => ?_⟩
        · have : ∀ l : List Nat, l.Nodup → (∀ d ∈ l, d = nk + 1) → (l.map (fun d => (S2 d).b)).Nodup := fun l hn hl => by
            match l, hn, hl with
            | [], _, _ => exact .nil
            | [x], _, _ => simp
            | x :: y :: r, hn, hl =>
              have h1 := hl x (by simp)
              have h2 := hl y (by simp)
              simp [h1, h2] at hn
          exact this Ds hmark.2 fun d hd => (hDs d hd).1
        · obtain ⟨d, hd, rfl⟩ := List.mem_map.1 hx
          subst e
          exact hm3.fz d _ (hDm d hd) _ rfl (g3 _ hy).1
      · rcases List.mem_append.1 hb with hb | hb
        · obtain ⟨d, hd, rfl⟩ := List.mem_map.1 hb
          refine ⟨.inr ⟨d, hd, rfl⟩, fun hF0 => hm3.fz d _ (hDm d hd) _ rfl (w0.sub _ hF0), (hm3.ch d _ (hDm d hd)).2⟩
        · obtain ⟨k1, k2, k3⟩ := g3 b hb
          exact ⟨.inl k1, k2, (hm3.be.block b k1).trans k3⟩
    subst hpe
    dsimp only
    split
    · rename_i e
      rw [e] at hx
      have hx : x = .norm := hx
      subst hx
      exact ⟨.norm, rfl, hst⟩
    · rename_i c e
      rw [e] at hx
      exact hx ⟨x, rfl, hst⟩
  unfold doneK at hK
  split at hK
  · rename_i hL; rw [fLL_eq] at hK; exact fin (x := .norm) none hL (by simp) rfl hK rfl
  · rename_i hL; rw [fLL_eq] at hK; exact fin (x := .ret) (some .ret) hL (by simp) rfl hK fun h => wpIn_ret h
  · rename_i m hL; rw [fLL_eq] at hK; exact fin (x := .exit m) (some (.exit m)) hL (by simp) rfl hK fun h => wpIn_exit h
  · rename_i m hL; rw [fLL_eq] at hK; exact fin (x := .goto m) (some (.goto m)) hL (by simp) rfl hK fun h => wpIn_goto h
  · exact hK.elim
theorem ltLL_none {nk k : Nat} (h : ltLL nk L = true) (hk : nk ≤ k) : hasLL k L = false := by
  cases hb : hasLL k L with
  | false => rfl
  | true => have := ltLL_has h hb; omega
theorem Mem.newRec {nk : Nat} (hm : Mem w0 q S L w) (hL : hasLL nk L = false) (rec : Loop) (h1 : rec.state = .ready) (h2 : rec.pending = none) : Mem w0 q (updS S nk ⟨w.heap.size, none, 0, 0, rec⟩) ((nk, .loop .ready none) :: L) (w.alloc (.loop rec)) := by
  refine hm.new hL ((Below.refl _ w).alloc (Nat.le_refl _) _) ⟨?_, ?_⟩ ?_
  · rw [updS_same]; exact Nat.zero_le _
  · rw [updS_same, heap_alloc_new w _]
    obtain ⟨st, pe, _, _, _, _, _, _⟩ := rec
    cases h1
    cases h2
    rfl
  · intro b hb
    simp only [blk, updS_same, Option.some.injEq] at hb
    omega
theorem Mem.newDfr {k : Nat} (hm : Mem w0 q S L w) (hL : hasLL k L = false) : Mem w0 q (updS S k ⟨w.heap.size, none, 0, 0, default⟩) ((k, .dfr) :: L) (w.alloc (.deferred (some []))) := by
  refine hm.new hL ((Below.refl _ w).alloc (Nat.le_refl _) _) ⟨?_, ?_⟩ ?_
  · rw [updS_same]; exact Nat.zero_le _
  · rw [updS_same, heap_alloc_new w _]
  · intro b hb
    simp only [blk, updS_same, Option.some.injEq] at hb
    omega
end Go.Eng
