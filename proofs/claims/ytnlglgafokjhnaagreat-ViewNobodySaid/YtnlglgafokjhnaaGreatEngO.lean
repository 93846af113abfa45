/-
  Texts that the law leans on. Nothing here is trusted.
-/
import Derived.Test.YtnlglgafokjhnaaGreatEngFz
set_option linter.unusedVariables false
set_option linter.unusedSimpArgs false
namespace Go.Eng
open Go Go.RowKit
variable {P : Program} {S S' Sb : Pl} {fr : Fr} {L L' : LL} {q q' : PH} {w0 : W0} {w w' : World} {a : Act} {n0 N : Nat} {B : Nat → Prop} {E : Env}
variable {r : Option Nat} {n : Nat} {Q : Exit → Act → World → Prop}
theorem inl_step {inl : Inl} {Y : Ye} (hI : InlOk P inl) (hY : YOk P Sb Y n0) {o : Oper} {f nk : Nat} {args : List SV} {vs : List Value} {K : Kt} (hd : ∀ c, o.op ≠ .defer c) (hc : Cfg w0 Sb B n0 N S q fr L a w)
    (hvs : okL S args vs) (hex : ∀ {w'}, (callFunc f vs.toArray).run P w = .ok (.enter f vs.toArray) w' → (execOp a.eval o).run P w = .ok (.enter f vs.toArray) w')
    (h : match Nat.ble n0 nk, ltF nk fr, dLt nk L with
      | true, true, true => inl Y f args nk q L fun r nk q L => putK N o.dst r fr fun fr => K nk q fr L
      | _, _, _ => False) : Oper.wpIn (FF r) n P o a w (St w0 Sb B n0 N K) Q := by
  split at h
  rotate_left
  · exact h.elim
  rename_i h0 hf hdl
  have h0 := Nat.le_of_ble_eq_true h0
  obtain ⟨hcf, hcalls⟩ := hI w0 Y f args nk q L _ vs w S r (n - 1) h ((hY.congr (fun k hk => hc.ag k hk)).more h0) hvs hc.m
  refine wpIn_enter hd (hex (hcf _ _)) hcalls fun e w' he => ?_
  obtain ⟨v, x, S', q', L', nk', rfl, hx, hs, hm, hk, hK⟩ := he
  refine ⟨v, rfl, ?_⟩
  obtain ⟨fr', hK', hc'⟩ := (hc.back h0 hf (fun d => dLt_has hdl) hs hm hk).put hK hx
  exact ⟨S', q', fr', L', nk', hc', hK'⟩
theorem yl_step {Y : Ye} (hY : YOk P Sb Y n0) {o : Oper} {k nk : Nat} {args : List SV} {vs : List Value} {K : Kt} (hd : ∀ c, o.op ≠ .defer c) (hc : Cfg w0 Sb B n0 N S q fr L a w)
    (hvs : okL S args vs) (hex : ∀ {x}, (Instr.yield (S k).b vs.toArray).run P w = .ok x w → (execOp a.eval o).run P w = .ok x w)
    (h : match Nat.ble n0 nk, ltF nk fr, dLt nk L, yGet Y k with
      | true, true, true, some h => h args nk q L fun r nk q L => putK N o.dst r fr fun fr => K nk q fr L
      | _, _, _, _ => False) : Oper.wpIn (FF r) n P o a w (St w0 Sb B n0 N K) Q := by
  split at h
  rotate_left
  · exact h.elim
  rename_i hd' h0 hf hdl hyk
  have h0 := Nat.le_of_ble_eq_true h0
  obtain ⟨hkn, hh⟩ := hY k _ hyk
  obtain ⟨fn, tmps, assign, body, hr, hround⟩ := hh w0 args nk q L _ vs w S r (n - 1) (by omega) (fun j hj => hc.ag j (by omega)) h hvs hc.m
  rw [← hc.ag k (by omega)] at hr hround
  refine wpIn_round hd (hex hr) hround fun e w' he => ?_
  obtain ⟨b, S', q', L', nk', rfl, hs, hm, hk, hK⟩ := he
  refine ⟨_, rfl, ?_⟩
  obtain ⟨fr', hK', hc'⟩ := (hc.back h0 hf (fun d => dLt_has hdl) hs hm hk).put (v := .bool b) hK rfl
  exact ⟨S', q', fr', L', nk', hc', hK'⟩
theorem effK_ok {inl : Inl} {Y : Ye} (hT : TabOk P E.T) (hΓ : GOk P E) (hI : InlOk P inl) (hY : YOk P Sb Y n0) {o : Oper} {key nk : Nat} {wr : Bool} {K : Kt} (hc : Cfg w0 Sb B n0 N S q fr L a w)
    (h : effK E inl Y wr n0 N key o.dst o.op nk q fr L K) : Oper.wpIn (FF r) n P o a w (St w0 Sb B n0 N K) Q := by
  obtain ⟨dst, op, oty, pos, after, guard⟩ := o
  cases op
  case alloc t => simp only [effK] at h; exact alloc_step hT rfl hc h
  case box t x =>
    simp only [effK] at h
    split at h
    · exact h.elim
    · exact box_step rfl hc h
  case buildSlice t m ps =>
    simp only [effK] at h
    obtain ⟨q, fr, L, _, hc, h⟩ := frzKs_ok hc h
    exact build_step hT rfl hc h
  case makeSlice t l c => simp only [effK] at h; exact make_step hT rfl hc h
  case store t x y =>
    simp only [effK] at h
    obtain ⟨q, fr, L, _, hc, h⟩ := frzKs_ok hc h
    exact store_step hT rfl hc h
  case convert src t x =>
    simp only [effK] at h
    split at h
    · rename_i e s h1 h2 hx
      split at h
      · rename_i h3; exact sb_step hT rfl hc h1 h2 h3 hx h
      · exact h.elim
    · rename_i e0 e k h1 h2 hx
      split at h
      · rename_i h0 h3 hk
        exact fz_step hT rfl hc (Nat.eq_of_beq_eq_true h0) h2 h3 hx hk h.1.out h.2
      · exact h.elim
    · exact calm_step hT hΓ.1 hΓ.calm hc h
  case call c =>
    obtain ⟨callee, xs, ts⟩ := c
    have hxs := opvs_ok hc.f xs.toList
    have hmap : xs.map a.eval = (xs.toList.map a.eval).toArray := by obtain ⟨l⟩ := xs; simp
    simp only [effK] at h
    cases callee with
    | invoke r m => exact calm_step hT hΓ.1 hΓ.calm hc h
    | builtin b =>
      cases b
      case append =>
        simp only at h
        split at h
        rotate_left
        · exact h.elim
        rename_i s x t t' e1 e2
        split at h
        rotate_left
        · obtain ⟨xs⟩ := xs
          obtain ⟨ts⟩ := ts
          simp only at e1 e2
          subst e2
          match xs, e1 with
          | [so, xo], e1 =>
            simp only [opvs] at e1
            injection e1 with e1 e2
            injection e2 with e2 _
            subst e1 e2
            exact apps_step hT rfl hc h
          | [], e1 => simp [opvs] at e1
          | [_], e1 => simp [opvs] at e1
          | _ :: _ :: _ :: _, e1 => simp [opvs] at e1
        rename_i htt
        have htt := Nat.eq_of_beq_eq_true htt
        subst htt
        obtain ⟨xs⟩ := xs
        obtain ⟨ts⟩ := ts
        simp only at e1 e2
        subst e2
        match xs, e1 with
        | [so, xo], e1 =>
          simp only [opvs] at e1
          injection e1 with e1 e2
          injection e2 with e2 _
          subst e1 e2
          exact app_step hT rfl hc h
        | [], e1 => simp [opvs] at e1
        | [_], e1 => simp [opvs] at e1
        | _ :: _ :: _ :: _, e1 => simp [opvs] at e1
      case copy =>
        simp only at h
        split at h
        rotate_left
        · exact h.elim
        rename_i s x t t' e1 e2
        obtain ⟨xs⟩ := xs
        obtain ⟨ts⟩ := ts
        simp only at e1 e2
        subst e2
        match xs, e1 with
        | [so, xo], e1 =>
          simp only [opvs] at e1
          injection e1 with e1 e2
          injection e2 with e2 _
          subst e1 e2
          exact copy_step hT rfl hc h
        | [], e1 => simp [opvs] at e1
        | [_], e1 => simp [opvs] at e1
        | _ :: _ :: _ :: _, e1 => simp [opvs] at e1
      all_goals exact calm_step (wr := wr) (nk := nk) (K := K) (q := q) (fr := fr) (L := L) hT hΓ.1 hΓ.calm hc h
    | value x =>
      cases x with
      | const v => exact calm_step hT hΓ.1 hΓ.calm hc h
      | global g => exact calm_step hT hΓ.1 hΓ.calm hc h
      | func f =>
        simp only at h
        split at h
        · exact calm_step hT hΓ.1 hΓ.calm hc h
        split at h
        · rename_i s hs
          split at h
          · exact calm_step hT hΓ.1 hΓ.calm hc h
          rename_i hnc
          obtain ⟨hsf, _, hcs⟩ := hΓ.2 f s hs
          have hcs := hcs hnc
          subst hsf
          obtain ⟨S1, fr1, L1, nk1, hc, h⟩ := nilF_ok hc h
          have hxs := opvs_ok hc.f xs.toList
          obtain ⟨h0, hf, hdl, hcall⟩ := callC_ok (w := w) (w0 := w0) (S := S1) hcs hxs hc.m h
          have he : (execOp a.eval { dst := dst, op := Op.call { callee := Callee.value (Operand.func s.f), args := xs, argTypes := ts }, type := oty, pos := pos, after := after, guard := guard }).run P w = .ok (.enter s.f (xs.toList.map a.eval).toArray) w := by
            simp only [execOp, resolve, Act.eval, Deferred.ofValue, invoke, hmap, Sem.run_bind, Sem.run_pure, Result.andThen_ok]
            simpa using hcs.1 _ w
          refine wpIn_enter (by simp) he (calls_ff hcall) fun e w' he => ?_
          obtain ⟨v, x, S', q', L', nk', rfl, hx, hs, hm, hk, hK⟩ := he
          refine ⟨v, rfl, ?_⟩
          obtain ⟨fr', hK', hc'⟩ := (hc.back h0 hf hdl hs hm (fun d _ hd => hk d hd)).put hK hx
          exact ⟨S', q', fr', L', nk', hc', hK'⟩
        · refine inl_step hI hY (by simp) hc hxs ?_ h
          intro w' he
          have : (callFunc f ((xs.toList.map a.eval).toArray ++ #[])).run P w = .ok (.enter f (xs.toList.map a.eval).toArray) w' := by simpa using he
          simp only [execOp, resolve, Act.eval, Deferred.ofValue, invoke, hmap, Sem.run_bind, Sem.run_pure, Result.andThen_ok]
          simpa using he
      | tmp t =>
        have hft := hc.f t
        simp only at h
        split at h
        · rename_i f cs e
          rw [e] at hft
          obtain ⟨cvs, hfv, hcs⟩ := hft
          refine inl_step hI hY (by simp) hc (okL_append hxs hcs) ?_ h
          intro w' he
          have hev : a.eval (.tmp t) = .func (.func f) #[] cvs.toArray := hfv
          simp only [execOp, resolve, hev, Deferred.ofValue, invoke, hmap, Sem.run_bind, Sem.run_pure, Result.andThen_ok]
          simpa using he
        · rename_i k e
          rw [e] at hft
          have hev : a.eval (.tmp t) = .func (.yield (S k).b) #[] #[] := hft
          refine yl_step hY (by simp) hc hxs ?_ h
          intro x hr
          simp only [execOp, resolve, hev, Deferred.ofValue, invoke, hmap, Sem.run_bind, Sem.run_pure, Result.andThen_ok]
          simpa using hr
        · exact h.elim
  all_goals exact calm_step (wr := wr) (nk := nk) (K := K) (q := q) (fr := fr) (L := L) hT hΓ.1 hΓ.calm hc h
end Go.Eng
