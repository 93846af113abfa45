/-
  Texts that the law leans on. Nothing here is trusted.
-/
import Derived.Test.YtnlglgafokjhnaaGreatEngJ
import Derived.Laws.OwnMore
import Derived.Laws.CopyRow
set_option linter.unusedVariables false
set_option linter.unusedSimpArgs false
namespace Go.Eng
open Go Go.RowKit
variable {P : Program} {S S' Sb : Pl} {fr : Fr} {L L' : LL} {q q' : PH} {w0 : W0} {w w' : World} {a : Act} {n0 N : Nat} {B : Nat → Prop} {E : Env}
variable {r : Option Nat} {n : Nat} {Q : Exit → Act → World → Prop}
theorem maxLen_le {n : Nat} (h : n ≤ 9223372036854775807) : n ≤ maxLen := by
  have e : maxLen = 9223372036854775807 := by decide
  omega
theorem make_step (hT : TabOk P E.T) {o : Oper} {t key nk : Nat} {l c : Operand} {K : Kt} (hop : o.op = .makeSlice t l c) (hc : Cfg w0 Sb B n0 N S q fr L a w)
    (h : makeK E.T t n0 key (opv fr l) (opv fr c) fr L fun x L => putK N o.dst x fr fun fr => K nk q fr L) : Oper.wpIn (FF r) n P o a w (St w0 Sb B n0 N K) Q := by
  have hl := opv_ok hc.f l
  have hcc := opv_ok hc.f c
  unfold makeK at h
  split at h
  rotate_left
  · exact h.elim
  rename_i e k m hd el ec
  rw [el] at hl
  rw [ec] at hcc
  have hl : a.eval l = .int .i64 k := hl
  have hcc : a.eval c = .int .i64 m := hcc
  obtain ⟨ht, hsz, i, hi, hisz, hiby⟩ : descOk P E.T t (.slice e) := by rw [← hd]; exact (hT t (by rw [hd]; simp)).d
  split at h
  · exact h.elim
  rename_i d sz byt zero fl hne hte
  have h0 : (ty E.T e).d ≠ .other := by rw [hte]; exact fun e' => hne e'
  obtain ⟨i', z, hi', hisz', _, hz, hzc⟩ := (hT e h0).i
  rw [hi] at hi'
  cases hi'
  have hex : (execOp a.eval o) = (do pure (.value (← Instr.makeSlice t (.int .i64 k) (.int .i64 m)))) := by
    simp only [execOp, hop, hl, hcc]
  rw [hte] at hisz hsz hiby hzc
  simp only at hisz hsz hiby hzc
  split at h
  · rename_i zv hsz1 hon
    have hsz1 := Nat.eq_of_beq_eq_true hsz1
    subst hsz1
    obtain ⟨⟨g0, g1, g2, g3⟩, h⟩ := h
    replace h := h _ _ rfl rfl
    have hr := run_make (P := P) w t e i z ht hi hz .i64 .i64 k m g0 g1 (by rw [hiby]; rw [Int.mul_comm]; omega) g2
    have hzz : z.cells = #[zv] := by apply Array.ext'; simpa using hzc
    have hmade : (madeCells z.cells (m.toNat * i.size)).toList = List.replicate m.toNat zv := by rw [hzz, hisz, Nat.mul_one, toList_madeCells_one]
    have hone : zv.oneCell' = true := oneVL_ok hon zv (by simp)
    refine arr_new (cap := m.toNat) hc (nd_of hop (by simp)) rfl (run_exec hex hr) Nat.one_pos (by simp) (by omega) (maxLen_le (by omega)) (by rw [size_madeCells, hisz]) ?_ (fun x hx => by rw [List.eq_of_mem_replicate hx]; exact hone) h
    rw [hmade, List.take_replicate]
    congr 1
    omega
  · obtain ⟨⟨g0, g1, g2, g3⟩, h⟩ := h
    subst g0
    have hr := run_make (P := P) w t e i z ht hi hz .i64 .i64 0 m (Int.le_refl _) g1 (by rw [hiby]; rw [Int.mul_comm]; omega) g2
    exact arr_new (cap := m.toNat) hc (nd_of hop (by simp)) rfl (run_exec hex hr) hsz (by simp) (by omega) (maxLen_le (by omega)) (by rw [size_madeCells, hisz]) (by simp) (by simp) h
theorem run_storeAt_own {w : World} {g o : Nat} {T t sz : Nat} {cur : Array Value} {v : Value} {i : TypeInfo} (hi : P.info? t = some i) (hsz : i.size = sz) (hv : v.cells.toList.length = sz) (hg : w.heap[g]? = some (.cells cur T (0, 0)))
    (hb : o + sz ≤ cur.size) (h1 : ∀ u ∈ v.cells.toList, u.oneCell' = true) :
    (Instr.storeAt t (.pointer (some ⟨g, o, none⟩)) v).run P w = .ok () (w.setRow g (cur.toList.take o ++ v.cells.toList ++ cur.toList.drop (o + sz)).toArray) := by
  have hs := run_storeCells_at (P := P) g o T v.cells.toList 0 cur w hg (by simpa [hv] using hb) h1
  have hv' : v.cells.size = i.size := by rw [hsz, ← hv]; simp
  simp only [Instr.storeAt, Instr.sureAddr, Sem.run_bind, Sem.run_pure, Result.andThen_ok, storeVar, sizeOf, typeInfo, run_program, hi, hv']
  simpa [hv] using hs
theorem setRow_grown {w : World} {g : Nat} {cs : Array Value} : w.grownBy (w.setRow g cs) (some g) :=
  ⟨rfl, rfl, rfl, by simp [World.setRow], fun k _ hne => setRow_other w g k cs (fun e => hne (by rw [e]))⟩
theorem store_gen (hT : TabOk P E.T) {o : Oper} {t nk : Nat} {x y : Operand} {sy : SV} {K : Kt} (hop : o.op = .store t x y) (hc : Cfg w0 Sb B n0 N S q fr L a w) (hy : okv S sy (a.eval y))
    (h : storeK E.T t (opv fr x) sy L fun L => putK N o.dst (.v undef) fr fun fr => K nk q fr L) : Oper.wpIn (FF r) n P o a w (St w0 Sb B n0 N K) Q := by
  have hx := opv_ok hc.f x
  unfold storeK at h
  split at h
  · exact h.elim
  rename_i ho
  have h0 : (ty E.T t).d ≠ .other := fun e => by simp [isOther, e] at ho
  obtain ⟨i, z, hi, hisz, _⟩ := (hT t h0).i
  split at h
  rotate_left
  · exact h.elim
  rename_i k off ek
  rw [ek] at hx
  have hx : a.eval x = .pointer (some ⟨(S k).b, off, none⟩) := hx
  have fin : ∀ {cs : Array Value} {lb lb' : LB}, getL L k = some lb → lb ≠ .dfr → blk S k lb = some (S k).b → chunk 0 S k lb' (w.setRow (S k).b cs) → blk S k lb' = some (S k).b →
      (Instr.storeAt t (.pointer (some ⟨(S k).b, off, none⟩)) (a.eval y)).run P w = .ok () (w.setRow (S k).b cs) → (putK N o.dst (.v undef) fr fun fr => K nk q fr (setL L k lb')) → Oper.wpIn (FF r) n P o a w (St w0 Sb B n0 N K) Q := by
    intro cs lb lb' hk hne hb hch hb' hr hK
    refine wpIn_skip' (nd_of hop (by simp)) (w' := w.setRow (S k).b cs) ?_ ?_
    · simp only [execOp, hop, hx, Sem.run_bind, hr, Result.andThen_ok, Sem.run_pure]
    · obtain ⟨fr', hK', hc'⟩ := (hc.turn (lb' := lb') hk hne (hc.m.turn hk hb setRow_grown hch hb')).put (v := undef) hK rfl
      exact ⟨S, q, fr', _, nk, hc', hK'⟩
  split at h
  · rename_i TT cs hk
    obtain ⟨l, h, hok, hlen, _, h1⟩ := boxCells_ok h hy
    split at h
    rotate_left
    · exact h.elim
    rename_i hb
    have hb := Nat.le_of_ble_eq_true hb
    rw [fLL_eq] at h
    obtain ⟨hN, vs, hg, hvs⟩ := hc.m.ch k _ hk
    have hll := okL_length hvs
    have hl2 := okL_length hok
    have hr := run_storeAt_own (P := P) (o := off) hi hisz (by rw [← hl2, hlen]) hg (by simp; omega) h1
    refine fin hk (by simp) rfl ?_ rfl hr h
    refine ⟨hN, _, setRow_heap w _ _ _ TT (0, 0) hg, ?_⟩
    rw [List.append_assoc, List.append_assoc, hlen]
    exact okL_append (okL_take off hvs) (okL_append hok (okL_drop _ hvs))
  · rename_i e sz m xs hk
    split at h
    rotate_left
    · exact h.elim
    rename_i v hs1 hv
    have hs1 := Nat.eq_of_beq_eq_true hs1
    have hyv : a.eval y = v := (toV_ok _ hv hy)
    have hv1 : v.oneCell' = true ∧ (Ob (off < xs.length) ∧ ∀ N' zs, N' = m → zs = xs.set off v → fLL (setL L k (.arr e sz N' zs)) fun L => putK N o.dst (.v undef) fr fun fr => K nk q fr L) := by
      cases v <;> first | exact h.elim | exact ⟨rfl, h⟩
    obtain ⟨hv1, ⟨hlt⟩, h⟩ := hv1
    replace h := h _ _ rfl rfl
    rw [fLL_eq] at h
    have hcell : v.cells.toList = [v] := by cases v <;> first | rfl | cases hv1
    obtain ⟨⟨hl, hown⟩, hn, hsz, h1, hA⟩ := hc.m.ch k _ hk
    rcases hown with ⟨_, hz0⟩ | ⟨g, cap, cur, hval, hg0, hg, hcap, hmax, hcur, htake⟩
    · subst hz0
      rw [hl] at hlt
      simp at hlt
    injection hval with hval hval2 hval3
    have hAb : (S k).A = some ⟨(S k).b, 0, none⟩ := by
      rcases hA with hA | hA
      · rw [hA] at hval; cases hval
      · exact hA
    have hgb : g = (S k).b := by
      rw [hAb] at hval
      injection hval with hval
      injection hval with hval _ _
      exact hval.symm
    subst hgb
    have hle : m * sz ≤ cap * sz := Nat.mul_le_mul_right sz hcap
    have hr := run_storeAt_own (P := P) (o := off) (v := a.eval y) hi (hisz.trans hs1) (by rw [hyv, hcell]; rfl) hg (by rw [hcur]; omega) (by rw [hyv, hcell]; simpa using hv1)
    rw [hyv, hcell] at hr
    have hnew : cur.toList.take off ++ [v] ++ cur.toList.drop (off + 1) = cur.toList.set off v := by
      rw [List.set_eq_take_append_cons_drop, if_pos (by simp [hcur]; omega)]
      simp
    rw [hnew] at hr
    rw [← hyv] at hr
    refine fin hk (by simp) (by simp [blk, hAb]) ?_ (by simp [blk, hAb]) hr h
    refine ⟨⟨?_, .inr ⟨_, cap, _, ?_, hg0, setRow_heap w _ _ _ e (0, 0) hg, hcap, hmax, ?_, ?_⟩⟩, hn, hsz, ?_, hA⟩
    · simpa using hl
    · rw [hAb, hval2, hval3]
    · simpa using hcur
    · rw [hyv, List.take_set, htake]
    · intro u hu
      rcases List.mem_or_eq_of_mem_set hu with hu | rfl
      · exact h1 u hu
      · exact hv1
  · exact h.elim
end Go.Eng
