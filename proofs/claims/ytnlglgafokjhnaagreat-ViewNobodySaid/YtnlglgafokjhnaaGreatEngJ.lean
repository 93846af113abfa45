/-
  Texts that the law leans on. Nothing here is trusted.
-/
import Derived.Test.YtnlglgafokjhnaaGreatEngI
set_option linter.unusedVariables false
set_option linter.unusedSimpArgs false
namespace Go.Eng
open Go Go.RowKit
variable {P : Program} {S S' Sb : Pl} {fr : Fr} {L L' : LL} {q q' : PH} {w0 : W0} {w w' : World} {a : Act} {n0 N : Nat} {B : Nat → Prop} {E : Env}
variable {r : Option Nat} {n : Nat} {Q : Exit → Act → World → Prop}
theorem opv_has {x : Operand} {k : Nat} (h : (opv fr x).has k = true) : hasF k fr = true := by
  cases x with
  | tmp t => exact get_has h
  | const v => cases v <;> simp [opv, SV.has] at h
  | global g => simp [opv, SV.has] at h
  | func f => simp [opv, SV.has, hasL] at h
theorem calm_nd {T : Tab} {Γ : List Spec} {Δ : List CS} {wr : Bool} {op : Op} {K : SV → Prop} (h : calmK T Γ Δ wr q op fr L K) : ∀ c, op ≠ .defer c := by
  rintro c rfl
  simp [calmK] at h
theorem calm_step (hT : TabOk P E.T) (hΓ : SpecsOk P E.Γ) (hΔ : CalmsOk P E.Δ) {wr : Bool} {nk : Nat} {K : Kt} {o : Oper} (hc : Cfg w0 Sb B n0 N S q fr L a w)
    (h : calmK E.T E.Γ E.Δ wr q o.op fr L fun x => putK N o.dst x fr fun fr => K nk q fr L) : Oper.wpIn (FF r) n P o a w (St w0 Sb B n0 N K) Q := by
  obtain ⟨x, sv, hK, hx, hy⟩ := calm_ok (C := Cl w0 q S L w) hT hΓ hΔ hc.m.ch (fun _ h => h) hc.f h
  refine wpIn_calm (calm_nd h) (fun _ _ h hb => Cl.below hc.m.ch h hb) hy hc.m.cl fun w' hw' => ?_
  obtain ⟨fr', hK', hc'⟩ := (hc.mem (hc.m.of_cl hw')).put hK hx
  exact ⟨S, q, fr', L, nk, hc', hK'⟩
theorem nd_of {o : Oper} {op : Op} (e : o.op = op) (h : ∀ c, op ≠ .defer c) : ∀ c, o.op ≠ .defer c := fun c h' => h c (e.symm.trans h')
theorem row_step {o : Oper} {t key nk : Nat} {cs : List SV} {vs : List Value} {K : Kt} (hc : Cfg w0 Sb B n0 N S q fr L a w) (hd : ∀ c, o.op ≠ .defer c)
    (hr : (execOp a.eval o).run P w = .ok (.value (.pointer (some ⟨w.heap.size, 0, none⟩))) (w.alloc (.cells vs.toArray t))) (hok : okL S cs vs) (hcs : ∀ k, hasL k cs = true → hasF k fr = true)
    (h : newK n0 key fr L (.cells t cs) fun L => putK N o.dst (.lp key 0) fr fun fr => K nk q fr L) : Oper.wpIn (FF r) n P o a w (St w0 Sb B n0 N K) Q := by
  obtain ⟨h0, h1, h2, h⟩ := newK_ok h
  refine wpIn_value hd hr ?_
  have hcs' : hasL key cs = false := by
    cases hb : hasL key cs with
    | false => rfl
    | true => rw [hcs key hb] at h1; cases h1
  have hm := hc.m.row (t := t) h2 hok hcs'
  obtain ⟨fr', hK', hc'⟩ := (hc.new h0 h1 h2 hm).put (v := .pointer (some ⟨w.heap.size, 0, none⟩)) h (by simp [okv, updS_same])
  exact ⟨_, q, fr', _, nk, hc', hK'⟩
theorem run_exec {o : Oper} {s : Sem Value} {v : Value} (he : execOp a.eval o = (do pure (.value (← s)))) (h : s.run P w = .ok v w') : (execOp a.eval o).run P w = .ok (.value v) w' := by
  rw [he]; simp [h]
theorem alloc_step (hT : TabOk P E.T) {o : Oper} {t key nk : Nat} {K : Kt} (hop : o.op = .alloc t) (hc : Cfg w0 Sb B n0 N S q fr L a w)
    (h : match ty E.T t with
    | ⟨.other, _, _, _, _, _⟩ => False
    | ⟨_, _, _, zero, _, _⟩ => fSVL (valL zero) fun z => newK n0 key fr L (.cells t z) fun L => putK N o.dst (.lp key 0) fr fun fr => K nk q fr L) : Oper.wpIn (FF r) n P o a w (St w0 Sb B n0 N K) Q := by
  have h0 : (ty E.T t).d ≠ .other := by
    intro e
    revert h
    generalize ty E.T t = ti at e
    obtain ⟨d, _, _, _, _⟩ := ti
    cases e
    exact fun h => h
  have hr := run_alloc (P := P) hT h0 w
  have h' : fSVL (valL (ty E.T t).zero) fun z => newK n0 key fr L (.cells t z) fun L => putK N o.dst (.lp key 0) fr fun fr => K nk q fr L := by
    revert h h0
    generalize ty E.T t = ti
    obtain ⟨d, _, _, _, _⟩ := ti
    cases d <;> intro h h0 <;> first | exact h | exact absurd rfl h0
  rw [fSVL_eq] at h'
  refine row_step hc (nd_of hop (by simp)) ?_ (okL_valL _) (fun k hk => by rw [hasL_valL] at hk; cases hk) h'
  exact run_exec (by simp only [execOp, hop]) hr
theorem box_step {o : Oper} {t key nk : Nat} {x : Operand} {K : Kt} (hop : o.op = .box t x) (hc : Cfg w0 Sb B n0 N S q fr L a w)
    (h : boxCells E.T t (opv fr x) fun l => newK n0 key fr L (.cells t l) fun L => putK N o.dst (.lp key 0) fr fun fr => K nk q fr L) : Oper.wpIn (FF r) n P o a w (St w0 Sb B n0 N K) Q := by
  obtain ⟨l, h, hok, _, hk, _⟩ := boxCells_ok h (opv_ok hc.f x)
  refine row_step hc (nd_of hop (by simp)) ?_ hok (fun k hk' => opv_has (hk k hk')) h
  refine run_exec (s := Instr.box t (a.eval x)) (by simp only [execOp, hop]) ?_
  rw [run_box]
theorem arr_new {o : Oper} {e sz m key nk : Nat} {xs : List Value} {cap : Nat} {K : Kt} (hc : Cfg w0 Sb B n0 N S q fr L a w) (hd : ∀ c, o.op ≠ .defer c) {cur : Array Value} {w1 : World}
    (hw1 : w1 = w.alloc (.cells cur e)) (hr : (execOp a.eval o).run P w = .ok (.value (.slice (some ⟨w.heap.size, 0, none⟩) m cap)) w1) (hsz : 0 < sz) (hx : xs.length = m * sz) (hcap : m ≤ cap) (hm : cap ≤ maxLen) (hcur : cur.size = cap * sz) (htake : cur.toList.take (m * sz) = xs)
    (h1 : ∀ x ∈ xs, x.oneCell' = true) (h : newK n0 key fr L (.arr e sz m xs) fun L => putK N o.dst (.own key) fr fun fr => K nk q fr L) : Oper.wpIn (FF r) n P o a w (St w0 Sb B n0 N K) Q := by
  subst hw1
  obtain ⟨k0, k1, k2, h⟩ := newK_ok h
  refine wpIn_value hd hr ?_
  have hown : (w.alloc (.cells cur e)).ownsRow 0 e sz (.slice (some ⟨w.heap.size, 0, none⟩) m cap) m xs :=
    ⟨hx, .inr ⟨w.heap.size, cap, cur, rfl, Nat.zero_le _, heap_alloc_new w _, hcap, hm, hcur, htake⟩⟩
  have hmem : Mem w0 q (updS S key (locOf (some ⟨w.heap.size, 0, none⟩) m cap)) ((key, .arr e sz m xs) :: L) (w.alloc (.cells cur e)) := by
    refine hc.m.new k2 ((Below.refl _ w).alloc (Nat.le_refl _) _) (chunk_arr hown hsz h1 (.inr ⟨_, rfl⟩)) fun b hb => ?_
    simp [blk, updS_same, locOf] at hb
    omega
  obtain ⟨fr', hK', hc'⟩ := (hc.new k0 k1 k2 hmem).put (v := .slice (some ⟨w.heap.size, 0, none⟩) m cap) h (by simp [okv, updS_same, locOf])
  exact ⟨_, q, fr', _, nk, hc', hK'⟩
theorem okL_repl {l : List SV} {vs : List Value} (h : okL S l vs) : ∀ m, okL S (repl m l) (List.replicate m vs).flatten
  | 0 => trivial
  | m + 1 => by rw [List.replicate_succ, List.flatten_cons]; exact okL_append h (okL_repl h m)
theorem made_flatL (z : List Value) (hz : 0 < z.length) : ∀ m, (List.range (m * z.length)).map (fun i => z.toArray[i % z.toArray.size]!) = (List.replicate m z).flatten
  | 0 => by simp
  | m + 1 => by
    rw [List.replicate_succ, List.flatten_cons, ← made_flatL z hz m, show (m + 1) * z.length = z.length + m * z.length from by rw [Nat.add_mul]; omega, List.range_add, List.map_append, List.map_map]
    congr 1
    · refine List.ext_getElem (by simp) fun i h1 h2 => ?_
      simp only [List.getElem_map, List.getElem_range, List.size_toArray]
      rw [Nat.mod_eq_of_lt h2, getElem!_pos z.toArray i (by simpa using h2)]
      simp
    · refine List.map_congr_left fun i _ => ?_
      simp only [Function.comp, List.size_toArray, Nat.add_mod_left]
theorem made_flat (z : List Value) (hz : 0 < z.length) (m : Nat) : (Array.range (m * z.length)).map (fun i => z.toArray[i % z.toArray.size]!) = (List.replicate m z).flatten.toArray := by
  rw [← made_flatL z hz m]
  apply Array.ext'
  simp
theorem foldl_set_size (off : Nat) : ∀ (l : List (Value × Nat)) (cs : Array Value), (l.foldl (fun cs x => cs.setIfInBounds (off + x.2) x.1) cs).size = cs.size
  | [], _ => rfl
  | x :: l, cs => by rw [List.foldl_cons, foldl_set_size off l]; simp
theorem fill_size {place : Nat → Option (Nat × Nat)} : ∀ {ps : List (Nat × Value)} {cs us : Array Value}, Instr.fill place cs ps = some us → us.size = cs.size
  | [], cs, us, h => by simp [Instr.fill] at h; rw [h]
  | (i, v) :: r, cs, us, h => by
    simp only [Instr.fill] at h
    split at h
    · cases h
    · split at h
      · cases h
      · rw [fill_size h, ← Array.foldl_toList]
        exact foldl_set_size _ _ _
theorem elemPl_nth {sz e : Nat} : ∀ (m i j off t : Nat), nth (elemPl sz e m i) j = some (off, t) → off = (i + j) * sz ∧ t = e
  | 0, _, _, _, _, h => by simp [elemPl, nth_n] at h
  | m + 1, i, 0, off, t, h => by simp [elemPl, nth_0] at h; simp [h]
  | m + 1, i, j + 1, off, t, h => by
    simp only [elemPl, nth_s] at h
    obtain ⟨h1, h2⟩ := elemPl_nth m (i + 1) j off t h
    exact ⟨by rw [h1]; congr 1; omega, h2⟩
theorem build_step (hT : TabOk P E.T) {o : Oper} {t m key nk : Nat} {ps : Array (Nat × Operand)} {K : Kt} (hop : o.op = .buildSlice t m ps) (hc : Cfg w0 Sb B n0 N S q fr L a w)
    (h : match (ty E.T t).d with
    | .slice e => (match ty E.T e with
      | ⟨.other, _, _, _, _, _⟩ => False
      | ⟨_, sz, _, zero, _, _⟩ => partsK E.T (elemPl sz e m 0) fr ps.toList (repl m (valL zero)) fun cs => (match toVL cs with
        | some xs => (match oneVL xs, Nat.ble (m * sz) 16777216 with
          | true, true => newK n0 key fr L (.arr e sz m xs) fun L => putK N o.dst (.own key) fr fun fr => K nk q fr L
          | _, _ => False)
        | none => (match hasL key cs, Nat.ble (m * sz) 16777216 with
          | false, true => newK n0 key fr L (.cells e cs) fun L => putK N o.dst (.ls key m) fr fun fr => K nk q fr L
          | _, _ => False)))
    | _ => False) : Oper.wpIn (FF r) n P o a w (St w0 Sb B n0 N K) Q := by
  split at h
  rotate_left
  · exact h.elim
  rename_i e hd
  have h0 : (ty E.T e).d ≠ .other := by
    intro e'
    revert h
    generalize ty E.T e = ti at e'
    obtain ⟨d, _, _, _, _⟩ := ti
    cases e'
    exact fun h => h
  have h' : partsK E.T (elemPl (ty E.T e).sz e m 0) fr ps.toList (repl m (valL (ty E.T e).zero)) fun cs => (match toVL cs with
        | some xs => (match oneVL xs, Nat.ble (m * (ty E.T e).sz) 16777216 with
          | true, true => newK n0 key fr L (.arr e (ty E.T e).sz m xs) fun L => putK N o.dst (.own key) fr fun fr => K nk q fr L
          | _, _ => False)
        | none => (match hasL key cs, Nat.ble (m * (ty E.T e).sz) 16777216 with
          | false, true => newK n0 key fr L (.cells e cs) fun L => putK N o.dst (.ls key m) fr fun fr => K nk q fr L
          | _, _ => False)) := by
    revert h h0
    generalize ty E.T e = ti
    obtain ⟨d, _, _, _, _⟩ := ti
    cases d <;> intro h h0 <;> first | exact h | exact absurd rfl h0
  clear h
  obtain ⟨ht, hsz, i, hi, hisz, _⟩ : descOk P E.T t (.slice e) := by rw [← hd]; exact (hT t (by rw [hd]; simp)).d
  obtain ⟨i', z, hi', hisz', _, hz, hzc⟩ := (hT e h0).i
  rw [hi] at hi'
  cases hi'
  have hzl : (ty E.T e).zero.length = (ty E.T e).sz := (hT e h0).zl
  obtain ⟨l, us, hK, hok, hf⟩ := partsK_ok (T := E.T) (ρ := a.eval) hc.f (fun x => opv_ok hc.f x) (fun i => some (i * (ty E.T e).sz, (ty E.T e).sz)) (fun i off t h => by
    obtain ⟨h1, h2⟩ := elemPl_nth m 0 i off t h
    rw [h1, h2]; simp) ps.toList _ _ _ (okL_repl (okL_valL (S := S) (ty E.T e).zero) m) h'
  have hrun0 : m * (ty E.T e).sz ≤ 16777216 → (Instr.buildSlice t m (ps.map fun (q : Nat × Operand) => (q.1, a.eval q.2))).run P w = .ok (.slice (some ⟨w.heap.size, 0, none⟩) m m) (w.alloc (.cells us.toArray e)) := fun h2 => by
    have hus : us.length = m * (ty E.T e).sz := by
      have hl := okL_length hok
      have : us.toArray.size = (List.replicate m (ty E.T e).zero).flatten.toArray.size := fill_size hf
      simpa [hzl] using this
    have hps : (ps.map fun (q : Nat × Operand) => (q.1, a.eval q.2)).toList = ps.toList.map fun q => (q.1, a.eval q.2) := by simp
    have hmade : (if m * (ty E.T e).sz = 0 then (#[] : Array Value) else z.cells) = (if m * (ty E.T e).sz = 0 then (#[] : Array Value) else (ty E.T e).zero.toArray) := by rw [← hzc]
    have hrun : (Instr.buildSlice t m (ps.map fun (q : Nat × Operand) => (q.1, a.eval q.2))).run P w = .ok (.slice (some ⟨w.heap.size, 0, none⟩) m m) (w.alloc (.cells us.toArray e)) := by
      have hlim : ¬ (2 ^ 24 < m * i.size) := by rw [hisz]; omega
      by_cases hz0 : m * i.size = 0
      · have hm0 : m = 0 := by
          rcases Nat.mul_eq_zero.1 hz0 with h | h
          · exact h
          · omega
        subst hm0
        simp only [List.replicate_zero, List.flatten_nil] at hf
        have hr0 : Array.range 0 = #[] := rfl
        simp only [Instr.buildSlice, Sem.run_bind, run_underlying ht, Result.andThen_ok, sizeOf, typeInfo, run_program, hi, Sem.run_pure, Nat.zero_mul]
        rw [if_neg (by omega)]
        simp only [Sem.run_bind, Result.andThen_ok, Sem.run_pure, if_true, hisz, Nat.zero_mul, hr0, Array.map_empty]
        rw [hps, hf]
        simp [newRow]
      · have hm := made_flat (ty E.T e).zero (by omega) m
        rw [hzl] at hm
        have hf2 := hf
        rw [← hm] at hf2
        have hz' : z.cells = (ty E.T e).zero.toArray := by rw [← hzc]
        have hz0' : ¬ m * (ty E.T e).sz = 0 := by rw [← hisz]; exact hz0
        simp only [Instr.buildSlice, Sem.run_bind, run_underlying ht, Result.andThen_ok, sizeOf, typeInfo, run_program, hi, Sem.run_pure]
        rw [if_neg (by omega)]
        simp only [Sem.run_bind, hz0', if_false, zeroValue, typeInfo, run_program, Result.andThen_ok, hi, Sem.run_pure, hz, hisz, hz']
        rw [hps, hf2]
        simp [newRow]
    exact hrun
  split at hK
  rotate_left
  · split at hK
    rotate_left
    · exact hK.elim
    rename_i hcs h2
    have h2 := Nat.le_of_ble_eq_true h2
    obtain ⟨k0, k1, k2, h⟩ := newK_ok hK
    refine wpIn_value (nd_of hop (by simp)) (run_exec (by simp only [execOp, hop]) (hrun0 h2)) ?_
    have hm := hc.m.row (t := e) k2 hok hcs
    obtain ⟨fr', hK', hc'⟩ := (hc.new k0 k1 k2 hm).put (v := .slice (some ⟨w.heap.size, 0, none⟩) m m) h (by simp [okv, updS_same])
    exact ⟨_, q, fr', _, nk, hc', hK'⟩
  rename_i xs hxs
  have := toVL_ok l hxs hok
  subst this
  split at hK
  rotate_left
  · exact hK.elim
  rename_i h1 h2
  have h2 := Nat.le_of_ble_eq_true h2
  have hrun := hrun0 h2
  have hus : us.length = m * (ty E.T e).sz := by
    have hl := okL_length hok
    have : us.toArray.size = (List.replicate m (ty E.T e).zero).flatten.toArray.size := fill_size hf
    simpa [hzl] using this
  exact arr_new (cur := us.toArray) (cap := m) hc (nd_of hop (by simp)) rfl (run_exec (by simp only [execOp, hop]) hrun) hsz hus (Nat.le_refl _) (by
    have := Nat.le_mul_of_pos_right m hsz
    have e : maxLen = 9223372036854775807 := by decide
    omega) (by simpa using hus) (by rw [← hus]; simp) (oneVL_ok h1) hK
end Go.Eng
