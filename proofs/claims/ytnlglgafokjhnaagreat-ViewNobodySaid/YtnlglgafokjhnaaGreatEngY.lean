/-
  Texts that the law leans on. Nothing here is trusted.
-/
import Derived.Test.YtnlglgafokjhnaaGreatEngX
import Derived.Test.YtnlglgafokjhnaaGreatEngK
set_option linter.unusedVariables false
set_option linter.unusedSimpArgs false
namespace Go.Eng
open Go Go.RowKit
variable {P : Program} {w : World} {E : Env}
def phOf (w : World) : PH := fun b o => w.cell? ⟨b, o, none⟩
theorem phOf_on (w : World) : PH.on (phOf w) w := fun _ _ _ h => h
theorem Mem.start (w : World) (S : Pl) : Mem (.all w) (phOf w) S [] w := ⟨fun _ _ h => (by cases h), fun _ _ _ _ h => (by cases h), fun _ _ h => (by cases h), fun _ _ h => (by cases h), phOf_on w, Bel.refl (.all w), fun _ _ _ hv _ => hv⟩
theorem reads_of {A : Option Addr} {xs : List Value} (h : ∀ j v, xs[j]? = some v → ∃ a, A = some a ∧ a.spot = none ∧ w.cell? ⟨a.block, a.off + j, none⟩ = some v) : Reads (phOf w) A xs := by
  intro j hj
  obtain ⟨a, rfl, hs, hc⟩ := h j xs[j] (by simp [hj])
  obtain ⟨b, o, s⟩ := a
  cases hs
  simp only [rd, phOf]
  rw [hc]
  simp [hj]
structure EnvOk (P : Program) (E : Env) : Prop where
  mix : P.follows .mixedOrders = true
  T : TabOk P E.T
  Γ : SpecsOk P E.Γ
  Δ : CSsOk P E.Δ
  FT : FTOk P E.FT
theorem top (hE : EnvOk P E) (d : Nat) {f : Nat} {args : List SV} {vs : List Value} {K : SV → Prop} (hvs : okL S0 args vs)
    (h : vcN E d [] f args 0 (phOf w) [] (fun r _ _ _ => K r)) : Calls P f vs.toArray w fun e w' => (∃ v r S, e = .returned v ∧ okv S r v ∧ K r) ∧ Below w.heap.size w w' := by
  have := vcN_ok hE.mix hE.T ⟨hE.Γ, hE.Δ⟩ hE.FT d (.all w) [] f args 0 (phOf w) [] _ vs w S0 none 0 h (fun k hd hk => by simp [yGet] at hk) hvs (Mem.start w S0)
  have h2 := this.2
  have h3 : CallsIn Fence.wide 0 P f vs.toArray w _ := h2
  refine (callsIn_wide.1 h3).mono ?_
  rintro e w' ⟨v, x, S', q', L', nk', rfl, hx, _, hm, _, hK⟩
  exact ⟨⟨v, x, S', rfl, hx, hK⟩, hm.be.below⟩
def Yes : SV → Prop
  | .bb b => Ob (b = true)
  | .b p _ => Ob p
  | .v (.bool b) => Ob (b = true)
  | _ => False
theorem Yes.ok {S : Pl} {x : SV} {v : Value} (h : Yes x) (hx : okv S x v) : v = .bool true := by
  unfold Yes at h
  split at h
  · obtain ⟨rfl⟩ := h; exact hx
  · obtain ⟨h⟩ := h
    have hx : v = .bool (@decide _ _) := hx
    rw [hx]; simp [h]
  · obtain ⟨rfl⟩ := h; exact hx
  · exact h.elim
theorem law (hE : EnvOk P E) (d : Nat) {f : Nat} {args : List SV} {vs : List Value} (hvs : okL S0 args vs) (h : vcN E d [] f args 0 (phOf w) [] (fun r _ _ _ => Yes r)) :
    Calls P f vs.toArray w fun e w' => e = .returned (.bool true) ∧ Below w.heap.size w w' := by
  refine (top hE d hvs h).mono ?_
  rintro e w' ⟨⟨v, r, S, rfl, hx, hK⟩, hb⟩
  exact ⟨by rw [hK.ok hx], hb⟩
where
  okv_one : ∀ (x : SV) {S : Pl} {v : Value}, closed x = true → okv S x v → v = den S0 x
    | .v _, _, _, _, h => h
    | .bb _, _, _, _, h => h
    | .b _ _, _, _, _, h => h
    | .agg cs, _, _, hc, h => by
      obtain ⟨vs, rfl, h⟩ := h
      rw [okl_one cs (by simpa [closed] using hc) h]
      simp [den]
    | .tup cs, _, _, hc, h => by
      obtain ⟨vs, rfl, h⟩ := h
      rw [okl_one cs (by simpa [closed] using hc) h]
      simp [den]
    | .fn f cs, _, _, hc, h => by
      obtain ⟨vs, rfl, h⟩ := h
      rw [okl_one cs (by simpa [closed] using hc) h]
      simp [den]
    | .lp _ _, _, _, hc, _ => by simp [closed] at hc
    | .own _, _, _, hc, _ => by simp [closed] at hc
    | .el _ _, _, _, hc, _ => by simp [closed] at hc
    | .yl _, _, _, hc, _ => by simp [closed] at hc
    | .vw _ _ _ _ _, _, _, hc, _ => by simp [closed] at hc
    | .lq _, _, _, hc, _ => by simp [closed] at hc
    | .ls _ _, _, _, hc, _ => by simp [closed] at hc
    | .mr _, _, _, hc, _ => by simp [closed] at hc
    | .bad, _, _, hc, _ => by simp [closed] at hc
  okl_one : ∀ (l : List SV) {S : Pl} {vs : List Value}, closedL l = true → okL S l vs → vs = denL S0 l
    | [], _, [], _, _ => rfl
    | x :: r, _, v :: vs, hc, h => by
      unfold closedL at hc
      split at hc
      · rename_i hx
        rw [okv_one x hx h.1, okl_one r hc h.2]
        rfl
      · cases hc
    | [], _, _ :: _, _, h => by cases h
    | _ :: _, _, [], _, h => by cases h
theorem appL_nil : ∀ (l : LL), appL l [] = l
  | [] => rfl
  | x :: r => by simp only [appL_c, appL_nil r]
theorem rd_mono {q q' : PH} (h : q.le q') {A : Option Addr} {j : Nat} {v : Value} (hr : rd q A j = some v) : rd q' A j = some v := by
  unfold rd at *
  split at hr
  · exact h _ _ _ hr
  · cases hr
theorem Reads.mono {q q' : PH} (h : q.le q') {A : Option Addr} {xs : List Value} (hr : Reads q A xs) : Reads q' A xs := fun j hj => by
  have h1 := hr j hj
  rw [List.getElem?_eq_getElem hj] at h1 ⊢
  exact rd_mono h h1
theorem RdsOk.mono {q q' : PH} (h : q.le q') : ∀ {l : List (Option Addr × List Value)}, RdsOk q l → RdsOk q' l
  | [], _ => trivial
  | (_, _) :: _, hr => ⟨Reads.mono h hr.1, RdsOk.mono h hr.2⟩
def caArgs (q : PH) : List CA → List SV → Prop
  | [], [] => True
  | .w x :: r, y :: s => y = x ∧ caArgs q r s
  | .sl sz n xs :: r, y :: s => (∃ A c, y = .v (.slice A n c) ∧ n ≤ c ∧ xs.length = n * sz ∧ Reads q A xs) ∧ caArgs q r s
  | .pt cs :: r, y :: s => (∃ a us, y = .v (.pointer (some a)) ∧ a.spot = none ∧ us.length = cs.length ∧ Reads q (some a) us ∧ pcArgs q cs us) ∧ caArgs q r s
  | _, _ => False
def wAll : List CA → Bool
  | [] => true
  | .w _ :: r => wAll r
  | _ :: _ => false
theorem caArgs_w {F : Nat → Prop} {S : Pl} {q : PH} : ∀ {tm : List CA} {vs : List Value}, wAll tm = true → caOk w F S tm vs → ∃ args, caArgs q tm args ∧ okL S args vs
  | [], [], _, _ => ⟨[], trivial, trivial⟩
  | [], _ :: _, _, h => by cases h
  | .w _ :: _, [], _, h => by cases h
  | .w x :: r, v :: vs, hw, h => by
    obtain ⟨args, h1, h2⟩ := caArgs_w (q := q) (by simpa [wAll] using hw) h.2
    exact ⟨x :: args, ⟨rfl, h1⟩, h.1, h2⟩
  | .sl _ _ _ :: _, _, hw, _ => by simp [wAll] at hw
  | .pt _ :: _, _, hw, _ => by simp [wAll] at hw
theorem okL_of_argF {S : Pl} : ∀ {ts : List SV} {vs : List Value} {i : Nat}, ts.length = vs.length → (∀ t, i ≤ t → okv S (get (argF ts i) t) (vs.getD (t - i) undef)) → okL S ts vs
  | [], [], _, _, _ => trivial
  | [], _ :: _, _, h, _ => by simp at h
  | _ :: _, [], _, h, _ => by simp at h
  | x :: r, v :: vs, i, hl, h => by
    refine ⟨?_, okL_of_argF (i := i + 1) (by simpa using hl) fun t ht => ?_⟩
    · have := h i (Nat.le_refl _)
      simpa [argF, get_cons] using this
    · have := h t (by omega)
      rw [show t - i = (t - (i + 1)) + 1 from by omega] at this
      simp only [argF, get_cons] at this
      rw [if_neg (by omega)] at this
      simpa using this
def resMG (s : CS) (i : s.ι) (r : SV) (nk : Nat) (q : PH) (L : LL) : Prop :=
  match r with
  | .tup cs => frzF s.fzr q (argF cs 0) L fun q fr L => nilF s.rn s.keys nk fr L fun _ fr L => ∃ g, Ob (s.okG i g) ∧ Ob (RdsOk q (s.rdsG i g)) ∧
    (match s.resG i g with
    | .tup ts => (match Nat.beq ts.length cs.length with
      | true => mFr s.keys (argF ts 0) fr [] fun as => mLL s.keys (s.LG i g) L as fun _ => True
      | false => False)
    | _ => False)
  | r => frzF s.fzr q [(0, r)] L fun q fr L => nilF s.rn s.keys nk fr L fun _ fr L => ∃ g, Ob (s.okG i g) ∧ Ob (RdsOk q (s.rdsG i g)) ∧ mFr s.keys [(0, s.resG i g)] fr [] fun as => mLL s.keys (s.LG i g) L as fun _ => True
theorem resMG_fin {s : CS} {S : Pl} {q : PH} {w0 : W0} {w : World} {fr : Fr} {L : LL} {vs : List Value} {nk : Nat} {T : Fr → LL → PH → Prop} (hm : Mem w0 q S L w) (hf : okF S fr vs.toArray)
    (h : frzF s.fzr q fr L fun q fr L => nilF s.rn s.keys nk fr L fun _ fr L => T fr L q) :
    ∃ S1 q1 fr1 L1, (∀ k, k < s.keys → S1 k = S k) ∧ q.le q1 ∧ Mem w0 q1 S1 L1 w ∧ okF S1 fr1 vs.toArray ∧ T fr1 L1 q1 := by
  have hc : Cfg w0 S (fun _ => False) s.keys vs.length S q fr L { tmps := vs.toArray, defers := [] } w := ⟨fun _ _ => rfl, fun _ _ h => h.elim, hm, hf, by simp, .nil _⟩
  obtain ⟨q1, fr0, L0, hq, hc0, h⟩ := frzF_ok hc h
  obtain ⟨S1, fr1, L1, nk1, hc1, h⟩ := nilF_ok hc0 h
  exact ⟨S1, q1, fr1, L1, hc1.ag, hq, hc1.m, hc1.f, h⟩
theorem tell_fin {S : Pl} {q : PH} {w0 : W0} {w : World} {fr tf : Fr} {tl L : LL} {vs : List Value} {nk : Nat} (hm : Mem w0 q S L w) (hf : okF S fr vs.toArray)
    (h : mFr nk tf fr [] fun as => mLL nk tl L as fun _ => True) : ∃ S', okF S' tf vs.toArray ∧ (∀ k, k < nk → S' k = S k) ∧ Mem w0 q S' tl w := by
  obtain ⟨as1, e1, o1, h, r1⟩ := mFr_ok (AsOk.nil nk) h
  obtain ⟨as2, e2, o2, _, r2⟩ := mLL_ok (N0 := 0) o1 h
  have hm2 := hm.tell (rest := []) o2 (fun k x hk => by
    obtain ⟨j, y, g1, g2, g3⟩ := r2 as2 (.refl _) o2 k x hk
    exact ⟨j, y, g1, g2, g3 S⟩) (fun k x hk => by cases hk)
  rw [appL_nil] at hm2
  exact ⟨sub as2 S, r1 as2 e2 o2 S _ hf, fun k hk => sub_abs o2 hk, hm2⟩
theorem resMG_ok {s : CS} {i : s.ι} {S : Pl} {q : PH} {w0 : W0} {w : World} {r : SV} {v : Value} {L : LL} {nk : Nat} (hm : Mem w0 q S L w) (hr : okv S r v) (h : resMG s i r nk q L) :
    ∃ S' q' g, okv S' (s.resG i g) v ∧ (∀ k, k < s.keys → S' k = S k) ∧ Mem w0 q' S' (s.LG i g) w ∧ q.le q' ∧ s.okG i g ∧ RdsOk q' (s.rdsG i g) := by
  unfold resMG at h
  split at h
  · rename_i cs
    obtain ⟨vs, rfl, hvs⟩ := hr
    have hf : okF S (argF cs 0) vs.toArray := by have := okF_args hvs 0; simpa using this
    obtain ⟨S1, q1, fr1, L1, hS1, hq, hm1, hf1, g, ⟨h1⟩, ⟨h2⟩, h⟩ := resMG_fin hm hf h
    split at h
    rotate_left
    · exact h.elim
    rename_i ts e
    split at h
    rotate_left
    · exact h.elim
    rename_i hl
    have hl := Nat.eq_of_beq_eq_true hl
    obtain ⟨S', k1, k2, k3⟩ := tell_fin hm1 hf1 h
    refine ⟨S', q1, g, ?_, fun k hk => (k2 k hk).trans (hS1 k hk), k3, hq, h1, h2⟩
    rw [e]
    refine ⟨vs, rfl, okL_of_argF (i := 0) (hl.trans (okL_length hvs)) fun t _ => ?_⟩
    have := k1 t
    simpa using this
  · have hf : okF S [(0, r)] #[v] := fun t => by
      rw [get_cons]
      split
      · rename_i e; subst e; simpa using hr
      · trivial
    obtain ⟨S1, q1, fr1, L1, hS1, hq, hm1, hf1, g, ⟨h1⟩, ⟨h2⟩, h⟩ := resMG_fin (vs := [v]) hm hf h
    obtain ⟨S', k1, k2, k3⟩ := tell_fin hm1 hf1 h
    refine ⟨S', q1, g, ?_, fun k hk => (k2 k hk).trans (hS1 k hk), k3, hq, h1, h2⟩
    have := k1 0
    simpa [get_cons] using this
theorem cspecG {s : CS} {fn : Func} (hP : P.funcs[s.f]? = some fn) (hname : (fn.name == "runtime.NumGoroutine") = false) (hb : fn.body.isSome = true) (hgr : s.gr = true) (hw : ∀ i, wAll (s.args i) = true)
    (h : ∀ i, s.ok i → ∀ q, RdsOk q (s.rds i) → ∀ args, caArgs q (s.args i) args → ∃ E d, EnvOk P E ∧
      vcN E d [] s.f args s.keys q (s.L i) (fun r nk q L' => resMG s i r nk q L')) : CSOk P s := by
  refine ⟨fun args w => ?_, fun w q S i vs hok hrd hm hca => ?_⟩
  · have hname' : ¬ fn.name = "runtime.NumGoroutine" := by simpa using hname
    obtain ⟨c, hc⟩ := Option.isSome_iff_exists.1 hb
    simp [callFunc, hP, hname', hc]
  obtain ⟨args, hargs, hvs⟩ := caArgs_w (q := q) (hw i) hca
  obtain ⟨E, d, hE, hvc⟩ := h i hok q hrd args hargs
  have := vcN_ok hE.mix hE.T ⟨hE.Γ, hE.Δ⟩ hE.FT d (frameW q w S (s.L i)) [] s.f args s.keys q (s.L i) _ vs w S none 0 hvc (fun k hd hk => by simp [yGet] at hk) hvs hm
  have h2 := this.2
  have h3 : CallsIn Fence.wide 0 P s.f vs.toArray w _ := h2
  refine (callsIn_wide.1 h3).mono ?_
  rintro e w' ⟨v, x, S', q', L', nk', rfl, hx, hS, hm', _, hK⟩
  obtain ⟨S2, q2, g, hx2, hS2, hm2, hq2, g1, g2⟩ := resMG_ok hm' hx hK
  have hqF : ∀ b o v, q b o = some v → (frameW q w S (s.L i)).F b := fun b o v hv =>
    ⟨on_lt hm.on hv, fun k x hk e => by rw [hm.po k x hk b e o] at hv; cases hv⟩
  have hqon : PH.on q w' := fun b o v hv => by
    have := hm2.be.block b (hqF b o v hv)
    exact (World.cell?_of_block (w := w) this).trans (hm.on b o v hv)
  let qu : PH := fun b o => match q2 b o with | some v => some v | none => q b o
  have hq2u : q2.le qu := fun b o v hv => by simp only [qu]; rw [hv]
  have hqu : q.le qu := fun b o v hv => by
    simp only [qu]
    cases h2 : q2 b o with
    | none => exact hv
    | some v2 => rw [← (hm2.on b o v2 h2), hqon b o v hv]
  have huni : ∀ b o v, qu b o = some v → q2 b o = some v ∨ q b o = some v := fun b o v hv => by
    simp only [qu] at hv
    cases h2 : q2 b o with
    | none => rw [h2] at hv; exact .inr hv
    | some v2 => rw [h2] at hv; exact .inl hv
  refine ⟨v, S2, qu, g, rfl, hx2, fun k hk => (hS2 k hk).trans (hS k hk), ⟨hm2.ch, hm2.ap, fun k x hk b hb o => ?_, hm2.fz, fun b o v hv => ?_, hm2.be, fun b o v hv hF => ?_⟩, hqu, g1, g2.mono hq2u, fun h0 => by rw [hgr] at h0; cases h0⟩
  · cases hv : qu b o with
    | none => rfl
    | some v =>
      rcases huni b o v hv with h | h
      · rw [hm2.po k x hk b hb o] at h; cases h
      · exact (hm2.fz k x hk b hb (hqF b o v h)).elim
  · rcases huni b o v hv with h | h
    · exact hm2.on b o v h
    · exact hqon b o v h
  · rcases huni b o v hv with h | h
    · exact hm2.gw b o v h hF
    · exact h
theorem css_nil : CSsOk P [] := fun _ _ h => by simp [findC] at h
theorem css_cons {s : CS} {Δ : List CS} (h : (s.calm = true → CalmOk P s) ∧ (s.calm = false → CSOk P s)) (hΔ : CSsOk P Δ) : CSsOk P (s :: Δ) := fun f t ht => by
  unfold findC at ht
  split at ht
  · rename_i e
    cases ht
    exact ⟨Nat.eq_of_beq_eq_true e, h⟩
  · exact hΔ f t ht
theorem ft_nil : FTOk P .nil := fun _ _ h => by simp [Tr.get_n] at h
theorem ft_node {l r : Tr Func} {k : Nat} {v : Func} (hl : FTOk P l) (hr : FTOk P r) (h : P.funcs[k]? = some v) (hn : (v.name == "runtime.NumGoroutine") = false) : FTOk P (.node l k v r) := fun f fn hf => by
  rw [Tr.get_c] at hf
  split at hf
  · rename_i e
    have e := Nat.eq_of_beq_eq_true e
    subst e
    cases hf
    exact ⟨h, hn⟩
  · split at hf
    · exact hl f fn hf
    · exact hr f fn hf
theorem specs_nil : SpecsOk P [] := fun _ _ h => by simp [findS] at h
theorem Reads.drop {q : PH} {A : Option Addr} {xs : List Value} {l : Nat} (h : Reads q A xs) : Reads q (A.map (·.add l)) (xs.drop l) := by
  intro j hj
  rw [List.length_drop] at hj
  have := h (l + j) (by omega)
  rw [List.getElem?_drop, ← this]
  rcases A with _ | ⟨b, o, s⟩
  · rfl
  · have hx : ∃ v, rd q (some ⟨b, o, s⟩) (l + j) = some v := ⟨xs[l + j]'(by omega), by rw [this]; simp⟩
    cases s with
    | none =>
      simp only [Option.map_some, Addr.add_lit, rd]
      congr 1
      omega
    | some s => obtain ⟨v, hv⟩ := hx; simp [rd] at hv
theorem Reads.take {q : PH} {A : Option Addr} {xs : List Value} (h : Reads q A xs) (n : Nat) : Reads q A (xs.take n) := by
  intro j hj
  rw [List.length_take] at hj
  rw [h j (by omega), List.getElem?_take_of_lt (by omega)]
theorem Reads.nil {q : PH} {A : Option Addr} : Reads q A [] := fun _ h => by simp at h
theorem Reads.cut {q : PH} {A : Option Addr} {xs : List Value} {c l n : Nat} (h : Reads q A xs) (hn : n ≤ c - l) : Reads q (if c = l then A else A.map (·.add l)) ((xs.drop l).take n) := by
  split
  · have : n = 0 := by omega
    subst this
    rw [List.take_zero]
    exact .nil
  · exact h.drop.take n
theorem Reads.uniq {q : PH} {A : Option Addr} {xs ys : List Value} (h : Reads q A xs) (h' : Reads q A ys) (hl : xs.length = ys.length) : xs = ys := by
  apply List.ext_getElem?
  intro j
  by_cases hj : j < xs.length
  · rw [← h j hj, ← h' j (by omega)]
  · rw [List.getElem?_eq_none (by omega), List.getElem?_eq_none (by omega)]
theorem rd_nn {q : PH} {A : Option Addr} {xs : List Value} (hR : Reads q A xs) (h : 0 < xs.length) : A ≠ none := by
  intro e
  subst e
  have := hR 0 h
  rw [List.getElem?_eq_getElem h] at this
  cases this
end Go.Eng
