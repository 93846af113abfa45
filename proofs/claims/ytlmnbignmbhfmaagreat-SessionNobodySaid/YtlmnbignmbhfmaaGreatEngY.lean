/-
  Texts that the law leans on. Nothing here is trusted.
-/
import Derived.Test.YtlmnbignmbhfmaaGreatEngX
import Derived.Test.YtlmnbignmbhfmaaGreatEngK
set_option linter.unusedVariables false
set_option linter.unusedSimpArgs false
namespace Go.Eng
open Go Go.RowKit
variable {P : Program} {w : World} {E : Env}
def phOf (w : World) : PH := fun b o => w.cell? ⟨b, o, none⟩
theorem phOf_on (w : World) : PH.on (phOf w) w := fun _ _ _ h => h
theorem Mem.start (w : World) (S : Pl) : Mem (.all w) (phOf w) S [] w := ⟨fun _ _ h => (by cases h), fun _ _ _ _ h => (by cases h), fun _ _ h => (by cases h), fun _ _ h => (by cases h), phOf_on w, Bel.refl (.all w), fun _ _ _ hv _ => hv⟩
structure EnvOk (P : Program) (E : Env) : Prop where
  mix : P.follows .mixedOrders = true
  T : TabOk P E.T
  Γ : SpecsOk P E.Γ
  Δ : CSsOk P E.Δ
  FT : FTOk P E.FT
theorem top (hE : EnvOk P E) (d : Nat) {f : Nat} {args : List SV} {vs : List Value} {K : SV → Prop} (hvs : okL S0 args vs)
    (h : vcN E d [] f args 0 (phOf w) [] (fun r _ _ _ => K r)) : Calls P f vs.toArray w fun e w' => (∃ v r S, e = .returned v ∧ okv S r v ∧ K r) ∧ Below w.heap.size w w' := by
  have := vcN_ok hE.mix hE.T ⟨hE.Γ, hE.Δ⟩ hE.FT d (.all w) [] f args 0 (phOf w) [] _ vs w S0 none 0 h (fun k hd hk => by simp [yGet] at hk) hvs (Mem.start w S0)
  have h2 := this.2
  have h3 : CallsIn Fence.wide 0 P f vs.toArray w _ := h2
  refine (callsIn_wide.1 h3).mono ?_
  rintro e w' ⟨v, x, S', q', L', nk', rfl, hx, _, hm, _, hK⟩
  exact ⟨⟨v, x, S', rfl, hx, hK⟩, hm.be.below⟩
def Yes : SV → Prop
  | .bb b => Ob (b = true)
  | .b p _ => Ob p
  | .v (.bool b) => Ob (b = true)
  | _ => False
theorem Yes.ok {S : Pl} {x : SV} {v : Value} (h : Yes x) (hx : okv S x v) : v = .bool true := by
  unfold Yes at h
  split at h
  · obtain ⟨rfl⟩ := h; exact hx
  · obtain ⟨h⟩ := h
    have hx : v = .bool (@decide _ _) := hx
    rw [hx]; simp [h]
  · obtain ⟨rfl⟩ := h; exact hx
  · exact h.elim
theorem law (hE : EnvOk P E) (d : Nat) {f : Nat} {args : List SV} {vs : List Value} (hvs : okL S0 args vs) (h : vcN E d [] f args 0 (phOf w) [] (fun r _ _ _ => Yes r)) :
    Calls P f vs.toArray w fun e w' => e = .returned (.bool true) ∧ Below w.heap.size w w' := by
  refine (top hE d hvs h).mono ?_
  rintro e w' ⟨⟨v, r, S, rfl, hx, hK⟩, hb⟩
  exact ⟨by rw [hK.ok hx], hb⟩
where
  okv_one : ∀ (x : SV) {S : Pl} {v : Value}, closed x = true → okv S x v → v = den S0 x
    | .v _, _, _, _, h => h
    | .bb _, _, _, _, h => h
    | .b _ _, _, _, _, h => h
    | .agg cs, _, _, hc, h => by
      obtain ⟨vs, rfl, h⟩ := h
      rw [okl_one cs (by simpa [closed] using hc) h]
      simp [den]
    | .tup cs, _, _, hc, h => by
      obtain ⟨vs, rfl, h⟩ := h
      rw [okl_one cs (by simpa [closed] using hc) h]
      simp [den]
    | .fn f cs, _, _, hc, h => by
      obtain ⟨vs, rfl, h⟩ := h
      rw [okl_one cs (by simpa [closed] using hc) h]
      simp [den]
    | .lp _ _, _, _, hc, _ => by simp [closed] at hc
    | .own _, _, _, hc, _ => by simp [closed] at hc
    | .el _ _, _, _, hc, _ => by simp [closed] at hc
    | .yl _, _, _, hc, _ => by simp [closed] at hc
    | .vw _ _ _ _ _, _, _, hc, _ => by simp [closed] at hc
    | .lq _, _, _, hc, _ => by simp [closed] at hc
    | .ls _ _, _, _, hc, _ => by simp [closed] at hc
    | .mr _, _, _, hc, _ => by simp [closed] at hc
    | .bad, _, _, hc, _ => by simp [closed] at hc
  okl_one : ∀ (l : List SV) {S : Pl} {vs : List Value}, closedL l = true → okL S l vs → vs = denL S0 l
    | [], _, [], _, _ => rfl
    | x :: r, _, v :: vs, hc, h => by
      unfold closedL at hc
      split at hc
      · rename_i hx
        rw [okv_one x hx h.1, okl_one r hc h.2]
        rfl
      · cases hc
    | [], _, _ :: _, _, h => by cases h
    | _ :: _, _, [], _, h => by cases h
theorem rd_mono {q q' : PH} (h : q.le q') {A : Option Addr} {j : Nat} {v : Value} (hr : rd q A j = some v) : rd q' A j = some v := by
  unfold rd at *
  split at hr
  · exact h _ _ _ hr
  · cases hr
theorem Reads.mono {q q' : PH} (h : q.le q') {A : Option Addr} {xs : List Value} (hr : Reads q A xs) : Reads q' A xs := fun j hj => by
  have h1 := hr j hj
  rw [List.getElem?_eq_getElem hj] at h1 ⊢
  exact rd_mono h h1
theorem RdsOk.mono {q q' : PH} (h : q.le q') : ∀ {l : List (Option Addr × List Value)}, RdsOk q l → RdsOk q' l
  | [], _ => trivial
  | (_, _) :: _, hr => ⟨Reads.mono h hr.1, RdsOk.mono h hr.2⟩
theorem css_nil : CSsOk P [] := fun _ _ h => by simp [findC] at h
theorem ft_nil : FTOk P .nil := fun _ _ h => by simp [Tr.get_n] at h
theorem ft_node {l r : Tr Func} {k : Nat} {v : Func} (hl : FTOk P l) (hr : FTOk P r) (h : P.funcs[k]? = some v) (hn : (v.name == "runtime.NumGoroutine") = false) : FTOk P (.node l k v r) := fun f fn hf => by
  rw [Tr.get_c] at hf
  split at hf
  · rename_i e
    have e := Nat.eq_of_beq_eq_true e
    subst e
    cases hf
    exact ⟨h, hn⟩
  · split at hf
    · exact hl f fn hf
    · exact hr f fn hf
theorem specs_nil : SpecsOk P [] := fun _ _ h => by simp [findS] at h
theorem Reads.drop {q : PH} {A : Option Addr} {xs : List Value} {l : Nat} (h : Reads q A xs) : Reads q (A.map (·.add l)) (xs.drop l) := by
  intro j hj
  rw [List.length_drop] at hj
  have := h (l + j) (by omega)
  rw [List.getElem?_drop, ← this]
  rcases A with _ | ⟨b, o, s⟩
  · rfl
  · have hx : ∃ v, rd q (some ⟨b, o, s⟩) (l + j) = some v := ⟨xs[l + j]'(by omega), by rw [this]; simp⟩
    cases s with
    | none =>
      simp only [Option.map_some, Addr.add_lit, rd]
      congr 1
      omega
    | some s => obtain ⟨v, hv⟩ := hx; simp [rd] at hv
theorem Reads.take {q : PH} {A : Option Addr} {xs : List Value} (h : Reads q A xs) (n : Nat) : Reads q A (xs.take n) := by
  intro j hj
  rw [List.length_take] at hj
  rw [h j (by omega), List.getElem?_take_of_lt (by omega)]
theorem Reads.nil {q : PH} {A : Option Addr} : Reads q A [] := fun _ h => by simp at h
theorem Reads.cut {q : PH} {A : Option Addr} {xs : List Value} {c l n : Nat} (h : Reads q A xs) (hn : n ≤ c - l) : Reads q (if c = l then A else A.map (·.add l)) ((xs.drop l).take n) := by
  split
  · have : n = 0 := by omega
    subst this
    rw [List.take_zero]
    exact .nil
  · exact h.drop.take n
theorem Reads.uniq {q : PH} {A : Option Addr} {xs ys : List Value} (h : Reads q A xs) (h' : Reads q A ys) (hl : xs.length = ys.length) : xs = ys := by
  apply List.ext_getElem?
  intro j
  by_cases hj : j < xs.length
  · rw [← h j hj, ← h' j (by omega)]
  · rw [List.getElem?_eq_none (by omega), List.getElem?_eq_none (by omega)]
end Go.Eng
