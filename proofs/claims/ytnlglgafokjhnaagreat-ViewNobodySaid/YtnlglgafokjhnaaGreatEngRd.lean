/-
  Texts that the law leans on. Nothing here is trusted.
-/
import Derived.Test.YtnlglgafokjhnaaGreatEngRc
import Derived.Test.YtnlglgafokjhnaaGreatEngLb
set_option linter.unusedVariables false
set_option linter.unusedSimpArgs false
namespace Go.Eng.R
open Go Go.Eng Go.RowKit
variable {P : Program} {w : World} {E : Env}
theorem law (hE : EnvOk P E) (d : Nat) {f : Nat} {args : List SV} {vs : List Value} (hvs : okL S0 args vs) (h : R.vcN E d [] f args 0 (phOf w) [] (fun r _ _ _ => Yes r)) :
    Calls P f vs.toArray w fun e w' => e = .returned (.bool true) ∧ Below w.heap.size w w' := Eng.law hE d hvs (vcN_eq ▸ h)
def resMG (s : CS) (i : s.ι) (r : SV) (nk : Nat) (q : PH) (L : LL) : Prop :=
  match r with
  | .tup cs => frzF s.fzr q (R.argF cs 0) L fun q fr L => R.nilF s.rn s.keys nk fr L fun _ fr L => ∃ g, Ob (s.okG i g) ∧ Ob (Eng.RdsOk q (s.rdsG i g)) ∧
    (match s.resG i g with
    | .tup ts => (match Nat.beq ts.length cs.length with
      | true => R.mFr s.keys (R.argF ts 0) fr [] fun as => R.mLL s.keys (s.LG i g) L as fun _ => True
      | false => False)
    | _ => False)
  | r => frzF s.fzr q [(0, r)] L fun q fr L => R.nilF s.rn s.keys nk fr L fun _ fr L => ∃ g, Ob (s.okG i g) ∧ Ob (Eng.RdsOk q (s.rdsG i g)) ∧ R.mFr s.keys [(0, s.resG i g)] fr [] fun as => R.mLL s.keys (s.LG i g) L as fun _ => True
theorem resMG_eq : @R.resMG = @Eng.resMG := by
  unfold R.resMG Eng.resMG
  rw [nilF_eq, argF_eq, mFr_eq, mLL_eq]
  rfl
theorem cspecG {s : CS} {fn : Func} (hP : P.funcs[s.f]? = some fn) (hname : (fn.name == "runtime.NumGoroutine") = false) (hb : fn.body.isSome = true) (hgr : s.gr = true) (hw : ∀ i, wAll (s.args i) = true)
    (h : ∀ i, s.ok i → ∀ q, Eng.RdsOk q (s.rds i) → ∀ args, caArgs q (s.args i) args → ∃ E d, EnvOk P E ∧
      R.vcN E d [] s.f args s.keys q (s.L i) (fun r nk q L' => R.resMG s i r nk q L')) : CSOk P s := by
  rw [vcN_eq, resMG_eq] at h
  exact Eng.cspecG hP hname hb hgr hw h
theorem loop_fam {ρ σ : Type} {step : σ → Option (St1 σ ρ)} {s : σ} {Φ : ρ → Prop} (H : Gives (loopO step s) Φ) (keep : List Nat) (nils : List (Nat × Nat × Nat × Nat)) (fr : Nat → σ → Fr) (L : Nat → σ → LL) (keys : Nat) {n0 nk : Nat} {q : PH} {fr0 : Fr} {L0 : LL} {body : Nat → PH → Fr → LL → Ke → Prop} {K : Ke}
    (h : ∀ n, IG step Φ n s → R.loopK { ι := Nat × σ, keep := keep, nils := nils, fr := fun b i => fr b i.2, L := fun b i => L b i.2, keys := keys, ok := fun i => IG step Φ i.1 i.2, μ := fun i => i.1 } n0 nk q fr0 L0 body K) : ∃ I : Inv, R.loopK I n0 nk q fr0 L0 body K := by
  obtain ⟨n, hn⟩ := loop_st H
  exact ⟨_, h n hn⟩
theorem cut_fam {α β : Type} {A : (β → Option α) → Option α} {k : β → Option α} {Φ : α → Prop} (H : Gives (jn A k) Φ) (base : Nat) (keep : List Nat) (nils : List (Nat × Nat × Nat × Nat)) (fr : β → Fr) (L : β → LL) (rest : LL) (keys : Nat) {n0 : Nat} {q : PH} {fr0 : Fr} {va : Ke → Prop} {vb : Nat → PH → Fr → LL → Prop} {K : Ke}
    (h : Gives (A k) Φ → R.cutK { ι := β, base := base, keep := keep, nils := nils, fr := fr, L := L, rest := rest, keys := keys, ok := fun _ j => Gives (k j) Φ } n0 q fr0 va vb K) : ∃ I : Cut, R.cutK I n0 q fr0 va vb K := ⟨_, h H⟩
theorem cut_famXG {α β γ : Type} {A : (β → Option α) → Option α} {k : β → Option α} {Φ : α → Prop} (H : Gives (jn A k) Φ) (base : Nat) (keep : List Nat) (nils : List (Nat × Nat × Nat × Nat)) (frz : List (Nat × Nat)) (fr : β → γ → Fr) (L : β → γ → LL) (rest : LL) (keys : Nat) (rdx : PH → β → γ → Prop) {n0 : Nat} {q : PH} {fr0 : Fr} {va : Ke → Prop} {vb : Nat → PH → Fr → LL → Prop} {K : Ke}
    (h : Gives (A k) Φ → R.cutK { ι := β × γ, base := base, keep := keep, nils := nils, gr := true, frz := frz, fr := fun j => fr j.1 j.2, L := fun j => L j.1 j.2, rest := rest, keys := keys, ok := fun q j => Gives (k j.1) Φ ∧ rdx q j.1 j.2 } n0 q fr0 va vb K) : ∃ I : Cut, R.cutK I n0 q fr0 va vb K := ⟨_, h H⟩
theorem loop_famXG {ρ σ γ : Type} {step : σ → Option (St1 σ ρ)} {s : σ} {Φ : ρ → Prop} (H : Gives (loopO step s) Φ) (keep : List Nat) (nils : List (Nat × Nat × Nat × Nat)) (frz : List (Nat × Nat)) (fr : Nat → σ → γ → Fr) (L : Nat → σ → γ → LL) (keys : Nat) (rdx : PH → σ → γ → Prop) {n0 nk : Nat} {q : PH} {fr0 : Fr} {L0 : LL} {body : Nat → PH → Fr → LL → Ke → Prop} {K : Ke}
    (h : ∀ n, IG step Φ n s → R.loopK { ι := Nat × σ × γ, keep := keep, nils := nils, fr := fun b i => fr b i.2.1 i.2.2, L := fun b i => L b i.2.1 i.2.2, keys := keys, gr := true, frz := frz, ok := fun i => IG step Φ i.1 i.2.1, μ := fun i => i.1, rd := fun q i => rdx q i.2.1 i.2.2 } n0 nk q fr0 L0 body K) : ∃ I : Inv, R.loopK I n0 nk q fr0 L0 body K := by
  obtain ⟨n, hn⟩ := loop_st H
  exact ⟨_, h n hn⟩
end Go.Eng.R
