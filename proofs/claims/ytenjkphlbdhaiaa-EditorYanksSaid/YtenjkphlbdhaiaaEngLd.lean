/-
  Texts that the law leans on. Nothing here is trusted.
-/
import Derived.Test.YtenjkphlbdhaiaaEngLc
import Derived.WalkKit
import Derived.ProofKit
import Derived.OpenShut
import Derived.ShutString
import Derived.ChangeOld
import Derived.Below
import Derived.Deep.Slices
import Derived.Deep.Fields
set_option linter.unusedVariables false
set_option linter.unusedSimpArgs false
namespace Go.Eng
open Go Go.RowKit
theorem wf_in {k : IntKind} {a : Int} (h : (Lit.int k a).wf = true) : inR k a := by
  simp only [Lit.wf, Bool.and_eq_true, decide_eq_true_eq] at h
  cases k <;> exact h
theorem rds_of {q : PH} : ∀ {l : List (Option Addr × List Value)}, (∀ x ∈ l, Reads q x.1 x.2) → RdsOk q l
  | [], _ => trivial
  | x :: r, h => ⟨h x (.head _), rds_of fun y hy => h y (.tail _ hy)⟩
theorem ec_vw {α : Type} {c : α → List Value} {sz : Nat} (hc : ∀ a, (c a).length = sz) {xs : List α} {lo m : Nat} : vwC (ec c xs) lo sz m = ec c ((xs.drop lo).take m) := by
  unfold vwC
  rw [ec_drop hc, ec_take hc]
theorem ec_set1 {α : Type} {c : α → List Value} (hc : ∀ a, (c a).length = 1) {v : α} {w : Value} (hw : c v = [w]) : ∀ {xs : List α} {i : Nat}, (ec c xs).set i w = ec c (xs.set i v)
  | [], i => by simp [ec]
  | x :: r, 0 => by
    obtain ⟨u, hu⟩ : ∃ u, c x = [u] := List.length_eq_one_iff.1 (hc x)
    show (c x ++ ec c r).set 0 w = c v ++ ec c r
    rw [hu, hw]
    rfl
  | x :: r, i + 1 => by
    obtain ⟨u, hu⟩ : ∃ u, c x = [u] := List.length_eq_one_iff.1 (hc x)
    show (c x ++ ec c r).set (i + 1) w = c x ++ ec c (r.set i v)
    rw [hu, ← ec_set1 hc hw]
    rfl
theorem rdsOk_app {q : PH} : ∀ {a b : List (Option Addr × List Value)}, RdsOk q (a ++ b) ↔ RdsOk q a ∧ RdsOk q b
  | [], b => by simp [RdsOk]
  | (A, xs) :: r, b => by
    show (Reads q A xs ∧ RdsOk q (r ++ b)) ↔ (Reads q A xs ∧ RdsOk q r) ∧ RdsOk q b
    rw [rdsOk_app, and_assoc]
theorem ck_go {α : Type} {p : Prop} {_ : Decidable p} {e : Option α} {Φ : α → Prop} (h : Gives (ck p e) Φ) : Gives e Φ := by
  obtain ⟨a, h1, h2⟩ := h
  unfold ck at h1
  split at h1
  · exact ⟨a, h1, h2⟩
  · cases h1
theorem reads_none {q : PH} {A : Option Addr} {xs : List Value} (hn : A = none) (h : Reads q A xs) : xs = [] := by
  subst hn
  cases xs with
  | nil => rfl
  | cons x r => have := h 0 (by simp); cases this
theorem nil_row {α : Type} {c : α → List Value} {q : PH} {A : Option Addr} {xs : List α} {sz : Nat} (hn : A = none) (h : Reads q A (ec c xs)) (hc : ∀ a, (c a).length = sz + 1) : xs = [] := by
  have := congrArg List.length (reads_none hn h)
  rw [ec_len hc] at this
  exact List.eq_nil_of_length_eq_zero (by
    cases hx : xs.length with
    | zero => rfl
    | succ n => rw [hx, List.length_nil] at this; exact absurd this (by rw [Nat.add_mul]; omega))
theorem nil_rowS {q : PH} {A : Option Addr} {xs : List ByteArray} (hn : A = none) (h : Reads q A (es xs)) : xs = [] := by
  have := congrArg List.length (reads_none hn h)
  rw [es_len] at this
  exact List.eq_nil_of_length_eq_zero this
theorem er_len {α β : Type} {f : α → β} {X : List α} {x : List β} (h : X.map f = x) : X.length = x.length := by rw [← h, List.length_map]
theorem er_get {α β : Type} [Inhabited α] [Inhabited β] {f : α → β} {X : List α} {x : List β} (h : X.map f = x) {i : Nat} (hi : i < x.length) : f (X.getD i default) = x.getD i default := by
  subst h
  have h2 : i < X.length := by simpa using hi
  simp [List.getD_eq_getElem?_getD, h2]
theorem er_app {α β : Type} {f : α → β} {X Y : List α} {x y : List β} (h : X.map f = x) (k : Y.map f = y) : (X ++ Y).map f = x ++ y := by rw [List.map_append, h, k]
theorem er_vw {α β : Type} {f : α → β} {X : List α} {x : List β} (h : X.map f = x) {a b : Nat} : ((X.drop a).take b).map f = (x.drop a).take b := by rw [List.map_take, List.map_drop, h]
theorem er_take {α β : Type} {f : α → β} {X : List α} {x : List β} (h : X.map f = x) {a : Nat} : (X.take a).map f = x.take a := by rw [List.map_take, h]
theorem er_set {α β : Type} {f : α → β} {X : List α} {x : List β} {i : Nat} {v : α} {u : β} (h : X.map f = x) (k : f v = u) : (X.set i v).map f = x.set i u := by rw [List.map_set, h, k]
theorem nx {α β : Type} {f : α → β} {C : α → List Value} {P : α → Prop} {X : List α} {x : List β} {zs : List Value} (h : X.map f = x) (hP : ∀ p ∈ X, P p) (hz : zs = ec C X) : ∃ X', X'.map f = x ∧ (∀ p ∈ X', P p) ∧ X'.length = x.length ∧ zs = ec C X' := ⟨X, h, hP, er_len h, hz⟩
theorem rd_eq {α : Type} {f : α → List Value} {q : PH} {A : Option Addr} {l l' : α} (h : l = l') (k : Reads q A (f l)) : Reads q A (f l') := h ▸ k
theorem pin_app {α : Type} {P : α → Prop} {X Y : List α} (h : ∀ p ∈ X, P p) (k : ∀ p ∈ Y, P p) : ∀ p ∈ X ++ Y, P p := fun p hp => (List.mem_append.1 hp).elim (h p) (k p)
theorem pin_one {α : Type} {P : α → Prop} {a : α} (h : P a) : ∀ p ∈ [a], P p := fun p hp => by rw [List.mem_singleton.1 hp]; exact h
theorem pin_nil {α : Type} {P : α → Prop} : ∀ p ∈ ([] : List α), P p := fun p hp => by cases hp
theorem pin_vw {α : Type} {P : α → Prop} {X : List α} {a b : Nat} (h : ∀ p ∈ X, P p) : ∀ p ∈ (X.drop a).take b, P p := fun p hp => h p (List.mem_of_mem_drop (List.mem_of_mem_take hp))
theorem pin_take {α : Type} {P : α → Prop} {X : List α} {a : Nat} (h : ∀ p ∈ X, P p) : ∀ p ∈ X.take a, P p := fun p hp => h p (List.mem_of_mem_take hp)
theorem pin_set {α : Type} {P : α → Prop} {X : List α} {i : Nat} {v : α} (h : ∀ p ∈ X, P p) (k : P v) : ∀ p ∈ X.set i v, P p := fun p hp => (List.mem_or_eq_of_mem_set hp).elim (h p) (fun e => by rw [e]; exact k)
def cl {α : Type} (b : Nat) (a : List α) : Option (List α) := ck (a.length * b ≤ 140737488355328) <| some a
end Go.Eng
