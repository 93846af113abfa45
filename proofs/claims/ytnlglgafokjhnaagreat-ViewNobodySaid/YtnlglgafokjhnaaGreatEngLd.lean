/-
  Texts that the law leans on. Nothing here is trusted.
-/
import Derived.Test.YtnlglgafokjhnaaGreatEngLc
import Derived.WalkKit
import Derived.ProofKit
import Derived.OpenShut
import Derived.ShutString
import Derived.ChangeOld
import Derived.Below
import Derived.Deep.Slices
import Derived.Deep.Fields
set_option linter.unusedVariables false
set_option linter.unusedSimpArgs false
namespace Go.Eng
open Go Go.RowKit
theorem ecS : ∀ l : List ByteArray, ec (fun a : ByteArray => [Value.string a]) l = es l
  | [] => rfl
  | x :: t => congrArg (List.cons (Value.string x)) (ecS t)
theorem wf_in {k : IntKind} {a : Int} (h : (Lit.int k a).wf = true) : inR k a := by
  simp only [Lit.wf, Bool.and_eq_true, decide_eq_true_eq] at h
  cases k <;> exact h
theorem spot_of_cell {w : World} {x : Addr} {v : Value} (h : w.cell? x = some v) : x.spot = none := by
  unfold World.cell? at h
  split at h
  · split at h
    · cases h
    · rename_i e; simpa using e
  · cases h
theorem lt_of_cell {w : World} {x : Addr} {v : Value} (h : w.cell? x = some v) : x.block < w.heap.size := by
  unfold World.cell? at h
  split at h
  · rename_i e
    exact (Array.getElem?_eq_some_iff.1 e).1
  · cases h
def SlIn {α : Type} (c : α → List Value) (R : α → Prop) (w : World) (A : Option Addr) (len cap : Nat) (l : List α) : Prop :=
  len = l.length ∧ l.length ≤ cap ∧ (∀ j u, (ec c l)[j]? = some u → ∃ x, A = some x ∧ x.spot = none ∧ x.block < w.heap.size ∧ w.cell? ⟨x.block, x.off + j, none⟩ = some u) ∧ ∀ a ∈ l, R a
theorem add_off {x : Addr} (hs : x.spot = none) (j : Nat) : x.add j = ⟨x.block, x.off + j, none⟩ := by
  obtain ⟨b, o, s⟩ := x
  cases hs
  by_cases e : j = 0
  · subst e; rfl
  · simp [Addr.add, e]
theorem ec_split {α : Type} {c : α → List Value} {sz : Nat} (hc : ∀ a, (c a).length = sz) (hs : 0 < sz) : ∀ {l : List α} {j : Nat} {u : Value}, (ec c l)[j]? = some u → ∃ a, l[j / sz]? = some a ∧ (c a)[j % sz]? = some u
  | [], j, u, h => by simp [ec] at h
  | x :: r, j, u, h => by
    simp only [ec, List.flatMap_cons] at h
    by_cases hj : j < sz
    · rw [List.getElem?_append_left (by rw [hc]; exact hj)] at h
      exact ⟨x, by rw [Nat.div_eq_of_lt hj]; rfl, by rw [Nat.mod_eq_of_lt hj]; exact h⟩
    · rw [List.getElem?_append_right (by rw [hc]; omega), hc] at h
      obtain ⟨a, h1, h2⟩ := ec_split hc hs (l := r) h
      have e : j = (j - sz) + sz := by omega
      refine ⟨a, ?_, ?_⟩
      · rw [e, Nat.add_div_right _ hs, List.getElem?_cons_succ]
        exact h1
      · rw [e, Nat.add_mod_right]
        exact h2
open Go.ChangeShapes Go.WideShapes Go.Deep in
theorem slice_in {α H : Type} {enc : TypeId × Value → H} {P : Program} {w : World} {sp : Nat → Bool} {held : Bool} {c : α → List Value} {sz : Nat} {R : α → Prop} {t e : TypeId} {A : Option Addr} {len cap fuel : Nat} {x : DataW H × List MemPlace} (hc : ∀ a, (c a).length = sz) (hs : 0 < sz)
    (ht : P.underlying t = some (.slice e)) (hC : P.cellsOf e = sz) (hd : ∀ n cs y, DataW.trod enc P w 0 sp held n e cs = some y → ∃ a, cs = c a ∧ R a) (h : DataW.trod enc P w 0 sp held fuel t [.slice A len cap] = some x) :
    ∃ l : List α, SlIn c R w A len cap l := by
  rcases open_slice ht h with ⟨h0, _⟩ | ⟨a, len', cap', m, n, D, Pl, hcs, hb, hl, hm, hmm, hx, hi⟩
  · simp only [List.cons.injEq, Value.slice.injEq, and_true] at h0
    obtain ⟨rfl, rfl, rfl⟩ := h0
    exact ⟨[], rfl, Nat.le_refl _, fun j u hu => by simp [ec] at hu, fun a ha => by cases ha⟩
  · simp only [List.cons.injEq, Value.slice.injEq, and_true] at hcs
    obtain ⟨rfl, rfl, rfl⟩ := hcs
    have hml : len ≤ m := by rw [hmm]; split <;> omega
    have each : ∀ i, i < len → ∃ v : α, (∀ o, o < sz → w.cell? ((a.add (i * sz)).add o) = (c v)[o]?) ∧ R v := fun i hil => by
      obtain ⟨cs', h1, h2⟩ := hi i (by omega)
      obtain ⟨v, rfl, hR⟩ := hd _ _ _ h2
      obtain ⟨_, _, h4⟩ := World.cells?_some h1
      rw [hC] at h4
      exact ⟨v, h4, hR⟩
    have hspot : 0 < len → a.spot = none := fun hp => by
      obtain ⟨v, h1, _⟩ := each 0 hp
      have := h1 0 hs
      rw [Nat.zero_mul] at this
      have e : (a.add 0).add 0 = a := rfl
      rw [e] at this
      exact spot_of_cell (this.trans (List.getElem?_eq_getElem (by rw [hc]; exact hs)))
    have : ∃ l : List α, l.length = len ∧ ∀ i v, l[i]? = some v → (∀ o, o < sz → w.cell? ((a.add (i * sz)).add o) = (c v)[o]?) ∧ R v := by
      clear hmm hml hx hi hm hl h hspot
      induction len with
      | zero => exact ⟨[], rfl, fun i v hv => by simp at hv⟩
      | succ k ih =>
        obtain ⟨l, h1, h2⟩ := ih (fun i hi => each i (by omega))
        obtain ⟨v, h3⟩ := each k (Nat.lt_succ_self _)
        refine ⟨l ++ [v], by simp [h1], fun i u hu => ?_⟩
        by_cases e : i < l.length
        · rw [List.getElem?_append_left e] at hu; exact h2 i u hu
        · rw [List.getElem?_append_right (by omega)] at hu
          have : i = k := by
            have := (List.getElem?_eq_some_iff.1 hu).1
            simp at this
            omega
          subst this
          rw [h1] at hu
          simp at hu
          subst hu
          exact h3
    obtain ⟨l, hl1, hl2⟩ := this
    refine ⟨l, hl1.symm, by omega, fun j u hu => ?_, fun v hv => ?_⟩
    · obtain ⟨v, h1, h2⟩ := ec_split hc hs hu
      have hlt := (List.getElem?_eq_some_iff.1 h1).1
      have h3 := (hl2 _ _ h1).1 (j % sz) (Nat.mod_lt _ hs)
      have hsp := hspot (Nat.lt_of_le_of_lt (Nat.zero_le _) (hl1 ▸ hlt))
      have e : (a.add (j / sz * sz)).add (j % sz) = ⟨a.block, a.off + j, none⟩ := by
        rw [add_off hsp, add_off rfl]
        congr 1
        have := Nat.div_add_mod j sz
        rw [Nat.mul_comm] at this
        dsimp only
        omega
      rw [e, h2] at h3
      have h4 := lt_of_cell h3
      exact ⟨a, rfl, hsp, h4, h3⟩
    · obtain ⟨i, hi', rfl⟩ := List.getElem_of_mem hv
      exact (hl2 i _ (List.getElem?_eq_getElem hi')).2
theorem rds_of {q : PH} : ∀ {l : List (Option Addr × List Value)}, (∀ x ∈ l, Reads q x.1 x.2) → RdsOk q l
  | [], _ => trivial
  | x :: r, h => ⟨h x (.head _), rds_of fun y hy => h y (.tail _ hy)⟩
theorem slin_reads {α : Type} {c : α → List Value} {R : α → Prop} {w : World} {A : Option Addr} {len cap : Nat} {l : List α} (h : SlIn c R w A len cap l) : Reads (phOf w) A (ec c l) :=
  reads_of fun j u hu => by
    obtain ⟨x, hA, hs, _, hc⟩ := h.2.2.1 j u hu
    exact ⟨x, hA, hs, hc⟩
theorem ec_vw {α : Type} {c : α → List Value} {sz : Nat} (hc : ∀ a, (c a).length = sz) {xs : List α} {lo m : Nat} : vwC (ec c xs) lo sz m = ec c ((xs.drop lo).take m) := by
  unfold vwC
  rw [ec_drop hc, ec_take hc]
theorem rdsOk_app {q : PH} : ∀ {a b : List (Option Addr × List Value)}, RdsOk q (a ++ b) ↔ RdsOk q a ∧ RdsOk q b
  | [], b => by simp [RdsOk]
  | (A, xs) :: r, b => by
    show (Reads q A xs ∧ RdsOk q (r ++ b)) ↔ (Reads q A xs ∧ RdsOk q r) ∧ RdsOk q b
    rw [rdsOk_app, and_assoc]
theorem er_len {α β : Type} {f : α → β} {X : List α} {x : List β} (h : X.map f = x) : X.length = x.length := by rw [← h, List.length_map]
theorem er_get {α β : Type} [Inhabited α] [Inhabited β] {f : α → β} {X : List α} {x : List β} (h : X.map f = x) {i : Nat} (hi : i < x.length) : f (X.getD i default) = x.getD i default := by
  subst h
  have h2 : i < X.length := by simpa using hi
  simp [List.getD_eq_getElem?_getD, h2]
theorem er_app {α β : Type} {f : α → β} {X Y : List α} {x y : List β} (h : X.map f = x) (k : Y.map f = y) : (X ++ Y).map f = x ++ y := by rw [List.map_append, h, k]
theorem nx {α β : Type} {f : α → β} {C : α → List Value} {P : α → Prop} {X : List α} {x : List β} {zs : List Value} (h : X.map f = x) (hP : ∀ p ∈ X, P p) (hz : zs = ec C X) : ∃ X', X'.map f = x ∧ (∀ p ∈ X', P p) ∧ X'.length = x.length ∧ zs = ec C X' := ⟨X, h, hP, er_len h, hz⟩
theorem rd_eq {α : Type} {f : α → List Value} {q : PH} {A : Option Addr} {l l' : α} (h : l = l') (k : Reads q A (f l)) : Reads q A (f l') := h ▸ k
theorem pin_app {α : Type} {P : α → Prop} {X Y : List α} (h : ∀ p ∈ X, P p) (k : ∀ p ∈ Y, P p) : ∀ p ∈ X ++ Y, P p := fun p hp => (List.mem_append.1 hp).elim (h p) (k p)
theorem pin_one {α : Type} {P : α → Prop} {a : α} (h : P a) : ∀ p ∈ [a], P p := fun p hp => by rw [List.mem_singleton.1 hp]; exact h
theorem pin_nil {α : Type} {P : α → Prop} : ∀ p ∈ ([] : List α), P p := fun p hp => by cases hp
def cl {α : Type} (b : Nat) (a : List α) : Option (List α) := ck (a.length * b ≤ 140737488355328) <| some a
end Go.Eng
