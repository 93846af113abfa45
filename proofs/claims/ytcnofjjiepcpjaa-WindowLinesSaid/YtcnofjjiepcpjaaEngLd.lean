/-
  THE ENGINE, PART Ld: from a lifted law to its statement: numbers and rows that came in.
  Nothing here is trusted.
-/
import Derived.Test.YtcnofjjiepcpjaaEngLc
import Derived.WalkKit
import Derived.ProofKit
import Derived.OpenShut
import Derived.ShutString
import Derived.ChangeOld
import Derived.Below
namespace Go.Eng
open Go Go.RowKit

theorem wf_in {k : IntKind} {a : Int} (h : (Lit.int k a).wf = true) : inR k a := by
  simp only [Lit.wf, Bool.and_eq_true, decide_eq_true_eq] at h
  cases k <;> exact h
/-- a row of numbers that came in -/
def IsRow (k : IntKind) (w : World) (a : Option Addr) (len cap : Nat) (zs : List Int) : Prop :=
  (a = none ∧ len = 0 ∧ cap = 0 ∧ zs = []) ∨
  ∃ x, a = some x ∧ len ≤ cap ∧ cap ≤ maxLen ∧ zs.length = cap ∧ (∀ i, i < zs.length → w.cell? (x.add i) = some (.int k (zs.getD i 0))) ∧ ∀ n ∈ zs, (Lit.int k n).wf = true
theorem getD_take {l : List Int} {n i : Nat} (h : i < n) : (l.take n)[i]? = l[i]? := List.getElem?_take_of_lt h
theorem spot_of_cell {w : World} {x : Addr} {v : Value} (h : w.cell? x = some v) : x.spot = none := by
  unfold World.cell? at h
  split at h
  · split at h
    · cases h
    · rename_i e; simpa using e
  · cases h
theorem lt_of_cell {w : World} {x : Addr} {v : Value} (h : w.cell? x = some v) : x.block < w.heap.size := by
  unfold World.cell? at h
  split at h
  · rename_i e
    exact (Array.getElem?_eq_some_iff.1 e).1
  · cases h
/-- a row of numbers that came in, as what is only read -/
theorem row_in {k : IntKind} {w : World} {a : Option Addr} {len cap : Nat} {zs : List Int} (h : IsRow k w a len cap zs) : ∃ l : List Int, len = l.length ∧ l.length ≤ cap ∧
    (∀ j u, (ei k l)[j]? = some u → ∃ x, a = some x ∧ x.spot = none ∧ x.block < w.heap.size ∧ w.cell? ⟨x.block, x.off + j, none⟩ = some u) ∧ ∀ n ∈ l, inR k n := by
  rcases h with ⟨rfl, rfl, rfl, rfl⟩ | ⟨x, rfl, hlc, _, hz, hc, hw⟩
  · exact ⟨[], rfl, Nat.le_refl _, fun j u hu => by simp [ei] at hu, fun n hn => by cases hn⟩
  · refine ⟨zs.take len, by simp; omega, by simp; omega, fun j u hu => ?_, fun n hn => wf_in (hw n (List.mem_of_mem_take hn))⟩
    have hj : j < len ∧ j < zs.length := by
      have h1 := (List.getElem?_eq_some_iff.1 hu).1
      simp [ei] at h1
      omega
    have e : u = .int k (zs.getD j 0) := by
      simp only [ei, List.getElem?_map, getD_take hj.1] at hu
      rw [List.getElem?_eq_getElem hj.2] at hu
      simp only [Option.map_some, Option.some.injEq] at hu
      rw [← hu, List.getD_eq_getElem?_getD, List.getElem?_eq_getElem hj.2]
      rfl
    subst e
    have h0 := hc 0 (by omega)
    rw [show x.add 0 = x from rfl] at h0
    have hs := spot_of_cell h0
    have hj' := hc j hj.2
    refine ⟨x, rfl, hs, lt_of_cell h0, ?_⟩
    rw [← hj']
    obtain ⟨b, o, s⟩ := x
    cases hs
    by_cases e : j = 0
    · subst e; rfl
    · simp [Addr.add, e]
end Go.Eng
