/-
  Texts that the law leans on. Nothing here is trusted.
-/
import Derived.Test.YtenjkphlbdhaiaaEngTB
import Derived.Shelf.Strings.Builder1
import Derived.Shelf.Strings.Builder2
import Derived.Shelf.Strings.OnBuilder
set_option linter.unusedVariables false
set_option linter.unusedSimpArgs false
namespace Go.Proofs
open Go.Shelf
def Try.lays156_ren : Go.Shelf.Ren := ⟨fun | 156 => 81 | 165 => 104 | 166 => 54 | 169 => 55 | 240 => 92 | 241 => 121 | 276 => 111 | 277 => 130 | n => n, fun | 31 => 25 | 9 => 9 | 3 => 3 | 4 => 4 | 0 => 0 | 20 => 20 | 72 => 88 | 76 => 91 | 70 => 86 | 37 => 82 | 75 => 90 | 127 => 111 | 164 => 126 | 5 => 5 | 80 => 31 | n => n, fun | n => n⟩
theorem Try.lays156 : Go.Proofs.Lays.n156 Try.prog Try.lays156_ren := {
  mixed := by kernel_rfl
  f156 := Try.func81.trans (congrArg some (by kernel_rfl))
  f165 := Try.func104.trans (congrArg some (by kernel_rfl))
  f166 := Try.func54.trans (congrArg some (by kernel_rfl))
  f169 := Try.func55.trans (congrArg some (by kernel_rfl))
  f240 := Try.func92.trans (congrArg some (by kernel_rfl))
  f241 := Try.func121.trans (congrArg some (by kernel_rfl))
  f276 := Try.func111.trans (congrArg some (by kernel_rfl))
  f277 := Try.func130.trans (congrArg some (by kernel_rfl))
  t0 := Try.underlying0
  a0 := Try.isAgg0
  z0 := Try.sizeOf0
  v0 := Try.zeroValue0
  t3 := Try.underlying3
  a3 := Try.isAgg3
  z3 := Try.sizeOf3
  v3 := Try.zeroValue3
  t4 := Try.underlying4
  a4 := Try.isAgg4
  z4 := Try.sizeOf4
  v4 := Try.zeroValue4
  t9 := Try.underlying9
  a9 := Try.isAgg9
  z9 := Try.sizeOf9
  v9 := Try.zeroValue9
  t20 := Try.underlying20
  a20 := Try.isAgg20
  z20 := Try.sizeOf20
  v20 := Try.zeroValue20
  t31 := Try.underlying25
  a31 := Try.isAgg25
  z31 := Try.sizeOf25
  v31 := Try.zeroValue25
  t37 := Try.underlying82
  a37 := Try.isAgg82
  z37 := Try.sizeOf82
  v37 := Try.zeroValue82
  t70 := Try.underlying86
  a70 := Try.isAgg86
  z70 := Try.sizeOf86
  v70 := Try.zeroValue86
  t72 := Try.underlying88
  a72 := Try.isAgg88
  z72 := Try.sizeOf88
  v72 := Try.zeroValue88
  t75 := Try.underlying90
  a75 := Try.isAgg90
  z75 := Try.sizeOf90
  v75 := Try.zeroValue90
  t76 := Try.underlying91
  a76 := Try.isAgg91
  z76 := Try.sizeOf91
  v76 := Try.zeroValue91
  t127 := Try.underlying111
  a127 := Try.isAgg111
  z127 := Try.sizeOf111
  v127 := Try.zeroValue111
  t164 := Try.underlying126
  a164 := Try.isAgg126
  z164 := Try.sizeOf126
  v164 := Try.zeroValue126 }
theorem Try.Builder_Extra_156 : Builder.Extra Try.prog Try.lays156_ren := {
  sizeBuilder := by kernel_rfl
  liesBuilder := by kernel_rfl
  t5 := Try.underlying5
  a5 := Try.isAgg5
  z5 := Try.sizeOf5
  v5 := Try.zeroValue5
  infoByte := by kernel_rfl
  cellsByte := by kernel_rfl
  sizeByte := by kernel_rfl
  neB5 := by decide }
open Go.RowKit in
theorem Try.strings_Join_none (a : Option Addr) (c : Nat) (sep : ByteArray) (w : World) :
    Calls Try.prog 81 #[.slice a 0 c, .string sep] w fun e w' => e = .returned (.string ⟨#[]⟩) ∧ w' = w := Any.strings_Join_none Try.lays156 Try.Builder_Extra_156 a c sep w
open Go.RowKit in
theorem Try.strings_Join (bk o c : Nat) (xs : List ByteArray) (sep : ByteArray) (w : World) (hcells : ∀ (j : Nat) x, xs[j]? = some x → w.cell? ⟨bk, o + j, none⟩ = some (.string x)) (hbk : bk < w.heap.size) (hN : xs.length ≤ 140737488355328) (hcap : xs.length ≤ c) (hlen : (Lib.join (xs.map (·.data.toList)) sep.data.toList).length ≤ 140737488355328) :
    Calls Try.prog 81 #[.slice (some ⟨bk, o, none⟩) xs.length c, .string sep] w fun e w' => e = .returned (.string ⟨(Lib.join (xs.map (·.data.toList)) sep.data.toList).toArray⟩) ∧ Below w.heap.size w w' := Any.strings_Join Try.lays156 Try.Builder_Extra_156 bk o c xs sep w hcells hbk hN hcap hlen
end Go.Proofs
namespace Go.Proofs.Ytenjkphlbdhaiaa
open Go Go.Eng Go.RowKit
noncomputable def g81 (a0 : List ByteArray) (a1 : ByteArray) : Option ByteArray := ck (a0.length ≤ 140737488355328) <| ck ((Lib.join (a0.map (·.data.toList)) a1.data.toList).length ≤ 140737488355328) <| some ⟨(Lib.join (a0.map (·.data.toList)) a1.data.toList).toArray⟩
noncomputable def k81 : Eng.CS := { f := 81, calm := true, more := 0, ι := (List ByteArray) × ByteArray × ByteArray, ok := fun i => g81 i.1 i.2.1 = some i.2.2, rds := fun _ => [], args := fun i => [.sl 1 i.1.length (es i.1), .w (.v (.string (i.2.1)))], res := fun i => .v (.string i.2.2) }
theorem k81_ok : CalmOk Try.prog k81 := by
  refine ⟨fun args w => ?_, ?_⟩
  · have hname' : ¬ Try.f81.name = "runtime.NumGoroutine" := by simpa using nm81
    obtain ⟨c, hc⟩ := Option.isSome_iff_exists.1 (show Try.f81.body.isSome = true from rfl)
    have hP := Try.func81
    simp [callFunc, k81, hP, hname', hc]
  · rintro w q S ⟨a0, a1, r⟩ vs hok _ hm hargs
    have hr : a0.length ≤ 140737488355328 ∧ (Lib.join (a0.map (·.data.toList)) a1.data.toList).length ≤ 140737488355328 ∧ r = ⟨(Lib.join (a0.map (·.data.toList)) a1.data.toList).toArray⟩ := by
      have : g81 a0 a1 = some r := hok
      unfold g81 ck at this
      split at this
      · rename_i h1
        split at this
        · rename_i h2; cases this; exact ⟨h1, h2, rfl⟩
        · cases this
      · cases this
    obtain ⟨h1, h2, rfl⟩ := hr
    match vs, hargs with
    | [v, s], hargs =>
    obtain ⟨⟨A, c, hv, hnc, hl, hcell⟩, hs, _⟩ := hargs
    have hs : s = .string a1 := hs
    subst hs hv
    have hnc : a0.length ≤ c := hnc
    have hcell : ∀ j u, (es a0)[j]? = some u → ∃ a, A = some a ∧ a.spot = none ∧ a.block < w.heap.size ∧ w.cell? ⟨a.block, a.off + j, none⟩ = some u := hcell
    by_cases h0 : a0 = []
    · subst h0
      refine (Try.strings_Join_none A c a1 w).mono ?_
      rintro e w' ⟨rfl, rfl⟩
      exact ⟨rfl, Below.refl _ _⟩
    · have hp : 0 < a0.length := List.length_pos_iff.2 h0
      have key : ∀ j x, a0[j]? = some x → ∃ a, A = some a ∧ a.spot = none ∧ a.block < w.heap.size ∧ w.cell? ⟨a.block, a.off + j, none⟩ = some (.string x) := fun j x hx =>
        hcell j (.string x) (by unfold es; rw [List.getElem?_map, hx]; rfl)
      obtain ⟨a, e1, e2, e3, _⟩ := key 0 _ (List.getElem?_eq_getElem hp)
      subst e1
      obtain ⟨b, o, sp⟩ := a
      have e2 : sp = none := e2
      subst e2
      refine (Try.strings_Join b o c a0 a1 w (fun j x hx => ?_) e3 h1 hnc h2).mono fun e w' h => h
      obtain ⟨a, f1, f2, f3, f4⟩ := key j x hx
      cases f1
      exact f4
end Go.Proofs.Ytenjkphlbdhaiaa
