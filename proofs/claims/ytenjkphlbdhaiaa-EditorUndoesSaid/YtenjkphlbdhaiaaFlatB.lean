/-
  Texts that the law leans on. Nothing here is trusted.
-/
import Derived.Test.YtenjkphlbdhaiaaEU3
import Derived.WalkKit
import Derived.WalkSpells
import Derived.WalkLawsBesides
import Derived.Laws.IdiomStrings
import Derived.Laws.BytesString
import Derived.Shelf.RegionOpenPlain
import Derived.Lib.Walk
set_option linter.unusedVariables false
set_option linter.unusedSimpArgs false
namespace Go.Proofs.Ytenjkphlbdhaiaa
open Go Go.Eng Go.RowKit
def fl1 (n : Int) : Int := if n = 9 ∨ n = 10 ∨ n = 13 then 32 else n
def flk (l : List Int) (k : Nat) : List Int := (l.take k).map fl1 ++ l.drop k
structure Flt (B : Nat) (l : List Int) (w0 : World) (k : Nat) (w : World) : Prop where
  row : ∃ pad fz, w.heap[B]? = some (.cells (((flk l k).map (Value.int .u8)).toArray ++ pad) 5 fz) ∧ l.length ≤ fz.1
  below : Below B w0 w
theorem flk_len (l : List Int) (k : Nat) : (flk l k).length = l.length := by
  simp [flk]; omega
theorem flk_at {l : List Int} {k : Nat} (h : k < l.length) : (flk l k)[k]? = some (l.getD k 0) := by
  unfold flk
  rw [List.getElem?_append_right (by simp; omega)]
  simp [List.getD_eq_getElem?_getD, h, Nat.min_eq_left (Nat.le_of_lt h)]
theorem flk_succ {l : List Int} {k : Nat} (h : k < l.length) : flk l (k + 1) = (flk l k).set k (fl1 (l.getD k 0)) := by
  unfold flk
  rw [List.take_add_one, List.getElem?_eq_getElem h, List.set_append_right _ _ (by simp; omega)]
  have hm : k - (List.map fl1 (List.take k l)).length = 0 := by simp; omega
  rw [hm, List.drop_eq_getElem_cons h, List.set_cons_zero, List.getD_eq_getElem?_getD, List.getElem?_eq_getElem h]
  simp only [Option.toList_some, List.map_append, List.map_cons, List.map_nil, List.append_assoc, Option.getD_some, List.singleton_append]
theorem Flt.cell {B : Nat} {l : List Int} {w0 w : World} {k : Nat} (h : Flt B l w0 k w) (hk : k < l.length) : w.cell? ⟨B, k, none⟩ = some (.int .u8 (l.getD k 0)) := by
  obtain ⟨pad, fz, hh, _⟩ := h.row
  rw [cell_of_heap hh, ← Array.getElem?_toList, Array.toList_append, List.getElem?_append_left (by simp [flk_len]; exact hk)]
  simp only [List.getElem?_map, flk_at hk]
  rfl
theorem Flt.frozen {B : Nat} {l : List Int} {w0 w : World} {k : Nat} (h : Flt B l w0 k w) (hk : k < l.length) : w.frozen? ⟨B, k, none⟩ = false := by
  obtain ⟨pad, fz, hh, hf⟩ := h.row
  simp only [World.frozen?, hh]
  simp
  intro; omega
theorem Flt.put {B : Nat} {l : List Int} {w0 w : World} {k : Nat} (h : Flt B l w0 k w) (hk : k < l.length) (hb : l.getD k 0 = 9 ∨ l.getD k 0 = 10 ∨ l.getD k 0 = 13) : Flt B l w0 (k + 1) (w.setCell ⟨B, k, none⟩ (.int .u8 32)) := by
  obtain ⟨pad, fz, hh, h1⟩ := h.row
  refine ⟨⟨pad, fz, ?_, h1⟩, h.below.setCell (Nat.le_refl _) _⟩
  simp only [World.setCell, Array.getElem?_modify, hh, Option.map_some, if_pos]
  rw [flk_succ hk, show fl1 (l.getD k 0) = 32 from if_pos hb]
  have hs : k < ((flk l k).map (Value.int .u8)).toArray.size := by simp [flk_len]; exact hk
  simp only [Option.isSome_none, Bool.false_eq_true, if_false]
  rw [Array.setIfInBounds_append_left hs]
  simp [List.map_set]
theorem Flt.keep {B : Nat} {l : List Int} {w0 w : World} {k : Nat} (h : Flt B l w0 k w) (hk : k < l.length) (hb : ¬ (l.getD k 0 = 9 ∨ l.getD k 0 = 10 ∨ l.getD k 0 = 13)) : Flt B l w0 (k + 1) w := by
  obtain ⟨pad, fz, hh, h1⟩ := h.row
  refine ⟨⟨pad, fz, ?_, h1⟩, h.below⟩
  have e : flk l (k + 1) = flk l k := by
    rw [flk_succ hk, show fl1 (l.getD k 0) = l.getD k 0 from if_neg hb]
    refine List.ext_getElem? fun j => ?_
    rw [List.getElem?_set]
    split
    · rename_i e; subst e; rw [flk_at hk, if_pos (by rw [flk_len]; exact hk)]
    · rfl
  rw [e]; exact hh
theorem Flt.drew {B : Nat} {l : List Int} {w0 w : World} {k : Nat} (h : Flt B l w0 k w) : Flt B l w0 k w.drew := ⟨h.row, h.below.drew⟩
theorem flt_start (s : ByteArray) (w : World) (cap : Nat) : Flt w.heap.size (bytesOf s) w 0 (w.drew.alloc (.cells (bytesRow s cap) 5 ((bytesRow s cap).size, (bytesRow s cap).size + 1))) := by
  have e : bytesRow s cap = ((flk (bytesOf s) 0).map (Value.int .u8)).toArray ++ Array.replicate (cap - s.size) (.int .u8 0) := by
    unfold bytesRow
    refine congrArg (· ++ _) ?_
    apply Array.ext'
    simp [flk, bytesOf, Function.comp_def]
  refine ⟨⟨Array.replicate (cap - s.size) (.int .u8 0), ((bytesRow s cap).size, (bytesRow s cap).size + 1), ?_, ?_⟩, ((Below.refl _ w).drew).alloc (Nat.le_refl _) _⟩
  · rw [show (w.drew.alloc (.cells (bytesRow s cap) 5 ((bytesRow s cap).size, (bytesRow s cap).size + 1))).heap[w.heap.size]? = some (.cells (bytesRow s cap) 5 ((bytesRow s cap).size, (bytesRow s cap).size + 1)) from heap_alloc_new w.drew _]
    rw [← e]
  · show (bytesOf s).length ≤ (bytesRow s cap).size
    simp [bytesOf, bytesRow]
theorem flat_back {P : Program} {B : Nat} {l : List Int} {w0 w : World} {cap : Nat} (h : Flt B l w0 l.length w) (h22 : P.underlying 82 = some (.slice 5)) (h5 : P.underlying 5 = some (.int .u8)) (h9 : P.underlying 9 = some .string) :
    (convert 82 9 (.slice (some ⟨B, 0, none⟩) l.length cap)).run P w = .ok (.string (strOf (l.map fl1))) w := by
  obtain ⟨pad, fz, hh, _⟩ := h.row
  have e : flk l l.length = l.map fl1 := by simp [flk]
  rw [e] at hh
  have hl : (loadCells ⟨B, 0, none⟩ l.length).run P w = .ok ((l.map fl1).map (Value.int .u8)).toArray w := by
    have hk : (loadCells ⟨B, 0, none⟩ ((l.map fl1).map (Value.int .u8)).length).run P w = .ok ((l.map fl1).map (Value.int .u8)).toArray w := by
      refine run_loadCells_list w _ ((l.map fl1).map (Value.int .u8)) fun j v hv => ?_
      have hj : j < ((l.map fl1).map (Value.int .u8)).length := (List.getElem?_eq_some_iff.1 hv).1
      have ea : (⟨B, 0, none⟩ : Addr).add j = ⟨B, 0 + j, none⟩ := by cases j <;> simp [Addr.add]
      rw [ea, cell_of_heap hh, Nat.zero_add, ← Array.getElem?_toList, Array.toList_append, List.getElem?_append_left (by exact hj)]
      exact hv
    simpa using hk
  rw [run_convert_bytes_string w 82 9 5 _ _ _ h22 h5 h9, run_bytesToString w _ _ _ _ hl]
  have hp := push_all ((l.map fl1).map fun n => UInt8.ofNat n.toNat) ByteArray.empty
  rw [List.foldl_map] at hp
  rw [hp]
  simp [strOf]
set_option maxHeartbeats 2000000 in
set_option maxRecDepth 100000 in
theorem flat_walk (s r : ByteArray) (w : World) (hs : s.size ≤ 140737488355328)
    (hcl : ∀ w1, Calls Try.prog 101 #[.string (strOf ((bytesOf s).map fl1))] w1 fun e w' => e = .returned (.string r) ∧ Below w1.heap.size w1 w') :
    Calls Try.prog 68 #[.string s] w fun e w' => e = .returned (.string r) ∧ Below w.heap.size w w' := by
  have hconv := run_bytes_of_string (P := Try.prog) w 9 82 5 s Try.underlying9 Try.underlying82 Try.underlying5
  have hst := flt_start s w (grownCap w s.size 0 5)
  generalize hcap : grownCap w s.size 0 5 = cap at hconv hst
  generalize hC : bytesRow s cap = C at hconv hst
  generalize hB : w.heap.size = B at hconv hst
  generalize hl : bytesOf s = l at hst hcl
  have hll : l.length = s.size := by rw [← hl, bytesOf_len]
  go_enter Try.func68, Try.ntmps68
  go_wp2
  go_loopw [10] (fun i wr => ∃ k : Nat, k ≤ s.size ∧ i = .int .i64 k ∧ Flt B l w k wr) (fun i _ => s.size - (intOf i).toNat)
  case atStart => exact ⟨0, Nat.zero_le _, rfl, hst⟩
  case round =>
    obtain ⟨k, hk, rfl, hf⟩ := hrel
    have hcx : k < s.size → wr.cell? ⟨B, k, none⟩ = some (.int .u8 (l.getD k 0)) := fun h => hf.cell (by omega)
    have hfx : k < s.size → wr.frozen? ⟨B, k, none⟩ = false := fun h => hf.frozen (by omega)
    have hbk : s.size ≤ k → (convert 82 9 (.slice (some ⟨B, 0, none⟩) s.size cap)).run Try.prog wr = .ok (.string (strOf (l.map fl1))) wr := fun h => by
      have e : k = l.length := by omega
      subst e
      rw [← hll]
      exact flat_back hf Try.underlying82 Try.underlying5 Try.underlying9
    have hbl : Below B w wr := hf.below
    have e1 : k < s.size → l.getD k 0 = l[k]?.getD 0 := fun h => List.getD_eq_getElem?_getD
    have p1 : k < s.size → (l[k]?.getD 0 = 9 ∨ l[k]?.getD 0 = 10 ∨ l[k]?.getD 0 = 13) → Flt B l w (k + 1) (wr.setCell ⟨B, k, none⟩ (.int .u8 32)) := fun h e => hf.put (by omega) (by rw [e1 h]; exact e)
    have p2 : k < s.size → ¬ (l[k]?.getD 0 = 9 ∨ l[k]?.getD 0 = 10 ∨ l[k]?.getD 0 = 13) → Flt B l w (k + 1) wr := fun h e => hf.keep (by omega) (by rw [e1 h]; exact e)
    have hHf := Any.hidJ (And.intro p1 p2)
    clear p1 p2 e1 hf
    go_wp2_with (first | (go_at_call 101; refine (hcl _).mono ?_; rintro e w' ⟨rfl, hb'⟩) | go_in)
    iterate 3
      · have hlt : k < s.size := by assumption
        refine ⟨⟨k + 1, by omega, by simp, hHf.out.1 hlt ?_⟩, by simp [intOf]; omega⟩
        simp_all
    · have hlt : k < s.size := by assumption
      refine ⟨⟨k + 1, by omega, by simp, hHf.out.2 hlt ?_⟩, by simp [intOf]; omega⟩
      simp_all
    · rw [hbk (by omega)]
      simp only [Result.andThen]
      rw [Oper.upon_value]
      go_wp2_with (go_at_call 101; refine (hcl _).mono ?_; rintro e w' ⟨rfl, hb'⟩)
      go_ret
      exact ⟨rfl, hbl.trans (hb'.mono (hB ▸ hbl.size))⟩
noncomputable def g68 (a0 : ByteArray) : Option ByteArray := ck (a0.size ≤ 140737488355328) <| g101 (strOf ((bytesOf a0).map fl1))
noncomputable def k68 : Eng.CS := { f := 68, calm := true, more := 0, ι := ByteArray × ByteArray, ok := fun i => g68 i.1 = some i.2, rds := fun _ => [], args := fun i => [.w (.v (.string (i.1)))], res := fun i => .v (.string (i.2)) }
theorem k68_ok : CalmOk Try.prog k68 := by
  refine ⟨fun args w => ?_, ?_⟩
  · have hname' : ¬ Try.f68.name = "runtime.NumGoroutine" := by simpa using nm68
    obtain ⟨c, hc⟩ := Option.isSome_iff_exists.1 (show Try.f68.body.isSome = true from rfl)
    have hP := Try.func68
    simp [callFunc, k68, hP, hname', hc]
  · rintro w q S ⟨a0, r⟩ vs hok _ hm hargs
    have hr : a0.size ≤ 140737488355328 ∧ g101 (strOf ((bytesOf a0).map fl1)) = some r := by
      have : g68 a0 = some r := hok
      unfold g68 ck at this
      split at this
      · rename_i h1; exact ⟨h1, this⟩
      · cases this
    match vs, hargs with
    | [v], hargs =>
    have hs : v = .string a0 := hargs.1
    subst hs
    exact flat_walk a0 r w hr.1 fun w1 => (k101_ok.2 w1 (fun _ _ => none) S (strOf ((bytesOf a0).map fl1), r) [.string (strOf ((bytesOf a0).map fl1))] hr.2 trivial (fun _ _ _ h => by cases h) ⟨rfl, trivial⟩).mono fun e w' h => h
end Go.Proofs.Ytenjkphlbdhaiaa
