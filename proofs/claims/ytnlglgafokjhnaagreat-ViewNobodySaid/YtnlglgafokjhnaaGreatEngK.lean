/-
  Texts that the law leans on. Nothing here is trusted.
-/
import Derived.Test.YtnlglgafokjhnaaGreatEngF
import Derived.KernelRfl
set_option linter.unusedVariables false
set_option linter.unusedSimpArgs false
namespace Go.Eng
open Go Go.RowKit
noncomputable section
def vEq : Value → Value → Bool
  | .bool a, .bool b => a == b
  | .int k a, .int k' b => decide (k = k') && decide (a = b)
  | .float k a, .float k' b => fkc k k' && decide (a = b)
  | .string a, .string b => decide (a.data.toList = b.data.toList)
  | .pointer none, .pointer none => true
  | .slice none a b, .slice none c d => decide (a = c) && decide (b = d)
  | .nilFunc, .nilFunc => true
  | .nilIface, .nilIface => true
  | .map none, .map none => true
  | _, _ => false
theorem vEq_eq : ∀ {a b : Value}, vEq a b = true → a = b := by
  intro a b h
  unfold vEq at h
  split at h <;> simp_all
  · exact fkc_eq h.1
  rename_i a b
  cases a; cases b
  simp_all
def vEqL : List Value → List Value → Bool
  | [], [] => true
  | a :: r, b :: s => match vEq a b with | true => vEqL r s | false => false
  | _, _ => false
theorem vEqL_eq : ∀ {a b : List Value}, vEqL a b = true → a = b
  | [], [], _ => rfl
  | a :: r, b :: s, h => by
    unfold vEqL at h
    split at h
    · rename_i h1; rw [vEq_eq h1, vEqL_eq h]
    · cases h
  | [], _ :: _, h => by cases h
  | _ :: _, [], h => by cases h
def sizeB (P : Program) (T : Tab) (e : Nat) : Bool :=
  match P.info? e with
  | some i => Nat.blt 0 (ty T e).sz && Nat.beq i.size (ty T e).sz && Nat.beq i.bytes (ty T e).byt
  | none => false
def descB (P : Program) (T : Tab) (t : Nat) : Ty → Bool
  | .int k => match P.underlying t with | some (.int k') => decide (k' = k) | _ => false
  | .bool => match P.underlying t with | some .bool => true | _ => false
  | .str => match P.underlying t with | some .string => true | _ => false
  | .flt k => match P.underlying t with | some (.float k') => fkc k' k | _ => false
  | .ptr e => match P.underlying t with | some (.pointer e') => Nat.beq e' e | _ => false
  | .slice e => match P.underlying t with | some (.slice e') => Nat.beq e' e && sizeB P T e | _ => false
  | .struct fs => match P.underlying t with | some (.struct F) => decide (F.toList.map (fun f => (f.offset, f.type)) = fs) && fs.all (fun x => sizeB P T x.2) | _ => false
  | .arr n e => match P.underlying t with | some (.array n' e') => Nat.beq n' n && Nat.beq e' e && sizeB P T e | _ => false
  | .func => match P.underlying t with | some (.func _ _ _) => true | _ => false
  | .map k e => match P.underlying t with | some (.map k' e') => Nat.beq k' k && Nat.beq e' e | _ => false
  | .other => true
def kindB (P : Program) (t : Nat) : Ty → Bool
  | .int _ => (match P.underlying t with | some (.int _) => true | _ => false)
  | .str => (match P.underlying t with | some .string => true | _ => false)
  | .bool => (match P.underlying t with | some .bool => true | _ => false)
  | _ => false
def cmpFB (P : Program) : Nat → List Field → Nat → List Ty → Option (List Ty)
  | _, [], _, c => some c
  | 0, _ :: _, _, _ => none
  | n + 1, f :: fs, j, c => match Nat.beq f.offset j && decide (f.name ≠ "_") with
    | false => none
    | true => match P.underlying f.type with
      | some (.struct F) => (match P.stoodInHeld f.type, P.info? f.type with
        | false, some i => (match cmpFB P n F.toList 0 c with
          | some c' => (match Nat.beq (i.size + c'.length) c.length with
            | true => cmpFB P n fs (j + i.size) c'
            | false => none)
          | none => none)
        | _, _ => none)
      | _ => (match c with
        | t :: c' => (match kindB P f.type t with
          | true => cmpFB P n fs (j + 1) c'
          | false => none)
        | [] => none)
def cmpB (P : Program) (t : Nat) (c : List Ty) : Bool :=
  (match P.underlying t with | some (.struct _) => true | _ => false) && !P.stoodInHeld t && !P.eqGuardType P.depth t &&
    match cmpFB P 64 (P.fieldsOf t).toList 0 c with | some [] => true | _ => false
def tokB (P : Program) (T : Tab) (t : Nat) (ti : TI) : Bool :=
  descB P T t ti.d && (match P.info? t with
    | some i => (match i.zero with | some z => Nat.beq i.size ti.sz && Nat.beq i.bytes ti.byt && vEqL z.cells.toList ti.zero | none => false)
    | none => false) && Nat.beq ti.flat.length ti.sz && Nat.blt 0 ti.sz && Nat.beq ti.zero.length ti.sz && (match ti.d with | .struct _ => true | .arr _ _ => true | _ => Nat.beq ti.sz 1) && (match ti.cmp with | [] => true | d :: c => cmpB P t (d :: c))
def tabB (P : Program) (T : Tab) : Bool := T.all fun t ti => tokB P T t ti
theorem Tr.all_get {α : Type} {f : Nat → α → Bool} : ∀ {T : Tr α}, T.all f = true → ∀ {t : Nat} {x : α}, T.get t = some x → f t x = true
  | .nil, _, _, _, h => by cases h
  | .node l k v r, h, t, x, hg => by
    unfold Tr.all at h
    rw [Tr.get_c] at hg
    split at h
    rotate_left
    · cases h
    rename_i h1
    split at h
    rotate_left
    · cases h
    rename_i h2
    split at hg
    · rename_i e
      have := Nat.eq_of_beq_eq_true e
      subst this
      cases hg
      exact h1
    · split at hg
      · exact Tr.all_get h2 hg
      · exact Tr.all_get h hg
theorem sizeOk_of {P : Program} {T : Tab} {e : Nat} (h : sizeB P T e = true) : sizeOk P T e := by
  unfold sizeB at h
  split at h
  · rename_i i hi
    simp only [Bool.and_eq_true] at h
    exact ⟨Nat.le_of_ble_eq_true h.1.1, i, hi, Nat.eq_of_beq_eq_true h.1.2, Nat.eq_of_beq_eq_true h.2⟩
  · cases h
theorem descOk_of {P : Program} {T : Tab} {t : Nat} {d : Ty} (h : descB P T t d = true) : descOk P T t d := by
  cases d <;> simp only [descB] at h <;> simp only [descOk]
  case int k => split at h <;> simp_all
  case bool => split at h <;> simp_all
  case str => split at h <;> simp_all
  case flt k => split at h; rename_i k' e; rw [e, fkc_eq h]; cases h
  case ptr e => split at h <;> simp_all
  case slice e =>
    split at h
    · rename_i e' he
      simp only [Bool.and_eq_true] at h
      have := Nat.eq_of_beq_eq_true h.1
      subst this
      exact ⟨he, sizeOk_of h.2⟩
    · cases h
  case struct fs =>
    split at h
    · rename_i F he
      simp only [Bool.and_eq_true, decide_eq_true_eq, List.all_eq_true] at h
      exact ⟨F, he, h.1, fun x hx => sizeOk_of (h.2 x hx)⟩
    · cases h
  case arr n e =>
    split at h
    · rename_i n' e' he
      simp only [Bool.and_eq_true] at h
      have h1 := Nat.eq_of_beq_eq_true h.1.1
      have h2 := Nat.eq_of_beq_eq_true h.1.2
      subst h1; subst h2
      exact ⟨he, sizeOk_of h.2⟩
    · cases h
  case func =>
    split at h
    · rename_i a b c he; exact ⟨a, b, c, he⟩
    · cases h
  case map k e =>
    split at h
    · rename_i k' e' he
      simp only [Bool.and_eq_true] at h
      rw [he, Nat.eq_of_beq_eq_true h.1, Nat.eq_of_beq_eq_true h.2]
    · cases h
theorem kindOk_of {P : Program} {t : Nat} {d : Ty} (h : kindB P t d = true) : kindOk P t d := by
  cases d <;> simp only [kindB] at h <;> simp only [kindOk] <;> first | (cases h; done) | (split at h <;> simp_all)
theorem cmpFB_ok {P : Program} : ∀ {n : Nat} {fs : List Field} {j : Nat} {c r : List Ty}, cmpFB P n fs j c = some r → ∃ c1, c = c1 ++ r ∧ CmpF P n fs j c1
  | n, [], j, c, r, h => by
    unfold cmpFB at h
    cases h
    exact ⟨[], rfl, .nil⟩
  | 0, _ :: _, _, _, _, h => by unfold cmpFB at h; cases h
  | n + 1, f :: fs, j, c, r, h => by
    unfold cmpFB at h
    split at h
    · cases h
    rename_i hb
    simp only [Bool.and_eq_true, decide_eq_true_eq] at hb
    obtain ⟨h1, h2⟩ := hb
    have h1 := Nat.eq_of_beq_eq_true h1
    split at h
    · rename_i F hF
      split at h
      · rename_i i hs hi
        split at h
        · rename_i c' hc'
          split at h
          · rename_i hz
            have hz := Nat.eq_of_beq_eq_true hz
            obtain ⟨c1, rfl, k1⟩ := cmpFB_ok hc'
            obtain ⟨c2, rfl, k2⟩ := cmpFB_ok h
            have hf : P.fieldsOf f.type = F := by simp [Program.fieldsOf, hF]
            simp only [List.length_append] at hz
            exact ⟨c1 ++ c2, by simp, .sub h1 h2 (by rw [hf]; exact hF) hs hi (by omega) (by rw [hf]; exact k1) (by rw [show c1.length = i.size by omega]; exact k2)⟩
          · cases h
        · cases h
      · cases h
    · cases c with
      | nil => cases h
      | cons t c' =>
        dsimp only at h
        split at h
        · rename_i hk
          obtain ⟨c2, rfl, k2⟩ := cmpFB_ok h
          exact ⟨t :: c2, rfl, .word h1 h2 (kindOk_of hk) k2⟩
        · cases h
theorem cmpOk_of {P : Program} {t : Nat} {c : List Ty} (h : cmpB P t c = true) : CmpOk P t c := by
  simp only [cmpB, Bool.and_eq_true, Bool.not_eq_true'] at h
  obtain ⟨⟨⟨h1, h2⟩, h3⟩, h4⟩ := h
  refine ⟨?_, h2, h3, ?_⟩
  · split at h1
    · rename_i F hF; rw [hF]; simp [Program.fieldsOf, hF]
    · cases h1
  · split at h4
    · rename_i e
      obtain ⟨c1, rfl, k⟩ := cmpFB_ok e
      simpa using k
    · cases h4
theorem tOk_of {P : Program} {T : Tab} {t : Nat} {ti : TI} (h : tokB P T t ti = true) : TOk P T t ti := by
  unfold tokB at h
  simp only [Bool.and_eq_true] at h
  obtain ⟨⟨⟨⟨⟨⟨h1, h2⟩, h3⟩, h4⟩, h6⟩, h5⟩, h7⟩ := h
  refine ⟨descOk_of h1, ?_, Nat.eq_of_beq_eq_true h3, Nat.le_of_ble_eq_true h4, Nat.eq_of_beq_eq_true h6, fun n1 n2 => ?_, fun hc => ?_⟩
  rotate_right
  · split at h7
    · rename_i e; exact absurd e hc
    · rename_i d c e; rw [e]; exact cmpOk_of h7
  · split at h2
    · rename_i i hi
      split at h2
      · rename_i z hz
        simp only [Bool.and_eq_true] at h2
        exact ⟨i, z, hi, Nat.eq_of_beq_eq_true h2.1.1, Nat.eq_of_beq_eq_true h2.1.2, hz, vEqL_eq h2.2⟩
      · cases h2
    · cases h2
  · split at h5
    · rename_i fs e; exact absurd e (n1 fs)
    · rename_i n e he; exact absurd he (n2 n e)
    · exact Nat.eq_of_beq_eq_true h5
theorem tabOk_of {P : Program} {T : Tab} (h : tabB P T = true) : TabOk P T := by
  intro t h0
  unfold ty at h0 ⊢
  cases hg : T.get t with
  | none => rw [hg] at h0; exact absurd rfl h0
  | some x => exact tOk_of (Tr.all_get h hg)
end
end Go.Eng
