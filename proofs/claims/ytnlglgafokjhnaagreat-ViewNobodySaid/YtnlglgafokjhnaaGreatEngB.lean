/-
  Texts that the law leans on. Nothing here is trusted.
-/
import Derived.Test.YtnlglgafokjhnaaGreatEngA
set_option linter.unusedVariables false
set_option linter.unusedSimpArgs false
namespace Go.Eng
open Go Go.RowKit
theorem fVal_eq (x : Value) (K : Value → Prop) : fVal x K = K x := by cases x <;> rfl
theorem fSV0_eq (x : SV) (K : SV → Prop) : fSV0 x K = K x := by
  cases x with
  | v x => exact fVal_eq x fun y => K (.v y)
  | bb b => cases b <;> rfl
  | _ => rfl
theorem fSVL_eq : ∀ (l : List SV) (K : List SV → Prop), fSVL l K = K l
  | [], K => rfl
  | x :: r, K => by rw [fSVL_c, fSV0_eq, fSVL_eq]
theorem fSV_eq (x : SV) (K : SV → Prop) : fSV x K = K x := by
  cases x with
  | v x => exact fVal_eq x fun y => K (.v y)
  | bb b => cases b <;> rfl
  | agg cs => exact fSVL_eq cs fun l => K (.agg l)
  | tup cs => exact fSVL_eq cs fun l => K (.tup l)
  | fn f cs => exact fSVL_eq cs fun l => K (.fn f l)
  | _ => rfl
theorem fLB_eq (x : LB) (K : LB → Prop) : fLB x K = K x := by
  cases x with
  | cells T cs => simp [fLB, fSVL_eq]
  | arr E sz n xs => rfl
  | row E sz n cs => simp [fLB, fSVL_eq]
  | dfr => rfl
  | mp es c => rfl
  | sb E n xs => rfl
  | loop st pe =>
    unfold fLB
    dsimp only
    split <;> rfl
theorem fLL_eq : ∀ (l : LL) (K : LL → Prop), fLL l K = K l
  | [], K => rfl
  | (k, x) :: r, K => by rw [fLL_c, fLB_eq, fLL_eq]
theorem fFr_eq : ∀ (l : Fr) (K : Fr → Prop), fFr l K = K l
  | [], K => rfl
  | (k, x) :: r, K => by rw [fFr_c, fSV_eq, fFr_eq]
mutual
def okv (S : Pl) : SV → Value → Prop
  | .bad, _ => True
  | .agg cs, x => ∃ vs, x = .agg vs.toArray ∧ okL S cs vs
  | .tup cs, x => ∃ vs, x = .tuple vs.toArray ∧ okL S cs vs
  | .fn f cs, x => ∃ vs, x = .func (.func f) #[] vs.toArray ∧ okL S cs vs
  | .v y, x => x = y
  | .bb b, x => x = .bool b
  | .b p d, x => x = .bool (@decide p d)
  | .lp k o, x => x = .pointer (some ⟨(S k).b, o, none⟩)
  | .own k, x => x = .slice (S k).A (S k).n (S k).c
  | .el A j, x => ∃ a, A = some a ∧ x = .pointer (some (a.add j))
  | .yl k, x => x = .func (.yield (S k).b) #[] #[]
  | .vw k lo sz n ex, x => ∃ A c, x = .slice A n c ∧ n ≤ c ∧ (n = 0 ∨ A = (S k).A.map (·.add (lo * sz))) ∧ (ex = true → lo = 0 → A = (S k).A ∧ c = (S k).c)
  | .lq k, x => x = .pointer none ∨ x = .pointer (some ⟨(S k).b, 0, none⟩)
  | .ls k n, x => x = .slice (some ⟨(S k).b, 0, none⟩) n n
  | .mr k, x => x = .map (some (S k).b)
def okL (S : Pl) : List SV → List Value → Prop
  | [], [] => True
  | x :: r, y :: s => okv S x y ∧ okL S r s
  | _, _ => False
end
theorem okL_length {S : Pl} : ∀ {cs : List SV} {vs : List Value}, okL S cs vs → cs.length = vs.length
  | [], [], _ => rfl
  | x :: r, y :: s, h => by simp [okL_length h.2]
  | [], _ :: _, h => by cases h
  | _ :: _, [], h => by cases h
theorem okL_nth {S : Pl} : ∀ {cs : List SV} {vs : List Value}, okL S cs vs → ∀ {i : Nat} {x : SV}, nth cs i = some x → ∃ v, vs[i]? = some v ∧ okv S x v
  | [], [], _, i, x, hi => by simp [nth_n] at hi
  | x :: r, y :: s, h, 0, z, hi => by simp [nth_0] at hi; subst hi; exact ⟨y, rfl, h.1⟩
  | x :: r, y :: s, h, i + 1, z, hi => by simp only [nth_s] at hi; simpa using okL_nth h.2 hi
  | [], _ :: _, h, _, _, _ => by cases h
  | _ :: _, [], h, _, _, _ => by cases h
theorem okL_append {S : Pl} : ∀ {a b : List SV} {x y : List Value}, okL S a x → okL S b y → okL S (a ++ b) (x ++ y)
  | [], _, [], _, _, h => h
  | _ :: _, _, _ :: _, _, h, h' => ⟨h.1, okL_append h.2 h'⟩
  | [], _, _ :: _, _, h, _ => by cases h
  | _ :: _, _, [], _, h, _ => by cases h
theorem okL_take {S : Pl} : ∀ {cs : List SV} {vs : List Value} (n : Nat), okL S cs vs → okL S (takeN cs n) (vs.take n)
  | [], [], n, _ => by cases n <;> simp [takeN, okL]
  | _ :: _, _ :: _, 0, _ => by simp [takeN, okL]
  | _ :: _, _ :: _, n + 1, h => by simp only [takeN, List.take_succ_cons]; exact ⟨h.1, okL_take n h.2⟩
  | [], _ :: _, _, h => by cases h
  | _ :: _, [], _, h => by cases h
theorem okL_drop {S : Pl} : ∀ {cs : List SV} {vs : List Value} (n : Nat), okL S cs vs → okL S (dropN cs n) (vs.drop n)
  | [], [], n, _ => by cases n <;> simp [dropN, okL]
  | _ :: _, _ :: _, 0, h => h
  | _ :: _, _ :: _, n + 1, h => by simp only [dropN, List.drop_succ_cons]; exact okL_drop n h.2
  | [], _ :: _, _, h => by cases h
  | _ :: _, [], _, h => by cases h
theorem okL_set {S : Pl} : ∀ {cs : List SV} {vs : List Value} (n : Nat) {x : SV} {v : Value}, okL S cs vs → okv S x v → okL S (setN cs n x) (vs.set n v)
  | [], [], n, _, _, _, _ => by simp [setN, okL]
  | _ :: _, _ :: _, 0, _, _, h, hx => ⟨hx, h.2⟩
  | _ :: _, _ :: _, n + 1, _, _, h, hx => ⟨h.1, okL_set n h.2 hx⟩
  | [], _ :: _, _, _, _, h, _ => by cases h
  | _ :: _, [], _, _, _, h, _ => by cases h
theorem length_takeN {α : Type} : ∀ (l : List α) (n : Nat), (takeN l n).length = min n l.length
  | _, 0 => by simp [takeN]
  | [], n + 1 => by simp [takeN]
  | x :: r, n + 1 => by simp [takeN, length_takeN r n]
theorem length_dropN {α : Type} : ∀ (l : List α) (n : Nat), (dropN l n).length = l.length - n
  | _, 0 => by simp [dropN]
  | [], n + 1 => by simp [dropN]
  | x :: r, n + 1 => by simp [dropN, length_dropN r n]
def jumpOf : Ex → Option Code
  | .norm => none
  | .ret => some .ret
  | .exit n => some (.exit n)
  | .goto n => some (.goto n)
def chunk (N0 : Nat) (S : Pl) (k : Nat) (lb : LB) (w : World) : Prop :=
  match lb with
  | .cells T cs => N0 ≤ (S k).b ∧ ∃ vs, w.heap[(S k).b]? = some (.cells vs.toArray T (0, 0)) ∧ okL S cs vs
  | .arr E sz n xs => w.ownsRow N0 E sz (.slice (S k).A (S k).n (S k).c) n xs ∧ (S k).n = n ∧ 0 < sz ∧ (∀ x ∈ xs, x.oneCell' = true) ∧ ((S k).A = none ∨ (S k).A = some ⟨(S k).b, 0, none⟩)
  | .row E sz n cs => ∃ xs, (w.ownsRow N0 E sz (.slice (S k).A (S k).n (S k).c) n xs ∧ (S k).n = n ∧ 0 < sz ∧ (∀ x ∈ xs, x.oneCell' = true) ∧ ((S k).A = none ∨ (S k).A = some ⟨(S k).b, 0, none⟩)) ∧ okL S cs xs
  | .dfr => N0 ≤ (S k).b ∧ w.heap[(S k).b]? = some (.deferred (some []))
  | .sb E n xs => N0 ≤ (S k).b ∧ (S k).A = some ⟨(S k).b, 0, none⟩ ∧ (S k).n = n ∧ n ≤ (S k).c ∧ xs.length = n ∧ ∃ cur fz, w.heap[(S k).b]? = some (.cells cur E fz) ∧ cur.toList.take n = xs
  | .mp es c => N0 ≤ (S k).b ∧ w.heap[(S k).b]? = some (.map es.toArray c)
  | .loop st pe => N0 ≤ (S k).b ∧ w.heap[(S k).b]? = some (.loop { (S k).r with state := st, pending := pe.bind jumpOf })
def blk (S : Pl) (k : Nat) : LB → Option Nat
  | .cells _ _ => some (S k).b
  | .arr _ _ _ _ => (S k).A.map (·.block)
  | .row _ _ _ _ => (S k).A.map (·.block)
  | .dfr => some (S k).b
  | .loop _ _ => some (S k).b
  | .mp _ _ => some (S k).b
  | .sb _ _ _ => some (S k).b
theorem chunk_same {N0 : Nat} {S : Pl} {k : Nat} {lb : LB} {w w' : World} (h : chunk N0 S k lb w) (hs : ∀ b, blk S k lb = some b → w'.heap[b]? = w.heap[b]?) : chunk N0 S k lb w' := by
  cases lb with
  | cells T cs => obtain ⟨h1, vs, h2, h3⟩ := h; exact ⟨h1, vs, (hs _ rfl).trans h2, h3⟩
  | dfr => exact ⟨h.1, (hs _ rfl).trans h.2⟩
  | mp es c => exact ⟨h.1, (hs _ rfl).trans h.2⟩
  | sb E n xs => obtain ⟨h1, h2, h3, h4, h5, cur, fz, h6, h7⟩ := h; exact ⟨h1, h2, h3, h4, h5, cur, fz, (hs _ rfl).trans h6, h7⟩
  | loop st pe => exact ⟨h.1, (hs _ rfl).trans h.2⟩
  | arr E sz n xs =>
    obtain ⟨⟨h1, h2⟩, h3, h4⟩ := h
    refine ⟨⟨h1, ?_⟩, h3, h4⟩
    rcases h2 with h2 | ⟨g, cap, cur, hv, hg, hh, r⟩
    · exact .inl h2
    · refine .inr ⟨g, cap, cur, hv, hg, ?_, r⟩
      rw [hs g ?_]
      · exact hh
      · injection hv with h _ _
        simp [blk, h]
  | row E sz n cs =>
    obtain ⟨xs, ⟨⟨h1, h2⟩, h3, h4⟩, h5⟩ := h
    refine ⟨xs, ⟨⟨h1, ?_⟩, h3, h4⟩, h5⟩
    rcases h2 with h2 | ⟨g, cap, cur, hv, hg, hh, r⟩
    · exact .inl h2
    · refine .inr ⟨g, cap, cur, hv, hg, ?_, r⟩
      rw [hs g ?_]
      · exact hh
      · injection hv with h _ _
        simp [blk, h]
structure W0 where
  w : World
  F : Nat → Prop
  lt : ∀ b, F b → b < w.heap.size
  F0 : Nat → Prop
  sub : ∀ b, F0 b → F b
  q : PH
structure Bel (w0 : W0) (w : World) : Prop where
  os : w.os = w0.w.os
  tape : w.tape = w0.w.tape
  output : w.output = w0.w.output
  size : w0.w.heap.size ≤ w.heap.size
  block : ∀ b, w0.F b → w.heap[b]? = w0.w.heap[b]?
theorem Bel.refl (w0 : W0) : Bel w0 w0.w := ⟨rfl, rfl, rfl, Nat.le_refl _, fun _ _ => rfl⟩
theorem Bel.trans {w0 : W0} {w w' : World} (h : Bel w0 w) (hb : Below w.heap.size w w') : Bel w0 w' :=
  ⟨hb.os.trans h.os, hb.tape.trans h.tape, hb.output.trans h.output, Nat.le_trans h.size hb.size, fun b hF => (hb.block b (Nat.lt_of_lt_of_le (w0.lt b hF) h.size)).trans (h.block b hF)⟩
theorem Bel.grown {w0 : W0} {w w' : World} {row : Option Nat} (h : Bel w0 w) (hg : w.grownBy w' row) (hr : ∀ k, row = some k → ¬ w0.F k) : Bel w0 w' :=
  ⟨hg.os.trans h.os, hg.tape.trans h.tape, hg.output.trans h.output, Nat.le_trans h.size hg.size, fun b hF => (hg.block b (Nat.lt_of_lt_of_le (w0.lt b hF) h.size) (fun e => hr b e.symm hF)).trans (h.block b hF)⟩
theorem Bel.drew {w0 : W0} {w : World} (h : Bel w0 w) : Bel w0 w.drew := h.trans (Below.refl _ w).drew
def W0.all (w : World) : W0 := ⟨w, fun b => b < w.heap.size, fun _ h => h, fun b => b < w.heap.size, fun _ h => h, fun b o => w.cell? ⟨b, o, none⟩⟩
theorem Bel.below {w w' : World} (h : Bel (W0.all w) w') : Below w.heap.size w w' := ⟨h.os, h.tape, h.output, h.size, h.block⟩
structure Cl (w0 : W0) (p : PH) (S : Pl) (L : LL) (w1 w : World) : Prop where
  ch : ∀ k lb, getL L k = some lb → ∀ b, blk S k lb = some b → w.heap[b]? = w1.heap[b]?
  on : PH.on p w
  be : Bel w0 w
def okF (S : Pl) (fr : Fr) (tm : Array Value) : Prop := ∀ t, okv S (get fr t) (tm.getD t undef)
theorem opv_ok {S : Pl} {fr : Fr} {a : Act} (h : okF S fr a.tmps) (x : Operand) : okv S (opv fr x) (a.eval x) := by
  cases x with
  | tmp t => exact h t
  | const v => cases v <;> simp [opv, okv, Act.eval]
  | global g => simp [opv, okv]
  | func f => exact ⟨[], rfl, trivial⟩
theorem opvs_ok {S : Pl} {fr : Fr} {a : Act} (h : okF S fr a.tmps) : ∀ (l : List Operand), okL S (opvs fr l) (l.map a.eval)
  | [] => trivial
  | x :: r => ⟨opv_ok h x, opvs_ok h r⟩
def sizeOk (P : Program) (T : Tab) (e : Nat) : Prop := 0 < (ty T e).sz ∧ ∃ i, P.info? e = some i ∧ i.size = (ty T e).sz ∧ i.bytes = (ty T e).byt
def descOk (P : Program) (T : Tab) (t : Nat) : Ty → Prop
  | .int k => P.underlying t = some (.int k)
  | .bool => P.underlying t = some .bool
  | .str => P.underlying t = some .string
  | .flt k => P.underlying t = some (.float k)
  | .ptr e => P.underlying t = some (.pointer e)
  | .slice e => P.underlying t = some (.slice e) ∧ sizeOk P T e
  | .struct fs => ∃ F : Array Field, P.underlying t = some (.struct F) ∧ F.toList.map (fun f => (f.offset, f.type)) = fs ∧ ∀ x ∈ fs, sizeOk P T x.2
  | .arr n e => P.underlying t = some (.array n e) ∧ sizeOk P T e
  | .func => ∃ a b c, P.underlying t = some (.func a b c)
  | .map k e => P.underlying t = some (.map k e)
  | .other => True
def kindOk (P : Program) (t : Nat) : Ty → Prop
  | .int _ => ∃ k, P.underlying t = some (.int k)
  | .str => P.underlying t = some .string
  | .bool => P.underlying t = some .bool
  | _ => False
inductive CmpF (P : Program) : Nat → List Field → Nat → List Ty → Prop
  | nil {n j} : CmpF P n [] j []
  | word {n f fs j t c} : f.offset = j → f.name ≠ "_" → kindOk P f.type t → CmpF P n fs (j + 1) c → CmpF P (n + 1) (f :: fs) j (t :: c)
  | sub {n f fs j c1 c2 i} : f.offset = j → f.name ≠ "_" → P.underlying f.type = some (.struct (P.fieldsOf f.type)) → P.stoodInHeld f.type = false → P.info? f.type = some i → i.size = c1.length →
      CmpF P n (P.fieldsOf f.type).toList 0 c1 → CmpF P n fs (j + c1.length) c2 → CmpF P (n + 1) (f :: fs) j (c1 ++ c2)
def CmpOk (P : Program) (t : Nat) (c : List Ty) : Prop :=
  P.underlying t = some (.struct (P.fieldsOf t)) ∧ P.stoodInHeld t = false ∧ P.eqGuardType P.depth t = false ∧ CmpF P 64 (P.fieldsOf t).toList 0 c
structure TOk (P : Program) (T : Tab) (t : Nat) (ti : TI) : Prop where
  d : descOk P T t ti.d
  i : ∃ i z, P.info? t = some i ∧ i.size = ti.sz ∧ i.bytes = ti.byt ∧ i.zero = some z ∧ z.cells.toList = ti.zero
  fl : ti.flat.length = ti.sz
  pos : 0 < ti.sz
  zl : ti.zero.length = ti.sz
  one : (∀ fs, ti.d ≠ .struct fs) → (∀ n e, ti.d ≠ .arr n e) → ti.sz = 1
  cm : ti.cmp ≠ [] → CmpOk P t ti.cmp
def TabOk (P : Program) (T : Tab) : Prop := ∀ t, (ty T t).d ≠ .other → TOk P T t (ty T t)
end Go.Eng
