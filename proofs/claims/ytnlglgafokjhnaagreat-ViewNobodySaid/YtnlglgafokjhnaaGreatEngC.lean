/-
  Texts that the law leans on. Nothing here is trusted.
-/
import Derived.Test.YtnlglgafokjhnaaGreatEngB
import Derived.Laws.Slices
import Derived.Laws.Strings
import Derived.WalkLawsBesides
import Derived.WalkKit
set_option linter.unusedVariables false
set_option linter.unusedSimpArgs false
namespace Go.Eng
open Go Go.RowKit
variable {P : Program} {T : Tab} {Γ : List Spec} {S : Pl} {fr : Fr} {L : LL} {p : PH} {N0 : Nat} {w0 : W0} {a : Act} {C : World → Prop}
def Yl (P : Program) (C : World → Prop) (ρ : Operand → Value) (o : Oper) (x : Value) : Prop := ∀ w, C w → Oper.quietUpon P (fun w' => Below w.heap.size w w') w x ((execOp ρ o).run P w)
theorem wrap_inR {k : IntKind} {n : Int} (h : inR k n) : k.wrap n = n := by
  cases k <;> simp only [inR] at h <;> simp [IntKind.wrap, IntKind.bits, IntKind.signed] <;> omega
theorem kc_inj {k k' : IntKind} (h : Nat.beq (kc k) (kc k') = true) : k = k' := by
  cases k <;> cases k' <;> first | rfl | (simp [kc] at h)
theorem bin_run {op : BinOp} {t : TypeId} {x y : Operand} {u v r : Value} {w : World} (hg : eqGuard op t x y u v = pure ()) (h : (binOp op t u v).run P w = .ok r w) :
    (do eqGuard op t x y u v; binOp op t u v : Sem Value).run P w = .ok r w := by
  rw [hg]
  simpa using h
theorem arK_ok {wr : Bool} {k : IntKind} {n : Int} {K : SV → Prop} (h : arK wr k n K) : ∃ sv, K sv ∧ okv S sv (.int k (k.wrap n)) := by
  cases wr with
  | true => exact ⟨_, h, rfl⟩
  | false => exact ⟨_, h.2, by rw [wrap_inR h.1.out]; rfl⟩
theorem beqD (m n : Int) : (m == n) = decide (m = n) := by rw [Bool.eq_iff_iff]; simp
theorem intK_ok {op : BinOp} {wr : Bool} {k : IntKind} {m n : Int} {K : SV → Prop} (h : intK op wr k m n K) (t : TypeId) :
    ∃ x sv, K sv ∧ okv S sv x ∧ ∀ w, (binOp op t (.int k m) (.int k n)).run P w = .ok x w := by
  cases op <;> simp only [intK] at h
  case add => obtain ⟨sv, h1, h2⟩ := arK_ok (S := S) h; exact ⟨_, sv, h1, h2, fun w => by simp [binOp_add, Op.intArith]⟩
  case sub => obtain ⟨sv, h1, h2⟩ := arK_ok (S := S) h; exact ⟨_, sv, h1, h2, fun w => by simp [binOp_sub, Op.intArith]⟩
  case mul => obtain ⟨sv, h1, h2⟩ := arK_ok (S := S) h; exact ⟨_, sv, h1, h2, fun w => by simp [binOp_mul, Op.intArith]⟩
  case quo =>
    obtain ⟨hb, h⟩ := h
    obtain ⟨sv, h1, h2⟩ := arK_ok (S := S) h
    exact ⟨_, sv, h1, h2, fun w => by simp [binOp_quo, Op.intDiv, hb.out]⟩
  case rem =>
    obtain ⟨hb, h⟩ := h
    exact ⟨_, _, h, rfl, fun w => by simp [binOp_rem, Op.intDiv, hb.out]⟩
  case and => exact ⟨_, _, h, rfl, fun w => by simp [binOp_and, intBits_and]⟩
  case or => exact ⟨_, _, h, rfl, fun w => by simp [binOp_or, intBits_or]⟩
  case xor => exact ⟨_, _, h, rfl, fun w => by simp [binOp_xor, intBits_xor]⟩
  case eql => exact ⟨_, _, h, rfl, fun w => by simp [binOp_eql, beqD]⟩
  case neq => exact ⟨_, _, h, rfl, fun w => by simp [binOp_neq, bne, beqD]⟩
  case lss => exact ⟨_, _, h, rfl, fun w => by simp [binOp_lss]⟩
  case leq => exact ⟨_, _, h, rfl, fun w => by simp [binOp_leq]⟩
  case gtr => exact ⟨_, _, h, rfl, fun w => by simp [binOp_gtr]⟩
  case geq => exact ⟨_, _, h, rfl, fun w => by simp [binOp_geq]⟩
  all_goals exact h.elim
theorem shK_ok {op : BinOp} {k k' : IntKind} {m n : Int} {K : SV → Prop} (h : shK op k m n K) (t : TypeId) :
    ∃ x sv, K sv ∧ okv S sv x ∧ ∀ w, (binOp op t (.int k m) (.int k' n)).run P w = .ok x w := by
  cases op <;> simp only [shK] at h
  case shl => exact ⟨_, _, h.2, rfl, fun w => by rw [binOp_shl, shift_shl k k' m n h.1.out.1 h.1.out.2]; simp⟩
  case shr => exact ⟨_, _, h.2, rfl, fun w => by rw [binOp_shr, shift_shr k k' m n h.1.out.1 h.1.out.2]; simp⟩
  all_goals exact h.elim
theorem strK_ok {op : BinOp} {s u : ByteArray} {K : SV → Prop} (h : strK op s u K) (t : TypeId) :
    ∃ x sv, K sv ∧ okv S sv x ∧ ∀ w, (binOp op t (.string s) (.string u)).run P w = .ok x w := by
  have e : (s.toList == u.toList) = decide (s.data.toList = u.data.toList) := by
    rw [ByteArray.toList_eq, ByteArray.toList_eq]
    exact Bool.eq_iff_iff.2 (by simp)
  cases op <;> simp only [strK] at h
  case add =>
    refine ⟨_, _, h.2, rfl, fun w => ?_⟩
    have := h.1.out
    simp only [binOp, Op.stringOp]
    rw [if_neg (by simp; omega)]
    simp
  case eql => exact ⟨_, _, h, rfl, fun w => by simp only [binOp, Op.stringOp, e]; simp⟩
  case neq => exact ⟨_, _, h, rfl, fun w => by simp only [binOp, Op.stringOp, e]; simp⟩
  all_goals exact h.elim
theorem fkc_eq : ∀ {k k' : FloatKind}, fkc k k' = true → k = k'
  | .f32, .f32, _ => rfl
  | .f64, .f64, _ => rfl
  | .f32, .f64, h => by cases h
  | .f64, .f32, h => by cases h
theorem fltK_ok {op : BinOp} {k : FloatKind} {m n : Nat} {K : SV → Prop} (h : fltK op k m n K) (t : TypeId) :
    ∃ x sv, K sv ∧ okv S sv x ∧ ∀ w, (binOp op t (.float k m) (.float k n)).run P w = .ok x w := by
  have e : ∀ (x : Option Ordering) (y : Ordering), (x == some y) = decide (x = some y) := fun x y => by
    rw [Bool.eq_iff_iff]; simp
  cases op <;> simp only [fltK, flrK] at h
  case add => obtain ⟨⟨r, hr⟩, h⟩ := h; exact ⟨_, _, h r hr, rfl, fun w => by simp [binOp, Op.floatArith, hr]⟩
  case sub => obtain ⟨⟨r, hr⟩, h⟩ := h; exact ⟨_, _, h r hr, rfl, fun w => by simp [binOp, Op.floatArith, hr]⟩
  case mul => obtain ⟨⟨r, hr⟩, h⟩ := h; exact ⟨_, _, h r hr, rfl, fun w => by simp [binOp, Op.floatArith, hr]⟩
  case quo => obtain ⟨⟨r, hr⟩, h⟩ := h; exact ⟨_, _, h r hr, rfl, fun w => by simp [binOp, Op.floatArith, hr]⟩
  case eql => exact ⟨_, _, h, rfl, fun w => by simp only [binOp, ne_eq, not_true, if_false, Op.floatCmp, e]; simp⟩
  case neq => exact ⟨_, _, h, rfl, fun w => by simp only [binOp, ne_eq, not_true, if_false, Op.floatCmp, bne, e]; simp⟩
  case lss => exact ⟨_, _, h, rfl, fun w => by simp only [binOp, ne_eq, not_true, if_false, Op.floatCmp, e]; simp⟩
  case leq => exact ⟨_, _, h, rfl, fun w => by simp only [binOp, ne_eq, not_true, if_false, Op.floatCmp, e]; simp⟩
  case gtr => exact ⟨_, _, h, rfl, fun w => by simp only [binOp, ne_eq, not_true, if_false, Op.floatCmp, e]; simp⟩
  case geq => exact ⟨_, _, h, rfl, fun w => by simp only [binOp, ne_eq, not_true, if_false, Op.floatCmp, e]; simp⟩
  all_goals exact h.elim
theorem notK_ok {x : SV} {u : Value} {K : SV → Prop} (h : notK x K) (hx : okv S x u) :
    ∃ b sv, u = .bool b ∧ K sv ∧ okv S sv (.bool (!b)) := by
  cases x with
  | bb b => cases hx; cases b <;> exact ⟨_, _, rfl, h, rfl⟩
  | b q d => cases hx; exact ⟨_, _, rfl, h, by simp [okv]⟩
  | _ => exact h.elim
section
variable (d : Nat) (w : World)
theorem eqI_bool {t : TypeId} (ht : P.underlying t = some .bool) (m n : Bool) : (Op.equalIn (d + 1) t (.bool m) (.bool n)).run P w = .ok (m == n) w := by
  simp [Op.equalIn, run_underlying ht]
theorem eqI_ptr {t el : TypeId} (ht : P.underlying t = some (.pointer el)) (A : Option Addr) : (Op.equalIn (d + 1) t (.pointer A) (.pointer none)).run P w = .ok (decide (A = none)) w := by
  cases A <;> simp [Op.equalIn, run_underlying ht]
theorem eqI_ptr' {t el : TypeId} (ht : P.underlying t = some (.pointer el)) (A : Option Addr) : (Op.equalIn (d + 1) t (.pointer none) (.pointer A)).run P w = .ok (decide (A = none)) w := by
  cases A <;> simp [Op.equalIn, run_underlying ht]
theorem eqI_func {t : TypeId} {fa fb : Array TypeId} {fc : Bool} (ht : P.underlying t = some (.func fa fb fc)) (f : Fn) (x y : Array Value) : (Op.equalIn (d + 1) t (.func f x y) .nilFunc).run P w = .ok false w := by
  simp [Op.equalIn, run_underlying ht]
theorem eqI_nilf {t : TypeId} {fa fb : Array TypeId} {fc : Bool} (ht : P.underlying t = some (.func fa fb fc)) : (Op.equalIn (d + 1) t .nilFunc .nilFunc).run P w = .ok true w := by
  simp [Op.equalIn, run_underlying ht]
theorem eqI_slice {t el : TypeId} (ht : P.underlying t = some (.slice el)) (A : Option Addr) (n c n' c' : Nat) : (Op.equalIn (d + 1) t (.slice A n c) (.slice none n' c')).run P w = .ok (decide (A = none)) w := by
  cases A <;> simp [Op.equalIn, run_underlying ht]
theorem eqI_map {t k e : TypeId} (ht : P.underlying t = some (.map k e)) (m : Option Nat) : (Op.equalIn (d + 1) t (.map m) (.map none)).run P w = .ok (decide (m = none)) w := by
  cases m <;> simp [Op.equalIn, run_underlying ht]
end
theorem eqK_ok (hT : TabOk P T) {t : TypeId} {x y : SV} {u v : Value} {K : SV → Prop} (h : eqK (ty T t).d x y K) (hx : okv S x u) (hy : okv S y v) :
    ∃ b sv, K sv ∧ okv S sv (.bool b) ∧ (∀ w, (Op.equal t u v).run P w = .ok b w) ∧ (∀ op X Y, eqGuard op t X Y u v = pure ()) ∧ (∀ w, (binOp .eql t u v).run P w = .ok (.bool b) w) ∧ (∀ w, (binOp .neq t u v).run P w = .ok (.bool (!b)) w) := by
  have key : ∀ (b : Bool), (∀ w, (Op.equal t u v).run P w = .ok b w) → (∀ op X Y, eqGuard op t X Y u v = pure ()) →
      (∀ w, (binOp .eql t u v).run P w = (do pure (.bool (← Op.equal t u v)) : Sem Value).run P w) → (∀ w, (binOp .neq t u v).run P w = (do pure (.bool (!(← Op.equal t u v))) : Sem Value).run P w) →
      (∀ w, (Op.equal t u v).run P w = .ok b w) ∧ (∀ op X Y, eqGuard op t X Y u v = pure ()) ∧ (∀ w, (binOp .eql t u v).run P w = .ok (.bool b) w) ∧ (∀ w, (binOp .neq t u v).run P w = .ok (.bool (!b)) w) := by
    intro b h1 h2 h3 h4
    exact ⟨h1, h2, fun w => by rw [h3]; simp [h1], fun w => by rw [h4]; simp [h1]⟩
  have hd := fun h0 => (hT t h0).d
  cases e : (ty T t).d <;> rw [e] at h hd <;> simp only [eqK] at h
  case bool =>
    have ht : P.underlying t = some .bool := hd (by simp)
    have hb : ∀ (m n : Bool) w, (Op.equal t (.bool m) (.bool n)).run P w = .ok (m == n) w := fun m n w => eqI_bool 9999 w ht m n
    have fin : ∀ (m n : Bool) (sv : SV), u = .bool m → v = .bool n → K sv → okv S sv (.bool (m == n)) → ∃ b sv, K sv ∧ okv S sv (.bool b) ∧ (∀ w, (Op.equal t u v).run P w = .ok b w) ∧ (∀ op X Y, eqGuard op t X Y u v = pure ()) ∧ (∀ w, (binOp .eql t u v).run P w = .ok (.bool b) w) ∧ (∀ w, (binOp .neq t u v).run P w = .ok (.bool (!b)) w) := by
      rintro m n sv rfl rfl hK hs
      exact ⟨_, sv, hK, hs, key _ (hb m n) (fun op X Y => eqGuard_at_bool ..) (fun w => rfl) (fun w => rfl)⟩
    split at h
    · cases hx; cases hy; exact fin _ _ _ rfl rfl h rfl
    · cases hx; cases hy; exact fin _ _ _ rfl rfl h rfl
    · cases hx; cases hy; exact fin _ _ _ rfl rfl h rfl
    · cases hx; cases hy; exact fin _ _ _ rfl rfl h rfl
    · cases hx; cases hy; exact fin _ _ _ rfl rfl h (by simp [okv])
    · cases hx; cases hy; exact fin _ _ _ rfl rfl h (by simp [okv])
    · cases hx; cases hy; exact fin _ _ _ rfl rfl h (by simp [okv])
    · cases hx; cases hy; exact fin _ _ _ rfl rfl h (by simp [okv])
    · rename_i q dq q' dq'
      cases hx; cases hy
      refine fin _ _ _ rfl rfl h ?_
      simp only [okv, Value.bool.injEq]
      by_cases h1 : q <;> by_cases h2 : q' <;> simp [h1, h2]
    · exact h.elim
  case ptr el =>
    have ht : P.underlying t = some (.pointer el) := hd (by simp)
    split at h
    · cases hx; cases hy
      exact ⟨false, _, h, rfl, key _ (fun w => eqI_ptr 9999 w ht _) (fun op X Y => eqGuard_at_pointer ..) (fun w => rfl) (fun w => rfl)⟩
    · cases hx; cases hy
      exact ⟨false, _, h, rfl, key _ (fun w => eqI_ptr' 9999 w ht _) (fun op X Y => eqGuard_at_pointer ..) (fun w => rfl) (fun w => rfl)⟩
    · cases hx; cases hy
      exact ⟨false, _, h, rfl, key _ (fun w => eqI_ptr 9999 w ht _) (fun op X Y => eqGuard_at_pointer ..) (fun w => rfl) (fun w => rfl)⟩
    · cases hx; cases hy
      exact ⟨true, _, h, rfl, key _ (fun w => eqI_ptr 9999 w ht _) (fun op X Y => eqGuard_at_pointer ..) (fun w => rfl) (fun w => rfl)⟩
    · exact h.elim
  case func =>
    obtain ⟨fa, fb, fc, ht⟩ : ∃ a b c, P.underlying t = some (.func a b c) := hd (by simp)
    split at h
    · obtain ⟨vs, rfl, _⟩ := hx
      cases hy
      exact ⟨false, _, h, rfl, key _ (fun w => eqI_func 9999 w ht _ _ _) (fun op X Y => eqGuard_at_func ..) (fun w => rfl) (fun w => rfl)⟩
    · cases hx; cases hy
      exact ⟨false, _, h, rfl, key _ (fun w => eqI_func 9999 w ht _ _ _) (fun op X Y => eqGuard_at_func ..) (fun w => rfl) (fun w => rfl)⟩
    · cases hx; cases hy
      exact ⟨true, _, h, rfl, key _ (fun w => eqI_nilf 9999 w ht) (fun op X Y => eqGuard_at_nilFunc ..) (fun w => rfl) (fun w => rfl)⟩
    · exact h.elim
  case map kt et =>
    have ht : P.underlying t = some (.map kt et) := hd (by simp)
    split at h
    · cases hx; cases hy
      exact ⟨false, _, h, rfl, key _ (fun w => eqI_map 9999 w ht _) (fun op X Y => eqGuard_at_map ..) (fun w => rfl) (fun w => rfl)⟩
    · cases hx; cases hy
      exact ⟨true, _, h, rfl, key _ (fun w => eqI_map 9999 w ht _) (fun op X Y => eqGuard_at_map ..) (fun w => rfl) (fun w => rfl)⟩
    · exact h.elim
  case slice el =>
    have ht : P.underlying t = some (.slice el) := (hd (by simp)).1
    split at h
    · rename_i A _ _ _ _
      cases hx; cases hy
      exact ⟨decide (A = none), _, h, rfl, key _ (fun w => eqI_slice 9999 w ht _ _ _ _ _) (fun op X Y => eqGuard_at_slice ..) (fun w => rfl) (fun w => rfl)⟩
    · exact h.elim
  all_goals exact h.elim
inductive CmpL : List Ty → List Value → List Value → Prop → Prop
  | nil : CmpL [] [] [] True
  | int {k0 k m n c us vs p} : CmpL c us vs p → CmpL (.int k0 :: c) (.int k m :: us) (.int k n :: vs) (m = n ∧ p)
  | str {a b c us vs p} : CmpL c us vs p → CmpL (.str :: c) (.string a :: us) (.string b :: vs) (a.data.toList = b.data.toList ∧ p)
  | bool {a b : Bool} {q : Prop} {c us vs p} : (q ↔ a = b) → CmpL c us vs p → CmpL (.bool :: c) (.bool a :: us) (.bool b :: vs) (q ∧ p)
theorem toList_beq (s u : ByteArray) : (s.toList == u.toList) = decide (s.data.toList = u.data.toList) := by
  rw [ByteArray.toList_eq, ByteArray.toList_eq]
  exact Bool.eq_iff_iff.2 (by simp)
theorem cmpL_app : ∀ {c1 c2 : List Ty} {us vs : List Value} {p : Prop}, CmpL (c1 ++ c2) us vs p →
    ∃ p1 p2, (p ↔ p1 ∧ p2) ∧ CmpL c1 (us.take c1.length) (vs.take c1.length) p1 ∧ CmpL c2 (us.drop c1.length) (vs.drop c1.length) p2
  | [], c2, us, vs, p, h => ⟨True, p, by simp, by simpa using CmpL.nil, by simpa using h⟩
  | t :: c1, c2, us, vs, p, h => by
    generalize hc : (t :: c1) ++ c2 = c at h
    cases h with
    | nil => simp at hc
    | int h' =>
      simp only [List.cons_append, List.cons.injEq] at hc
      obtain ⟨rfl, rfl⟩ := hc
      obtain ⟨p1, p2, e, h1, h2⟩ := cmpL_app h'
      exact ⟨_, p2, by rw [e, and_assoc], .int h1, h2⟩
    | str h' =>
      simp only [List.cons_append, List.cons.injEq] at hc
      obtain ⟨rfl, rfl⟩ := hc
      obtain ⟨p1, p2, e, h1, h2⟩ := cmpL_app h'
      exact ⟨_, p2, by rw [e, and_assoc], .str h1, h2⟩
    | bool hq h' =>
      simp only [List.cons_append, List.cons.injEq] at hc
      obtain ⟨rfl, rfl⟩ := hc
      obtain ⟨p1, p2, e, h1, h2⟩ := cmpL_app h'
      exact ⟨_, p2, by rw [e, and_assoc], .bool hq h1, h2⟩
theorem eqFields_f : ∀ {n : Nat} {fs : List Field} {j : Nat} {c : List Ty}, CmpF P n fs j c → ∀ (m : Nat) {us vs : List Value} {p : Prop} [Decidable p], CmpL c (us.drop j) (vs.drop j) p →
    ∀ w, (Op.eqFields (n + m + 1) us.toArray vs.toArray fs).run P w = .ok (decide p) w := by
  intro n fs j c hF
  induction hF with
  | @nil n j =>
    intro m us vs p _ h w
    generalize us.drop j = u at h
    generalize vs.drop j = v at h
    cases h
    simp [Op.eqFields]
  | @word n f fs j t c h1 h2 h4 hc ih =>
    intro m us vs p inst h w
    have dropN : ∀ {l : List Value} {x : Value} {r : List Value}, l.drop j = x :: r → l[j]? = some x ∧ l.drop (j + 1) = r := fun {l x r} e => by
      constructor
      · have := congrArg (fun z => z[0]?) e
        simpa using this
      · rw [← List.drop_drop, e]; rfl
    generalize hu : us.drop j = u at h
    generalize hv : vs.drop j = v at h
    cases h with
    | int h' =>
      obtain ⟨kk, h4⟩ := h4
      obtain ⟨hu1, hu2⟩ := dropN hu
      obtain ⟨hv1, hv2⟩ := dropN hv
      rename_i k0 k a b us' vs' p'
      haveI : Decidable p' := Classical.propDecidable _
      have ih := ih (m + 1) (us := us) (vs := vs) (p := p') (by rw [hu2, hv2]; exact h') w
      have p1 : (part f.type us.toArray f.offset).run P w = .ok (.int k a) w := by
        rw [h1]; simp [part, isAgg, run_underlying h4, hu1]
      have p2 : (part f.type vs.toArray f.offset).run P w = .ok (.int k b) w := by
        rw [h1]; simp [part, isAgg, run_underlying h4, hv1]
      rw [show n + 1 + m + 1 = n + (m + 1) + 1 by omega]
      simp only [Op.eqFields, if_pos h2, Sem.run_bind, p1, p2, Result.andThen_ok, run_equalIn_int w (n + (m + 1)) f.type _ kk _ _ h4, beqD]
      by_cases he : a = b
      · simp only [he, decide_true, Bool.not_true, Bool.false_eq_true, if_false, ih, true_and]
      · simp [he]
    | str h' =>
      replace h4 : P.underlying f.type = some .string := h4
      obtain ⟨hu1, hu2⟩ := dropN hu
      obtain ⟨hv1, hv2⟩ := dropN hv
      rename_i a b us' vs' p'
      haveI : Decidable p' := Classical.propDecidable _
      have ih := ih (m + 1) (us := us) (vs := vs) (p := p') (by rw [hu2, hv2]; exact h') w
      have p1 : (part f.type us.toArray f.offset).run P w = .ok (.string a) w := by
        rw [h1]; simp [part, isAgg, run_underlying h4, hu1]
      have p2 : (part f.type vs.toArray f.offset).run P w = .ok (.string b) w := by
        rw [h1]; simp [part, isAgg, run_underlying h4, hv1]
      rw [show n + 1 + m + 1 = n + (m + 1) + 1 by omega]
      simp only [Op.eqFields, if_pos h2, Sem.run_bind, p1, p2, Result.andThen_ok, run_equalIn_string w (n + (m + 1)) f.type _ _ h4, toList_beq]
      by_cases he : a.data.toList = b.data.toList
      · simp only [he, decide_true, Bool.not_true, Bool.false_eq_true, if_false, ih, true_and]
      · simp [he]
    | bool hq h' =>
      replace h4 : P.underlying f.type = some .bool := h4
      obtain ⟨hu1, hu2⟩ := dropN hu
      obtain ⟨hv1, hv2⟩ := dropN hv
      rename_i a b q us' vs' p'
      haveI : Decidable p' := Classical.propDecidable _
      have ih := ih (m + 1) (us := us) (vs := vs) (p := p') (by rw [hu2, hv2]; exact h') w
      have p1 : (part f.type us.toArray f.offset).run P w = .ok (.bool a) w := by
        rw [h1]; simp [part, isAgg, run_underlying h4, hu1]
      have p2 : (part f.type vs.toArray f.offset).run P w = .ok (.bool b) w := by
        rw [h1]; simp [part, isAgg, run_underlying h4, hv1]
      rw [show n + 1 + m + 1 = n + (m + 1) + 1 by omega]
      simp only [Op.eqFields, if_pos h2, Sem.run_bind, p1, p2, Result.andThen_ok, run_equalIn_bool' w (n + (m + 1)) f.type _ _ h4, beqD]
      by_cases he : a = b
      · have hq' := hq.2 he
        simp [he, ih, hq']
      · have hq' : ¬ q := fun z => he (hq.1 z)
        simp [he, hq']
  | @sub n f fs j c1 c2 i h1 h2 h4 h5 h6 h7 hc1 hc2 ih1 ih2 =>
    intro m us vs p inst h w
    obtain ⟨q1, q2, e, k1, k2⟩ := cmpL_app h
    haveI : Decidable q1 := Classical.propDecidable _
    haveI : Decidable q2 := Classical.propDecidable _
    have ex : ∀ l : List Value, (l.toArray.extract j (j + c1.length)) = ((l.drop j).take c1.length).toArray := fun l => by
      apply Array.toList_inj.1
      rw [Array.toList_extract]
      simp [List.extract]
    have pp : ∀ l : List Value, (part f.type l.toArray f.offset).run P w = .ok (.agg ((l.drop j).take c1.length).toArray) w := fun l => by
      rw [h1, ← ex]
      have hz : P.cellsOf f.type = c1.length := by simp [Program.cellsOf, h6, h7]
      simp [part, isAgg, run_underlying h4, run_sizeOf w h6, h7, hz]
    have ih1 := ih1 m (us := (us.drop j).take c1.length) (vs := (vs.drop j).take c1.length) (p := q1) (by simpa using k1) w
    have ih2 := ih2 (m + 1) (us := us) (vs := vs) (p := q2) (by simpa [List.drop_drop] using k2) w
    have hp : decide p = (decide q1 && decide q2) := by rw [← Bool.decide_and]; exact decide_eq_decide.2 e
    rw [show n + 1 + m + 1 = n + (m + 1) + 1 by omega, hp]
    simp only [Op.eqFields, if_pos h2, Sem.run_bind, pp, Result.andThen_ok]
    rw [show n + (m + 1) + 1 = (n + m + 1) + 1 by omega, run_equalIn_agg w (n + m + 1) f.type _ _ h4 h5, ih1]
    rw [show n + m + 1 + 1 = n + (m + 1) + 1 by omega]
    by_cases he : q1
    · simp only [he, decide_true, Bool.not_true, Bool.false_eq_true, if_false, Result.andThen_ok, ih2, Bool.true_and]
    · simp [he]
theorem bqK_ok {S : Pl} {a b : SV} {u v : Value} {K : (p : Prop) → Decidable p → Prop} (h : bqK a b K) (ha : okv S a u) (hb : okv S b v) :
    ∃ (m n : Bool) (q : Prop) (d : Decidable q), K q d ∧ u = .bool m ∧ v = .bool n ∧ (q ↔ m = n) := by
  unfold bqK at h
  split at h <;> first | exact h.elim | (cases ha; cases hb; exact ⟨_, _, _, _, h, rfl, rfl, by simp⟩)
theorem eqsL_n {x y : List SV} {K : (p : Prop) → Decidable p → Prop} : eqsL [] x y K = (match x, y with | [], [] => K True instDecidableTrue | _, _ => False) := rfl
theorem eqsL_c {t : Ty} {c : List Ty} {x y : List SV} {K : (p : Prop) → Decidable p → Prop} : eqsL (t :: c) x y K = (match t, x, y with
      | .int _, .v (.int k m) :: s, .v (.int k' n) :: r => (match Nat.beq (kc k) (kc k') with | true => eqsL c s r fun p i => K (m = n ∧ p) (@instDecidableAnd _ _ (Int.instDecidableEq m n) i) | false => False)
      | .str, .v (.string a) :: s, .v (.string b) :: r => eqsL c s r fun p i => K (a.data.toList = b.data.toList ∧ p) (@instDecidableAnd _ _ (decStr a b) i)
      | .bool, a :: s, b :: r => bqK a b fun q d => eqsL c s r fun p i => K (q ∧ p) (@instDecidableAnd _ _ d i)
      | _, _, _ => False) := rfl
theorem okL_cons {S : Pl} {a : SV} {s : List SV} {us : List Value} (h : okL S (a :: s) us) : ∃ u r, us = u :: r ∧ okv S a u ∧ okL S s r := by
  cases us with
  | nil => exact h.elim
  | cons u r => exact ⟨u, r, rfl, h.1, h.2⟩
theorem eqsL_ok {S : Pl} : ∀ {c : List Ty} {xs ys : List SV} {us vs : List Value} {K : (p : Prop) → Decidable p → Prop}, eqsL c xs ys K → okL S xs us → okL S ys vs →
    ∃ (p : Prop) (i : Decidable p), K p i ∧ CmpL c us vs p
  | [], xs, ys, us, vs, K, h, hx, hy => by
    rw [eqsL_n] at h
    split at h
    · cases us with
      | cons _ _ => exact hx.elim
      | nil =>
        cases vs with
        | cons _ _ => exact hy.elim
        | nil => exact ⟨_, _, h, .nil⟩
    · exact h.elim
  | t :: c, xs, ys, us, vs, K, h, hx, hy => by
    rw [eqsL_c] at h
    split at h
    · split at h
      · rename_i hk
        cases kc_inj hk
        obtain ⟨u, us, rfl, hu, hw⟩ := okL_cons hx
        obtain ⟨v, vs, rfl, hv, hz⟩ := okL_cons hy
        cases hu; cases hv
        obtain ⟨p, i, hK, hp⟩ := eqsL_ok h hw hz
        exact ⟨_, _, hK, .int hp⟩
      · exact h.elim
    · obtain ⟨u, us, rfl, hu, hw⟩ := okL_cons hx
      obtain ⟨v, vs, rfl, hv, hz⟩ := okL_cons hy
      cases hu; cases hv
      obtain ⟨p, i, hK, hp⟩ := eqsL_ok h hw hz
      exact ⟨_, _, hK, .str hp⟩
    · obtain ⟨u, us, rfl, hu, hw⟩ := okL_cons hx
      obtain ⟨v, vs, rfl, hv, hz⟩ := okL_cons hy
      obtain ⟨m, n, q, d, h, rfl, rfl, hq⟩ := bqK_ok h hu hv
      obtain ⟨p, i, hK, hp⟩ := eqsL_ok h hw hz
      exact ⟨_, _, hK, .bool hq hp⟩
    · exact h.elim
theorem binK_ok (hT : TabOk P T) {op : BinOp} {wr : Bool} {t : TypeId} {x y : SV} {u v : Value} {K : SV → Prop} (h : binK (ty T t).cmp (ty T t).d op wr x y K) (hx : okv S x u) (hy : okv S y v) (X Y : Operand) :
    ∃ r sv, K sv ∧ okv S sv r ∧ ∀ w, (do eqGuard op t X Y u v; binOp op t u v : Sem Value).run P w = .ok r w := by
  have eqs : ∀ K, eqsK (ty T t).cmp (ty T t).d x y K → ∃ b sv, K sv ∧ okv S sv (.bool b) ∧ (∀ w, (do eqGuard .eql t X Y u v; binOp .eql t u v : Sem Value).run P w = .ok (.bool b) w) ∧ (∀ w, (do eqGuard .neq t X Y u v; binOp .neq t u v : Sem Value).run P w = .ok (.bool (!b)) w) := by
    intro K h
    unfold eqsK at h
    split at h
    · split at h
      · exact h.elim
      rename_i t0 c0 hc
      split at h
      rotate_left
      · exact h.elim
      rename_i fs hd
      obtain ⟨us, rfl, hx⟩ := hx
      obtain ⟨vs, rfl, hy⟩ := hy
      obtain ⟨p, i, hK, hp⟩ := eqsL_ok h hx hy
      obtain ⟨c1, c2, c3, c4⟩ := (hT t (by rw [hd]; simp)).cm (by rw [hc]; simp)
      rw [hc] at c4
      have hr : ∀ w, (Op.equalIn 10000 t (.agg us.toArray) (.agg vs.toArray)).run P w = .ok (decide p) w := fun w => by
        rw [show (10000 : Nat) = 9999 + 1 from rfl, run_equalIn_agg w 9999 t _ _ c1 c2]
        exact eqFields_f c4 9934 hp w
      refine ⟨decide p, _, hK, rfl, fun w => ?_, fun w => ?_⟩
      · simp only [Sem.run_bind, run_eqGuard_agg w .eql t X Y _ _ c3, Result.andThen_ok, run_eql_struct, hr]
      · simp only [Sem.run_bind, run_eqGuard_agg w .neq t X Y _ _ c3, Result.andThen_ok, run_neq_struct, hr]
    obtain ⟨b, sv, h1, h2, _, h4, h5, h6⟩ := eqK_ok hT h hx hy
    exact ⟨b, sv, h1, h2, fun w => bin_run (h4 _ _ _) (h5 w), fun w => bin_run (h4 _ _ _) (h6 w)⟩
  unfold binK at h
  split at h
  · rename_i k m k' n
    cases hx; cases hy
    split at h
    · obtain ⟨r, sv, h1, h2, h3⟩ := shK_ok (P := P) (S := S) (k' := k') h t
      exact ⟨r, sv, h1, h2, fun w => bin_run (eqGuard_at_int ..) (h3 w)⟩
    · obtain ⟨r, sv, h1, h2, h3⟩ := shK_ok (P := P) (S := S) (k' := k') h t
      exact ⟨r, sv, h1, h2, fun w => bin_run (eqGuard_at_int ..) (h3 w)⟩
    · split at h
      · rename_i hk
        cases kc_inj hk
        obtain ⟨r, sv, h1, h2, h3⟩ := intK_ok (P := P) (S := S) h t
        exact ⟨r, sv, h1, h2, fun w => bin_run (eqGuard_at_int ..) (h3 w)⟩
      · exact h.elim
  · cases hx; cases hy
    obtain ⟨r, sv, h1, h2, h3⟩ := strK_ok (P := P) (S := S) h t
    exact ⟨r, sv, h1, h2, fun w => bin_run (eqGuard_at_string ..) (h3 w)⟩
  · cases hx; cases hy
    split at h
    · rename_i hk
      cases fkc_eq hk
      obtain ⟨r, sv, h1, h2, h3⟩ := fltK_ok (P := P) (S := S) h t
      exact ⟨r, sv, h1, h2, fun w => bin_run (by cases op <;> rfl) (h3 w)⟩
    · exact h.elim
  · split at h
    · obtain ⟨b, sv, h1, h2, h3, _⟩ := eqs _ h
      exact ⟨_, sv, h1, h2, h3⟩
    · obtain ⟨b, sv, h1, h2, _, h4⟩ := eqs _ h
      obtain ⟨b', sv', e, h5, h6⟩ := notK_ok h1 h2
      cases e
      exact ⟨_, sv', h5, h6, h4⟩
    · exact h.elim
end Go.Eng
