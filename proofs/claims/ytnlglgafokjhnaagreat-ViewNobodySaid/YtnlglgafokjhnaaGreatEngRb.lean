/-
  Texts that the law leans on. Nothing here is trusted.
-/
import Derived.Test.YtnlglgafokjhnaaGreatEngRa
set_option linter.unusedVariables false
set_option linter.unusedSimpArgs false
namespace Go.Eng.R
open Go Go.Eng
theorem setN_e {α : Type} : ∀ (l : List α) (n : Nat) (y : α), R.setN l n y = Eng.setN l n y
  | [], _, _ => rfl
  | _ :: _, 0, _ => rfl
  | x :: r, n + 1, y => congrArg (x :: ·) (setN_e r n y)
theorem setN_eq {α : Type} : @R.setN α = @Eng.setN α := by funext l n y; exact setN_e l n y
theorem takeN_e {α : Type} : ∀ (l : List α) (n : Nat), R.takeN l n = Eng.takeN l n
  | [], 0 => rfl
  | [], _ + 1 => rfl
  | _ :: _, 0 => rfl
  | x :: r, n + 1 => congrArg (x :: ·) (takeN_e r n)
theorem takeN_eq {α : Type} : @R.takeN α = @Eng.takeN α := by funext l n; exact takeN_e l n
theorem dropN_e {α : Type} : ∀ (l : List α) (n : Nat), R.dropN l n = Eng.dropN l n
  | [], 0 => rfl
  | [], _ + 1 => rfl
  | _ :: _, 0 => rfl
  | _ :: r, n + 1 => dropN_e r n
theorem dropN_eq {α : Type} : @R.dropN α = @Eng.dropN α := by funext l n; exact dropN_e l n
theorem svHas_agg (k : Nat) : ∀ cs, svHas k (.agg cs) = R.hasL k cs
  | [] => rfl
  | x :: r => by
    show (match svHas k x with | true => true | false => svHas k (.agg r)) = _
    rw [svHas_agg k r]; rfl
theorem svHas_tup (k : Nat) : ∀ cs, svHas k (.tup cs) = R.hasL k cs
  | [] => rfl
  | x :: r => by
    show (match svHas k x with | true => true | false => svHas k (.tup r)) = _
    rw [svHas_tup k r]; rfl
theorem svHas_fn (k : Nat) (f : FuncId) : ∀ cs, svHas k (.fn f cs) = R.hasL k cs
  | [] => rfl
  | x :: r => by
    show (match svHas k x with | true => true | false => svHas k (.fn f r)) = _
    rw [svHas_fn k f r]; rfl
mutual
theorem svHas_e (k : Nat) : ∀ x : SV, svHas k x = x.has k
  | .agg cs => (svHas_agg k cs).trans (hasL_e k cs)
  | .tup cs => (svHas_tup k cs).trans (hasL_e k cs)
  | .fn f cs => (svHas_fn k f cs).trans (hasL_e k cs)
  | .v _ => rfl | .bb _ => rfl | .b _ _ => rfl | .lp _ _ => rfl | .own _ => rfl | .el _ _ => rfl | .yl _ => rfl | .vw _ _ _ _ _ => rfl | .lq _ => rfl | .ls _ _ => rfl | .mr _ => rfl | .bad => rfl
theorem hasL_e (k : Nat) : ∀ l, R.hasL k l = Eng.hasL k l
  | [] => rfl
  | x :: r => by
    show (match svHas k x with | true => true | false => R.hasL k r) = (match x.has k with | true => true | false => Eng.hasL k r)
    rw [svHas_e k x, hasL_e k r]
end
theorem hasL_eq : @R.hasL = @Eng.hasL := by funext k l; exact hasL_e k l
theorem hasF_eq : @R.hasF = @Eng.hasF := by
  funext k l
  induction l with
  | nil => rfl
  | cons p r ih =>
    obtain ⟨u, x⟩ := p
    show (match svHas k x with | true => true | false => R.hasF k r) = (match x.has k with | true => true | false => Eng.hasF k r)
    rw [svHas_e, ih]
theorem lbHas_e (k : Nat) (x : LB) : lbHas k x = x.has k := by cases x <;> first | rfl | exact hasL_e k _
theorem hasLL_eq : @R.hasLL = @Eng.hasLL := by
  funext k l
  induction l with
  | nil => rfl
  | cons p r ih =>
    obtain ⟨u, x⟩ := p
    show (match Nat.beq u k with | true => true | false => match lbHas k x with | true => true | false => R.hasLL k r) = (match Nat.beq u k with | true => true | false => match x.has k with | true => true | false => Eng.hasLL k r)
    rw [lbHas_e, ih]
theorem opvs_eq : @R.opvs = @Eng.opvs := by
  funext fr l
  induction l with
  | nil => rfl
  | cons x r ih => exact congrArg (opv fr x :: ·) ih
theorem ldK_eq : @R.ldK = @Eng.ldK := by
  funext g j ts K
  induction ts generalizing j K with
  | nil => rfl
  | cons t r ih =>
    have e : ∀ j, (fun K => R.ldK g j r K) = Eng.ldK g j r := fun j => funext fun K => ih j K
    cases t with
    | int k => show (_ ∧ ∀ x, _ → (fun K => R.ldK g (j + 1) r K) _) = _; rw [e]; rfl
    | bool => show (_ ∧ ∀ x, _ → (fun K => R.ldK g (j + 1) r K) _) = _; rw [e]; rfl
    | str => show (_ ∧ ∀ x, _ → (fun K => R.ldK g (j + 1) r K) _) = _; rw [e]; rfl
    | flt k => show (_ ∧ ∀ x, _ → (fun K => R.ldK g (j + 1) r K) _) = _; rw [e]; rfl
    | ptr k => show (_ ∧ ∀ x, _ → (fun K => R.ldK g (j + 1) r K) _) = _; rw [e]; rfl
    | slice k => show (_ ∧ ∀ A n c, _ → (fun K => R.ldK g (j + 1) r K) _) = _; rw [e]; rfl
    | _ => rfl
theorem loadK1_eq : @R.loadK1 = @Eng.loadK1 := by
  funext d sz flat q L x K
  unfold R.loadK1 Eng.loadK1
  simp only [takeN_eq, dropN_eq, ldK_eq]
  rfl
theorem loadK_eq : @R.loadK = @Eng.loadK := by
  funext T q L t x K
  unfold R.loadK Eng.loadK
  simp only [loadK1_eq]
  rfl
theorem partsK_eq : @R.partsK = @Eng.partsK := by
  funext T fs fr ps cs K
  induction ps generalizing cs K with
  | nil => rfl
  | cons p r ih =>
    obtain ⟨i, x⟩ := p
    have ih' : R.partsK T fs fr r = fun cs K => Eng.partsK T fs fr r cs K := funext fun cs => funext fun K => ih cs K
    show (match nth fs i with
      | some (off, t) => fSV (opv fr x) fun y =>
        match y with
        | .agg l => (match Nat.beq l.length (ty T t).sz with | true => (match Nat.ble (off + l.length) cs.length with | true => fSVL (R.takeN cs off ++ l ++ R.dropN cs (off + l.length)) fun c => R.partsK T fs fr r c K | false => False) | false => False)
        | .tup _ => False
        | .bad => False
        | .v (.agg _) => False
        | .v (.tuple _) => False
        | y => (match Nat.beq (ty T t).sz 1 with | true => (match Nat.blt off cs.length with | true => fSVL (R.setN cs off y) fun c => R.partsK T fs fr r c K | false => False) | false => False)
      | none => False) = _
    rw [ih', takeN_eq, dropN_eq, setN_eq]
    rfl
theorem valL_eq : @R.valL = @Eng.valL := by
  funext l
  induction l with
  | nil => rfl
  | cons x r ih => cases x <;> exact congrArg (_ :: ·) ih
noncomputable def toVr (l : List SV) : Option (List Value) :=
  SV.rec_1 (motive_1 := fun _ => Option Value) (motive_2 := fun _ => Option (List Value))
    (fun x => some x) (fun b => some (.bool b)) (fun p d => some (.bool (@decide p d))) (fun _ _ => none) (fun _ => none) (fun _ _ => none)
    (fun _ ih => optAgg ih) (fun _ _ => none) (fun _ _ _ => none) (fun _ => none) (fun _ _ _ _ _ => none) (fun _ => none) (fun _ _ => none) (fun _ => none) none
    (some []) (fun _ _ hx hr => optCons hx hr) l
theorem toVr_eq : ∀ l, toVr l = R.toVL l
  | [] => rfl
  | x :: r => by show optCons (R.toV x) (toVr r) = optCons (R.toV x) (R.toVL r); rw [toVr_eq r]
theorem toV_agg (cs : List SV) : R.toV (.agg cs) = optAgg (R.toVL cs) := by
  rw [← toVr_eq]; rfl
mutual
theorem toV_e : ∀ x : SV, R.toV x = Eng.toV x
  | .agg cs => by rw [toV_agg, toVL_e]; rfl
  | .v _ => rfl | .bb _ => rfl | .b _ _ => rfl | .lp _ _ => rfl | .own _ => rfl | .el _ _ => rfl | .yl _ => rfl | .vw _ _ _ _ _ => rfl | .lq _ => rfl | .ls _ _ => rfl | .mr _ => rfl | .bad => rfl | .tup _ => rfl | .fn _ _ => rfl
theorem toVL_e : ∀ l, R.toVL l = Eng.toVL l
  | [] => rfl
  | x :: r => by
    show optCons (R.toV x) (R.toVL r) = _
    rw [toV_e x, toVL_e r]; rfl
end
theorem toV_eq : @R.toV = @Eng.toV := funext toV_e
theorem toVL_eq : @R.toVL = @Eng.toVL := funext toVL_e
theorem datK_eq : @R.datK = @Eng.datK := by
  funext q L ks xs K
  induction ks generalizing xs K with
  | nil => cases xs <;> rfl
  | cons k r ih =>
    cases xs with
    | nil => cases k <;> rfl
    | cons x xs =>
      have ih' : R.datK q L r xs = fun K => Eng.datK q L r xs K := funext fun K => ih xs K
      cases k with
      | v =>
        show (match R.toV x with | some y => R.datK q L r xs fun l => K (.v y :: l) | none => False) = (match Eng.toV x with | some y => Eng.datK q L r xs fun l => K (.v y :: l) | none => False)
        rw [toV_eq, ih']
      | sl sz =>
        show (match x with
          | .v (.slice A n c) => Ob (n ≤ c) ∧ Ob (∃ ys : List Value, ys.length = n * sz ∧ Reads q A ys) ∧ ∀ ys : List Value, ys.length = n * sz → Reads q A ys → R.datK q L r xs fun l => K (.sl n ys :: l)
          | .own k => (match getL L k with | some (.arr _ sz' n ys) => (match Nat.beq sz' sz with | true => R.datK q L r xs fun l => K (.sl n ys :: l) | false => False) | _ => False)
          | _ => False) = (match x with
          | .v (.slice A n c) => Ob (n ≤ c) ∧ Ob (∃ ys : List Value, ys.length = n * sz ∧ Reads q A ys) ∧ ∀ ys : List Value, ys.length = n * sz → Reads q A ys → Eng.datK q L r xs fun l => K (.sl n ys :: l)
          | .own k => (match getL L k with | some (.arr _ sz' n ys) => (match Nat.beq sz' sz with | true => Eng.datK q L r xs fun l => K (.sl n ys :: l) | false => False) | _ => False)
          | _ => False)
        rw [ih']
theorem findS_eq : @R.findS = @Eng.findS := by
  funext Γ f
  induction Γ with
  | nil => rfl
  | cons s r ih =>
    show (match Nat.beq s.f f with | true => some s | false => R.findS r f) = (match Nat.beq s.f f with | true => some s | false => Eng.findS r f)
    rw [ih]
theorem findC_eq : @R.findC = @Eng.findC := by
  funext Γ f
  induction Γ with
  | nil => rfl
  | cons s r ih =>
    show (match Nat.beq s.f f with | true => some s | false => R.findC r f) = (match Nat.beq s.f f with | true => some s | false => Eng.findC r f)
    rw [ih]
noncomputable def closedL (l : List SV) : Bool := List.rec (motive := fun _ => Bool) true (fun x _ ih => match R.closed x with | true => ih | false => false) l
theorem closed_agg : ∀ cs, R.closed (.agg cs) = R.closedL cs
  | [] => rfl
  | x :: r => by
    show (match R.closed x with | true => R.closed (.agg r) | false => false) = _
    rw [closed_agg r]; rfl
theorem closed_tup : ∀ cs, R.closed (.tup cs) = R.closedL cs
  | [] => rfl
  | x :: r => by
    show (match R.closed x with | true => R.closed (.tup r) | false => false) = _
    rw [closed_tup r]; rfl
theorem closed_fn (f : FuncId) : ∀ cs, R.closed (.fn f cs) = R.closedL cs
  | [] => rfl
  | x :: r => by
    show (match R.closed x with | true => R.closed (.fn f r) | false => false) = _
    rw [closed_fn f r]; rfl
mutual
theorem closed_e : ∀ x : SV, R.closed x = Eng.closed x
  | .agg cs => (closed_agg cs).trans (closedL_e cs)
  | .tup cs => (closed_tup cs).trans (closedL_e cs)
  | .fn f cs => (closed_fn f cs).trans (closedL_e cs)
  | .v _ => rfl | .bb _ => rfl | .b _ _ => rfl | .lp _ _ => rfl | .own _ => rfl | .el _ _ => rfl | .yl _ => rfl | .vw _ _ _ _ _ => rfl | .lq _ => rfl | .ls _ _ => rfl | .mr _ => rfl | .bad => rfl
theorem closedL_e : ∀ l, R.closedL l = Eng.closedL l
  | [] => rfl
  | x :: r => by
    show (match R.closed x with | true => R.closedL r | false => false) = (match Eng.closed x with | true => Eng.closedL r | false => false)
    rw [closed_e x, closedL_e r]
end
theorem closed_eq : @R.closed = @Eng.closed := funext closed_e
theorem asGet_eq : @R.asGet = @Eng.asGet := by
  funext as k
  induction as with
  | nil => rfl
  | cons p r ih =>
    obtain ⟨u, x⟩ := p
    show (match Nat.beq u k with | true => some x | false => R.asGet r k) = (match Nat.beq u k with | true => some x | false => Eng.asGet r k)
    rw [ih]
theorem asHas_eq : @R.asHas = @Eng.asHas := by
  funext as k
  induction as with
  | nil => rfl
  | cons p r ih =>
    obtain ⟨u, x⟩ := p
    show (match Nat.beq x k with | true => true | false => R.asHas r k) = (match Nat.beq x k with | true => true | false => Eng.asHas r k)
    rw [ih]
theorem asK_eq : @R.asK = @Eng.asK := by
  funext b as k j K
  unfold R.asK Eng.asK
  simp only [asGet_eq, asHas_eq]
  rfl
theorem mSV_agg (b : Nat) : ∀ (l l' : List SV) (as : As) (K : As → Prop), R.mSV b (.agg l) (.agg l') as K = R.mL b l l' as K
  | [], [], _, _ => rfl
  | [], _ :: _, _, _ => rfl
  | _ :: _, [], _, _ => rfl
  | x :: r, y :: s, as, K => by
    show R.mSV b x y as (fun as => R.mSV b (.agg r) (.agg s) as K) = R.mSV b x y as (fun as => R.mL b r s as K)
    congr 1; funext as; exact mSV_agg b r s as K
theorem mSV_tup (b : Nat) : ∀ (l l' : List SV) (as : As) (K : As → Prop), R.mSV b (.tup l) (.tup l') as K = R.mL b l l' as K
  | [], [], _, _ => rfl
  | [], _ :: _, _, _ => rfl
  | _ :: _, [], _, _ => rfl
  | x :: r, y :: s, as, K => by
    show R.mSV b x y as (fun as => R.mSV b (.tup r) (.tup s) as K) = R.mSV b x y as (fun as => R.mL b r s as K)
    congr 1; funext as; exact mSV_tup b r s as K
def mF (b : Nat) (l l' : List SV) (as : As) (K : As → Prop) : Prop := R.mSV b (.fn 0 l) (.fn 0 l') as K
theorem mF_eq (b : Nat) : ∀ (l l' : List SV) (as : As) (K : As → Prop), mF b l l' as K = R.mL b l l' as K
  | [], [], _, _ => rfl
  | [], _ :: _, _, _ => rfl
  | _ :: _, [], _, _ => rfl
  | x :: r, y :: s, as, K => by
    show R.mSV b x y as (fun as => mF b r s as K) = R.mSV b x y as (fun as => R.mL b r s as K)
    congr 1; funext as; exact mF_eq b r s as K
theorem mSV_fn (b f f' : Nat) (l l' : List SV) (as : As) (K : As → Prop) : R.mSV b (.fn f l) (.fn f' l') as K = match Nat.beq f f' with | true => R.mL b l l' as K | false => False := by
  rw [← mF_eq]; rfl
def mVL (l : List Value) (l' : List SV) (K : Prop) : Prop := R.mSV 0 (.v (.agg l.toArray)) (.agg l') [] fun _ => K
theorem mSV_vagg (b : Nat) (x : Array Value) (l' : List SV) (as : As) (K : As → Prop) : R.mSV b (.v (.agg x)) (.agg l') as K = mVL x.toList l' (K as) := by
  unfold mVL
  show _ = _
  rfl
theorem mSV_vtup (b : Nat) (x : Array Value) (l' : List SV) (as : As) (K : As → Prop) : R.mSV b (.v (.tuple x)) (.tup l') as K = mVL x.toList l' (K as) := by
  unfold mVL
  rfl
mutual
theorem mSV_e : ∀ (b : Nat) (tm ac : SV) (as : As) (K : As → Prop), R.mSV b tm ac as K = Eng.mSV b tm ac as K
  | b, tm, .agg l', as, K => by
    cases tm with
    | agg l => rw [mSV_agg, mL_e b l l' as K]; rfl
    | v x =>
      cases x with
      | agg x => rw [mSV_vagg, mVL_e x.toList l' (K as)]; rfl
      | _ => rfl
    | _ => rfl
  | b, tm, .tup l', as, K => by
    cases tm with
    | tup l => rw [mSV_tup, mL_e b l l' as K]; rfl
    | v x =>
      cases x with
      | tuple x => rw [mSV_vtup, mVL_e x.toList l' (K as)]; rfl
      | _ => rfl
    | _ => rfl
  | b, tm, .fn f' l', as, K => by
    cases tm with
    | fn f l => rw [mSV_fn, mL_e b l l' as K]; rfl
    | v x => cases x <;> rfl
    | _ => rfl
  | b, tm, .v y, as, K => by
    cases tm with
    | b p d => cases y <;> rfl
    | lq k => cases y with
      | pointer A => cases A <;> rfl
      | _ => rfl
    | _ => rfl
  | b, tm, .bb y, as, K => by
    cases tm with
    | v x => cases x <;> rfl
    | _ => rfl
  | b, tm, .b p d, as, K => by
    cases tm with
    | v x => cases x <;> rfl
    | _ => rfl
  | b, tm, .lp k o, as, K => by
    cases tm with
    | v x => cases x <;> rfl
    | lp k o => show (_ ∧ R.asK _ _ _ _ _) = _; rw [asK_eq]; rfl
    | lq k' => cases o with
      | zero => show R.asK _ _ _ _ _ = _; rw [asK_eq]; rfl
      | succ o => rfl
    | _ => rfl
  | b, tm, .lq j, as, K => by
    cases tm with
    | v x => cases x <;> rfl
    | lq k => show (R.asK _ _ _ _ _) = _; rw [asK_eq]; rfl
    | _ => rfl
  | b, tm, .ls j n, as, K => by
    cases tm with
    | v x => cases x <;> rfl
    | ls k m => show (_ ∧ R.asK _ _ _ _ _) = _; rw [asK_eq]; rfl
    | _ => rfl
  | b, tm, .mr j, as, K => by
    cases tm with
    | v x => cases x <;> rfl
    | mr k => show (R.asK _ _ _ _ _) = _; rw [asK_eq]; rfl
    | _ => rfl
  | b, tm, .own k, as, K => by
    cases tm with
    | v x => cases x <;> rfl
    | own k => show (R.asK _ _ _ _ _) = _; rw [asK_eq]; rfl
    | _ => rfl
  | b, tm, .el A j, as, K => by
    cases tm with
    | v x => cases x <;> rfl
    | _ => rfl
  | b, tm, .yl k, as, K => by
    cases tm with
    | v x => cases x <;> rfl
    | yl k => show (R.asK _ _ _ _ _) = _; rw [asK_eq]; rfl
    | _ => rfl
  | b, tm, .vw k lo sz n ex, as, K => by
    cases tm with
    | v x => cases x <;> rfl
    | vw k lo sz n ex => show (_ ∧ R.asK _ _ _ _ _) = _; rw [asK_eq]; rfl
    | _ => rfl
  | b, tm, .bad, as, K => by
    cases tm with
    | v x => cases x <;> rfl
    | _ => rfl
theorem mL_e : ∀ (b : Nat) (tm ac : List SV) (as : As) (K : As → Prop), R.mL b tm ac as K = Eng.mL b tm ac as K
  | _, [], [], _, _ => rfl
  | _, [], _ :: _, _, _ => rfl
  | _, _ :: _, [], _, _ => rfl
  | b, x :: r, y :: s, as, K => by
    have h : (fun as => R.mL b r s as K) = fun as => Eng.mL b r s as K := funext fun as => mL_e b r s as K
    show R.mSV b x y as (fun as => R.mL b r s as K) = Eng.mSV b x y as (fun as => Eng.mL b r s as K)
    rw [h, mSV_e b x y]
theorem mVL_e : ∀ (tm : List Value) (ac : List SV) (K : Prop), R.mVL tm ac K = Eng.mVL tm ac K
  | [], [], _ => rfl
  | [], _ :: _, _ => rfl
  | _ :: _, [], _ => rfl
  | x :: r, y :: s, K => by
    show R.mSV 0 (.v x) y [] (fun _ => R.mVL r s K) = Eng.mSV 0 (.v x) y [] (fun _ => Eng.mVL r s K)
    rw [mVL_e r s, mSV_e 0 (.v x) y]
end
theorem mSV_eq : @R.mSV = @Eng.mSV := by funext b tm ac as K; exact mSV_e b tm ac as K
theorem mL_eq : @R.mL = @Eng.mL := by funext b tm ac as K; exact mL_e b tm ac as K
theorem mA_eq : @R.mA = @Eng.mA := by
  funext q L tm ac as ro K
  induction tm generalizing ac as ro K with
  | nil => cases ac <;> rfl
  | cons t r ih =>
    cases ac with
    | nil => cases t <;> rfl
    | cons y s =>
      have ih' : (fun as ro K => R.mA q L r s as ro K) = fun as ro K => Eng.mA q L r s as ro K := funext fun as => funext fun ro => funext fun K => ih s as ro K
      cases t with
      | w x =>
        show R.mSV 0 x y as (fun as => (fun as ro K => R.mA q L r s as ro K) as ro K) = _
        rw [ih', mSV_eq]; rfl
      | sl sz n xs =>
        show (match y with
          | .v (.slice A m c) => Ob (m = n ∧ m ≤ c ∧ xs.length = m * sz ∧ Reads q A xs) ∧ (fun as ro K => R.mA q L r s as ro K) as ro K
          | .own k => (match getL L k with
            | some (.arr _ sz' m ys) => (match Nat.beq sz' sz with | true => Ob (m = n ∧ ys = xs) ∧ (fun as ro K => R.mA q L r s as ro K) as (k :: ro) K | false => False)
            | _ => False)
          | .vw k lo sz' m _ => (match getL L k with
            | some (.arr _ sz'' n0 ys) => (match Nat.beq sz' sz, Nat.beq sz'' sz with | true, true => Ob (m = n ∧ lo + m ≤ n0 ∧ vwC ys lo sz m = xs) ∧ (fun as ro K => R.mA q L r s as ro K) as (k :: ro) K | _, _ => False)
            | _ => False)
          | _ => False) = _
        rw [ih']; rfl
      | pt cs =>
        show (match y with
          | .lp k 0 => (match getL L k with
            | some (.cells _ acs) => pcG (fun t y K => R.mSV 0 t y [] fun _ => K) q L cs acs (k :: ro) fun ro => (fun as ro K => R.mA q L r s as ro K) as ro K
            | _ => False)
          | .v (.pointer (some a)) => Ob (a.spot = none ∧ ∃ us : List Value, us.length = cs.length ∧ Reads q (some a) us ∧ pcArgs q cs us) ∧ (fun as ro K => R.mA q L r s as ro K) as ro K
          | _ => False) = _
        rw [ih', mSV_eq]; rfl
theorem fieldK_eq : @R.fieldK = @Eng.fieldK := by
  funext T t f x K
  unfold R.fieldK Eng.fieldK
  simp only [takeN_eq, dropN_eq]
  rfl
theorem buildK_eq : @R.buildK = @Eng.buildK := by
  funext T t fr ps K
  unfold R.buildK Eng.buildK
  simp only [partsK_eq, valL_eq]
  rfl
theorem callK_eq : @R.callK = @Eng.callK := by
  funext T Γ Δ q c fr L K
  unfold R.callK Eng.callK
  simp only [opvs_eq, findS_eq, findC_eq, datK_eq, closed_eq, mA_eq]
  rfl
theorem calmK_eq : @R.calmK = @Eng.calmK := by
  funext T Γ Δ wr q op fr L K
  unfold R.calmK Eng.calmK
  simp only [fieldK_eq, loadK_eq, buildK_eq, opvs_eq, callK_eq]
  rfl
end Go.Eng.R
