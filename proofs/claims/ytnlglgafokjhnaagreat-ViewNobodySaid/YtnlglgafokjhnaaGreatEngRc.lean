/-
  Texts that the law leans on. Nothing here is trusted.
-/
import Derived.Test.YtnlglgafokjhnaaGreatEngRb
set_option linter.unusedVariables false
set_option linter.unusedSimpArgs false
namespace Go.Eng.R
open Go Go.Eng
theorem mFr_eq : @R.mFr = @Eng.mFr := by unfold R.mFr Eng.mFr; rw [mSV_eq]
theorem mLB_eq : @R.mLB = @Eng.mLB := by
  funext b tm ac as K
  unfold R.mLB Eng.mLB
  rw [mL_eq]
  rfl
theorem mLL_eq : @R.mLL = @Eng.mLL := by unfold R.mLL Eng.mLL; rw [mLB_eq, asGet_eq, asHas_eq]; rfl
theorem restL_eq : @R.restL = @Eng.restL := by unfold R.restL Eng.restL; rw [asHas_eq]; rfl
theorem sameL_eq : @R.sameL = @Eng.sameL := by unfold R.sameL Eng.sameL; rw [mLB_eq, asHas_eq]; rfl
theorem ltK_agg (b : Nat) : ∀ cs, R.ltK b (.agg cs) = R.ltKL b cs
  | [] => rfl
  | x :: r => by
    show (match R.ltK b x with | true => R.ltK b (.agg r) | false => false) = _
    rw [ltK_agg b r]; rfl
theorem ltK_tup (b : Nat) : ∀ cs, R.ltK b (.tup cs) = R.ltKL b cs
  | [] => rfl
  | x :: r => by
    show (match R.ltK b x with | true => R.ltK b (.tup r) | false => false) = _
    rw [ltK_tup b r]; rfl
theorem ltK_fn (b : Nat) (f : FuncId) : ∀ cs, R.ltK b (.fn f cs) = R.ltKL b cs
  | [] => rfl
  | x :: r => by
    show (match R.ltK b x with | true => R.ltK b (.fn f r) | false => false) = _
    rw [ltK_fn b f r]; rfl
mutual
theorem ltK_e (b : Nat) : ∀ x : SV, R.ltK b x = Eng.ltK b x
  | .agg cs => (ltK_agg b cs).trans (ltKL_e b cs)
  | .tup cs => (ltK_tup b cs).trans (ltKL_e b cs)
  | .fn f cs => (ltK_fn b f cs).trans (ltKL_e b cs)
  | .v _ => rfl | .bb _ => rfl | .b _ _ => rfl | .lp _ _ => rfl | .own _ => rfl | .el _ _ => rfl | .yl _ => rfl | .vw _ _ _ _ _ => rfl | .lq _ => rfl | .ls _ _ => rfl | .mr _ => rfl | .bad => rfl
theorem ltKL_e (b : Nat) : ∀ l, R.ltKL b l = Eng.ltKL b l
  | [] => rfl
  | x :: r => by
    show (match R.ltK b x with | true => R.ltKL b r | false => false) = (match Eng.ltK b x with | true => Eng.ltKL b r | false => false)
    rw [ltK_e b x, ltKL_e b r]
end
theorem ltK_eq : @R.ltK = @Eng.ltK := by funext b x; exact ltK_e b x
theorem ltKL_eq : @R.ltKL = @Eng.ltKL := by funext b x; exact ltKL_e b x
theorem ltF_eq : @R.ltF = @Eng.ltF := by unfold R.ltF Eng.ltF; rw [ltK_eq]; rfl
theorem ltLL_eq : @R.ltLL = @Eng.ltLL := by unfold R.ltLL Eng.ltLL; rw [ltKL_eq]; rfl
theorem hidFree_eq : @R.hidFree = @Eng.hidFree := by
  funext as L
  induction L with
  | nil => rfl
  | cons p r ih =>
    obtain ⟨k, x⟩ := p
    cases x with
    | dfr =>
      show (match R.asHas as k with | true => false | false => R.hidFree as r) = (match Eng.asHas as k with | true => false | false => Eng.hidFree as r)
      rw [asHas_eq, ih]
    | _ => exact ih
theorem rK_eq : @R.rK = @Eng.rK := by
  funext as nk k K
  unfold R.rK Eng.rK
  rw [asGet_eq]
  rfl
theorem rSV_agg (as : As) (nk : Nat) : ∀ (l : List SV) (K : SV → Prop), R.rSV as nk (.agg l) K = R.rSVL as nk l fun l => K (.agg l)
  | [], _ => rfl
  | x :: r, K => by
    show R.rSV as nk x (fun y => R.rSV as nk (.agg r) fun z => match z with | .agg s => K (.agg (y :: s)) | _ => False) = R.rSV as nk x fun y => R.rSVL as nk r fun s => K (.agg (y :: s))
    congr 1; funext y
    rw [rSV_agg as nk r]
theorem rSV_tup (as : As) (nk : Nat) : ∀ (l : List SV) (K : SV → Prop), R.rSV as nk (.tup l) K = R.rSVL as nk l fun l => K (.tup l)
  | [], _ => rfl
  | x :: r, K => by
    show R.rSV as nk x (fun y => R.rSV as nk (.tup r) fun z => match z with | .tup s => K (.tup (y :: s)) | _ => False) = R.rSV as nk x fun y => R.rSVL as nk r fun s => K (.tup (y :: s))
    congr 1; funext y
    rw [rSV_tup as nk r]
theorem rSV_fn (as : As) (nk : Nat) (f : FuncId) : ∀ (l : List SV) (K : SV → Prop), R.rSV as nk (.fn f l) K = R.rSVL as nk l fun l => K (.fn f l)
  | [], _ => rfl
  | x :: r, K => by
    show R.rSV as nk x (fun y => R.rSV as nk (.fn f r) fun z => match z with | .fn _ s => K (.fn f (y :: s)) | _ => False) = R.rSV as nk x fun y => R.rSVL as nk r fun s => K (.fn f (y :: s))
    congr 1; funext y
    rw [rSV_fn as nk f r]
mutual
theorem rSV_e (as : As) (nk : Nat) : ∀ (x : SV) (K : SV → Prop), R.rSV as nk x K = Eng.rSV as nk x K
  | .agg l, K => by rw [rSV_agg, rSVL_e as nk l]; rfl
  | .tup l, K => by rw [rSV_tup, rSVL_e as nk l]; rfl
  | .fn f l, K => by rw [rSV_fn, rSVL_e as nk l]; rfl
  | .lp k o, K => by show R.rK as nk k _ = _; rw [rK_eq]; rfl
  | .own k, K => by show R.rK as nk k _ = _; rw [rK_eq]; rfl
  | .yl k, K => by show R.rK as nk k _ = _; rw [rK_eq]; rfl
  | .vw k _ _ _ _, K => by show R.rK as nk k _ = _; rw [rK_eq]; rfl
  | .lq k, K => by show R.rK as nk k _ = _; rw [rK_eq]; rfl
  | .ls k n, K => by show R.rK as nk k _ = _; rw [rK_eq]; rfl
  | .mr k, K => by show R.rK as nk k _ = _; rw [rK_eq]; rfl
  | .v _, _ => rfl | .bb _, _ => rfl | .b _ _, _ => rfl | .el _ _, _ => rfl | .bad, _ => rfl
theorem rSVL_e (as : As) (nk : Nat) : ∀ (l : List SV) (K : List SV → Prop), R.rSVL as nk l K = Eng.rSVL as nk l K
  | [], _ => rfl
  | x :: r, K => by
    show R.rSV as nk x (fun y => R.rSVL as nk r fun s => K (y :: s)) = Eng.rSV as nk x (fun y => Eng.rSVL as nk r fun s => K (y :: s))
    rw [rSV_e as nk x]
    congr 1; funext y
    exact rSVL_e as nk r _
end
theorem rSV_eq : @R.rSV = @Eng.rSV := by funext as nk x K; exact rSV_e as nk x K
theorem rSVL_eq : @R.rSVL = @Eng.rSVL := by funext as nk x K; exact rSVL_e as nk x K
theorem rLB_eq : @R.rLB = @Eng.rLB := by
  funext as nk x K
  unfold R.rLB Eng.rLB
  rw [rSVL_eq]
  rfl
theorem rLL_eq : @R.rLL = @Eng.rLL := by
  funext as nk l rest K
  induction l generalizing K with
  | nil => rfl
  | cons p r ih =>
    obtain ⟨k, x⟩ := p
    have ih' : R.rLL as nk r rest = fun K => Eng.rLL as nk r rest K := funext ih
    show R.rK as nk k (fun j => R.rLB as nk x fun y => R.rLL as nk r rest fun s => K ((j, y) :: s)) = Eng.rK as nk k (fun j => Eng.rLB as nk x fun y => Eng.rLL as nk r rest fun s => K ((j, y) :: s))
    rw [ih', rK_eq, rLB_eq]
theorem asLt_eq : @R.asLt = @Eng.asLt := by
  funext m nk l
  induction l with
  | nil => rfl
  | cons p r ih =>
    obtain ⟨k, j⟩ := p
    show (match Nat.blt k m, Nat.blt j nk with | true, true => R.asLt m nk r | _, _ => false) = _
    rw [ih]; rfl
theorem roFree_eq : @R.roFree = @Eng.roFree := by
  funext as l
  induction l with
  | nil => rfl
  | cons k r ih =>
    show (match R.asHas as k with | true => false | false => R.roFree as r) = (match Eng.asHas as k with | true => false | false => Eng.roFree as r)
    rw [ih, asHas_eq]
theorem callC_eq : @R.callC = @Eng.callC := by
  funext s n0 nk q fr L args K
  unfold R.callC Eng.callC
  simp only [ltF_eq, ltLL_eq, mA_eq, mLL_eq, asLt_eq, roFree_eq, hidFree_eq, rLL_eq, restL_eq, rSV_eq]
  rfl
theorem newK_eq : @R.newK = @Eng.newK := by
  funext n0 key fr L lb K
  unfold R.newK Eng.newK
  rw [hasF_eq, hasLL_eq]
  rfl
theorem oneL_eq : @R.oneL = @Eng.oneL := by
  funext l
  induction l with
  | nil => rfl
  | cons x r ih =>
    cases x with
    | v y => cases y <;> first | rfl | exact ih
    | _ => first | rfl | exact ih
theorem oneVL_eq : @R.oneVL = @Eng.oneVL := by
  funext l
  induction l with
  | nil => rfl
  | cons x r ih => cases x <;> first | rfl | exact ih
theorem boxCells_eq : @R.boxCells = @Eng.boxCells := by
  funext T t x K
  unfold R.boxCells Eng.boxCells
  rw [oneL_eq]
  rfl
theorem elemPl_eq : @R.elemPl = @Eng.elemPl := by
  funext sz e n i
  induction n generalizing i with
  | zero => rfl
  | succ n ih => exact congrArg ((i * sz, e) :: ·) (ih (i + 1))
theorem repl_eq : @R.repl = @Eng.repl := by
  funext n l
  induction n with
  | zero => rfl
  | succ n ih => exact congrArg (l ++ ·) ih
theorem storeK_eq : @R.storeK = @Eng.storeK := by
  funext T t p x L K
  unfold R.storeK Eng.storeK
  rw [boxCells_eq, takeN_eq, dropN_eq, toV_eq]
  rfl
theorem appK_eq : @R.appK = @Eng.appK := by
  funext T q t n0 key s x fr L K
  unfold R.appK Eng.appK R.appGo
  rw [newK_eq]
  rfl
theorem appS_eq : @R.appS = @Eng.appS := by
  funext T t u n0 key s x fr L K
  unfold R.appS Eng.appS
  rw [newK_eq]
  rfl
theorem makeK_eq : @R.makeK = @Eng.makeK := by
  funext T t n0 key l c fr L K
  unfold R.makeK Eng.makeK
  rw [newK_eq, oneVL_eq]
  rfl
theorem yGet_eq : @R.yGet = @Eng.yGet := by
  funext Y k
  induction Y with
  | nil => rfl
  | cons p r ih =>
    obtain ⟨j, h⟩ := p
    show (match Nat.beq j k with | true => some h | false => R.yGet r k) = (match Nat.beq j k with | true => some h | false => Eng.yGet r k)
    rw [ih]
theorem dLt_eq : @R.dLt = @Eng.dLt := by
  funext b L
  induction L with
  | nil => rfl
  | cons p r ih =>
    obtain ⟨k, x⟩ := p
    cases x with
    | dfr =>
      show (match Nat.blt k b with | true => R.dLt b r | false => false) = (match Nat.blt k b with | true => Eng.dLt b r | false => false)
      rw [ih]
    | _ => exact ih
theorem nilF_eq : @R.nilF = @Eng.nilF := by
  funext ts n0 nk fr L K
  induction ts generalizing nk fr L K with
  | nil => rfl
  | cons p r ih =>
    obtain ⟨t, o, e, sz⟩ := p
    cases sz with
    | zero => rfl
    | succ sz =>
      have ih' : R.nilF r n0 = fun nk fr L K => Eng.nilF r n0 nk fr L K := funext fun nk => funext fun fr => funext fun L => funext fun K => ih nk fr L K
      show (match nilAt fr t with
        | .v (.slice none 0 0) => R.newK n0 nk fr L (.arr e (sz + 1) 0 []) fun L => fN (nk + 1) fun nk1 => R.nilF r n0 nk1 (setF fr t (.own nk)) L K
        | .lp k _ => (match getL L k with
          | some (.cells T cs) => (match nth cs o with
            | some (.v (.slice none 0 0)) => R.newK n0 nk fr L (.arr e (sz + 1) 0 []) fun L => fLL (setL L k (.cells T (R.setN cs o (.own nk)))) fun L => fN (nk + 1) fun nk1 => R.nilF r n0 nk1 fr L K
            | _ => R.nilF r n0 nk fr L K)
          | _ => R.nilF r n0 nk fr L K)
        | _ => R.nilF r n0 nk fr L K) = _
      rw [ih', newK_eq, setN_eq]
      rfl
theorem effK_eq : @R.effK = @Eng.effK := by
  funext E inl Y wr n0 N key dst op nk q fr L K
  unfold R.effK Eng.effK
  rw [valL_eq, newK_eq, boxCells_eq, hasL_eq, partsK_eq, elemPl_eq, repl_eq, toVL_eq, oneVL_eq, makeK_eq, storeK_eq, calmK_eq, opvs_eq, appK_eq, appS_eq, findS_eq, findC_eq, callC_eq, ltF_eq, dLt_eq, yGet_eq, nilF_eq]
  rfl
theorem vcOps1_eq : @R.vcOps1 = @Eng.vcOps1 := by
  funext E inl Y wr n0 N all o ih key nk q fr L K
  unfold R.vcOps1 Eng.vcOps1
  rw [effK_eq]
  obtain ⟨dst, op, ty, pos, af, guard⟩ := o
  cases guard with
  | none => rfl
  | some g =>
    obtain ⟨j, want⟩ := g
    dsimp only
    cases dstOf all j with
    | none => rfl
    | some t =>
      dsimp only
      cases get fr t with
      | v x => cases x <;> rfl
      | bb b => cases b <;> cases want <;> rfl
      | b p d => cases want <;> rfl
      | _ => rfl
theorem vcOps_eq : @R.vcOps = @Eng.vcOps := by unfold R.vcOps Eng.vcOps; rw [vcOps1_eq]
theorem calmOnly_eq : @R.calmOnly = @Eng.calmOnly := by
  funext T Γ Δ l
  induction l with
  | nil => rfl
  | cons o r ih =>
    show calmOnly1 T Γ Δ o (R.calmOnly T Γ Δ r) = _
    rw [ih]
    unfold calmOnly1
    rw [findS_eq, findC_eq]
    rfl
theorem firstReg_eq : @R.firstReg = @Eng.firstReg := by
  funext c
  induction c with
  | seq a b iha ihb =>
    show (match R.firstReg a with | some x => some x | none => R.firstReg b) = (match Eng.firstReg a with | some x => some x | none => Eng.firstReg b)
    rw [iha, ihb]
  | cond c a b iha ihb =>
    show (match R.firstReg a with | some x => some x | none => R.firstReg b) = (match Eng.firstReg a with | some x => some x | none => Eng.firstReg b)
    rw [iha, ihb]
  | block _ a ih => exact ih
  | loop a ih => exact ih
  | scope a ih => exact ih
  | _ => rfl
theorem hasKey_eq : @R.hasKey = @Eng.hasKey := by
  funext k L
  induction L with
  | nil => rfl
  | cons p r ih =>
    obtain ⟨u, x⟩ := p
    show (match Nat.beq u k with | true => true | false => R.hasKey k r) = (match Nat.beq u k with | true => true | false => Eng.hasKey k r)
    rw [ih]
theorem keysOk_eq : @R.keysOk = @Eng.keysOk := by
  funext lo hi L
  induction L with
  | nil => rfl
  | cons p r ih =>
    obtain ⟨u, x⟩ := p
    show (match Nat.ble lo u, Nat.blt u hi, R.hasKey u r with | true, true, false => R.keysOk lo hi r | _, _, _ => false) = _
    rw [ih, hasKey_eq]; rfl
theorem dfrIn_eq : @R.dfrIn = @Eng.dfrIn := by
  funext rest L
  induction L with
  | nil => rfl
  | cons p r ih =>
    obtain ⟨k, x⟩ := p
    cases x with
    | dfr =>
      show (match R.hasKey k rest with | true => R.dfrIn rest r | false => false) = (match Eng.hasKey k rest with | true => Eng.dfrIn rest r | false => false)
      rw [ih, hasKey_eq]
    | _ => exact ih
theorem loopRound_eq : @R.loopRound = @Eng.loopRound := by
  funext I n0 nk q kf rest body K q1
  unfold R.loopRound Eng.loopRound
  simp only [keysOk_eq, ltF_eq, ltLL_eq, nilF_eq, mFr_eq, mLL_eq, sameL_eq, dfrIn_eq]
  rfl
theorem loopK_eq : @R.loopK = @Eng.loopK := by
  funext I n0 nk q fr L body K
  unfold R.loopK Eng.loopK
  simp only [ltF_eq, ltLL_eq, nilF_eq, mFr_eq, mLL_eq, restL_eq, hidFree_eq, loopRound_eq]
  rfl
theorem cutNext_eq : @R.cutNext = @Eng.cutNext := by
  funext I base kf rest vb q1
  unfold R.cutNext Eng.cutNext
  simp only [keysOk_eq, ltF_eq, ltLL_eq]
  rfl
theorem cutK_eq : @R.cutK = @Eng.cutK := by
  funext I n0 q fr va vb K
  unfold R.cutK Eng.cutK
  simp only [ltF_eq, ltLL_eq, nilF_eq, mFr_eq, mLL_eq, sameL_eq, dfrIn_eq, cutNext_eq]
  rfl
theorem putsF_eq : @R.putsF = @Eng.putsF := by
  funext ps xs N fr K
  induction ps generalizing xs fr K with
  | nil => cases xs <;> rfl
  | cons p r ih =>
    cases xs with
    | nil => rfl
    | cons x xs =>
      show (match Nat.blt p N with | true => R.putsF r xs N ((p, x) :: fr) K | false => False) = (match Nat.blt p N with | true => Eng.putsF r xs N ((p, x) :: fr) K | false => False)
      rw [ih]
theorem roundK_eq : @R.roundK = @Eng.roundK := by
  funext va vb N nk ps fr args nk1 q L K1
  unfold R.roundK Eng.roundK
  simp only [putsF_eq]
  rfl
theorem vcR_eq : @R.vcR = @Eng.vcR := by
  funext E inl f wr N c
  unfold R.vcR Eng.vcR
  rw [vcOps_eq, calmOnly_eq, firstReg_eq, cutK_eq, loopK_eq, ltF_eq, ltLL_eq, roundK_eq, calmK_eq, effK_eq]
  rfl
theorem vcC_eq : @R.vcC = @Eng.vcC := by
  funext E inl f wr n0 N c Y ro nk q fr L K
  unfold R.vcC Eng.vcC
  rw [vcR_eq]
theorem resK_eq : @R.resK = @Eng.resK := by
  funext T q rs fr L K
  induction rs generalizing K with
  | nil => rfl
  | cons x r ih =>
    have ih' : R.resK T q r fr L = fun K => Eng.resK T q r fr L K := funext ih
    cases x with
    | tmp t =>
      show fSV (get fr t) (fun x => R.resK T q r fr L fun l => K (x :: l)) = _
      rw [ih']; rfl
    | cell t ty =>
      show R.loadK T q L ty (get fr t) (fun x => R.resK T q r fr L fun l => K (x :: l)) = _
      rw [ih', loadK_eq]; rfl
theorem dropA_eq : @R.dropA = @Eng.dropA := by
  funext b L0 L
  induction L with
  | nil => rfl
  | cons p r ih =>
    obtain ⟨k, x⟩ := p
    show (match Nat.ble b k with
    | true => (match getL L0 k with | some .dfr => R.dropA b L0 r | _ => (k, x) :: R.dropA b L0 r)
    | false => (k, x) :: R.dropA b L0 r) = _
    rw [ih]; rfl
theorem retE_eq : @R.retE = @Eng.retE := by
  funext T b rs K e
  cases e <;> (unfold R.retE Eng.retE Eng.dropD; simp only [dropA_eq, resK_eq])
theorem argF_eq : @R.argF = @Eng.argF := by
  funext args i
  induction args generalizing i with
  | nil => rfl
  | cons x r ih => exact congrArg ((i, x) :: ·) (ih (i + 1))
theorem vcN_e (E : Env) : ∀ n, R.vcN E n = Eng.vcN E n
  | 0 => rfl
  | n + 1 => by
    funext Y f args nk q L K
    show (match E.FT.get f with
    | none => False
    | some fn => (match fn.body with
      | none => False
      | some c => (match Nat.ble args.length fn.ntmps with
        | false => False
        | true => fFr (R.argF args 0) fun fr => R.vcC E (R.vcN E n) f (E.wr f) nk fn.ntmps c Y none nk q fr L (R.retE E.T nk fn.results.toList K)))) = _
    rw [vcN_e E n, argF_eq, vcC_eq, retE_eq]
    rfl
theorem vcN_eq : @R.vcN = @Eng.vcN := by funext E n; exact vcN_e E n
end Go.Eng.R
