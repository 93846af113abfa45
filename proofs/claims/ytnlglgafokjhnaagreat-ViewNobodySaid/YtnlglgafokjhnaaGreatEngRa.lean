/-
  Texts that the law leans on. Nothing here is trusted.
-/
import Derived.Test.YtnlglgafokjhnaaGreatEngY
set_option linter.unusedVariables false
set_option linter.unusedSimpArgs false
namespace Go.Eng.R
open Go Go.Eng
noncomputable section
def setN {α : Type} (l : List α) : Nat → α → List α := List.rec (motive := fun _ => Nat → α → List α) (fun _ _ => []) (fun x r ih n y => match n with | 0 => y :: r | n + 1 => x :: ih n y) l
def takeN {α : Type} (l : List α) : Nat → List α := List.rec (motive := fun _ => Nat → List α) (fun _ => []) (fun x _ ih n => match n with | 0 => [] | n + 1 => x :: ih n) l
def dropN {α : Type} (l : List α) : Nat → List α := List.rec (motive := fun _ => Nat → List α) (fun _ => []) (fun x r ih n => match n with | 0 => x :: r | n + 1 => ih n) l
def svHas (k : Nat) (x : SV) : Bool :=
  SV.rec (motive_1 := fun _ => Bool) (motive_2 := fun _ => Bool)
    (fun _ => false) (fun _ => false) (fun _ _ => false) (fun j _ => Nat.beq j k) (fun j => Nat.beq j k) (fun _ _ => false)
    (fun _ ih => ih) (fun _ ih => ih) (fun _ _ ih => ih) (fun j => Nat.beq j k) (fun j _ _ _ _ => Nat.beq j k) (fun j => Nat.beq j k) (fun j _ => Nat.beq j k) (fun j => Nat.beq j k) false
    false (fun _ _ hx hr => match hx with | true => true | false => hr) x
def hasL (k : Nat) (l : List SV) : Bool := List.rec (motive := fun _ => Bool) false (fun x _ ih => match svHas k x with | true => true | false => ih) l
def hasF (k : Nat) (l : Fr) : Bool := List.rec (motive := fun _ => Bool) false (fun p _ ih => match p with | (_, x) => match svHas k x with | true => true | false => ih) l
def lbHas (k : Nat) : LB → Bool
  | .cells _ cs => hasL k cs
  | .row _ _ _ cs => hasL k cs
  | _ => false
def hasLL (k : Nat) (l : LL) : Bool := List.rec (motive := fun _ => Bool) false (fun p _ ih => match p with | (u, x) => match Nat.beq u k with | true => true | false => match lbHas k x with | true => true | false => ih) l
def opvs (fr : Fr) (l : List Operand) : List SV := List.rec (motive := fun _ => List SV) [] (fun x _ ih => opv fr x :: ih) l
def ldK (g : Nat → Option Value) (j : Nat) (ts : List Ty) : (List SV → Prop) → Prop :=
  List.rec (motive := fun _ => Nat → (List SV → Prop) → Prop) (fun _ K => K [])
    (fun t _ ih j K => match t with
      | .int k => Ob (∃ x, g j = some (.int k x)) ∧ ∀ x, g j = some (.int k x) → ih (j + 1) fun l => K (.v (.int k x) :: l)
      | .bool => Ob (∃ b, g j = some (.bool b)) ∧ ∀ b, g j = some (.bool b) → ih (j + 1) fun l => K (.b (b = true) (instDecidableEqBool b true) :: l)
      | .flt k => Ob (∃ x, g j = some (.float k x)) ∧ ∀ x, g j = some (.float k x) → ih (j + 1) fun l => K (.v (.float k x) :: l)
      | .str => Ob (∃ s, g j = some (.string s)) ∧ ∀ s, g j = some (.string s) → ih (j + 1) fun l => K (.v (.string s) :: l)
      | .ptr _ => Ob (∃ A, g j = some (.pointer A)) ∧ ∀ A, g j = some (.pointer A) → ih (j + 1) fun l => K (.v (.pointer A) :: l)
      | .slice _ => Ob (∃ A n c, g j = some (.slice A n c)) ∧ ∀ A n c, g j = some (.slice A n c) → ih (j + 1) fun l => K (.v (.slice A n c) :: l)
      | _ => False) ts j
def loadK1 (d : Ty) (sz : Nat) (flat : List Ty) (q : PH) (L : LL) (x : SV) (K : SV → Prop) : Prop :=
  match x with
  | .lp k o =>
    match getL L k with
    | some (.cells _ cs) => match Nat.ble (o + sz) cs.length with | true => fSV (ofCells d (takeN (dropN cs o) sz)) K | false => False
    | some (.arr _ _ _ xs) => ldK (fun j => xs[j]?) o flat fun l => fSV (ofCells d l) K
    | some (.row _ _ _ cs) => match Nat.ble (o + sz) cs.length with | true => fSV (ofCells d (takeN (dropN cs o) sz)) K | false => False
    | _ => False
  | .el A j => ldK (rd q A) j flat fun l => fSV (ofCells d l) K
  | .v (.pointer (some a)) => ldK (rd q (some a)) 0 flat fun l => fSV (ofCells d l) K
  | _ => False
def loadK (T : Tab) (q : PH) (L : LL) (t : Nat) (x : SV) (K : SV → Prop) : Prop :=
  match ty T t with
  | ⟨.other, _, _, _, _, _⟩ => False
  | ⟨d, sz, _, _, flat, _⟩ => loadK1 d sz flat q L x K
def partsK (T : Tab) (fs : List (Nat × Nat)) (fr : Fr) (ps : List (Nat × Operand)) : List SV → (List SV → Prop) → Prop :=
  List.rec (motive := fun _ => List SV → (List SV → Prop) → Prop) (fun cs K => K cs)
    (fun p _ ih cs K =>
      match p with
      | (i, x) =>
      match nth fs i with
      | some (off, t) => fSV (opv fr x) fun y =>
        match y with
        | .agg l => (match Nat.beq l.length (ty T t).sz with | true => (match Nat.ble (off + l.length) cs.length with | true => fSVL (takeN cs off ++ l ++ dropN cs (off + l.length)) fun c => ih c K | false => False) | false => False)
        | .tup _ => False
        | .bad => False
        | .v (.agg _) => False
        | .v (.tuple _) => False
        | y => (match Nat.beq (ty T t).sz 1 with | true => (match Nat.blt off cs.length with | true => fSVL (setN cs off y) fun c => ih c K | false => False) | false => False)
      | none => False) ps
def valL (l : List Value) : List SV := List.rec (motive := fun _ => List SV) [] (fun x _ ih => match x with | .bool b => .bb b :: ih | x => .v x :: ih) l
def optAgg (h : Option (List Value)) : Option Value := match h with | some l => some (.agg l.toArray) | none => none
def optCons (hx : Option Value) (hr : Option (List Value)) : Option (List Value) := match hx with | some y => (match hr with | some s => some (y :: s) | none => none) | none => none
def toV (x : SV) : Option Value :=
  SV.rec (motive_1 := fun _ => Option Value) (motive_2 := fun _ => Option (List Value))
    (fun x => some x) (fun b => some (.bool b)) (fun p d => some (.bool (@decide p d))) (fun _ _ => none) (fun _ => none) (fun _ _ => none)
    (fun _ ih => optAgg ih) (fun _ _ => none) (fun _ _ _ => none) (fun _ => none) (fun _ _ _ _ _ => none) (fun _ => none) (fun _ _ => none) (fun _ => none) none
    (some []) (fun _ _ hx hr => optCons hx hr) x
def toVL (l : List SV) : Option (List Value) := List.rec (motive := fun _ => Option (List Value)) (some []) (fun x _ ih => optCons (toV x) ih) l
def datK (q : PH) (L : LL) (ks : List AK) : List SV → (List Dat → Prop) → Prop :=
  List.rec (motive := fun _ => List SV → (List Dat → Prop) → Prop)
    (fun xs K => match xs with | [] => K [] | _ :: _ => False)
    (fun k _ ih xs K => match xs with
      | [] => False
      | x :: xs => match k with
        | .v => (match toV x with
          | some y => ih xs fun l => K (.v y :: l)
          | none => False)
        | .sl sz => (match x with
          | .v (.slice A n c) => Ob (n ≤ c) ∧ Ob (∃ ys, ys.length = n * sz ∧ Reads q A ys) ∧ ∀ ys, ys.length = n * sz → Reads q A ys → ih xs fun l => K (.sl n ys :: l)
          | .own k => (match getL L k with | some (.arr _ sz' n ys) => (match Nat.beq sz' sz with | true => ih xs fun l => K (.sl n ys :: l) | false => False) | _ => False)
          | _ => False)) ks
def findS (Γ : List Spec) (f : FuncId) : Option Spec := List.rec (motive := fun _ => Option Spec) none (fun s _ ih => match Nat.beq s.f f with | true => some s | false => ih) Γ
def closed (x : SV) : Bool :=
  SV.rec (motive_1 := fun _ => Bool) (motive_2 := fun _ => Bool)
    (fun _ => true) (fun _ => true) (fun _ _ => true) (fun _ _ => false) (fun _ => false) (fun _ _ => false)
    (fun _ ih => ih) (fun _ ih => ih) (fun _ _ ih => ih) (fun _ => false) (fun _ _ _ _ _ => false) (fun _ => false) (fun _ _ => false) (fun _ => false) false
    true (fun _ _ hx hr => match hx with | true => hr | false => false) x
def RdsOk (q : PH) (l : List (Option Addr × List Value)) : Prop := List.rec (motive := fun _ => Prop) True (fun p _ ih => match p with | (A, xs) => Reads q A xs ∧ ih) l
def findC (Δ : List CS) (f : FuncId) : Option CS := List.rec (motive := fun _ => Option CS) none (fun s _ ih => match Nat.beq s.f f with | true => some s | false => ih) Δ
def asGet (as : As) (k : Nat) : Option Nat := List.rec (motive := fun _ => Option Nat) none (fun p _ ih => match p with | (u, x) => match Nat.beq u k with | true => some x | false => ih) as
def asHas (as : As) (k : Nat) : Bool := List.rec (motive := fun _ => Bool) false (fun p _ ih => match p with | (_, x) => match Nat.beq x k with | true => true | false => ih) as
def asK (b : Nat) (as : As) (k j : Nat) (K : As → Prop) : Prop :=
  match Nat.ble b k with
  | true => (match asGet as k with
    | some i => (match Nat.beq i j with | true => K as | false => False)
    | none => (match asHas as j with | true => False | false => K ((k, j) :: as)))
  | false => (match Nat.beq k j with
    | true => (match asGet as k with
      | some _ => K as
      | none => (match asHas as j with | true => False | false => K as))
    | false => False)
def mSV (b : Nat) (tm ac : SV) : As → (As → Prop) → Prop :=
  SV.rec (motive_1 := fun _ => Nat → SV → As → (As → Prop) → Prop) (motive_2 := fun _ => (Nat → List SV → As → (As → Prop) → Prop) × (List Value → Prop → Prop))
    (fun y _ tm as K => match tm with
      | .bad => K as
      | .v x => Ob (x = y) ∧ K as
      | .b p _ => (match y with | .bool y => Ob (p ↔ y = true) ∧ K as | _ => False)
      | .lq _ => (match y with | .pointer none => K as | _ => False)
      | _ => False)
    (fun y _ tm as K => match tm with
      | .bad => K as
      | .v (.bool x) => Ob (x = y) ∧ K as
      | .bb x => Ob (x = y) ∧ K as
      | .b p _ => Ob (p ↔ y = true) ∧ K as
      | _ => False)
    (fun p _ _ tm as K => match tm with
      | .bad => K as
      | .v (.bool x) => Ob (x = true ↔ p) ∧ K as
      | .bb x => Ob (x = true ↔ p) ∧ K as
      | .b p' _ => Ob (p' ↔ p) ∧ K as
      | _ => False)
    (fun j o' b tm as K => match tm with
      | .bad => K as
      | .lp k o => Ob (o = o') ∧ asK b as k j K
      | .lq k => (match o' with | 0 => asK b as k j K | _ + 1 => False)
      | _ => False)
    (fun j b tm as K => match tm with
      | .bad => K as
      | .own k => asK b as k j K
      | _ => False)
    (fun A' i' _ tm as K => match tm with
      | .bad => K as
      | .el A i => Ob (A = A' ∧ i = i') ∧ K as
      | _ => False)
    (fun _ ih b tm as K => match tm with
      | .bad => K as
      | .agg l => ih.1 b l as K
      | .v (.agg x) => ih.2 x.toList (K as)
      | _ => False)
    (fun _ ih b tm as K => match tm with
      | .bad => K as
      | .tup l => ih.1 b l as K
      | .v (.tuple x) => ih.2 x.toList (K as)
      | _ => False)
    (fun f' _ ih b tm as K => match tm with
      | .bad => K as
      | .fn f l => (match Nat.beq f f' with | true => ih.1 b l as K | false => False)
      | _ => False)
    (fun j b tm as K => match tm with
      | .bad => K as
      | .yl k => asK b as k j K
      | _ => False)
    (fun j lo' sz' n' ex' b tm as K => match tm with
      | .bad => K as
      | .vw k lo sz n ex => Ob (lo = lo' ∧ sz = sz' ∧ n = n' ∧ ex = ex') ∧ asK b as k j K
      | _ => False)
    (fun j b tm as K => match tm with
      | .bad => K as
      | .lq k => asK b as k j K
      | _ => False)
    (fun j n' b tm as K => match tm with
      | .bad => K as
      | .ls k n => Ob (n = n') ∧ asK b as k j K
      | _ => False)
    (fun j b tm as K => match tm with
      | .bad => K as
      | .mr k => asK b as k j K
      | _ => False)
    (fun _ tm as K => match tm with
      | .bad => K as
      | _ => False)
    (fun _ tm as K => match tm with | [] => K as | _ :: _ => False, fun tm K => match tm with | [] => K | _ :: _ => False)
    (fun _ _ hx hr => (fun b tm as K => match tm with | x :: r => hx b x as fun as => hr.1 b r as K | [] => False, fun tm K => match tm with | x :: r => hx 0 (.v x) [] fun _ => hr.2 r K | [] => False))
    ac b tm
def mL (b : Nat) (tm ac : List SV) : As → (As → Prop) → Prop :=
  List.rec (motive := fun _ => List SV → As → (As → Prop) → Prop)
    (fun tm as K => match tm with | [] => K as | _ :: _ => False)
    (fun y _ ih tm as K => match tm with | x :: r => mSV b x y as fun as => ih r as K | [] => False) ac tm
def mA (q : PH) (L : LL) (tm : List CA) (ac : List SV) : As → List Nat → (As → List Nat → Prop) → Prop :=
  List.rec (motive := fun _ => List SV → As → List Nat → (As → List Nat → Prop) → Prop)
    (fun ac as ro K => match ac with | [] => K as ro | _ :: _ => False)
    (fun t _ ih ac as ro K => match ac with
      | [] => False
      | y :: s => match t with
        | .w x => mSV 0 x y as fun as => ih s as ro K
        | .sl sz n xs => (match y with
          | .v (.slice A m c) => Ob (m = n ∧ m ≤ c ∧ xs.length = m * sz ∧ Reads q A xs) ∧ ih s as ro K
          | .own k => (match getL L k with
            | some (.arr _ sz' m ys) => (match Nat.beq sz' sz with | true => Ob (m = n ∧ ys = xs) ∧ ih s as (k :: ro) K | false => False)
            | _ => False)
          | .vw k lo sz' m _ => (match getL L k with
            | some (.arr _ sz'' n0 ys) => (match Nat.beq sz' sz, Nat.beq sz'' sz with | true, true => Ob (m = n ∧ lo + m ≤ n0 ∧ vwC ys lo sz m = xs) ∧ ih s as (k :: ro) K | _, _ => False)
            | _ => False)
          | _ => False)
        | .pt cs => (match y with
          | .lp k 0 => (match getL L k with
            | some (.cells _ acs) => pcG (fun t y K => mSV 0 t y [] fun _ => K) q L cs acs (k :: ro) fun ro => ih s as ro K
            | _ => False)
          | .v (.pointer (some a)) => Ob (a.spot = none ∧ ∃ us, us.length = cs.length ∧ Reads q (some a) us ∧ pcArgs q cs us) ∧ ih s as ro K
          | _ => False)) tm ac
def convK (T : Tab) (q : PH) (L : LL) (src dst : Nat) (x : SV) (K : SV → Prop) : Prop := Eng.convK T q L src dst x K
def fieldK (T : Tab) (t f : Nat) (x : SV) (K : SV → Prop) : Prop :=
  match fieldOf T t f, x with
  | some (off, ft), .agg cs => (match ty T ft with
    | ⟨.other, _, _, _, _, _⟩ => False
    | ⟨d, sz, _, _, _, _⟩ => (match Nat.ble (off + sz) cs.length with | true => fSV (ofCells d (takeN (dropN cs off) sz)) K | false => False))
  | _, _ => False
def buildK (T : Tab) (t : Nat) (fr : Fr) (ps : List (Nat × Operand)) (K : SV → Prop) : Prop :=
  match (ty T t).d with
  | .struct fs => partsK T fs fr ps (valL (ty T t).zero) fun cs => K (.agg cs)
  | _ => False
def callK (T : Tab) (Γ : List Spec) (Δ : List CS) (q : PH) (c : Call) (fr : Fr) (L : LL) (K : SV → Prop) : Prop :=
  match c with
  | ⟨.builtin b, xs, ts⟩ => builtK T b (opvs fr xs.toList) ts.toList L K
  | ⟨.value (.func f), xs, _⟩ => (match findS Γ f with
    | some s => datK q L s.ks (opvs fr xs.toList) fun ds => Ob (s.dom ds) ∧ fSV (s.val ds) fun r => match closed r with | true => K r | false => False
    | none => (match findC Δ f with
      | some s => (match s.calm with
        | true => ∃ i, Ob (s.ok i) ∧ Ob (Eng.RdsOk q (s.rds i)) ∧ mA q L (s.args i) (opvs fr xs.toList) [] [] fun as _ => fSV (s.res i) fun r => (match as, closed r with | [], true => K r | _, _ => False)
        | false => False)
      | none => False))
  | _ => False
def calmK (T : Tab) (Γ : List Spec) (Δ : List CS) (wr : Bool) (q : PH) (op : Op) (fr : Fr) (L : LL) (K : SV → Prop) : Prop :=
  match op with
  | .move x => fSV (opv fr x) K
  | .assign x => fSV (opv fr x) K
  | .pick c a b => pickK (opv fr c) (opv fr a) (opv fr b) K
  | .binOp op t x y _ => binK (ty T t).cmp (ty T t).d op wr (opv fr x) (opv fr y) K
  | .unOp op _ x => unK op wr (opv fr x) K
  | .convert src dst x => Eng.convK T q L src dst (opv fr x) K
  | .extract x i => extrK (opv fr x) i K
  | .field t x f => fieldK T t f (opv fr x) K
  | .fieldAddr t x f => faddrK T t f (opv fr x) K
  | .nilCheck x => nilcK (opv fr x) K
  | .indexAddr t x i => idxK T L t (opv fr x) (opv fr i) K
  | .index t x i => strIdxK T t (opv fr x) (opv fr i) K
  | .load t x => loadK T q L t (opv fr x) K
  | .slice t x lo hi mx => sliceOpK T L t (opv fr x) (optv fr lo) (optv fr hi) (optv fr mx) K
  | .build t ps => buildK T t fr ps.toList K
  | .makeFunc fn first cs => mkfK fn (opvs fr first.toList) (opvs fr cs.toList) K
  | .call c => callK T Γ Δ q c fr L K
  | _ => False
def mFr (b : Nat) (tm : Fr) (ac : Fr) : As → (As → Prop) → Prop := List.rec (motive := fun _ => As → (As → Prop) → Prop) (fun as K => K as) (fun p _ ih as K => match p with | (u, x) => mSV b x (get ac u) as fun as => ih as K) tm
def mLB (b : Nat) (tm ac : LB) (as : As) (K : As → Prop) : Prop :=
  match tm, ac with
  | .cells T l, .cells T' l' => (match Nat.beq T T' with | true => mL b l l' as K | false => False)
  | .arr E sz n xs, .arr E' sz' n' xs' => (match Nat.beq E E' with | true => (match Nat.beq sz sz' with | true => Ob (n = n' ∧ xs = xs') ∧ K as | false => False) | false => False)
  | .dfr, .dfr => K as
  | .loop .ready none, .loop .ready none => K as
  | .loop .busy none, .loop .busy none => K as
  | _, _ => False
def mLL (b : Nat) (tm : LL) (ac : LL) : As → (As → Prop) → Prop := List.rec (motive := fun _ => As → (As → Prop) → Prop) (fun as K => K as)
  (fun p _ ih as K => match p with | (u, x) => (match asGet as u with
    | some j => (match getL ac j with | some y => mLB b x y as fun as => ih as K | none => False)
    | none => (match Nat.blt u b, asHas as u with
      | true, false => (match getL ac u with | some y => mLB b x y ((u, u) :: as) fun as => ih as K | none => False)
      | _, _ => False))) tm
def restL (as : As) (L : LL) : LL := List.rec (motive := fun _ => LL) [] (fun p _ ih => match p with | (u, x) => match asHas as u with | true => ih | false => (u, x) :: ih) L
def sameL (b : Nat) (tm : LL) (ac : LL) (as : As) (K : Prop) : Prop := List.rec (motive := fun _ => Prop) K
  (fun p _ ih => match p with | (u, x) => (match asHas as u with
    | true => False
    | false => (match getL ac u with | some y => mLB b x y [] fun _ => ih | none => False))) tm
def ltK (b : Nat) (x : SV) : Bool :=
  SV.rec (motive_1 := fun _ => Bool) (motive_2 := fun _ => Bool)
    (fun _ => true) (fun _ => true) (fun _ _ => true) (fun k _ => Nat.blt k b) (fun k => Nat.blt k b) (fun _ _ => true)
    (fun _ ih => ih) (fun _ ih => ih) (fun _ _ ih => ih) (fun k => Nat.blt k b) (fun k _ _ _ _ => Nat.blt k b) (fun k => Nat.blt k b) (fun k _ => Nat.blt k b) (fun k => Nat.blt k b) true
    true (fun _ _ hx hr => match hx with | true => hr | false => false) x
def ltKL (b : Nat) (l : List SV) : Bool := List.rec (motive := fun _ => Bool) true (fun x _ ih => match ltK b x with | true => ih | false => false) l
def ltF (b : Nat) (l : Fr) : Bool := List.rec (motive := fun _ => Bool) true (fun p _ ih => match p with | (_, x) => match ltK b x with | true => ih | false => false) l
def ltLL (b : Nat) (l : LL) : Bool := List.rec (motive := fun _ => Bool) true (fun p _ ih => match p with | (u, x) => match Nat.blt u b with
    | true => (match x with | .cells _ l => (match ltKL b l with | true => ih | false => false) | .row _ _ _ l => (match ltKL b l with | true => ih | false => false) | _ => ih)
    | false => false) l
def hidFree (as : As) (L : LL) : Bool := List.rec (motive := fun _ => Bool) true (fun p _ ih => match p with | (k, x) => match x with | .dfr => (match asHas as k with | true => false | false => ih) | _ => ih) L
def rK (as : As) (nk k : Nat) (K : Nat → Prop) : Prop :=
  match asGet as k with
  | some j => K j
  | none => fN (nk + k) K
def rSV (as : As) (nk : Nat) (x : SV) : (SV → Prop) → Prop :=
  SV.rec (motive_1 := fun _ => (SV → Prop) → Prop) (motive_2 := fun _ => (List SV → Prop) → Prop)
    (fun x K => fSV (.v x) K) (fun x K => fSV (.bb x) K) (fun p d K => fSV (.b p d) K) (fun k o K => rK as nk k fun j => K (.lp j o)) (fun k K => rK as nk k fun j => K (.own j)) (fun A j K => fSV (.el A j) K)
    (fun _ ih K => ih fun l => K (.agg l)) (fun _ ih K => ih fun l => K (.tup l)) (fun f _ ih K => ih fun l => K (.fn f l)) (fun k K => rK as nk k fun j => K (.yl j)) (fun k lo sz n ex K => rK as nk k fun j => K (.vw j lo sz n ex)) (fun k K => rK as nk k fun j => K (.lq j)) (fun k n K => rK as nk k fun j => K (.ls j n)) (fun k K => rK as nk k fun j => K (.mr j)) (fun K => fSV .bad K)
    (fun K => K []) (fun _ _ hx hr K => hx fun y => hr fun s => K (y :: s)) x
def rSVL (as : As) (nk : Nat) (l : List SV) : (List SV → Prop) → Prop := List.rec (motive := fun _ => (List SV → Prop) → Prop) (fun K => K []) (fun x _ ih K => rSV as nk x fun y => ih fun s => K (y :: s)) l
def rLB (as : As) (nk : Nat) (x : LB) (K : LB → Prop) : Prop :=
  match x with
  | .cells T l => rSVL as nk l fun l => K (.cells T l)
  | .row E sz n l => rSVL as nk l fun l => K (.row E sz n l)
  | x => fLB x K
def rLL (as : As) (nk : Nat) (l : LL) (rest : LL) : (LL → Prop) → Prop := List.rec (motive := fun _ => (LL → Prop) → Prop) (fun K => K rest)
  (fun p _ ih K => match p with | (k, x) => rK as nk k fun j => rLB as nk x fun y => ih fun s => K ((j, y) :: s)) l
def asLt (m nk : Nat) (l : As) : Bool := List.rec (motive := fun _ => Bool) true (fun p _ ih => match p with | (k, j) => match Nat.blt k m, Nat.blt j nk with | true, true => ih | _, _ => false) l
def roFree (as : As) (l : List Nat) : Bool := List.rec (motive := fun _ => Bool) true (fun k _ ih => match asHas as k with | true => false | false => ih) l
def callC (s : CS) (n0 nk : Nat) (q : PH) (fr : Fr) (L : LL) (args : List SV) (K : SV → Nat → PH → LL → Prop) : Prop :=
  match Nat.ble n0 nk, ltF nk fr, ltLL nk L with
  | true, true, true => ∃ i, Ob (s.ok i) ∧ Ob (Eng.RdsOk q (s.rds i)) ∧ mA q L (s.args i) args [] [] fun as ro => mLL 0 (s.L i) L as fun as =>
    match asLt s.keys nk as, roFree as ro, hidFree as L with
    | true, true, true => (match s.gr with
      | false => rLL as nk (s.L' i) (restL as L) fun L' => rSV as nk (s.res i) fun r => fN (nk + s.more) fun nk' => K r nk' q L'
      | true => ∀ q' g, q.le q' → s.okG i g → Eng.RdsOk q' (s.rdsG i g) → rLL as nk (s.LG i g) (restL as L) fun L' => rSV as nk (s.resG i g) fun r => fN (nk + s.more) fun nk' => K r nk' q' L')
    | _, _, _ => False
  | _, _, _ => False
def newK (n0 key : Nat) (fr : Fr) (L : LL) (lb : LB) (K : LL → Prop) : Prop :=
  match Nat.ble n0 key with
  | true => (match hasF key fr with
    | true => False
    | false => (match hasLL key L with | true => False | false => K ((key, lb) :: L)))
  | false => False
def oneL (l : List SV) : Bool := List.rec (motive := fun _ => Bool) true (fun x _ ih => match x with | .agg _ => false | .tup _ => false | .bad => false | .v (.agg _) => false | .v (.tuple _) => false | _ => ih) l
def oneVL (l : List Value) : Bool := List.rec (motive := fun _ => Bool) true (fun x _ ih => match x with | .agg _ => false | .tuple _ => false | _ => ih) l
def boxCells (T : Tab) (t : Nat) (x : SV) (K : List SV → Prop) : Prop :=
  match x with
  | .agg l => (match Nat.beq l.length (ty T t).sz, oneL l with | true, true => K l | _, _ => False)
  | .tup _ => False
  | .bad => False
  | .v (.agg _) => False
  | .v (.tuple _) => False
  | y => (match Nat.beq (ty T t).sz 1 with | true => K [y] | false => False)
def elemPl (sz e : Nat) (n : Nat) : Nat → List (Nat × Nat) := Nat.rec (motive := fun _ => Nat → List (Nat × Nat)) (fun _ => []) (fun _ ih i => (i * sz, e) :: ih (i + 1)) n
def repl (n : Nat) (l : List SV) : List SV := Nat.rec (motive := fun _ => List SV) [] (fun _ ih => l ++ ih) n
def storeK (T : Tab) (t : Nat) (p x : SV) (L : LL) (K : LL → Prop) : Prop :=
  match isOther T t with
  | true => False
  | false => match p with
  | .lp k o => (match getL L k with
    | some (.cells TT cs) => boxCells T t x fun l => (match Nat.ble (o + l.length) cs.length with | true => fLL (setL L k (.cells TT (takeN cs o ++ l ++ dropN cs (o + l.length)))) K | false => False)
    | some (.arr E sz n xs) => (match Nat.beq (ty T t).sz 1, toV x with
      | true, some v => (match v with
        | .agg _ => False
        | .tuple _ => False
        | v => Ob (o < xs.length) ∧ ∀ N zs, N = n → zs = xs.set o v → fLL (setL L k (.arr E sz N zs)) K)
      | _, _ => False)
    | _ => False)
  | _ => False
def appGo (byt n0 e sz key : Nat) (s : SV) (fr : Fr) (L : LL) (K : SV → LL → Prop) (m : Nat) (ys : List Value) : Prop :=
  (match s with
  | .v (.slice none 0 0) => Ob (m ≤ 9223372036854775807 ∧ m * byt ≤ 140737488355328 ∧ ∀ y ∈ ys, y.oneCell' = true) ∧ ∀ N zs, N = m → zs = ys → newK n0 key fr L (.arr e sz N zs) fun L => K (.own key) L
  | .own k => (match getL L k with
    | some (.arr e' sz' n xs) => (match Nat.beq e' e, Nat.beq sz' sz with
      | true, true => Ob (n + m ≤ 9223372036854775807 ∧ (n + m) * byt ≤ 140737488355328 ∧ ∀ y ∈ ys, y.oneCell' = true) ∧ ∀ N zs, N = n + m → zs = xs ++ ys → newK n0 key fr L (.arr e sz N zs) fun L => fLL (remL L k) fun L => K (.own key) L
      | _, _ => False)
    | _ => False)
  | _ => False)
def appK (T : Tab) (q : PH) (t : Nat) (n0 key : Nat) (s x : SV) (fr : Fr) (L : LL) (K : SV → LL → Prop) : Prop :=
  match (ty T t).d with
  | .slice e =>
    (match ty T e with
    | ⟨.other, _, _, _, _, _⟩ => False
    | ⟨_, sz, byt, _, _, _⟩ =>
      match x with
      | .v (.slice A m _) => Ob (∃ ys, ys.length = m * sz ∧ Reads q A ys) ∧ ∀ ys, ys.length = m * sz → Reads q A ys → appGo byt n0 e sz key s fr L K m ys
      | .own j => (match getL L j with | some (.arr _ sz' m ys) => (match Nat.beq sz' sz with | true => appGo byt n0 e sz key s fr L K m ys | false => False) | _ => False)
      | .vw j lo sz'' m _ => (match getL L j with | some (.arr _ sz' n1 ys) => (match Nat.beq sz'' sz, Nat.beq sz' sz with | true, true => Ob (lo + m ≤ n1) ∧ appGo byt n0 e sz key s fr L K m (vwC ys lo sz m) | _, _ => False) | _ => False)
      | _ => False)
  | _ => False
def appS (T : Tab) (t u : Nat) (n0 key : Nat) (s x : SV) (fr : Fr) (L : LL) (K : SV → LL → Prop) : Prop :=
  match (ty T t).d, (ty T u).d, x with
  | .slice e, .str, .v (.string c) => (match isByte (ty T e) with
    | true => (match s with
      | .v (.slice none 0 0) => Ob (c.size ≤ 140737488355328) ∧ ∀ N zs, N = c.size → zs = c.data.toList.map bv → newK n0 key fr L (.arr e 1 N zs) fun L => K (.own key) L
      | .own k => (match getL L k with
        | some (.arr e' sz' n xs) => (match Nat.beq e' e, Nat.beq sz' 1 with
          | true, true => Ob (n + c.size ≤ 140737488355328) ∧ ∀ N zs, N = n + c.size → zs = xs ++ c.data.toList.map bv → newK n0 key fr L (.arr e 1 N zs) fun L => fLL (remL L k) fun L => K (.own key) L
          | _, _ => False)
        | _ => False)
      | _ => False)
    | false => False)
  | _, _, _ => False
def makeK (T : Tab) (t : Nat) (n0 key : Nat) (l c : SV) (fr : Fr) (L : LL) (K : SV → LL → Prop) : Prop :=
  match (ty T t).d, l, c with
  | .slice e, .v (.int .i64 n), .v (.int .i64 m) =>
    (match ty T e with
    | ⟨.other, _, _, _, _, _⟩ => False
    | ⟨_, sz, byt, zero, _, _⟩ => (match Nat.beq sz 1, zero, oneVL zero with
      | true, [z], true => Ob (0 ≤ n ∧ n ≤ m ∧ m ≤ 9223372036854775807 ∧ m * byt ≤ 140737488355328) ∧ ∀ N zs, N = n.toNat → zs = List.replicate n.toNat z → newK n0 key fr L (.arr e sz N zs) fun L => K (.own key) L
      | _, _, _ => Ob (n = 0 ∧ 0 ≤ m ∧ m ≤ 9223372036854775807 ∧ m * byt ≤ 140737488355328) ∧ newK n0 key fr L (.arr e sz 0 []) fun L => K (.own key) L))
  | _, _, _ => False
def yGet (Y : Ye) (k : Nat) : Option Hd := List.rec (motive := fun _ => Option Hd) none (fun p _ ih => match p with | (j, h) => match Nat.beq j k with | true => some h | false => ih) Y
def dLt (b : Nat) (L : LL) : Bool := List.rec (motive := fun _ => Bool) true (fun p _ ih => match p with | (k, x) => match x with | .dfr => (match Nat.blt k b with | true => ih | false => false) | _ => ih) L
def nilF (ts : List (Nat × Nat × Nat × Nat)) (n0 : Nat) : Nat → Fr → LL → (Nat → Fr → LL → Prop) → Prop :=
  List.rec (motive := fun _ => Nat → Fr → LL → (Nat → Fr → LL → Prop) → Prop) (fun nk fr L K => K nk fr L)
    (fun p _ ih nk fr L K =>
      match p with
      | (t, o, e, sz) =>
      match sz with
      | 0 => False
      | sz + 1 => match nilAt fr t with
        | .v (.slice none 0 0) => newK n0 nk fr L (.arr e (sz + 1) 0 []) fun L => fN (nk + 1) fun nk1 => ih nk1 (setF fr t (.own nk)) L K
        | .lp k _ => (match getL L k with
          | some (.cells T cs) => (match nth cs o with
            | some (.v (.slice none 0 0)) => newK n0 nk fr L (.arr e (sz + 1) 0 []) fun L => fLL (setL L k (.cells T (setN cs o (.own nk)))) fun L => fN (nk + 1) fun nk1 => ih nk1 fr L K
            | _ => ih nk fr L K)
          | _ => ih nk fr L K)
        | _ => ih nk fr L K) ts
def effK (E : Env) (inl : Inl) (Y : Ye) (wr : Bool) (n0 N key : Nat) (dst : Option Nat) (op : Op) (nk : Nat) (q : PH) (fr : Fr) (L : LL) (K : Kt) : Prop :=
  match op with
  | .alloc t => (match ty E.T t with
    | ⟨.other, _, _, _, _, _⟩ => False
    | ⟨_, _, _, zero, _, _⟩ => fSVL (valL zero) fun z => newK n0 key fr L (.cells t z) fun L => putK N dst (.lp key 0) fr fun fr => K nk q fr L)
  | .box t x => (match (ty E.T t).d with
    | .other => False
    | _ => boxCells E.T t (opv fr x) fun l => newK n0 key fr L (.cells t l) fun L => putK N dst (.lp key 0) fr fun fr => K nk q fr L)
  | .buildSlice t n ps => frzKs (ownsPs fr ps.toList) q fr L fun q fr L => (match (ty E.T t).d with
    | .slice e => (match ty E.T e with
      | ⟨.other, _, _, _, _, _⟩ => False
      | ⟨_, sz, _, zero, _, _⟩ => partsK E.T (elemPl sz e n 0) fr ps.toList (repl n (valL zero)) fun cs => (match toVL cs with
        | some xs => (match oneVL xs, Nat.ble (n * sz) 16777216 with
          | true, true => newK n0 key fr L (.arr e sz n xs) fun L => putK N dst (.own key) fr fun fr => K nk q fr L
          | _, _ => False)
        | none => (match hasL key cs, Nat.ble (n * sz) 16777216 with
          | false, true => newK n0 key fr L (.cells e cs) fun L => putK N dst (.ls key n) fr fun fr => K nk q fr L
          | _, _ => False)))
    | _ => False)
  | .makeSlice t l c => makeK E.T t n0 key (opv fr l) (opv fr c) fr L fun x L => putK N dst x fr fun fr => K nk q fr L
  | .store t a x => frzKs (ownSt fr L a x) q fr L fun q fr L => (match opv fr x with
    | .vw k 0 sz m true => (match getL L k with
      | some (.arr e sz' n xs) => (match Nat.beq sz' sz with
        | true => Ob (m ≤ n) ∧ ∀ N' zs, N' = m → zs = xs.take (m * sz) → newK n0 key fr L (.arr e sz' N' zs) fun L => fLL (remL L k) fun L => storeK E.T t (opv fr a) (.own key) L fun L => putK N dst (.v undef) fr fun fr => K nk q fr L
        | false => False)
      | _ => False)
    | y => storeK E.T t (opv fr a) y L fun L => putK N dst (.v undef) fr fun fr => K nk q fr L)
  | .convert src t x => (match (ty E.T src).d, (ty E.T t).d, opv fr x with
    | .str, .slice e, .v (.string s) => (match (ty E.T e).d with
      | .int .u8 => sbK q s fun q x => putK N dst x fr fun fr => K nk q fr L
      | _ => False)
    | .slice _, .slice e, .own k => (match Nat.beq src t, (ty E.T e).d, getL L k with
      | true, .int .u8, some (.arr _ _ n xs) => Ob (0 < n) ∧ ∀ q' A c, q.le q' → n ≤ c → Reads q' A xs → fFr (fzF k (.slice A n c) fr) fun fr => fLL (fzLL k (.slice A n c) (remL L k)) fun L => putK N dst (.v (.slice A n c)) fr fun fr => K nk q' fr L
      | _, _, _ => False)
    | _, _, _ => calmK E.T E.Γ E.Δ wr q op fr L fun x => putK N dst x fr fun fr => K nk q fr L)
  | .call ⟨callee, xs, ts⟩ => (match callee with
    | .builtin .append => (match opvs fr xs.toList, ts.toList with
      | [s, x], [t, t'] => (match Nat.beq t t' with
        | true => appK E.T q t n0 key s x fr L fun x L => putK N dst x fr fun fr => K nk q fr L
        | false => appS E.T t t' n0 key s x fr L fun x L => putK N dst x fr fun fr => K nk q fr L)
      | _, _ => False)
    | .builtin .copy => (match opvs fr xs.toList, ts.toList with
      | [d, s], [t, _] => copyK E.T q t d s L fun x L => putK N dst x fr fun fr => K nk q fr L
      | _, _ => False)
    | .value (.func f) => (match findS E.Γ f with
      | some _ => calmK E.T E.Γ E.Δ wr q op fr L fun x => putK N dst x fr fun fr => K nk q fr L
      | none => (match findC E.Δ f with
        | some s => (match s.calm with
          | true => calmK E.T E.Γ E.Δ wr q op fr L fun x => putK N dst x fr fun fr => K nk q fr L
          | false => nilF (nlOf E.T L (opvs fr xs.toList)) n0 nk fr L fun nk fr L => callC s n0 nk q fr L (opvs fr xs.toList) fun r nk q L => putK N dst r fr fun fr => K nk q fr L)
        | none => (match Nat.ble n0 nk, ltF nk fr, dLt nk L with
          | true, true, true => inl Y f (opvs fr xs.toList) nk q L fun r nk q L => putK N dst r fr fun fr => K nk q fr L
          | _, _, _ => False)))
    | .value (.tmp t) => (match get fr t with
      | .fn f cs => (match Nat.ble n0 nk, ltF nk fr, dLt nk L with
        | true, true, true => inl Y f (opvs fr xs.toList ++ cs) nk q L fun r nk q L => putK N dst r fr fun fr => K nk q fr L
        | _, _, _ => False)
      | .yl k => (match Nat.ble n0 nk, ltF nk fr, dLt nk L, yGet Y k with
        | true, true, true, some h => h (opvs fr xs.toList) nk q L fun r nk q L => putK N dst r fr fun fr => K nk q fr L
        | _, _, _, _ => False)
      | _ => False)
    | _ => calmK E.T E.Γ E.Δ wr q op fr L fun x => putK N dst x fr fun fr => K nk q fr L)
  | _ => calmK E.T E.Γ E.Δ wr q op fr L fun x => putK N dst x fr fun fr => K nk q fr L
def vcOps1 (E : Env) (inl : Inl) (Y : Ye) (wr : Bool) (n0 N : Nat) (all : List Oper) (o : Oper) (ih : Nat → Nat → PH → Fr → LL → Kt → Prop) (key nk : Nat) (q : PH) (fr : Fr) (L : LL) (K : Kt) : Prop :=
  match o with
  | ⟨dst, op, _, _, _, guard⟩ =>
    match guard with
    | none => effK E inl Y wr n0 N key dst op nk q fr L fun nk q fr L => ih (key + 1) nk q fr L K
    | some (j, want) =>
      match dstOf all j with
      | none => False
      | some t =>
        match get fr t with
        | .bb b => (match b, want with
          | true, true => effK E inl Y wr n0 N key dst op nk q fr L fun nk q fr L => ih (key + 1) nk q fr L K
          | false, false => effK E inl Y wr n0 N key dst op nk q fr L fun nk q fr L => ih (key + 1) nk q fr L K
          | _, _ => putK N dst (.v undef) fr fun fr => ih (key + 1) nk q fr L K)
        | .b p _ => (match want with
          | true => (p → effK E inl Y wr n0 N key dst op nk q (setF fr t (.bb true)) L fun nk q fr L => ih (key + 1) nk q fr L K) ∧ (¬ p → putK N dst (.v undef) (setF fr t (.bb false)) fun fr => ih (key + 1) nk q fr L K)
          | false => (p → putK N dst (.v undef) (setF fr t (.bb true)) fun fr => ih (key + 1) nk q fr L K) ∧ (¬ p → effK E inl Y wr n0 N key dst op nk q (setF fr t (.bb false)) L fun nk q fr L => ih (key + 1) nk q fr L K))
        | .v (.tuple _) => putK N dst (.v undef) fr fun fr => ih (key + 1) nk q fr L K
        | _ => False
def vcOps (E : Env) (inl : Inl) (Y : Ye) (wr : Bool) (n0 N : Nat) (all : List Oper) (ops : List Oper) : Nat → Nat → PH → Fr → LL → Kt → Prop :=
  List.rec (motive := fun _ => Nat → Nat → PH → Fr → LL → Kt → Prop) (fun _ nk q fr L K => K nk q fr L) (fun o _ ih => vcOps1 E inl Y wr n0 N all o ih) ops
def calmOnly1 (T : Tab) (Γ : List Spec) (Δ : List CS) (o : Oper) (ih : Bool) : Bool :=
  match o.op with
    | .alloc _ | .box _ _ | .buildSlice _ _ _ | .makeSlice _ _ _ | .store _ _ _ => false
    | .convert s t _ => (match (ty T s).d, (ty T t).d with
      | .str, .slice _ => false
      | .slice _, .slice _ => false
      | _, _ => ih)
    | .call ⟨.builtin .append, _, _⟩ => false
    | .call ⟨.builtin .copy, _, _⟩ => false
    | .call ⟨.builtin _, _, _⟩ => ih
    | .call ⟨.value (.func f), _, _⟩ => (match findS Γ f with | some _ => ih | none => (match findC Δ f with | some s => (match s.calm with | true => ih | false => false) | none => false))
    | .call _ => false
    | _ => ih
def calmOnly (T : Tab) (Γ : List Spec) (Δ : List CS) (l : List Oper) : Bool := List.rec (motive := fun _ => Bool) true (fun o _ ih => calmOnly1 T Γ Δ o ih) l
def firstReg (c : Code) : Option Nat :=
  Code.rec (motive := fun _ => Option Nat) none (fun id _ _ => some id) (fun _ _ a b => match a with | some x => some x | none => b) (fun _ _ _ a b => match a with | some x => some x | none => b)
    (fun _ _ a => a) (fun _ a => a) (fun _ _ _ _ _ _ => none) (fun _ => none) (fun _ a => a) (fun _ => none) (fun _ => none) none (fun _ => none) c
def hasKey (k : Nat) (L : LL) : Bool := List.rec (motive := fun _ => Bool) false (fun p _ ih => match p with | (u, _) => match Nat.beq u k with | true => true | false => ih) L
def keysOk (lo hi : Nat) (L : LL) : Bool := List.rec (motive := fun _ => Bool) true (fun p r ih => match p with | (k, _) => match Nat.ble lo k, Nat.blt k hi, hasKey k r with | true, true, false => ih | _, _, _ => false) L
def dfrIn (rest : LL) (L : LL) : Bool := List.rec (motive := fun _ => Bool) true (fun p _ ih => match p with | (k, x) => match x with | .dfr => (match hasKey k rest with | true => ih | false => false) | _ => ih) L
def loopRound (I : Inv) (n0 nk : Nat) (q : PH) (kf : Fr) (rest : LL) (body : Nat → PH → Fr → LL → Ke → Prop) (K : Ke) (q1 : PH) : Prop :=
  ∀ i, I.ok i → I.rd q1 i →
    match keysOk 0 (nk + I.keys) (I.L nk i), ltF (nk + I.keys) (I.fr nk i), ltLL (nk + I.keys) (I.L nk i) with
    | true, true, true => fFr (appF (I.fr nk i) kf) fun fr1 => fLL (appL (I.L nk i) rest) fun L1 => fN (nk + I.keys) fun nk1 => body nk1 q1 fr1 L1
      (thenE (fun nk2 q' fr' L' => nilF I.nils n0 nk2 fr' L' fun _ fr' L' => frzF I.frz q' fr' L' fun q' fr' L' => ∃ j, Ob (I.ok j ∧ I.μ j < I.μ i) ∧ Ob (I.rd q' j) ∧ Ob (leK I.gr q q') ∧ mFr nk (I.fr nk j) fr' [] fun as => mLL nk (I.L nk j) L' as fun as => mFr nk kf fr' as fun as => sameL nk rest L' as (dfrIn rest L' = true)) K)
    | _, _, _ => False
def loopK (I : Inv) (n0 nk : Nat) (q : PH) (fr : Fr) (L : LL) (body : Nat → PH → Fr → LL → Ke → Prop) (K : Ke) : Prop :=
  match Nat.ble n0 nk with
  | false => False
  | true =>
  nilF I.nils n0 nk fr L fun nk fr L => frzF I.frz q fr L fun q fr L =>
  fFr (keepF I.keep fr) fun kf =>
  match Nat.ble n0 nk, ltF nk kf with
  | true, true => ∃ i0, Ob (I.ok i0) ∧ Ob (I.rd q i0) ∧ mFr nk (I.fr nk i0) fr [] fun as => mLL nk (I.L nk i0) L as fun as => fLL (restL as L) fun rest =>
    match ltLL nk rest, hidFree as L with
    | true, true =>
      match I.gr with
      | false => loopRound I n0 nk q kf rest body K q
      | true => ∀ q1, q.le q1 → loopRound I n0 nk q kf rest body K q1
    | _, _ => False
  | _, _ => False
def cutNext (I : Cut) (base : Nat) (kf : Fr) (rest : LL) (vb : Nat → PH → Fr → LL → Prop) (q1 : PH) : Prop :=
  ∀ j, I.ok q1 j →
    match keysOk 0 (base + I.keys) (I.L j), ltF (base + I.keys) (I.fr j), ltLL (base + I.keys) (I.L j) with
    | true, true, true => fN (base + I.keys) fun nk => fFr (appF (I.fr j) kf) fun fr1 => fLL (appL (I.L j) rest) fun L1 => vb nk q1 fr1 L1
    | _, _, _ => False
def cutK (I : Cut) (n0 : Nat) (q : PH) (fr : Fr) (va : Ke → Prop) (vb : Nat → PH → Fr → LL → Prop) (K : Ke) : Prop :=
  fFr (keepF I.keep fr) fun kf => fLL I.rest fun rest => fN I.base fun base =>
  match Nat.ble n0 base, ltF base kf, ltLL base rest with
  | true, true, true =>
    va (thenE (fun nk1 q' fr' L' => nilF I.nils n0 nk1 fr' L' fun _ fr' L' => frzF I.frz q' fr' L' fun q' fr' L' => ∃ j, Ob (I.ok q' j) ∧ Ob (leK I.gr q q') ∧ mFr base (I.fr j) fr' [] fun as => mLL base (I.L j) L' as fun as => mFr base kf fr' as fun as => sameL base rest L' as (dfrIn rest L' = true)) K)
    ∧ (match I.gr with
      | false => cutNext I base kf rest vb q
      | true => ∀ q1, q.le q1 → cutNext I base kf rest vb q1)
  | _, _, _ => False
def putsF (ps : List Nat) (xs : List SV) (N : Nat) : Fr → (Fr → Prop) → Prop :=
  List.rec (motive := fun _ => List SV → Fr → (Fr → Prop) → Prop)
    (fun xs fr K => match xs with | [] => K fr | _ :: _ => False)
    (fun p _ ih xs fr K => match xs with | x :: xs => (match Nat.blt p N with | true => ih xs ((p, x) :: fr) K | false => False) | [] => False) ps xs
def roundK (va vb : Nat → Nat → PH → Fr → LL → Ke → Prop) (N nk : Nat) (ps : List Nat) (fr : Fr) : Hd := fun args nk1 q L K1 =>
  match getL L nk with
  | some (.loop .ready none) => putsF ps args N fr fun fr1 =>
    va nk1 nk1 q fr1 L (thenE (fun nk2 q fr2 L =>
      (match getL L nk with
      | some (.loop .ready none) => fLL (setL L nk (.loop .busy none)) fun L =>
        vb nk1 nk2 q fr2 L fun ex nk3 q _ L =>
          (match getL L nk with
          | some (.loop .busy none) => (match ex with
            | .norm => fLL (setL L nk (.loop .ready none)) fun L => K1 (.bb true) nk3 q L
            | .ret => fLL (setL L nk (.loop .done (some .ret))) fun L => K1 (.bb false) nk3 q L
            | .exit n => fLL (setL L nk (.loop .done (some (.exit n)))) fun L => K1 (.bb false) nk3 q L
            | .goto n => fLL (setL L nk (.loop .done (some (.goto n)))) fun L => K1 (.bb false) nk3 q L)
          | _ => False)
      | _ => False)) (fun _ _ _ _ _ => False))
  | _ => False
def vcR (E : Env) (inl : Inl) (f : Nat) (wr : Bool) (N : Nat) (c : Code) : Nat → Ye → Option Nat → Nat → PH → Fr → LL → Ke → Prop :=
  Code.rec (motive := fun _ => Nat → Ye → Option Nat → Nat → PH → Fr → LL → Ke → Prop)
    (fun _ _ _ nk q fr L K => K .norm nk q fr L)
    (fun _ ops draw n0 Y _ nk q fr L K => (match draw with
      | false => fN (nk + ops.toList.length) fun nk' => vcOps E inl Y wr n0 N ops.toList ops.toList nk nk' q fr L (K .norm)
      | true => Ob (Region.lexB .any ops = true) ∧ (match calmOnly E.T E.Γ E.Δ ops.toList with
        | true => fN (nk + ops.toList.length) fun nk' => vcOps E inl Y wr n0 N ops.toList ops.toList nk nk' q fr L (K .norm)
        | false => (match Nat.ble n0 nk with
          | true => ∃ pl : Pn, Ob (planOk ops pl = true) ∧ vcP ltF ltLL (fun op fr L q K => calmK E.T E.Γ E.Δ wr q op fr L K) (fun n0 key dst op nk q fr L K => effK E inl Y wr n0 N key dst op nk q fr L K) N ops.toList pl [] nk q fr L (K .norm)
          | false => False))))
    (fun _ b va vb n0 Y ro nk q fr L K => (match firstReg b with
      | none => va n0 Y ro nk q fr L (thenE (fun nk q fr L => vb n0 Y ro nk q fr L K) K)
      | some id => (match E.cut f id with
        | false => va n0 Y ro nk q fr L (thenE (fun nk q fr L => vb n0 Y ro nk q fr L K) K)
        | true => ∃ I : Cut, cutK I n0 q fr (fun K => va n0 Y ro nk q fr L K) (fun nk q fr L => vb n0 Y ro nk q fr L K) K)))
    (fun c _ _ vx vy n0 Y ro nk q fr L K => (match opv fr c with
      | .bb true => vx n0 Y ro nk q fr L K
      | .bb false => vy n0 Y ro nk q fr L K
      | .b p _ => (p → vx n0 Y ro nk q fr L K) ∧ (¬ p → vy n0 Y ro nk q fr L K)
      | _ => False))
    (fun id _ vc n0 Y ro nk q fr L K => vc n0 Y ro nk q fr L (blkE id K))
    (fun body vb n0 Y ro nk q fr L K => (match firstReg body with
      | none => False
      | some id => (match E.inv f id nk with
        | none => ∃ I : Inv, loopK I n0 nk q fr L (fun nk q fr L K => vb n0 Y ro nk q fr L K) K
        | some I => loopK I n0 nk q fr L (fun nk q fr L K => vb n0 Y ro nk q fr L K) K)))
    (fun g ps _ _ va vb n0 Y ro nk q fr L K =>
      (match Nat.ble n0 nk, ltF nk fr, ltLL nk L with
      | true, true, true =>
        (match opv fr g with
        | .fn it cs =>
          (match ro with
          | none => inl ((nk, roundK (fun n0 nk' q fr L K => va n0 Y (some nk) nk' q fr L K) (fun n0 nk' q fr L K => vb n0 Y (some nk) nk' q fr L K) N nk ps.toList fr) :: Y)
              it (.yl nk :: cs) (nk + 2) q ((nk, .loop .ready none) :: (nk + 1, .dfr) :: L) (doneK nk fr K)
          | some l0 => (match getL L l0 with
            | some (.loop _ _) => inl ((nk, roundK (fun n0 nk' q fr L K => va n0 Y (some nk) nk' q fr L K) (fun n0 nk' q fr L K => vb n0 Y (some nk) nk' q fr L K) N nk ps.toList fr) :: Y)
              it (.yl nk :: cs) (nk + 2) q ((nk, .loop .ready none) :: L) (doneK nk fr K)
            | _ => False))
        | _ => False)
      | _, _, _ => False))
    (fun id _ _ _ nk q fr L K => K (.exit id) nk q fr L)
    (fun _ vc n0 Y ro nk q fr L K => vc n0 Y ro nk q fr L (scopeE K))
    (fun _ _ _ _ nk q fr L K => K .norm nk q fr L)
    (fun l _ _ _ nk q fr L K => K (.goto l) nk q fr L)
    (fun _ _ _ nk q fr L K => K .ret nk q fr L)
    (fun _ _ _ _ _ _ _ _ _ => False)
    c
def vcC (E : Env) (inl : Inl) (f : Nat) (wr : Bool) (n0 N : Nat) (c : Code) (Y : Ye) (ro : Option Nat) (nk : Nat) (q : PH) (fr : Fr) (L : LL) (K : Ke) : Prop :=
  vcR E inl f wr N c n0 Y ro nk q fr L K
def resK (T : Tab) (q : PH) (rs : List ResultVar) (fr : Fr) (L : LL) : (List SV → Prop) → Prop :=
  List.rec (motive := fun _ => (List SV → Prop) → Prop) (fun K => K [])
    (fun r _ ih K => match r with
      | .tmp t => fSV (get fr t) fun x => ih fun l => K (x :: l)
      | .cell t ty => loadK T q L ty (get fr t) fun x => ih fun l => K (x :: l)) rs
def dropA (b : Nat) (L0 : LL) (L : LL) : LL :=
  List.rec (motive := fun _ => LL) [] (fun p _ ih => match p with | (k, x) => (match Nat.ble b k with
    | true => (match getL L0 k with | some .dfr => ih | _ => (k, x) :: ih)
    | false => (k, x) :: ih)) L
def retE (T : Tab) (b : Nat) (rs : List ResultVar) (K : SV → Nat → PH → LL → Prop) : Ke
  | .norm => fun nk q fr L => fLL (dropA b L L) fun L => resK T q rs fr L fun l => fSV (oneOr l) fun r => K r nk q L
  | .ret => fun nk q fr L => fLL (dropA b L L) fun L => resK T q rs fr L fun l => fSV (oneOr l) fun r => K r nk q L
  | _ => fun _ _ _ _ => False
def argF (args : List SV) (i : Nat) : Fr := List.rec (motive := fun _ => Nat → Fr) (fun _ => []) (fun x _ ih i => (i, x) :: ih (i + 1)) args i
def vcN (E : Env) (n : Nat) : Inl :=
  Nat.rec (motive := fun _ => Inl) (fun _ _ _ _ _ _ _ => False)
    (fun _ ih Y f args nk q L K => (match E.FT.get f with
    | none => False
    | some fn => (match fn.body with
      | none => False
      | some c => (match Nat.ble args.length fn.ntmps with
        | false => False
        | true => fFr (argF args 0) fun fr => vcC E ih f (E.wr f) nk fn.ntmps c Y none nk q fr L (retE E.T nk fn.results.toList K))))) n
def inL (l : List (Nat × Nat)) (f id : Nat) : Bool := List.rec (motive := fun _ => Bool) false (fun p _ ih => match p with | (a, b) => match Nat.beq a f, Nat.beq b id with | true, true => true | _, _ => ih) l
end
end Go.Eng.R
