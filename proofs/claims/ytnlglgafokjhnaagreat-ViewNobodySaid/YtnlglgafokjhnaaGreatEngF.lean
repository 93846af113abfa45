/-
  Texts that the law leans on. Nothing here is trusted.
-/
import Derived.Test.YtnlglgafokjhnaaGreatEngE
set_option linter.unusedVariables false
set_option linter.unusedSimpArgs false
namespace Go.Eng
open Go Go.RowKit
noncomputable section
abbrev Kt := Nat → PH → Fr → LL → Prop
abbrev Ke := Ex → Kt
structure Inv where
  ι : Type
  keep : List Nat
  fr : Nat → ι → Fr
  L : Nat → ι → LL
  keys : Nat
  ok : ι → Prop
  μ : ι → Nat
  nils : List (Nat × Nat × Nat × Nat) := []
  gr : Bool := false
  frz : List (Nat × Nat) := []
  rd : PH → ι → Prop := fun _ _ => True
structure Cut where
  ι : Type
  base : Nat
  keep : List Nat
  nils : List (Nat × Nat × Nat × Nat) := []
  gr : Bool := false
  frz : List (Nat × Nat) := []
  fr : ι → Fr
  L : ι → LL
  rest : LL
  keys : Nat
  ok : PH → ι → Prop
structure Env where
  T : Tab
  Γ : List Spec
  Δ : List CS := []
  FT : Tr Func
  inv : Nat → Nat → Nat → Option Inv
  wr : Nat → Bool
  cut : Nat → Nat → Bool := fun _ _ => false
def mFr (b : Nat) (tm : Fr) (ac : Fr) : As → (As → Prop) → Prop := List.rec (motive := fun _ => As → (As → Prop) → Prop) (fun as K => K as) (fun p _ ih as K => match p with | (u, x) => mSV b x (get ac u) as fun as => ih as K) tm
theorem mFr_c {b t : Nat} {x : SV} {r ac : Fr} {as : As} {K : As → Prop} : mFr b ((t, x) :: r) ac as K = mSV b x (get ac t) as fun as => mFr b r ac as K := rfl
def mLB (b : Nat) (tm ac : LB) (as : As) (K : As → Prop) : Prop :=
  match tm, ac with
  | .cells T l, .cells T' l' => (match Nat.beq T T' with | true => mL b l l' as K | false => False)
  | .arr E sz n xs, .arr E' sz' n' xs' => (match Nat.beq E E' with | true => (match Nat.beq sz sz' with | true => Ob (n = n' ∧ xs = xs') ∧ K as | false => False) | false => False)
  | .dfr, .dfr => K as
  | .loop .ready none, .loop .ready none => K as
  | .loop .busy none, .loop .busy none => K as
  | _, _ => False
def mLL (b : Nat) (tm : LL) (ac : LL) : As → (As → Prop) → Prop := List.rec (motive := fun _ => As → (As → Prop) → Prop) (fun as K => K as)
  (fun p _ ih as K => match p with | (u, x) => (match asGet as u with
    | some j => (match getL ac j with | some y => mLB b x y as fun as => ih as K | none => False)
    | none => (match Nat.blt u b, asHas as u with
      | true, false => (match getL ac u with | some y => mLB b x y ((u, u) :: as) fun as => ih as K | none => False)
      | _, _ => False))) tm
theorem mLL_c {b k : Nat} {x : LB} {r ac : LL} {as : As} {K : As → Prop} : mLL b ((k, x) :: r) ac as K = (match asGet as k with
    | some j => (match getL ac j with | some y => mLB b x y as fun as => mLL b r ac as K | none => False)
    | none => (match Nat.blt k b, asHas as k with
      | true, false => (match getL ac k with | some y => mLB b x y ((k, k) :: as) fun as => mLL b r ac as K | none => False)
      | _, _ => False)) := rfl
def restL (as : As) (L : LL) : LL := List.rec (motive := fun _ => LL) [] (fun p _ ih => match p with | (u, x) => match asHas as u with | true => ih | false => (u, x) :: ih) L
theorem restL_c {as : As} {k : Nat} {x : LB} {r : LL} : restL as ((k, x) :: r) = match asHas as k with | true => restL as r | false => (k, x) :: restL as r := rfl
def keepF (ks : List Nat) (fr : Fr) : Fr := List.rec (motive := fun _ => Fr) [] (fun t _ ih => (t, get fr t) :: ih) ks
theorem keepF_c {t : Nat} {r : List Nat} {fr : Fr} : keepF (t :: r) fr = (t, get fr t) :: keepF r fr := rfl
def appF (a b : Fr) : Fr := List.rec (motive := fun _ => Fr) b (fun x _ ih => x :: ih) a
theorem appF_c {x : Nat × SV} {r b : Fr} : appF (x :: r) b = x :: appF r b := rfl
def appL (a b : LL) : LL := List.rec (motive := fun _ => LL) b (fun x _ ih => x :: ih) a
theorem appL_n {b : LL} : appL [] b = b := rfl
theorem appL_c {x : Nat × LB} {r b : LL} : appL (x :: r) b = x :: appL r b := rfl
def sameL (b : Nat) (tm : LL) (ac : LL) (as : As) (K : Prop) : Prop := List.rec (motive := fun _ => Prop) K
  (fun p _ ih => match p with | (u, x) => (match asHas as u with
    | true => False
    | false => (match getL ac u with | some y => mLB b x y [] fun _ => ih | none => False))) tm
theorem sameL_c {b k : Nat} {x : LB} {r ac : LL} {as : As} {K : Prop} : sameL b ((k, x) :: r) ac as K = (match asHas as k with
    | true => False
    | false => (match getL ac k with | some y => mLB b x y [] fun _ => sameL b r ac as K | none => False)) := rfl
mutual
def ltK (b : Nat) : SV → Bool
  | .lp k _ => Nat.blt k b
  | .own k => Nat.blt k b
  | .agg l => ltKL b l
  | .tup l => ltKL b l
  | .fn _ l => ltKL b l
  | .yl k => Nat.blt k b
  | .vw k _ _ _ _ => Nat.blt k b
  | .lq k => Nat.blt k b
  | .ls k _ => Nat.blt k b
  | .mr k => Nat.blt k b
  | _ => true
def ltKL (b : Nat) : List SV → Bool
  | [] => true
  | x :: r => match ltK b x with | true => ltKL b r | false => false
end
def ltF (b : Nat) (l : Fr) : Bool := List.rec (motive := fun _ => Bool) true (fun p _ ih => match p with | (u, x) => match ltK b x with | true => ih | false => false) l
theorem ltF_c {b u : Nat} {x : SV} {r : Fr} : ltF b ((u, x) :: r) = match ltK b x with | true => ltF b r | false => false := rfl
def ltLL (b : Nat) (l : LL) : Bool := List.rec (motive := fun _ => Bool) true (fun p _ ih => match p with | (u, x) => match Nat.blt u b with
    | true => (match x with | .cells _ l => (match ltKL b l with | true => ih | false => false) | .row _ _ _ l => (match ltKL b l with | true => ih | false => false) | _ => ih)
    | false => false) l
theorem ltLL_c {b k : Nat} {x : LB} {r : LL} : ltLL b ((k, x) :: r) = match Nat.blt k b with
    | true => (match x with | .cells _ l => (match ltKL b l with | true => ltLL b r | false => false) | .row _ _ _ l => (match ltKL b l with | true => ltLL b r | false => false) | _ => ltLL b r)
    | false => false := rfl
def hidFree (as : As) (L : LL) : Bool :=
  match L with
  | [] => true
  | (k, .dfr) :: r => (match asHas as k with | true => false | false => hidFree as r)
  | _ :: r => hidFree as r
def fN (n : Nat) (K : Nat → Prop) : Prop :=
  match n with
  | 0 => K 0
  | m + 1 => K (m + 1)
theorem fN_eq (n : Nat) (K : Nat → Prop) : fN n K = K n := by cases n <;> rfl
def ren (as : As) (nk k : Nat) : Nat :=
  match asGet as k with
  | some j => j
  | none => nk + k
mutual
def renSV (σ : Nat → Nat) : SV → SV
  | .lp k o => .lp (σ k) o
  | .own k => .own (σ k)
  | .yl k => .yl (σ k)
  | .vw k lo sz n ex => .vw (σ k) lo sz n ex
  | .lq k => .lq (σ k)
  | .ls k n => .ls (σ k) n
  | .mr k => .mr (σ k)
  | .agg l => .agg (renL σ l)
  | .tup l => .tup (renL σ l)
  | .fn f l => .fn f (renL σ l)
  | x => x
def renL (σ : Nat → Nat) : List SV → List SV
  | [] => []
  | x :: r => renSV σ x :: renL σ r
end
def renLB (σ : Nat → Nat) : LB → LB
  | .cells T l => .cells T (renL σ l)
  | .row E sz n l => .row E sz n (renL σ l)
  | x => x
def renLL (σ : Nat → Nat) : LL → LL
  | [] => []
  | (k, x) :: r => (σ k, renLB σ x) :: renLL σ r
def rK (as : As) (nk k : Nat) (K : Nat → Prop) : Prop :=
  match asGet as k with
  | some j => K j
  | none => fN (nk + k) K
mutual
def rSV (as : As) (nk : Nat) (x : SV) (K : SV → Prop) : Prop :=
  match x with
  | .lp k o => rK as nk k fun j => K (.lp j o)
  | .own k => rK as nk k fun j => K (.own j)
  | .yl k => rK as nk k fun j => K (.yl j)
  | .vw k lo sz n ex => rK as nk k fun j => K (.vw j lo sz n ex)
  | .lq k => rK as nk k fun j => K (.lq j)
  | .ls k n => rK as nk k fun j => K (.ls j n)
  | .mr k => rK as nk k fun j => K (.mr j)
  | .agg l => rSVL as nk l fun l => K (.agg l)
  | .tup l => rSVL as nk l fun l => K (.tup l)
  | .fn f l => rSVL as nk l fun l => K (.fn f l)
  | x => fSV x K
def rSVL (as : As) (nk : Nat) (l : List SV) (K : List SV → Prop) : Prop :=
  match l with
  | [] => K []
  | x :: r => rSV as nk x fun y => rSVL as nk r fun s => K (y :: s)
end
def rLB (as : As) (nk : Nat) (x : LB) (K : LB → Prop) : Prop :=
  match x with
  | .cells T l => rSVL as nk l fun l => K (.cells T l)
  | .row E sz n l => rSVL as nk l fun l => K (.row E sz n l)
  | x => fLB x K
def rLL (as : As) (nk : Nat) (l : LL) (rest : LL) (K : LL → Prop) : Prop :=
  match l with
  | [] => K rest
  | (k, x) :: r => rK as nk k fun j => rLB as nk x fun y => rLL as nk r rest fun s => K ((j, y) :: s)
def asLt (m nk : Nat) : As → Bool
  | [] => true
  | (k, j) :: r => match Nat.blt k m, Nat.blt j nk with | true, true => asLt m nk r | _, _ => false
def callC (s : CS) (n0 nk : Nat) (q : PH) (fr : Fr) (L : LL) (args : List SV) (K : SV → Nat → PH → LL → Prop) : Prop :=
  match Nat.ble n0 nk, ltF nk fr, ltLL nk L with
  | true, true, true => ∃ i, Ob (s.ok i) ∧ Ob (RdsOk q (s.rds i)) ∧ mA q L (s.args i) args [] [] fun as ro => mLL 0 (s.L i) L as fun as =>
    match asLt s.keys nk as, roFree as ro, hidFree as L with
    | true, true, true => (match s.gr with
      | false => rLL as nk (s.L' i) (restL as L) fun L' => rSV as nk (s.res i) fun r => fN (nk + s.more) fun nk' => K r nk' q L'
      | true => ∀ q' g, q.le q' → s.okG i g → RdsOk q' (s.rdsG i g) → rLL as nk (s.LG i g) (restL as L) fun L' => rSV as nk (s.resG i g) fun r => fN (nk + s.more) fun nk' => K r nk' q' L')
    | _, _, _ => False
  | _, _, _ => False
def putK (N : Nat) (dst : Option Nat) (x : SV) (fr : Fr) (K : Fr → Prop) : Prop :=
  match dst with
  | none => K fr
  | some d => match Nat.blt d N with | true => K ((d, x) :: fr) | false => False
def newK (n0 key : Nat) (fr : Fr) (L : LL) (lb : LB) (K : LL → Prop) : Prop :=
  match Nat.ble n0 key with
  | true => (match hasF key fr with
    | true => False
    | false => (match hasLL key L with | true => False | false => K ((key, lb) :: L)))
  | false => False
def oneL : List SV → Bool
  | [] => true
  | .agg _ :: _ => false
  | .tup _ :: _ => false
  | .bad :: _ => false
  | .v (.agg _) :: _ => false
  | .v (.tuple _) :: _ => false
  | _ :: r => oneL r
def oneVL : List Value → Bool
  | [] => true
  | .agg _ :: _ => false
  | .tuple _ :: _ => false
  | _ :: r => oneVL r
def boxCells (T : Tab) (t : Nat) (x : SV) (K : List SV → Prop) : Prop :=
  match x with
  | .agg l => (match Nat.beq l.length (ty T t).sz, oneL l with | true, true => K l | _, _ => False)
  | .tup _ => False
  | .bad => False
  | .v (.agg _) => False
  | .v (.tuple _) => False
  | y => (match Nat.beq (ty T t).sz 1 with | true => K [y] | false => False)
def elemPl (sz e : Nat) : Nat → Nat → List (Nat × Nat)
  | 0, _ => []
  | n + 1, i => (i * sz, e) :: elemPl sz e n (i + 1)
def repl (n : Nat) (l : List SV) : List SV :=
  match n with
  | 0 => []
  | n + 1 => l ++ repl n l
def isOther (T : Tab) (t : Nat) : Bool := match (ty T t).d with | .other => true | _ => false
def storeK (T : Tab) (t : Nat) (p x : SV) (L : LL) (K : LL → Prop) : Prop :=
  match isOther T t with
  | true => False
  | false => match p with
  | .lp k o => (match getL L k with
    | some (.cells TT cs) => boxCells T t x fun l => (match Nat.ble (o + l.length) cs.length with | true => fLL (setL L k (.cells TT (takeN cs o ++ l ++ dropN cs (o + l.length)))) K | false => False)
    | some (.arr E sz n xs) => (match Nat.beq (ty T t).sz 1, toV x with
      | true, some v => (match v with
        | .agg _ => False
        | .tuple _ => False
        | v => Ob (o < xs.length) ∧ ∀ N zs, N = n → zs = xs.set o v → fLL (setL L k (.arr E sz N zs)) K)
      | _, _ => False)
    | _ => False)
  | _ => False
def appK (T : Tab) (q : PH) (t : Nat) (n0 key : Nat) (s x : SV) (fr : Fr) (L : LL) (K : SV → LL → Prop) : Prop :=
  match (ty T t).d with
  | .slice e =>
    (match ty T e with
    | ⟨.other, _, _, _, _, _⟩ => False
    | ⟨_, sz, byt, _, _, _⟩ =>
      let go (m : Nat) (ys : List Value) : Prop :=
        (match s with
        | .v (.slice none 0 0) => Ob (m ≤ 9223372036854775807 ∧ m * byt ≤ 140737488355328 ∧ ∀ y ∈ ys, y.oneCell' = true) ∧ ∀ N zs, N = m → zs = ys → newK n0 key fr L (.arr e sz N zs) fun L => K (.own key) L
        | .own k => (match getL L k with
          | some (.arr e' sz' n xs) => (match Nat.beq e' e, Nat.beq sz' sz with
            | true, true => Ob (n + m ≤ 9223372036854775807 ∧ (n + m) * byt ≤ 140737488355328 ∧ ∀ y ∈ ys, y.oneCell' = true) ∧ ∀ N zs, N = n + m → zs = xs ++ ys → newK n0 key fr L (.arr e sz N zs) fun L => fLL (remL L k) fun L => K (.own key) L
            | _, _ => False)
          | _ => False)
        | _ => False)
      match x with
      | .v (.slice A m _) => Ob (∃ ys, ys.length = m * sz ∧ Reads q A ys) ∧ ∀ ys, ys.length = m * sz → Reads q A ys → go m ys
      | .own j => (match getL L j with | some (.arr _ sz' m ys) => (match Nat.beq sz' sz with | true => go m ys | false => False) | _ => False)
      | .vw j lo sz'' m _ => (match getL L j with | some (.arr _ sz' n0 ys) => (match Nat.beq sz'' sz, Nat.beq sz' sz with | true, true => Ob (lo + m ≤ n0) ∧ go m (vwC ys lo sz m) | _, _ => False) | _ => False)
      | _ => False)
  | _ => False
def isByte (i : TI) : Bool :=
  match i.d with
  | .int .u8 => (match i.zero with
    | [.int .u8 (.ofNat 0)] => (match Nat.beq i.sz 1, Nat.beq i.byt 1 with | true, true => true | _, _ => false)
    | _ => false)
  | _ => false
theorem isByte_ok {i : TI} (h : isByte i = true) : i.d = .int .u8 ∧ i.zero = [.int .u8 0] ∧ i.sz = 1 ∧ i.byt = 1 := by
  unfold isByte at h
  split at h
  · rename_i h1
    split at h
    · rename_i h2
      split at h
      · rename_i h3 h4
        exact ⟨h1, h2, Nat.eq_of_beq_eq_true h3, Nat.eq_of_beq_eq_true h4⟩
      · cases h
    · cases h
  · cases h
def appS (T : Tab) (t u : Nat) (n0 key : Nat) (s x : SV) (fr : Fr) (L : LL) (K : SV → LL → Prop) : Prop :=
  match (ty T t).d, (ty T u).d, x with
  | .slice e, .str, .v (.string c) => (match isByte (ty T e) with
    | true => (match s with
      | .v (.slice none 0 0) => Ob (c.size ≤ 140737488355328) ∧ ∀ N zs, N = c.size → zs = c.data.toList.map bv → newK n0 key fr L (.arr e 1 N zs) fun L => K (.own key) L
      | .own k => (match getL L k with
        | some (.arr e' sz' n xs) => (match Nat.beq e' e, Nat.beq sz' 1 with
          | true, true => Ob (n + c.size ≤ 140737488355328) ∧ ∀ N zs, N = n + c.size → zs = xs ++ c.data.toList.map bv → newK n0 key fr L (.arr e 1 N zs) fun L => fLL (remL L k) fun L => K (.own key) L
          | _, _ => False)
        | _ => False)
      | _ => False)
    | false => False)
  | _, _, _ => False
def cpTo (d : SV) (L : LL) (K : SV → LL → Prop) (m : Nat) (ys : List Value) : Prop :=
  match d with
  | .own k => (match getL L k with
    | some (.arr e' sz n xs) => (match Nat.beq sz 1 with
      | true => Ob (∀ y ∈ ys, y.oneCell' = true) ∧ ∀ r N zs, r = min m n → N = n → zs = ys.take r ++ xs.drop r → fLL (setL L k (.arr e' sz N zs)) fun L => K (.v (.int .i64 r)) L
      | false => False)
    | _ => False)
  | .vw k lo sz' n _ => (match getL L k with
    | some (.arr e' sz n0 xs) => (match Nat.beq sz 1, Nat.beq sz' 1 with
      | true, true => Ob (lo + n ≤ n0 ∧ ∀ y ∈ ys, y.oneCell' = true) ∧ ∀ r N zs, r = min m n → N = n0 → zs = xs.take lo ++ ys.take r ++ xs.drop (lo + r) → fLL (setL L k (.arr e' sz N zs)) fun L => K (.v (.int .i64 r)) L
      | _, _ => False)
    | _ => False)
  | _ => False
def copyK (T : Tab) (q : PH) (t : Nat) (d s : SV) (L : LL) (K : SV → LL → Prop) : Prop :=
  match (ty T t).d with
  | .slice e => (match Nat.beq (ty T e).sz 1 with
    | false => False
    | true => (match s with
      | .v (.slice A m _) => Ob (∃ ys, ys.length = m * 1 ∧ Reads q A ys) ∧ ∀ ys, ys.length = m * 1 → Reads q A ys → cpTo d L K m ys
      | .own j => (match getL L j with | some (.arr _ sz' m ys) => (match Nat.beq sz' 1 with | true => cpTo d L K m ys | false => False) | _ => False)
      | .vw j lo sz m _ => (match getL L j with | some (.arr _ sz' n ys) => (match Nat.beq sz 1, Nat.beq sz' 1 with | true, true => Ob (lo + m ≤ n) ∧ cpTo d L K m (vwC ys lo 1 m) | _, _ => False) | _ => False)
      | _ => False))
  | _ => False
def makeK (T : Tab) (t : Nat) (n0 key : Nat) (l c : SV) (fr : Fr) (L : LL) (K : SV → LL → Prop) : Prop :=
  match (ty T t).d, l, c with
  | .slice e, .v (.int .i64 n), .v (.int .i64 m) =>
    (match ty T e with
    | ⟨.other, _, _, _, _, _⟩ => False
    | ⟨_, sz, byt, zero, _, _⟩ => (match Nat.beq sz 1, zero, oneVL zero with
      | true, [z], true => Ob (0 ≤ n ∧ n ≤ m ∧ m ≤ 9223372036854775807 ∧ m * byt ≤ 140737488355328) ∧ ∀ N zs, N = n.toNat → zs = List.replicate n.toNat z → newK n0 key fr L (.arr e sz N zs) fun L => K (.own key) L
      | _, _, _ => Ob (n = 0 ∧ 0 ≤ m ∧ m ≤ 9223372036854775807 ∧ m * byt ≤ 140737488355328) ∧ newK n0 key fr L (.arr e sz 0 []) fun L => K (.own key) L))
  | _, _, _ => False
def sbK (q : PH) (s : ByteArray) (K : PH → SV → Prop) : Prop :=
  Ob (s.size ≤ 140737488355328) ∧ ∀ q' A c, q.le q' → s.size ≤ c → Reads q' A (s.data.toList.map bv) → ∀ N, N = s.size → K q' (.v (.slice A N c))
abbrev Hd := List SV → Nat → PH → LL → (SV → Nat → PH → LL → Prop) → Prop
abbrev Ye := List (Nat × Hd)
def yGet (Y : Ye) (k : Nat) : Option Hd :=
  match Y with
  | [] => none
  | (j, h) :: r => match Nat.beq j k with | true => some h | false => yGet r k
abbrev Inl := Ye → Nat → List SV → Nat → PH → LL → (SV → Nat → PH → LL → Prop) → Prop
def dLt (b : Nat) (L : LL) : Bool :=
  match L with
  | [] => true
  | (k, .dfr) :: r => (match Nat.blt k b with | true => dLt b r | false => false)
  | _ :: r => dLt b r
def setF (fr : Fr) (t : Nat) (x : SV) : Fr := (t, x) :: fr
def nilAt (fr : Fr) (t : Nat) : SV :=
  match Nat.ble 100000 t with
  | true => .lp (t - 100000) 0
  | false => get fr t
def nilF (ts : List (Nat × Nat × Nat × Nat)) (n0 nk : Nat) (fr : Fr) (L : LL) (K : Nat → Fr → LL → Prop) : Prop :=
  match ts with
  | [] => K nk fr L
  | (t, o, e, sz) :: r => match sz with
    | 0 => False
    | sz + 1 => match nilAt fr t with
      | .v (.slice none 0 0) => newK n0 nk fr L (.arr e (sz + 1) 0 []) fun L => fN (nk + 1) fun nk1 => nilF r n0 nk1 (setF fr t (.own nk)) L K
      | .lp k _ => (match getL L k with
        | some (.cells T cs) => (match nth cs o with
          | some (.v (.slice none 0 0)) => newK n0 nk fr L (.arr e (sz + 1) 0 []) fun L => fLL (setL L k (.cells T (setN cs o (.own nk)))) fun L => fN (nk + 1) fun nk1 => nilF r n0 nk1 fr L K
          | _ => nilF r n0 nk fr L K)
        | _ => nilF r n0 nk fr L K)
      | _ => nilF r n0 nk fr L K
def catQ {α : Type} (a b : List α) : List α := List.rec (motive := fun _ => List α) b (fun x _ ih => x :: ih) a
def nlC (T : Tab) (k : Nat) (cs : List SV) (fl : List Ty) : Nat → List (Nat × Nat × Nat × Nat) :=
  List.rec (motive := fun _ => Nat → List (Nat × Nat × Nat × Nat)) (fun _ => []) (fun d _ ih o => match d with
    | .slice e => (match nth cs o with
      | some (.v (.slice none 0 0)) => (100000 + k, o, e, (ty T e).sz) :: ih (o + 1)
      | _ => ih (o + 1))
    | _ => ih (o + 1)) fl
def nlD (T : Tab) (L : LL) (xs : List SV) : List (Nat × Nat × Nat × Nat) :=
  List.rec (motive := fun _ => List (Nat × Nat × Nat × Nat)) [] (fun x _ ih => match x with
    | .lp k 0 => (match getL L k with
      | some (.cells t cs) => (match (ty T t).d with
        | .struct _ => catQ (nlC T k cs (ty T t).flat 0) ih
        | _ => ih)
      | _ => ih)
    | _ => ih) xs
def nlOf (T : Tab) (L : LL) (xs : List SV) : List (Nat × Nat × Nat × Nat) :=
  List.rec (motive := fun _ => List (Nat × Nat × Nat × Nat)) [] (fun x _ ih => match x with
    | .lp k 0 => (match getL L k with
      | some (.cells t cs) => (match (ty T t).d with
        | .struct _ => catQ (nlC T k cs (ty T t).flat 0) (catQ (nlD T L cs) ih)
        | _ => ih)
      | _ => ih)
    | _ => ih) xs
def mapR {α β : Type} (f : α → β) (l : List α) : List β := List.rec (motive := fun _ => List β) [] (fun x _ ih => f x :: ih) l
def fz0 (k : Nat) (v : Value) (x : SV) : SV := match x with | .own j => (match Nat.beq j k with | true => .v v | false => .own j) | x => x
def fz1 (k : Nat) (v : Value) (x : SV) : SV := match x with | .agg cs => .agg (mapR (fz0 k v) cs) | x => fz0 k v x
def fz2 (k : Nat) (v : Value) (x : SV) : SV := match x with | .tup cs => .tup (mapR (fz1 k v) cs) | .fn f cs => .fn f (mapR (fz1 k v) cs) | x => fz1 k v x
def fzF (k : Nat) (v : Value) (fr : Fr) : Fr := mapR (fun p => match p with | (t, x) => (t, fz2 k v x)) fr
def fzLB (k : Nat) (v : Value) (x : LB) : LB := match x with | .cells T cs => .cells T (mapR (fz2 k v) cs) | .row E sz n cs => .row E sz n (mapR (fz2 k v) cs) | x => x
def fzLL (k : Nat) (v : Value) (L : LL) : LL := mapR (fun p => match p with | (j, x) => (j, fzLB k v x)) L
def ownsV (x : SV) : List Nat :=
  match x with
  | .own j => [j]
  | .agg cs => List.rec (motive := fun _ => List Nat) [] (fun y _ ih => match y with | .own j => j :: ih | _ => ih) cs
  | _ => []
def ownsPs (fr : Fr) (ps : List (Nat × Operand)) : List Nat := List.rec (motive := fun _ => List Nat) [] (fun p _ ih => match p with | (_, x) => catQ (ownsV (opv fr x)) ih) ps
def ownSt (fr : Fr) (L : LL) (a x : Operand) : List Nat :=
  match opv fr x, opv fr a with
  | .own j, .lp k _ => (match getL L k with | some (.arr _ _ _ _) => [j] | _ => [])
  | _, _ => []
def frzKs (ks : List Nat) : PH → Fr → LL → (PH → Fr → LL → Prop) → Prop :=
  List.rec (motive := fun _ => PH → Fr → LL → (PH → Fr → LL → Prop) → Prop) (fun q fr L K => K q fr L)
    (fun k _ ih q fr L K => match getL L k with
      | some (.arr _ _ n xs) => ∀ q' A c, q.le q' → n ≤ c → Reads q' A xs → fFr (fzF k (.slice A n c) fr) fun fr => fLL (fzLL k (.slice A n c) (remL L k)) fun L => ih q' fr L K
      | _ => ih q fr L K) ks
def effK (E : Env) (inl : Inl) (Y : Ye) (wr : Bool) (n0 N key : Nat) (dst : Option Nat) (op : Op) (nk : Nat) (q : PH) (fr : Fr) (L : LL) (K : Kt) : Prop :=
  let calm : Prop := calmK E.T E.Γ E.Δ wr q op fr L fun x => putK N dst x fr fun fr => K nk q fr L
  match op with
  | .alloc t => (match ty E.T t with
    | ⟨.other, _, _, _, _, _⟩ => False
    | ⟨_, _, _, zero, _, _⟩ => fSVL (valL zero) fun z => newK n0 key fr L (.cells t z) fun L => putK N dst (.lp key 0) fr fun fr => K nk q fr L)
  | .box t x => (match (ty E.T t).d with
    | .other => False
    | _ => boxCells E.T t (opv fr x) fun l => newK n0 key fr L (.cells t l) fun L => putK N dst (.lp key 0) fr fun fr => K nk q fr L)
  | .buildSlice t n ps => frzKs (ownsPs fr ps.toList) q fr L fun q fr L => (match (ty E.T t).d with
    | .slice e => (match ty E.T e with
      | ⟨.other, _, _, _, _, _⟩ => False
      | ⟨_, sz, _, zero, _, _⟩ => partsK E.T (elemPl sz e n 0) fr ps.toList (repl n (valL zero)) fun cs => (match toVL cs with
        | some xs => (match oneVL xs, Nat.ble (n * sz) 16777216 with
          | true, true => newK n0 key fr L (.arr e sz n xs) fun L => putK N dst (.own key) fr fun fr => K nk q fr L
          | _, _ => False)
        | none => (match hasL key cs, Nat.ble (n * sz) 16777216 with
          | false, true => newK n0 key fr L (.cells e cs) fun L => putK N dst (.ls key n) fr fun fr => K nk q fr L
          | _, _ => False)))
    | _ => False)
  | .makeSlice t l c => makeK E.T t n0 key (opv fr l) (opv fr c) fr L fun x L => putK N dst x fr fun fr => K nk q fr L
  | .store t a x => frzKs (ownSt fr L a x) q fr L fun q fr L => (match opv fr x with
    | .vw k 0 sz m true => (match getL L k with
      | some (.arr e sz' n xs) => (match Nat.beq sz' sz with
        | true => Ob (m ≤ n) ∧ ∀ N' zs, N' = m → zs = xs.take (m * sz) → newK n0 key fr L (.arr e sz' N' zs) fun L => fLL (remL L k) fun L => storeK E.T t (opv fr a) (.own key) L fun L => putK N dst (.v undef) fr fun fr => K nk q fr L
        | false => False)
      | _ => False)
    | y => storeK E.T t (opv fr a) y L fun L => putK N dst (.v undef) fr fun fr => K nk q fr L)
  | .convert src t x => (match (ty E.T src).d, (ty E.T t).d, opv fr x with
    | .str, .slice e, .v (.string s) => (match (ty E.T e).d with
      | .int .u8 => sbK q s fun q x => putK N dst x fr fun fr => K nk q fr L
      | _ => False)
    | .slice _, .slice e, .own k => (match Nat.beq src t, (ty E.T e).d, getL L k with
      | true, .int .u8, some (.arr _ _ n xs) => Ob (0 < n) ∧ ∀ q' A c, q.le q' → n ≤ c → Reads q' A xs → fFr (fzF k (.slice A n c) fr) fun fr => fLL (fzLL k (.slice A n c) (remL L k)) fun L => putK N dst (.v (.slice A n c)) fr fun fr => K nk q' fr L
      | _, _, _ => False)
    | _, _, _ => calm)
  | .call ⟨callee, xs, ts⟩ => (match callee with
    | .builtin .append => (match opvs fr xs.toList, ts.toList with
      | [s, x], [t, t'] => (match Nat.beq t t' with
        | true => appK E.T q t n0 key s x fr L fun x L => putK N dst x fr fun fr => K nk q fr L
        | false => appS E.T t t' n0 key s x fr L fun x L => putK N dst x fr fun fr => K nk q fr L)
      | _, _ => False)
    | .builtin .copy => (match opvs fr xs.toList, ts.toList with
      | [d, s], [t, _] => copyK E.T q t d s L fun x L => putK N dst x fr fun fr => K nk q fr L
      | _, _ => False)
    | .value (.func f) => (match findS E.Γ f with
      | some _ => calm
      | none => (match findC E.Δ f with
        | some s => (match s.calm with
          | true => calm
          | false => nilF (nlOf E.T L (opvs fr xs.toList)) n0 nk fr L fun nk fr L => callC s n0 nk q fr L (opvs fr xs.toList) fun r nk q L => putK N dst r fr fun fr => K nk q fr L)
        | none => (match Nat.ble n0 nk, ltF nk fr, dLt nk L with
          | true, true, true => inl Y f (opvs fr xs.toList) nk q L fun r nk q L => putK N dst r fr fun fr => K nk q fr L
          | _, _, _ => False)))
    | .value (.tmp t) => (match get fr t with
      | .fn f cs => (match Nat.ble n0 nk, ltF nk fr, dLt nk L with
        | true, true, true => inl Y f (opvs fr xs.toList ++ cs) nk q L fun r nk q L => putK N dst r fr fun fr => K nk q fr L
        | _, _, _ => False)
      | .yl k => (match Nat.ble n0 nk, ltF nk fr, dLt nk L, yGet Y k with
        | true, true, true, some h => h (opvs fr xs.toList) nk q L fun r nk q L => putK N dst r fr fun fr => K nk q fr L
        | _, _, _, _ => False)
      | _ => False)
    | _ => calm)
  | _ => calm
def dstOf (all : List Oper) (j : Nat) : Option Nat := match nth all j with | some o => o.dst | none => none
def vcOps1 (E : Env) (inl : Inl) (Y : Ye) (wr : Bool) (n0 N : Nat) (all : List Oper) (o : Oper) (ih : Nat → Nat → PH → Fr → LL → Kt → Prop) (key nk : Nat) (q : PH) (fr : Fr) (L : LL) (K : Kt) : Prop :=
  match o with
  | ⟨dst, op, _, _, _, guard⟩ =>
    match guard with
    | none => effK E inl Y wr n0 N key dst op nk q fr L fun nk q fr L => ih (key + 1) nk q fr L K
    | some (j, want) =>
      match dstOf all j with
      | none => False
      | some t =>
        let go (b : Bool) (fr : Fr) : Prop :=
          (match b, want with
          | true, true => effK E inl Y wr n0 N key dst op nk q fr L fun nk q fr L => ih (key + 1) nk q fr L K
          | false, false => effK E inl Y wr n0 N key dst op nk q fr L fun nk q fr L => ih (key + 1) nk q fr L K
          | _, _ => putK N dst (.v undef) fr fun fr => ih (key + 1) nk q fr L K)
        match get fr t with
        | .bb b => go b fr
        | .b p _ => (p → go true (setF fr t (.bb true))) ∧ (¬ p → go false (setF fr t (.bb false)))
        | .v (.tuple _) => putK N dst (.v undef) fr fun fr => ih (key + 1) nk q fr L K
        | _ => False
def vcOps (E : Env) (inl : Inl) (Y : Ye) (wr : Bool) (n0 N : Nat) (all : List Oper) (ops : List Oper) : Nat → Nat → PH → Fr → LL → Kt → Prop :=
  List.rec (motive := fun _ => Nat → Nat → PH → Fr → LL → Kt → Prop) (fun _ nk q fr L K => K nk q fr L) (fun o _ ih => vcOps1 E inl Y wr n0 N all o ih) ops
section
variable (E : Env) (inl : Inl) (Y : Ye) (wr : Bool) (n0 N : Nat) (all : List Oper) (r : List Oper) (dst : Option Tmp) (op : Op) (ty : TypeId) (pos : String) (af : Array Edge) (key nk : Nat) (q : PH) (fr : Fr) (L : LL) (K : Kt)
theorem vcOps_none : vcOps E inl Y wr n0 N all (⟨dst, op, ty, pos, af, none⟩ :: r) key nk q fr L K = effK E inl Y wr n0 N key dst op nk q fr L fun nk q fr L => vcOps E inl Y wr n0 N all r (key + 1) nk q fr L K := rfl
theorem vcOps_some (j : Nat) (want : Bool) : vcOps E inl Y wr n0 N all (⟨dst, op, ty, pos, af, some (j, want)⟩ :: r) key nk q fr L K = (
      match dstOf all j with
      | none => False
      | some t =>
        let go (b : Bool) (fr : Fr) : Prop :=
          (match b, want with
          | true, true => effK E inl Y wr n0 N key dst op nk q fr L fun nk q fr L => vcOps E inl Y wr n0 N all r (key + 1) nk q fr L K
          | false, false => effK E inl Y wr n0 N key dst op nk q fr L fun nk q fr L => vcOps E inl Y wr n0 N all r (key + 1) nk q fr L K
          | _, _ => putK N dst (.v undef) fr fun fr => vcOps E inl Y wr n0 N all r (key + 1) nk q fr L K)
        match get fr t with
        | .bb b => go b fr
        | .b p _ => (p → go true (setF fr t (.bb true))) ∧ (¬ p → go false (setF fr t (.bb false)))
        | .v (.tuple _) => putK N dst (.v undef) fr fun fr => vcOps E inl Y wr n0 N all r (key + 1) nk q fr L K
        | _ => False) := rfl
end
def calmOnly (T : Tab) (Γ : List Spec) (Δ : List CS) : List Oper → Bool
  | [] => true
  | o :: r => match o.op with
    | .alloc _ | .box _ _ | .buildSlice _ _ _ | .makeSlice _ _ _ | .store _ _ _ => false
    | .convert s t _ => (match (ty T s).d, (ty T t).d with
      | .str, .slice _ => false
      | .slice _, .slice _ => false
      | _, _ => calmOnly T Γ Δ r)
    | .call ⟨.builtin .append, _, _⟩ => false
    | .call ⟨.builtin .copy, _, _⟩ => false
    | .call ⟨.builtin _, _, _⟩ => calmOnly T Γ Δ r
    | .call ⟨.value (.func f), _, _⟩ => (match findS Γ f with | some _ => calmOnly T Γ Δ r | none => (match findC Δ f with | some s => (match s.calm with | true => calmOnly T Γ Δ r | false => false) | none => false))
    | .call _ => false
    | _ => calmOnly T Γ Δ r
inductive Pn where
  | done
  | no
  | calm (i : Nat) (n : Pn)
  | eff (i : Nat) (ds : List Nat) (n alt : Pn)
def memN (k : Nat) (l : List Nat) : Bool := List.rec (motive := fun _ => Bool) false (fun x _ ih => match Nat.beq x k with | true => true | false => ih) l
def catN (a b : List Nat) : List Nat := List.rec (motive := fun _ => List Nat) b (fun x _ ih => x :: ih) a
def keysV (x : SV) : List Nat :=
  SV.rec (motive_1 := fun _ => List Nat) (motive_2 := fun _ => List Nat) (fun _ => []) (fun _ => []) (fun _ _ => []) (fun k _ => [k]) (fun k => [k]) (fun _ _ => []) (fun _ ih => ih) (fun _ ih => ih) (fun _ _ ih => ih) (fun k => [k]) (fun k _ _ _ _ => [k]) (fun k => [k]) (fun k _ => [k]) (fun k => [k]) []
    [] (fun _ _ a b => catN a b) x
def keysFr (fr : Fr) : List Nat := List.rec (motive := fun _ => List Nat) [] (fun p _ ih => match p with | (_, x) => catN (keysV x) ih) fr
def usesO (x : Operand) : List Nat := match x with | .tmp t => [t] | _ => []
def usesL (l : List Operand) : List Nat := List.rec (motive := fun _ => List Nat) [] (fun x _ ih => catN (usesO x) ih) l
def usesP (l : List (Nat × Operand)) : List Nat := List.rec (motive := fun _ => List Nat) [] (fun p _ ih => match p with | (_, x) => catN (usesO x) ih) l
def usesM (x : Option Operand) : List Nat := match x with | some x => usesO x | none => []
def uses (op : Op) : List Nat :=
  match op with
  | .move x => usesO x
  | .assign x => usesO x
  | .pick c a b => catN (usesO c) (catN (usesO a) (usesO b))
  | .binOp _ _ x y _ => catN (usesO x) (usesO y)
  | .unOp _ _ x => usesO x
  | .convert _ _ x => usesO x
  | .extract x _ => usesO x
  | .field _ x _ => usesO x
  | .fieldAddr _ x _ => usesO x
  | .nilCheck x => usesO x
  | .indexAddr _ x i => catN (usesO x) (usesO i)
  | .index _ x i => catN (usesO x) (usesO i)
  | .load _ x => usesO x
  | .slice _ x lo hi mx => catN (usesO x) (catN (usesM lo) (catN (usesM hi) (usesM mx)))
  | .build _ ps => usesP ps.toList
  | .makeFunc _ first cs => catN (usesL first.toList) (usesL cs.toList)
  | .call ⟨_, xs, _⟩ => usesL xs.toList
  | _ => []
def footOf (op : Op) (fr : Fr) : List Nat :=
  match op with
  | .load _ _ => keysFr fr
  | .slice _ _ _ _ _ => keysFr fr
  | .indexAddr _ _ _ => keysFr fr
  | .convert _ _ _ => keysFr fr
  | .call _ => keysFr fr
  | _ => []
def keysC (cs : List SV) : List Nat := List.rec (motive := fun _ => List Nat) [] (fun x _ ih => catN (keysV x) ih) cs
def keysB (x : LB) : List Nat := match x with | .cells _ cs => keysC cs | .row _ _ _ cs => keysC cs | _ => []
def keysLs (F : List Nat) (L : LL) : List Nat := List.rec (motive := fun _ => List Nat) [] (fun k _ ih => match getL L k with | some x => catN (keysB x) ih | none => ih) F
def footD (op : Op) (fr : Fr) (L : LL) : List Nat :=
  match op with
  | .call _ => catN (keysFr fr) (catN (keysLs (keysFr fr) L) (keysLs (keysLs (keysFr fr) L) L))
  | op => footOf op fr
def footL (F : List Nat) (L : LL) : LL := List.rec (motive := fun _ => LL) [] (fun k _ ih => match getL L k with | some x => (k, x) :: ih | none => ih) F
def lessL (ks : List Nat) (L : LL) : LL := List.rec (motive := fun _ => LL) [] (fun p _ ih => match p with | (k, x) => match memN k ks with | true => ih | false => (k, x) :: ih) L
def protK (Φ : List (Nat × List Nat)) (ds : List Nat) : List Nat := List.rec (motive := fun _ => List Nat) [] (fun p _ ih => match p with | (c, F) => match memN c ds with | true => ih | false => catN F ih) Φ
def guardK (all : List Oper) (g : Option (Nat × Bool)) (fr : Fr) (run skip : Fr → Prop) : Prop :=
  match g with
  | none => run fr
  | some (j, want) =>
    match dstOf all j with
    | none => False
    | some t =>
      match get fr t with
      | .bb b => (match b, want with
        | true, true => run fr
        | false, false => run fr
        | _, _ => skip fr)
      | .b p _ => (match want with
        | true => (p → run (setF fr t (.bb true))) ∧ (¬ p → skip (setF fr t (.bb false)))
        | false => (p → skip (setF fr t (.bb true))) ∧ (¬ p → run (setF fr t (.bb false))))
      | .v (.tuple _) => skip fr
      | _ => False
abbrev CalmF := Op → Fr → LL → PH → (SV → Prop) → Prop
abbrev EffF := Nat → Nat → Option Nat → Op → Nat → PH → Fr → LL → Kt → Prop
def vcP (ltf : Nat → Fr → Bool) (ltl : Nat → LL → Bool) (cf : CalmF) (ef : EffF) (N : Nat) (all : List Oper) (p : Pn) : List (Nat × List Nat) → Nat → PH → Fr → LL → Kt → Prop :=
  Pn.rec (motive := fun _ => List (Nat × List Nat) → Nat → PH → Fr → LL → Kt → Prop)
    (fun _ nk q fr L K => K nk q fr L)
    (fun _ _ _ _ _ _ => True)
    (fun i _ ih Φ nk q fr L K =>
      match nth all i with
      | none => False
      | some ⟨dst, op, _, _, _, guard⟩ => guardK all guard fr
        (fun fr => fFr (keepF (uses op) fr) fun fo => match ltf nk fo, ltl nk L with
          | true, true => cf op fo (footL (footD op fo L) L) q fun x => putK N dst x fr fun fr => ih ((i, footD op fo L) :: Φ) nk q fr L K
          | _, _ => False)
        (fun fr => putK N dst (.v undef) fr fun fr => ih ((i, []) :: Φ) nk q fr L K))
    (fun i ds _ _ ihn iha Φ nk q fr L K =>
      (match nth all i with
      | none => False
      | some ⟨dst, op, _, _, _, guard⟩ => guardK all guard fr
        (fun fr => match ltf nk fr, ltl nk L with
          | true, true => fN (nk + 1) fun nk1 => ef nk nk dst op nk1 q fr (lessL (protK Φ ds) L) fun nk2 q2 fr2 L2 => match Nat.ble nk nk2 with
            | true => Ob (q.le q2) ∧ ihn Φ nk2 q2 fr2 (appL (footL (protK Φ ds) L) L2) K
            | false => False
          | _, _ => False)
        (fun fr => putK N dst (.v undef) fr fun fr => ihn Φ nk q fr L K)) ∧ iha Φ nk q fr L K) p
def depsB (ops : Array Oper) (acc : List Nat) : List Nat → Bool
  | [] => true
  | c :: r => acc.any (fun d => match ops[d]? with | some o => o.after.toList.any (fun e => Region.binds .any e && e.on == c) | none => false) && depsB ops (c :: acc) r
def Pn.heads : Pn → List Nat
  | .eff i _ _ alt => i :: alt.heads
  | _ => []
def Pn.depth : Pn → Nat
  | .calm _ n => n.depth + 1
  | .eff _ _ n alt => max (n.depth + 1) alt.depth
  | _ => 0
def planB (ops : Array Oper) : Bool → Pn → Array Bool → Bool
  | top, .done, listed => top && (Region.ready .any ops listed).isEmpty
  | top, .no, _ => !top
  | top, .calm i n, listed => top && (Region.ready .any ops listed).contains i && Region.free .any ops listed i && planB ops true n (listed.setIfInBounds i true)
  | top, .eff i ds n alt, listed => (!top || (Region.ready .any ops listed).all fun j => (i :: alt.heads).contains j) && (Region.ready .any ops listed).contains i && depsB ops [i] ds && planB ops true n (listed.setIfInBounds i true) && planB ops false alt listed
def noDefer (ops : Array Oper) : Bool := ops.toList.all fun o => match o.op with | .defer _ => false | _ => true
def planOk (ops : Array Oper) (p : Pn) : Bool := noDefer ops && Region.noSelect ops && Nat.ble p.depth ops.size && planB ops true p (Array.replicate ops.size false)
def blkE (id : Nat) (K : Ke) : Ke
  | .exit n => match Nat.beq n id with | true => K .norm | false => K (.exit n)
  | e => K e
def thenE (f : Kt) (K : Ke) : Ke
  | .norm => f
  | e => K e
def scopeE (K : Ke) : Ke
  | .goto n => fun _ _ _ _ => False
  | e => K e
def firstReg : Code → Option Nat
  | .region id _ _ => some id
  | .seq a b => match firstReg a with | some x => some x | none => firstReg b
  | .cond _ a b => match firstReg a with | some x => some x | none => firstReg b
  | .block _ a => firstReg a
  | .loop a => firstReg a
  | .scope a => firstReg a
  | _ => none
def hasKey (k : Nat) (L : LL) : Bool :=
  match L with
  | [] => false
  | (u, _) :: r => match Nat.beq u k with | true => true | false => hasKey k r
def keysOk (lo hi : Nat) (L : LL) : Bool :=
  match L with
  | [] => true
  | (k, _) :: r => match Nat.ble lo k, Nat.blt k hi, hasKey k r with | true, true, false => keysOk lo hi r | _, _, _ => false
def dfrIn (rest : LL) (L : LL) : Bool :=
  match L with
  | [] => true
  | (k, .dfr) :: r => (match hasKey k rest with | true => dfrIn rest r | false => false)
  | _ :: r => dfrIn rest r
def frzAt (fr : Fr) (L : LL) (t o : Nat) : Option Nat :=
  match nilAt fr t with
  | .own k => some k
  | .agg cs => (match nth cs o with | some (.own j) => some j | _ => none)
  | .tup cs => (match nth cs o with | some (.own j) => some j | _ => none)
  | .lp k _ => (match getL L k with
    | some (.cells _ cs) => (match nth cs o with | some (.own j) => some j | _ => none)
    | _ => none)
  | _ => none
def frzF (ts : List (Nat × Nat)) : PH → Fr → LL → (PH → Fr → LL → Prop) → Prop :=
  List.rec (motive := fun _ => PH → Fr → LL → (PH → Fr → LL → Prop) → Prop) (fun q fr L K => K q fr L)
    (fun p _ ih q fr L K =>
      match p with
      | (t, o) => match nilAt fr t with
        | .vw k lo sz m _ => (match getL L k with
          | some (.arr _ sz' n xs) => (match Nat.beq sz' sz with
            | true => Ob (lo + m ≤ n) ∧ ∀ q' A c A0 c0 m', q.le q' → n ≤ c0 → Reads q' A0 xs → m' = m → m' ≤ c → Reads q' A (vwC xs lo sz m) → fFr (setF (fzF k (.slice A0 n c0) fr) t (.v (.slice A m' c))) fun fr => fLL (fzLL k (.slice A0 n c0) (remL L k)) fun L => ih q' fr L K
            | false => False)
          | _ => False)
        | _ => match frzAt fr L t o with
        | none => ih q fr L K
        | some k => (match getL L k with
          | some (.arr _ _ n xs) => ∀ q' A c, q.le q' → n ≤ c → Reads q' A xs → fFr (fzF k (.slice A n c) fr) fun fr => fLL (fzLL k (.slice A n c) (remL L k)) fun L => ih q' fr L K
          | _ => ih q fr L K)) ts
def leK (gr : Bool) (q q' : PH) : Prop :=
  match gr with
  | false => q = q'
  | true => q.le q'
def loopRound (I : Inv) (n0 nk : Nat) (q : PH) (kf : Fr) (rest : LL) (body : Nat → PH → Fr → LL → Ke → Prop) (K : Ke) (q1 : PH) : Prop :=
  ∀ i, I.ok i → I.rd q1 i →
    match keysOk 0 (nk + I.keys) (I.L nk i), ltF (nk + I.keys) (I.fr nk i), ltLL (nk + I.keys) (I.L nk i) with
    | true, true, true => fFr (appF (I.fr nk i) kf) fun fr1 => fLL (appL (I.L nk i) rest) fun L1 => fN (nk + I.keys) fun nk1 => body nk1 q1 fr1 L1
      (thenE (fun nk2 q' fr' L' => nilF I.nils n0 nk2 fr' L' fun _ fr' L' => frzF I.frz q' fr' L' fun q' fr' L' => ∃ j, Ob (I.ok j ∧ I.μ j < I.μ i) ∧ Ob (I.rd q' j) ∧ Ob (leK I.gr q q') ∧ mFr nk (I.fr nk j) fr' [] fun as => mLL nk (I.L nk j) L' as fun as => mFr nk kf fr' as fun as => sameL nk rest L' as (dfrIn rest L' = true)) K)
    | _, _, _ => False
def loopK (I : Inv) (n0 nk : Nat) (q : PH) (fr : Fr) (L : LL) (body : Nat → PH → Fr → LL → Ke → Prop) (K : Ke) : Prop :=
  match Nat.ble n0 nk with
  | false => False
  | true =>
  nilF I.nils n0 nk fr L fun nk fr L => frzF I.frz q fr L fun q fr L =>
  fFr (keepF I.keep fr) fun kf =>
  match Nat.ble n0 nk, ltF nk kf with
  | true, true => ∃ i0, Ob (I.ok i0) ∧ Ob (I.rd q i0) ∧ mFr nk (I.fr nk i0) fr [] fun as => mLL nk (I.L nk i0) L as fun as => fLL (restL as L) fun rest =>
    match ltLL nk rest, hidFree as L with
    | true, true =>
      match I.gr with
      | false => loopRound I n0 nk q kf rest body K q
      | true => ∀ q1, q.le q1 → loopRound I n0 nk q kf rest body K q1
    | _, _ => False
  | _, _ => False
def cutNext (I : Cut) (base : Nat) (kf : Fr) (rest : LL) (vb : Nat → PH → Fr → LL → Prop) (q1 : PH) : Prop :=
  ∀ j, I.ok q1 j →
    match keysOk 0 (base + I.keys) (I.L j), ltF (base + I.keys) (I.fr j), ltLL (base + I.keys) (I.L j) with
    | true, true, true => fN (base + I.keys) fun nk => fFr (appF (I.fr j) kf) fun fr1 => fLL (appL (I.L j) rest) fun L1 => vb nk q1 fr1 L1
    | _, _, _ => False
def cutK (I : Cut) (n0 : Nat) (q : PH) (fr : Fr) (va : Ke → Prop) (vb : Nat → PH → Fr → LL → Prop) (K : Ke) : Prop :=
  fFr (keepF I.keep fr) fun kf => fLL I.rest fun rest => fN I.base fun base =>
  match Nat.ble n0 base, ltF base kf, ltLL base rest with
  | true, true, true =>
    va (thenE (fun nk1 q' fr' L' => nilF I.nils n0 nk1 fr' L' fun _ fr' L' => frzF I.frz q' fr' L' fun q' fr' L' => ∃ j, Ob (I.ok q' j) ∧ Ob (leK I.gr q q') ∧ mFr base (I.fr j) fr' [] fun as => mLL base (I.L j) L' as fun as => mFr base kf fr' as fun as => sameL base rest L' as (dfrIn rest L' = true)) K)
    ∧ (match I.gr with
      | false => cutNext I base kf rest vb q
      | true => ∀ q1, q.le q1 → cutNext I base kf rest vb q1)
  | _, _, _ => False
def putsF (ps : List Nat) (xs : List SV) (N : Nat) (fr : Fr) (K : Fr → Prop) : Prop :=
  match ps, xs with
  | [], [] => K fr
  | p :: ps, x :: xs => (match Nat.blt p N with | true => putsF ps xs N ((p, x) :: fr) K | false => False)
  | _, _ => False
def roundK (va vb : Nat → Nat → PH → Fr → LL → Ke → Prop) (N nk : Nat) (ps : List Nat) (fr : Fr) : Hd := fun args nk1 q L K1 =>
  match getL L nk with
  | some (.loop .ready none) => putsF ps args N fr fun fr1 =>
    va nk1 nk1 q fr1 L (thenE (fun nk2 q fr2 L =>
      (match getL L nk with
      | some (.loop .ready none) => fLL (setL L nk (.loop .busy none)) fun L =>
        vb nk1 nk2 q fr2 L fun ex nk3 q _ L =>
          (match getL L nk with
          | some (.loop .busy none) => (match ex with
            | .norm => fLL (setL L nk (.loop .ready none)) fun L => K1 (.bb true) nk3 q L
            | .ret => fLL (setL L nk (.loop .done (some .ret))) fun L => K1 (.bb false) nk3 q L
            | .exit n => fLL (setL L nk (.loop .done (some (.exit n)))) fun L => K1 (.bb false) nk3 q L
            | .goto n => fLL (setL L nk (.loop .done (some (.goto n)))) fun L => K1 (.bb false) nk3 q L)
          | _ => False)
      | _ => False)) (fun _ _ _ _ _ => False))
  | _ => False
def doneK (nk : Nat) (fr : Fr) (K : Ke) : SV → Nat → PH → LL → Prop := fun _ nk1 q L =>
  match getL L nk with
  | some (.loop .ready none) => fLL (remL (remL L nk) (nk + 1)) fun L => K .norm nk1 q fr L
  | some (.loop .done (some .ret)) => fLL (remL (remL L nk) (nk + 1)) fun L => K .ret nk1 q fr L
  | some (.loop .done (some (.exit n))) => fLL (remL (remL L nk) (nk + 1)) fun L => K (.exit n) nk1 q fr L
  | some (.loop .done (some (.goto n))) => fLL (remL (remL L nk) (nk + 1)) fun L => K (.goto n) nk1 q fr L
  | _ => False
def vcR (E : Env) (inl : Inl) (f : Nat) (wr : Bool) (N : Nat) (c : Code) : Nat → Ye → Option Nat → Nat → PH → Fr → LL → Ke → Prop :=
  Code.rec (motive := fun _ => Nat → Ye → Option Nat → Nat → PH → Fr → LL → Ke → Prop)
    (fun _ _ _ nk q fr L K => K .norm nk q fr L)
    (fun _ ops draw n0 Y _ nk q fr L K => (match draw with
      | false => fN (nk + ops.toList.length) fun nk' => vcOps E inl Y wr n0 N ops.toList ops.toList nk nk' q fr L (K .norm)
      | true => Ob (Region.lexB .any ops = true) ∧ (match calmOnly E.T E.Γ E.Δ ops.toList with
        | true => fN (nk + ops.toList.length) fun nk' => vcOps E inl Y wr n0 N ops.toList ops.toList nk nk' q fr L (K .norm)
        | false => (match Nat.ble n0 nk with
          | true => ∃ pl : Pn, Ob (planOk ops pl = true) ∧ vcP ltF ltLL (fun op fr L q K => calmK E.T E.Γ E.Δ wr q op fr L K) (fun n0 key dst op nk q fr L K => effK E inl Y wr n0 N key dst op nk q fr L K) N ops.toList pl [] nk q fr L (K .norm)
          | false => False))))
    (fun _ b va vb n0 Y ro nk q fr L K => (match firstReg b with
      | none => va n0 Y ro nk q fr L (thenE (fun nk q fr L => vb n0 Y ro nk q fr L K) K)
      | some id => (match E.cut f id with
        | false => va n0 Y ro nk q fr L (thenE (fun nk q fr L => vb n0 Y ro nk q fr L K) K)
        | true => ∃ I : Cut, cutK I n0 q fr (fun K => va n0 Y ro nk q fr L K) (fun nk q fr L => vb n0 Y ro nk q fr L K) K)))
    (fun c _ _ vx vy n0 Y ro nk q fr L K => (match opv fr c with
      | .bb true => vx n0 Y ro nk q fr L K
      | .bb false => vy n0 Y ro nk q fr L K
      | .b p _ => (p → vx n0 Y ro nk q fr L K) ∧ (¬ p → vy n0 Y ro nk q fr L K)
      | _ => False))
    (fun id _ vc n0 Y ro nk q fr L K => vc n0 Y ro nk q fr L (blkE id K))
    (fun body vb n0 Y ro nk q fr L K => (match firstReg body with
      | none => False
      | some id => (match E.inv f id nk with
        | none => ∃ I : Inv, loopK I n0 nk q fr L (fun nk q fr L K => vb n0 Y ro nk q fr L K) K
        | some I => loopK I n0 nk q fr L (fun nk q fr L K => vb n0 Y ro nk q fr L K) K)))
    (fun g ps _ _ va vb n0 Y ro nk q fr L K =>
      (match Nat.ble n0 nk, ltF nk fr, ltLL nk L with
      | true, true, true =>
        (match opv fr g with
        | .fn it cs =>
          (match ro with
          | none => inl ((nk, roundK (fun n0 nk' q fr L K => va n0 Y (some nk) nk' q fr L K) (fun n0 nk' q fr L K => vb n0 Y (some nk) nk' q fr L K) N nk ps.toList fr) :: Y)
              it (.yl nk :: cs) (nk + 2) q ((nk, .loop .ready none) :: (nk + 1, .dfr) :: L) (doneK nk fr K)
          | some l0 => (match getL L l0 with
            | some (.loop _ _) => inl ((nk, roundK (fun n0 nk' q fr L K => va n0 Y (some nk) nk' q fr L K) (fun n0 nk' q fr L K => vb n0 Y (some nk) nk' q fr L K) N nk ps.toList fr) :: Y)
              it (.yl nk :: cs) (nk + 2) q ((nk, .loop .ready none) :: L) (doneK nk fr K)
            | _ => False))
        | _ => False)
      | _, _, _ => False))
    (fun id _ _ _ nk q fr L K => K (.exit id) nk q fr L)
    (fun _ vc n0 Y ro nk q fr L K => vc n0 Y ro nk q fr L (scopeE K))
    (fun _ _ _ _ nk q fr L K => K .norm nk q fr L)
    (fun l _ _ _ nk q fr L K => K (.goto l) nk q fr L)
    (fun _ _ _ nk q fr L K => K .ret nk q fr L)
    (fun _ _ _ _ _ _ _ _ _ => False)
    c
def vcC (E : Env) (inl : Inl) (f : Nat) (wr : Bool) (n0 N : Nat) (c : Code) (Y : Ye) (ro : Option Nat) (nk : Nat) (q : PH) (fr : Fr) (L : LL) (K : Ke) : Prop :=
  vcR E inl f wr N c n0 Y ro nk q fr L K
def resK (T : Tab) (q : PH) (rs : List ResultVar) (fr : Fr) (L : LL) (K : List SV → Prop) : Prop :=
  match rs with
  | [] => K []
  | .tmp t :: r => fSV (get fr t) fun x => resK T q r fr L fun l => K (x :: l)
  | .cell t ty :: r => loadK T q L ty (get fr t) fun x => resK T q r fr L fun l => K (x :: l)
def oneOr (l : List SV) : SV := match l with | [x] => x | l => .tup l
def dropA (b : Nat) (L0 : LL) (L : LL) : LL :=
  match L with
  | [] => []
  | (k, x) :: r => (match Nat.ble b k with
    | true => (match getL L0 k with | some .dfr => dropA b L0 r | _ => (k, x) :: dropA b L0 r)
    | false => (k, x) :: dropA b L0 r)
def dropD (b : Nat) (L : LL) : LL := dropA b L L
def retE (T : Tab) (b : Nat) (rs : List ResultVar) (K : SV → Nat → PH → LL → Prop) : Ke
  | .norm => fun nk q fr L => fLL (dropD b L) fun L => resK T q rs fr L fun l => fSV (oneOr l) fun r => K r nk q L
  | .ret => fun nk q fr L => fLL (dropD b L) fun L => resK T q rs fr L fun l => fSV (oneOr l) fun r => K r nk q L
  | _ => fun _ _ _ _ => False
def argF (args : List SV) (i : Nat) : Fr :=
  match args with
  | [] => []
  | x :: r => (i, x) :: argF r (i + 1)
def vcN (E : Env) : Nat → Inl
  | 0 => fun _ _ _ _ _ _ _ => False
  | d + 1 => fun Y f args nk q L K => (match E.FT.get f with
    | none => False
    | some fn => (match fn.body with
      | none => False
      | some c => (match Nat.ble args.length fn.ntmps with
        | false => False
        | true => fFr (argF args 0) fun fr => vcC E (vcN E d) f (E.wr f) nk fn.ntmps c Y none nk q fr L (retE E.T nk fn.results.toList K))))
end
end Go.Eng
