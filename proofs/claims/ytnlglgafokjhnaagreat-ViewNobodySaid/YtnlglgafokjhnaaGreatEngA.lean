/-
  Texts that the law leans on. Nothing here is trusted.
-/
import Derived.RangeFuncLeaves
import Derived.Deep.Quiet
import Derived.Laws.BitsLemmas
import Derived.Below
import Derived.Laws.StructEq
import Derived.Laws.AppendOwn
set_option linter.unusedVariables false
set_option linter.unusedSimpArgs false
namespace Go.Eng
open Go
noncomputable section
abbrev PH := Nat → Nat → Option Value
def PH.le (p q : PH) : Prop := ∀ b o v, p b o = some v → q b o = some v
def PH.on (p : PH) (w : World) : Prop := ∀ b o v, p b o = some v → w.cell? ⟨b, o, none⟩ = some v
def rd (q : PH) (A : Option Addr) (j : Nat) : Option Value :=
  match A with
  | some ⟨b, o, none⟩ => q b (o + j)
  | _ => none
def Reads (q : PH) (A : Option Addr) (xs : List Value) : Prop := ∀ j, j < xs.length → rd q A j = xs[j]?
inductive Ex where
  | norm | ret | exit (n : Nat) | goto (n : Nat)
inductive SV where
  | v (x : Value)
  | bb (b : Bool)
  | b (p : Prop) (d : Decidable p)
  | lp (k o : Nat)
  | own (k : Nat)
  | el (A : Option Addr) (j : Nat)
  | agg (cs : List SV)
  | tup (cs : List SV)
  | fn (f : FuncId) (cs : List SV)
  | yl (k : Nat)
  | vw (k lo sz n : Nat) (ex : Bool)
  | lq (k : Nat)
  | ls (k n : Nat)
  | mr (k : Nat)
  | bad
inductive LB where
  | cells (T : TypeId) (cs : List SV)
  | arr (E : TypeId) (sz n : Nat) (xs : List Value)
  | row (E : TypeId) (sz n : Nat) (cs : List SV)
  | dfr
  | loop (st : LoopState) (pend : Option Ex)
  | mp (es : List MapEntry) (clk : Nat)
  | sb (E n : Nat) (xs : List Value)
abbrev Fr := List (Nat × SV)
abbrev LL := List (Nat × LB)
structure Loc where
  b : Nat
  A : Option Addr
  n : Nat
  c : Nat
  r : Loop
abbrev Pl := Nat → Loc
mutual
def den (S : Pl) : SV → Value
  | .v x => x
  | .bb b => .bool b
  | .b p d => .bool (@decide p d)
  | .lp k o => .pointer (some ⟨(S k).b, o, none⟩)
  | .own k => .slice (S k).A (S k).n (S k).c
  | .el A j => .pointer (A.map (·.add j))
  | .agg cs => .agg (denL S cs).toArray
  | .tup cs => .tuple (denL S cs).toArray
  | .fn f cs => .func (.func f) #[] (denL S cs).toArray
  | .yl k => .func (.yield (S k).b) #[] #[]
  | .vw _ _ _ n _ => .slice none n n
  | .lq _ => .pointer none
  | .ls k n => .slice (some ⟨(S k).b, 0, none⟩) n n
  | .mr k => .map (some (S k).b)
  | .bad => undef
def denL (S : Pl) : List SV → List Value
  | [] => []
  | x :: r => den S x :: denL S r
end
mutual
def SV.has (k : Nat) : SV → Bool
  | .lp j _ => Nat.beq j k
  | .own j => Nat.beq j k
  | .agg cs => hasL k cs
  | .tup cs => hasL k cs
  | .fn _ cs => hasL k cs
  | .yl j => Nat.beq j k
  | .vw j _ _ _ _ => Nat.beq j k
  | .lq j => Nat.beq j k
  | .ls j _ => Nat.beq j k
  | .mr j => Nat.beq j k
  | _ => false
def hasL (k : Nat) : List SV → Bool
  | [] => false
  | x :: r => match x.has k with | true => true | false => hasL k r
end
def hasF (k : Nat) (l : Fr) : Bool := List.rec (motive := fun _ => Bool) false (fun p _ ih => match p with | (u, x) => match x.has k with | true => true | false => ih) l
theorem hasF_n {k : Nat} : hasF k [] = false := rfl
theorem hasF_c {k u : Nat} {x : SV} {r : Fr} : hasF k ((u, x) :: r) = match x.has k with | true => true | false => hasF k r := rfl
def LB.has (k : Nat) : LB → Bool
  | .cells _ cs => hasL k cs
  | .row _ _ _ cs => hasL k cs
  | _ => false
def hasLL (k : Nat) (l : LL) : Bool := List.rec (motive := fun _ => Bool) false (fun p _ ih => match p with | (u, x) => match Nat.beq u k with | true => true | false => match x.has k with | true => true | false => ih) l
theorem hasLL_n {k : Nat} : hasLL k [] = false := rfl
theorem hasLL_c {k j : Nat} {x : LB} {r : LL} : hasLL k ((j, x) :: r) = match Nat.beq j k with | true => true | false => match x.has k with | true => true | false => hasLL k r := rfl
def get (fr : Fr) (t : Nat) : SV := List.rec (motive := fun _ => SV) .bad (fun p _ ih => match p with | (u, x) => match Nat.beq u t with | true => x | false => ih) fr
theorem get_n {t : Nat} : get [] t = .bad := rfl
theorem get_c {u t : Nat} {x : SV} {r : Fr} : get ((u, x) :: r) t = match Nat.beq u t with | true => x | false => get r t := rfl
def getL (L : LL) (k : Nat) : Option LB := List.rec (motive := fun _ => Option LB) none (fun p _ ih => match p with | (u, x) => match Nat.beq u k with | true => some x | false => ih) L
theorem getL_n {k : Nat} : getL [] k = none := rfl
theorem getL_c {u k : Nat} {x : LB} {r : LL} : getL ((u, x) :: r) k = match Nat.beq u k with | true => some x | false => getL r k := rfl
def setL (L : LL) (k : Nat) (z : LB) : LL := List.rec (motive := fun _ => LL) [] (fun p r ih => match p with | (u, y) => match Nat.beq u k with | true => (u, z) :: r | false => (u, y) :: ih) L
theorem setL_n {k : Nat} {x : LB} : setL [] k x = [] := rfl
theorem setL_c {u k : Nat} {x y : LB} {r : LL} : setL ((u, y) :: r) k x = match Nat.beq u k with | true => (u, x) :: r | false => (u, y) :: setL r k x := rfl
def remL (L : LL) (k : Nat) : LL := List.rec (motive := fun _ => LL) [] (fun p _ ih => match p with | (u, x) => match Nat.beq u k with | true => ih | false => (u, x) :: ih) L
theorem remL_n {k : Nat} : remL [] k = [] := rfl
theorem remL_c {u k : Nat} {y : LB} {r : LL} : remL ((u, y) :: r) k = match Nat.beq u k with | true => remL r k | false => (u, y) :: remL r k := rfl
def nth {α : Type} (l : List α) : Nat → Option α := List.rec (motive := fun _ => Nat → Option α) (fun _ => none) (fun x _ ih n => match n with | 0 => some x | n + 1 => ih n) l
theorem nth_n {α : Type} {n : Nat} : nth ([] : List α) n = none := rfl
theorem nth_0 {α : Type} {x : α} {r : List α} : nth (x :: r) 0 = some x := rfl
theorem nth_s {α : Type} {x : α} {r : List α} {n : Nat} : nth (x :: r) (n + 1) = nth r n := rfl
def setN {α : Type} : List α → Nat → α → List α
  | [], _, _ => []
  | _ :: r, 0, y => y :: r
  | x :: r, n + 1, y => x :: setN r n y
def takeN {α : Type} : List α → Nat → List α
  | _, 0 => []
  | [], _ => []
  | x :: r, n + 1 => x :: takeN r n
def dropN {α : Type} : List α → Nat → List α
  | l, 0 => l
  | [], _ => []
  | _ :: r, n + 1 => dropN r n
def fVal (x : Value) (K : Value → Prop) : Prop :=
  match x with
  | .bool b => K (.bool b) | .int k n => K (.int k n) | .float k n => K (.float k n) | .complex k a b => K (.complex k a b) | .string s => K (.string s)
  | .pointer a => K (.pointer a) | .slice a n c => K (.slice a n c) | .map r => K (.map r) | .chan r => K (.chan r) | .func f a c => K (.func f a c)
  | .nilFunc => K .nilFunc | .iface t v => K (.iface t v) | .nilIface => K .nilIface | .agg c => K (.agg c) | .tuple c => K (.tuple c)
def fSV0 (x : SV) (K : SV → Prop) : Prop :=
  match x with
  | .v x => fVal x fun y => K (.v y)
  | .bb b => (match b with | true => K (.bb true) | false => K (.bb false))
  | .b p d => K (.b p d) | .lp k o => K (.lp k o) | .own k => K (.own k) | .el A j => K (.el A j)
  | .agg cs => K (.agg cs)
  | .tup cs => K (.tup cs)
  | .fn f cs => K (.fn f cs)
  | .yl k => K (.yl k)
  | .vw k lo sz n ex => K (.vw k lo sz n ex)
  | .lq k => K (.lq k)
  | .ls k n => K (.ls k n)
  | .mr k => K (.mr k)
  | .bad => K .bad
def fSVL (l : List SV) : (List SV → Prop) → Prop := List.rec (motive := fun _ => (List SV → Prop) → Prop) (fun K => K []) (fun x _ ih K => fSV0 x fun y => ih fun s => K (y :: s)) l
theorem fSVL_c {x : SV} {r : List SV} {K : List SV → Prop} : fSVL (x :: r) K = fSV0 x fun y => fSVL r fun s => K (y :: s) := rfl
def fSV (x : SV) (K : SV → Prop) : Prop :=
  match x with
  | .v x => fVal x fun y => K (.v y)
  | .bb b => (match b with | true => K (.bb true) | false => K (.bb false))
  | .b p d => K (.b p d) | .lp k o => K (.lp k o) | .own k => K (.own k) | .el A j => K (.el A j)
  | .agg cs => fSVL cs fun l => K (.agg l)
  | .tup cs => fSVL cs fun l => K (.tup l)
  | .fn f cs => fSVL cs fun l => K (.fn f l)
  | .yl k => K (.yl k)
  | .vw k lo sz n ex => K (.vw k lo sz n ex)
  | .lq k => K (.lq k)
  | .ls k n => K (.ls k n)
  | .mr k => K (.mr k)
  | .bad => K .bad
def fLB (x : LB) (K : LB → Prop) : Prop :=
  match x with
  | .cells T cs => fSVL cs fun l => K (.cells T l)
  | .row E sz n cs => fSVL cs fun l => K (.row E sz n l)
  | .arr E sz n xs => K (.arr E sz n xs)
  | .dfr => K .dfr
  | .mp es c => K (.mp es c)
  | .sb E n xs => K (.sb E n xs)
  | .loop st pe => (match st, pe with
    | .ready, none => K (.loop .ready none)
    | .busy, none => K (.loop .busy none)
    | .done, none => K (.loop .done none)
    | .done, some .ret => K (.loop .done (some .ret))
    | .done, some (.exit n) => K (.loop .done (some (.exit n)))
    | .done, some (.goto n) => K (.loop .done (some (.goto n)))
    | st, pe => K (.loop st pe))
def fLL (l : LL) : (LL → Prop) → Prop := List.rec (motive := fun _ => (LL → Prop) → Prop) (fun K => K []) (fun p _ ih K => match p with | (u, x) => fLB x fun y => ih fun s => K ((u, y) :: s)) l
theorem fLL_c {k : Nat} {x : LB} {r : LL} {K : LL → Prop} : fLL ((k, x) :: r) K = fLB x fun y => fLL r fun s => K ((k, y) :: s) := rfl
def fFr (l : Fr) : (Fr → Prop) → Prop := List.rec (motive := fun _ => (Fr → Prop) → Prop) (fun K => K []) (fun p _ ih K => match p with | (u, x) => fSV x fun y => ih fun s => K ((u, y) :: s)) l
theorem fFr_c {k : Nat} {x : SV} {r : Fr} {K : Fr → Prop} : fFr ((k, x) :: r) K = fSV x fun y => fFr r fun s => K ((k, y) :: s) := rfl
structure Ob (p : Prop) : Prop where
  out : p
inductive Ty where
  | int (k : IntKind) | bool | str | flt (k : FloatKind) | ptr (e : Nat) | slice (e : Nat) | struct (fs : List (Nat × Nat)) | arr (n e : Nat) | func | map (k e : Nat) | other
structure TI where
  d : Ty
  sz : Nat
  byt : Nat
  zero : List Value
  flat : List Ty
  cmp : List Ty
inductive Tr (α : Type) where
  | nil
  | node (l : Tr α) (k : Nat) (v : α) (r : Tr α)
def Tr.get {α : Type} (T : Tr α) (t : Nat) : Option α := Tr.rec (motive := fun _ => Option α) none (fun _ k v _ gl gr => match Nat.beq t k with | true => some v | false => match Nat.blt t k with | true => gl | false => gr) T
theorem Tr.get_n {α : Type} {t : Nat} : (Tr.nil : Tr α).get t = none := rfl
theorem Tr.get_c {α : Type} {t k : Nat} {v : α} {l r : Tr α} : (Tr.node l k v r).get t = match Nat.beq t k with | true => some v | false => match Nat.blt t k with | true => l.get t | false => r.get t := rfl
def Tr.all {α : Type} (T : Tr α) (f : Nat → α → Bool) : Bool :=
  match T with
  | .nil => true
  | .node l k v r => match f k v with | true => (match l.all f with | true => r.all f | false => false) | false => false
abbrev Tab := Tr TI
def tyD : TI := ⟨.other, 0, 0, [], [], []⟩
def ty (T : Tab) (t : Nat) : TI :=
  match T.get t with
  | some x => x
  | none => tyD
def inR : IntKind → Int → Prop
  | .i8, n => -128 ≤ n ∧ n ≤ 127
  | .i16, n => -32768 ≤ n ∧ n ≤ 32767
  | .i32, n => -2147483648 ≤ n ∧ n ≤ 2147483647
  | .i64, n => -9223372036854775808 ≤ n ∧ n ≤ 9223372036854775807
  | .u8, n => 0 ≤ n ∧ n ≤ 255
  | .u16, n => 0 ≤ n ∧ n ≤ 65535
  | .u32, n => 0 ≤ n ∧ n ≤ 4294967295
  | .u64, n => 0 ≤ n ∧ n ≤ 18446744073709551615
def kc : IntKind → Nat
  | .i8 => 0 | .i16 => 1 | .i32 => 2 | .i64 => 3 | .u8 => 4 | .u16 => 5 | .u32 => 6 | .u64 => 7
def widens (a b : IntKind) : Bool :=
  match a, b with
  | .u8, .i16 | .u8, .i32 | .u8, .i64 | .u8, .u16 | .u8, .u32 | .u8, .u64 | .u8, .u8 | .i32, .i64 | .u16, .i32 | .u16, .i64 | .u32, .i64 | .i64, .i64 | .i32, .i32 | .u64, .u64 | .u32, .u32 | .u32, .u64 | .u16, .u64 | .u16, .u32 | .u16, .u16 => true
  | _, _ => false
def opv (fr : Fr) : Operand → SV
  | .tmp t => get fr t
  | .const (.bool b) => .bb b
  | .const v => .v v
  | .global _ => .bad
  | .func f => .fn f []
def opvs (fr : Fr) : List Operand → List SV
  | [] => []
  | x :: r => opv fr x :: opvs fr r
def arK (wr : Bool) (k : IntKind) (n : Int) (K : SV → Prop) : Prop :=
  match wr with
  | true => K (.v (.int k (k.wrap n)))
  | false => Ob (inR k n) ∧ K (.v (.int k n))
def intK (op : BinOp) (wr : Bool) (k : IntKind) (a : Int) (b : Int) (K : SV → Prop) : Prop :=
  match op with
  | .add => arK wr k (a + b) K
  | .sub => arK wr k (a - b) K
  | .mul => arK wr k (a * b) K
  | .quo => Ob (b ≠ 0) ∧ arK wr k (a.tdiv b) K
  | .rem => Ob (b ≠ 0) ∧ K (.v (.int k (a.tmod b)))
  | .and => K (.v (.int k (bits .and k a b)))
  | .or => K (.v (.int k (bits .or k a b)))
  | .xor => K (.v (.int k (bits .xor k a b)))
  | .eql => K (.b (a = b) (Int.instDecidableEq a b))
  | .neq => K (.b (¬ a = b) (@instDecidableNot _ (Int.instDecidableEq a b)))
  | .lss => K (.b (a < b) (Int.decLt a b))
  | .leq => K (.b (a ≤ b) (Int.decLe a b))
  | .gtr => K (.b (b < a) (Int.decLt b a))
  | .geq => K (.b (b ≤ a) (Int.decLe b a))
  | _ => False
def shK (op : BinOp) (k : IntKind) (a b : Int) (K : SV → Prop) : Prop :=
  match op with
  | .shl => Ob (0 ≤ b ∧ b ≤ k.bits) ∧ K (.v (.int k (k.wrap (a * 2 ^ b.toNat))))
  | .shr => Ob (0 ≤ b ∧ b ≤ k.bits) ∧ K (.v (.int k (a / 2 ^ b.toNat)))
  | _ => False
def decStr (a b : ByteArray) : Decidable (a.data.toList = b.data.toList) := inferInstance
def strK (op : BinOp) (a b : ByteArray) (K : SV → Prop) : Prop :=
  match op with
  | .add => Ob (a.size + b.size ≤ 9223372036854775807) ∧ K (.v (.string (a ++ b)))
  | .eql => K (.b (a.data.toList = b.data.toList) (decStr a b))
  | .neq => K (.b (¬ a.data.toList = b.data.toList) (@instDecidableNot _ (decStr a b)))
  | _ => False
def fkc : FloatKind → FloatKind → Bool
  | .f32, .f32 => true
  | .f64, .f64 => true
  | _, _ => false
def decOrd (o x : Option Ordering) : Decidable (o = x) := inferInstance
def flrK (k : FloatKind) (x : Option Nat) (K : SV → Prop) : Prop := Ob (∃ r, x = some r) ∧ ∀ r, x = some r → K (.v (.float k r))
def fltK (op : BinOp) (k : FloatKind) (a b : Nat) (K : SV → Prop) : Prop :=
  match op with
  | .add => flrK k (k.format.add a b) K
  | .sub => flrK k (k.format.sub a b) K
  | .mul => flrK k (k.format.mul a b) K
  | .quo => flrK k (k.format.div a b) K
  | .eql => K (.b (k.format.order a b = some .eq) (decOrd _ _))
  | .neq => K (.b (¬ k.format.order a b = some .eq) (@instDecidableNot _ (decOrd _ _)))
  | .lss => K (.b (k.format.order a b = some .lt) (decOrd _ _))
  | .leq => K (.b (k.format.order a b = some .lt ∨ k.format.order a b = some .eq) (@instDecidableOr _ _ (decOrd _ _) (decOrd _ _)))
  | .gtr => K (.b (k.format.order a b = some .gt) (decOrd _ _))
  | .geq => K (.b (k.format.order a b = some .gt ∨ k.format.order a b = some .eq) (@instDecidableOr _ _ (decOrd _ _) (decOrd _ _)))
  | _ => False
def decNone (A : Option Addr) : Decidable (A = none) := inferInstance
def eqK (d : Ty) (x y : SV) (K : SV → Prop) : Prop :=
  match d with
  | .bool => (match x, y with
    | .bb true, .bb true => K (.bb true) | .bb false, .bb false => K (.bb true) | .bb true, .bb false => K (.bb false) | .bb false, .bb true => K (.bb false)
    | .b p d, .bb true => K (.b p d)
    | .b p d, .bb false => K (.b (¬ p) (@instDecidableNot _ d))
    | .bb true, .b p d => K (.b p d)
    | .bb false, .b p d => K (.b (¬ p) (@instDecidableNot _ d))
    | .b p d, .b p' d' => K (.b (p ↔ p') (@instDecidableIff _ _ d d'))
    | _, _ => False)
  | .ptr _ => (match x, y with
    | .lp _ _, .v (.pointer none) => K (.bb false)
    | .v (.pointer none), .lp _ _ => K (.bb false)
    | .v (.pointer (some _)), .v (.pointer none) => K (.bb false)
    | .v (.pointer none), .v (.pointer none) => K (.bb true)
    | _, _ => False)
  | .func => (match x, y with
    | .fn _ _, .v .nilFunc => K (.bb false)
    | .v (.func _ _ _), .v .nilFunc => K (.bb false)
    | .v .nilFunc, .v .nilFunc => K (.bb true)
    | _, _ => False)
  | .map _ _ => (match x, y with
    | .mr _, .v (.map none) => K (.bb false)
    | .v (.map none), .v (.map none) => K (.bb true)
    | _, _ => False)
  | .slice _ => (match x, y with
    | .v (.slice A _ _), .v (.slice none _ _) => K (.b (A = none) (decNone A))
    | _, _ => False)
  | _ => False
def notK (x : SV) (K : SV → Prop) : Prop :=
  match x with
  | .bb true => K (.bb false)
  | .bb false => K (.bb true)
  | .b p d => K (.b (¬ p) (@instDecidableNot _ d))
  | _ => False
def bqK (a b : SV) (K : (p : Prop) → Decidable p → Prop) : Prop :=
  match a, b with
  | .bb true, .bb true => K True instDecidableTrue
  | .bb false, .bb false => K True instDecidableTrue
  | .bb true, .bb false => K False instDecidableFalse
  | .bb false, .bb true => K False instDecidableFalse
  | .b p d, .bb true => K p d
  | .b p d, .bb false => K (¬ p) (@instDecidableNot _ d)
  | .bb true, .b p d => K p d
  | .bb false, .b p d => K (¬ p) (@instDecidableNot _ d)
  | .b p d, .b p' d' => K (p ↔ p') (@instDecidableIff _ _ d d')
  | _, _ => False
def eqsL (c : List Ty) : List SV → List SV → ((p : Prop) → Decidable p → Prop) → Prop :=
  List.rec (motive := fun _ => List SV → List SV → ((p : Prop) → Decidable p → Prop) → Prop)
    (fun x y K => match x, y with | [], [] => K True instDecidableTrue | _, _ => False)
    (fun t _ ih x y K => match t, x, y with
      | .int _, .v (.int k m) :: s, .v (.int k' n) :: r => (match Nat.beq (kc k) (kc k') with | true => ih s r fun p i => K (m = n ∧ p) (@instDecidableAnd _ _ (Int.instDecidableEq m n) i) | false => False)
      | .str, .v (.string a) :: s, .v (.string b) :: r => ih s r fun p i => K (a.data.toList = b.data.toList ∧ p) (@instDecidableAnd _ _ (decStr a b) i)
      | .bool, a :: s, b :: r => bqK a b fun q d => ih s r fun p i => K (q ∧ p) (@instDecidableAnd _ _ d i)
      | _, _, _ => False) c
def eqsK (c : List Ty) (d : Ty) (x y : SV) (K : SV → Prop) : Prop :=
  match x, y with
  | .agg xs, .agg ys => (match c with
    | [] => False
    | t :: c => (match d with
      | .struct _ => eqsL (t :: c) xs ys fun p i => K (.b p i)
      | _ => False))
  | x, y => eqK d x y K
def binK (c : List Ty) (d : Ty) (op : BinOp) (wr : Bool) (x y : SV) (K : SV → Prop) : Prop :=
  match x, y with
  | .v (.int k a), .v (.int k' b) =>
    match op with
    | .shl => shK .shl k a b K
    | .shr => shK .shr k a b K
    | op => match Nat.beq (kc k) (kc k') with | true => intK op wr k a b K | false => False
  | .v (.string a), .v (.string b) => strK op a b K
  | .v (.float k a), .v (.float k' b) => match fkc k k' with | true => fltK op k a b K | false => False
  | x, y =>
    match op with
    | .eql => eqsK c d x y K
    | .neq => eqsK c d x y fun r => notK r K
    | _ => False
def unK (op : UnOp) (wr : Bool) (x : SV) (K : SV → Prop) : Prop :=
  match op, x with
  | .not, x => notK x K
  | .neg, .v (.int k n) => arK wr k (0 - n) K
  | _, _ => False
def ldK (g : Nat → Option Value) (j : Nat) (ts : List Ty) (K : List SV → Prop) : Prop :=
  match ts with
  | [] => K []
  | .int k :: r => Ob (∃ x, g j = some (.int k x)) ∧ ∀ x, g j = some (.int k x) → ldK g (j + 1) r fun l => K (.v (.int k x) :: l)
  | .bool :: r => Ob (∃ b, g j = some (.bool b)) ∧ ∀ b, g j = some (.bool b) → ldK g (j + 1) r fun l => K (.b (b = true) (instDecidableEqBool b true) :: l)
  | .flt k :: r => Ob (∃ x, g j = some (.float k x)) ∧ ∀ x, g j = some (.float k x) → ldK g (j + 1) r fun l => K (.v (.float k x) :: l)
  | .str :: r => Ob (∃ s, g j = some (.string s)) ∧ ∀ s, g j = some (.string s) → ldK g (j + 1) r fun l => K (.v (.string s) :: l)
  | .ptr _ :: r => Ob (∃ A, g j = some (.pointer A)) ∧ ∀ A, g j = some (.pointer A) → ldK g (j + 1) r fun l => K (.v (.pointer A) :: l)
  | .slice _ :: r => Ob (∃ A n c, g j = some (.slice A n c)) ∧ ∀ A n c, g j = some (.slice A n c) → ldK g (j + 1) r fun l => K (.v (.slice A n c) :: l)
  | _ :: _ => False
def ofCells (t : Ty) (l : List SV) : SV :=
  match t with
  | .struct _ => .agg l
  | .arr _ _ => .agg l
  | _ => match l with | x :: _ => x | [] => .bad
def fieldOf (T : Tab) (t f : Nat) : Option (Nat × Nat) :=
  match (ty T t).d with
  | .struct fs => nth fs f
  | _ => none
def loadK1 (d : Ty) (sz : Nat) (flat : List Ty) (q : PH) (L : LL) (x : SV) (K : SV → Prop) : Prop :=
  match x with
  | .lp k o =>
    match getL L k with
    | some (.cells _ cs) => match Nat.ble (o + sz) cs.length with | true => fSV (ofCells d (takeN (dropN cs o) sz)) K | false => False
    | some (.arr _ _ _ xs) => ldK (fun j => xs[j]?) o flat fun l => fSV (ofCells d l) K
    | some (.row _ _ _ cs) => match Nat.ble (o + sz) cs.length with | true => fSV (ofCells d (takeN (dropN cs o) sz)) K | false => False
    | _ => False
  | .el A j => ldK (rd q A) j flat fun l => fSV (ofCells d l) K
  | .v (.pointer (some a)) => ldK (rd q (some a)) 0 flat fun l => fSV (ofCells d l) K
  | _ => False
def loadK (T : Tab) (q : PH) (L : LL) (t : Nat) (x : SV) (K : SV → Prop) : Prop :=
  match ty T t with
  | ⟨.other, _, _, _, _, _⟩ => False
  | ⟨d, sz, _, _, flat, _⟩ => loadK1 d sz flat q L x K
def bv (c : UInt8) : Value := .int .u8 c.toNat
def vwC (xs : List Value) (lo sz n : Nat) : List Value := (xs.drop (lo * sz)).take (n * sz)
def rowVL (l : List SV) : Option (List Value) := List.rec (motive := fun _ => Option (List Value)) (some [])
  (fun x _ ih => match x with
    | .v y => (match ih with | some s => some (y :: s) | none => none)
    | .bb b => (match ih with | some s => some (.bool b :: s) | none => none)
    | .b p d => (match ih with | some s => some (.bool (@decide p d) :: s) | none => none)
    | _ => none) l
def vwS (cs : List SV) (lo sz n : Nat) : List SV := takeN (dropN cs (lo * sz)) (n * sz)
def sliceK (q : PH) (L : LL) (sz : Nat) (x : SV) (K : List Value → Prop) : Prop :=
  match x with
  | .v (.slice A n _) => Ob (∃ xs, xs.length = n * sz ∧ Reads q A xs) ∧ ∀ xs, xs.length = n * sz → Reads q A xs → K xs
  | .own k => match getL L k with | some (.arr _ sz' _ xs) => (match Nat.beq sz' sz with | true => K xs | false => False) | some (.row _ sz' _ cs) => (match Nat.beq sz' sz, rowVL cs with | true, some xs => K xs | _, _ => False) | _ => False
  | .vw k lo sz' m _ => match getL L k with | some (.arr _ sz'' n xs) => (match Nat.beq sz' sz, Nat.beq sz'' sz with | true, true => Ob (lo + m ≤ n) ∧ K (vwC xs lo sz m) | _, _ => False) | some (.row _ sz'' n cs) => (match Nat.beq sz' sz, Nat.beq sz'' sz, rowVL (vwS cs lo sz m) with | true, true, some xs => Ob (lo + m ≤ n) ∧ K xs | _, _, _ => False) | _ => False
  | _ => False
def lenK (d : Ty) (L : LL) (x : SV) (K : SV → Prop) : Prop :=
  match d, x with
  | .slice _, .v (.slice _ n _) => K (.v (.int .i64 n))
  | .str, .v (.string s) => K (.v (.int .i64 s.size))
  | .slice _, .own k => match getL L k with | some (.arr _ _ n _) => K (.v (.int .i64 n)) | some (.row _ _ n _) => K (.v (.int .i64 n)) | _ => False
  | .slice _, .vw _ _ _ n _ => K (.v (.int .i64 n))
  | .slice _, .ls _ n => K (.v (.int .i64 n))
  | _, _ => False
def minK (mx : Bool) (x y : SV) (K : SV → Prop) : Prop :=
  match x, y with
  | .v (.int k a), .v (.int k' b) => match Nat.beq (kc k) (kc k') with
    | true => (match mx with | true => K (.v (.int k (if b > a then b else a))) | false => K (.v (.int k (if b < a then b else a))))
    | false => False
  | _, _ => False
def partsK (T : Tab) (fs : List (Nat × Nat)) (fr : Fr) (ps : List (Nat × Operand)) (cs : List SV) (K : List SV → Prop) : Prop :=
  match ps with
  | [] => K cs
  | (i, x) :: r =>
    match nth fs i with
    | some (off, t) => fSV (opv fr x) fun y =>
      match y with
      | .agg l => (match Nat.beq l.length (ty T t).sz with | true => (match Nat.ble (off + l.length) cs.length with | true => fSVL (takeN cs off ++ l ++ dropN cs (off + l.length)) fun c => partsK T fs fr r c K | false => False) | false => False)
      | .tup _ => False
      | .bad => False
      | .v (.agg _) => False
      | .v (.tuple _) => False
      | y => (match Nat.beq (ty T t).sz 1 with | true => (match Nat.blt off cs.length with | true => fSVL (setN cs off y) fun c => partsK T fs fr r c K | false => False) | false => False)
    | none => False
def valL : List Value → List SV
  | [] => []
  | (.bool b) :: r => .bb b :: valL r
  | x :: r => .v x :: valL r
def pickK (c a b : SV) (K : SV → Prop) : Prop :=
  match c with
  | .bb true => fSV a K
  | .bb false => fSV b K
  | .b p _ => (p → fSV a K) ∧ (¬ p → fSV b K)
  | _ => False
def elK (s i : Nat) (K : Nat → Prop) : Prop :=
  match s with
  | 1 => K i
  | 2 => K (i * 2)
  | 3 => K (i * 3)
  | 4 => K (i * 4)
  | 5 => K (i * 5)
  | 6 => K (i * 6)
  | 7 => K (i * 7)
  | 8 => K (i * 8)
  | 9 => K (i * 9)
  | 10 => K (i * 10)
  | 11 => K (i * 11)
  | 12 => K (i * 12)
  | s => K (i * s)
theorem elK_eq (s i : Nat) (K : Nat → Prop) : elK s i K = K (i * s) := by unfold elK; split <;> simp
def arrK (sz k o : Nat) (i : Int) (K : SV → Prop) (n : Nat) : Nat → Prop := Nat.rec (motive := fun _ => Nat → Prop) (fun _ => True)
  (fun _ ih j => (i = (j : Int) → match o + j * sz with | 0 => K (.lp k 0) | m + 1 => K (.lp k (m + 1))) ∧ ih (j + 1)) n
def idxK (T : Tab) (L : LL) (t : Nat) (x i : SV) (K : SV → Prop) : Prop :=
  match (ty T t).d, x, i with
  | .slice e, .v (.slice A n _), .v (.int _ i) => Ob (0 ≤ i ∧ i < n ∧ A ≠ none) ∧ elK (ty T e).sz i.toNat fun j => K (.el A j)
  | .slice e, .own k, .v (.int _ i) => match getL L k with | some (.arr _ _ n _) => Ob (0 ≤ i ∧ i < n) ∧ elK (ty T e).sz i.toNat fun j => K (.lp k j) | some (.row _ _ n _) => Ob (0 ≤ i ∧ i < n) ∧ elK (ty T e).sz i.toNat fun j => K (.lp k j) | _ => False
  | .slice e, .vw k lo sz m _, .v (.int _ i) => match getL L k with
    | some (.arr _ _ n _) => (match Nat.beq sz (ty T e).sz with | true => Ob (0 ≤ i ∧ i < m ∧ lo + m ≤ n) ∧ elK (ty T e).sz (lo + i.toNat) fun j => K (.lp k j) | false => False)
    | some (.row _ _ n _) => (match Nat.beq sz (ty T e).sz with | true => Ob (0 ≤ i ∧ i < m ∧ lo + m ≤ n) ∧ elK (ty T e).sz (lo + i.toNat) fun j => K (.lp k j) | false => False)
    | _ => False
  | .slice e, .ls k n, .v (.int _ i) => Ob (0 ≤ i ∧ i < (n : Int)) ∧ arrK (ty T e).sz k 0 i K n 0
  | .arr n e, .lp k o, .v (.int _ i) => Ob (0 ≤ i ∧ i < (n : Int)) ∧ arrK (ty T e).sz k o i K n 0
  | _, _, _ => False
def strIdxK (T : Tab) (t : Nat) (x i : SV) (K : SV → Prop) : Prop :=
  match (ty T t).d, x, i with
  | .str, .v (.string s), .v (.int _ i) => Ob (0 ≤ i ∧ i < s.size) ∧ K (.v (.int .u8 ((s.data.toList[i.toNat]?.getD 0).toNat : Int)))
  | _, _, _ => False
def bndK (x : Option SV) (d : Int) (K : Int → Prop) : Prop :=
  match x with
  | none => K d
  | some (.v (.int _ i)) => K i
  | _ => False
def slcK (T : Tab) (L : LL) (t : Nat) (x : SV) (lo hi : Option SV) (K : SV → Prop) : Prop :=
  match (ty T t).d, x with
  | .str, .v (.string s) => bndK lo 0 fun l => bndK hi s.size fun h => Ob (0 ≤ l ∧ l ≤ h ∧ h ≤ s.size) ∧ K (.v (.string (s.extract l.toNat h.toNat)))
  | .slice e, .v (.slice A n c) => bndK lo 0 fun l => bndK hi n fun h => Ob (0 ≤ l ∧ l ≤ h ∧ h ≤ c) ∧ elK (ty T e).sz l.toNat fun j => ∀ m, m = h.toNat - l.toNat → K (.v (.slice (if c = l.toNat then A else A.map (·.add j)) m (c - l.toNat)))
  | .slice e, .own k => (match getL L k with
    | some (.arr _ sz n _) => (match Nat.beq sz (ty T e).sz with | true => bndK lo 0 fun l => bndK hi n fun h => Ob (0 ≤ l ∧ l ≤ h ∧ h ≤ n) ∧ ∀ m, m = h.toNat - l.toNat → K (.vw k l.toNat sz m true) | false => False)
    | some (.row _ sz n _) => (match Nat.beq sz (ty T e).sz with | true => bndK lo 0 fun l => bndK hi n fun h => Ob (0 ≤ l ∧ l ≤ h ∧ h ≤ n) ∧ ∀ m, m = h.toNat - l.toNat → K (.vw k l.toNat sz m true) | false => False)
    | _ => False)
  | .slice e, .vw k lo0 sz n _ => (match Nat.beq sz (ty T e).sz with | true => bndK lo 0 fun l => bndK hi n fun h => Ob (0 ≤ l ∧ l ≤ h ∧ h ≤ n) ∧ ∀ m, m = h.toNat - l.toNat → K (.vw k (lo0 + l.toNat) sz m false) | false => False)
  | _, _ => False
def optv (fr : Fr) : Option Operand → Option SV
  | none => none
  | some x => some (opv fr x)
inductive Dat where
  | v (x : Value)
  | sl (n : Nat) (xs : List Value)
inductive AK where
  | v
  | sl (sz : Nat)
structure Spec where
  f : FuncId
  ks : List AK
  dom : List Dat → Prop
  val : List Dat → SV
mutual
def toV : SV → Option Value
  | .v x => some x
  | .bb b => some (.bool b)
  | .b p d => some (.bool (@decide p d))
  | .agg cs => match toVL cs with | some l => some (.agg l.toArray) | none => none
  | _ => none
def toVL : List SV → Option (List Value)
  | [] => some []
  | x :: r => match toV x with
    | some y => match toVL r with | some s => some (y :: s) | none => none
    | none => none
end
def datK (q : PH) (L : LL) (ks : List AK) (xs : List SV) (K : List Dat → Prop) : Prop :=
  match ks, xs with
  | [], [] => K []
  | .v :: ks, x :: xs => (match toV x with
    | some y => datK q L ks xs fun l => K (.v y :: l)
    | none => False)
  | .sl sz :: ks, x :: xs => (match x with
    | .v (.slice A n c) => Ob (n ≤ c) ∧ Ob (∃ ys, ys.length = n * sz ∧ Reads q A ys) ∧ ∀ ys, ys.length = n * sz → Reads q A ys → datK q L ks xs fun l => K (.sl n ys :: l)
    | .own k => (match getL L k with | some (.arr _ sz' n ys) => (match Nat.beq sz' sz with | true => datK q L ks xs fun l => K (.sl n ys :: l) | false => False) | _ => False)
    | _ => False)
  | _, _ => False
def findS (Γ : List Spec) (f : FuncId) : Option Spec :=
  match Γ with
  | [] => none
  | s :: r => match Nat.beq s.f f with | true => some s | false => findS r f
def convK (T : Tab) (q : PH) (L : LL) (src dst : Nat) (x : SV) (K : SV → Prop) : Prop :=
  match (ty T src).d, (ty T dst).d, x with
  | .int _, .int k', .v (.int k n) => (match widens k k' with | true => Ob (inR k' n) ∧ K (.v (.int k' n)) | false => K (.v (.int k' (k'.wrap n))))
  | .str, .str, .v (.string s) => K (.v (.string s))
  | .int _, .flt k', .v (.int _ n) => K (.v (.float k' (k'.nearest n)))
  | .slice e, .str, x => (match (ty T e).d with
    | .int .u8 => sliceK q L 1 x fun xs => Ob (∃ bs : List UInt8, xs = bs.map bv) ∧ ∀ bs : List UInt8, xs = bs.map bv → K (.v (.string ⟨bs.toArray⟩))
    | _ => False)
  | _, _, _ => False
def extrK (x : SV) (i : Nat) (K : SV → Prop) : Prop :=
  match x with
  | .tup cs => (match nth cs i with | some y => fSV y K | none => False)
  | _ => False
def fieldK (T : Tab) (t f : Nat) (x : SV) (K : SV → Prop) : Prop :=
  match fieldOf T t f, x with
  | some (off, ft), .agg cs => (match ty T ft with
    | ⟨.other, _, _, _, _, _⟩ => False
    | ⟨d, sz, _, _, _, _⟩ => (match Nat.ble (off + sz) cs.length with | true => fSV (ofCells d (takeN (dropN cs off) sz)) K | false => False))
  | _, _ => False
def faddrK (T : Tab) (t f : Nat) (x : SV) (K : SV → Prop) : Prop :=
  match fieldOf T t f, x with
  | some (off, _), .lp k o => K (.lp k (o + off))
  | some (off, _), .el A j => K (.el A (j + off))
  | some (off, _), .v (.pointer (some a)) => K (.el (some a) off)
  | _, _ => False
def nilcK (x : SV) (K : SV → Prop) : Prop :=
  match x with
  | .lp k o => K (.lp k o)
  | .fn f cs => K (.fn f cs)
  | .yl k => K (.yl k)
  | .v (.pointer A) => Ob (∃ a, A = some a) ∧ ∀ a, A = some a → K (.v (.pointer (some a)))
  | _ => False
def buildK (T : Tab) (t : Nat) (fr : Fr) (ps : List (Nat × Operand)) (K : SV → Prop) : Prop :=
  match (ty T t).d with
  | .struct fs => partsK T fs fr ps (valL (ty T t).zero) fun cs => K (.agg cs)
  | _ => False
def mkfK (fn : Fn) (first cs : List SV) (K : SV → Prop) : Prop :=
  match fn, first with
  | .func f, [] => fSVL cs fun l => K (.fn f l)
  | _, _ => False
def builtK (T : Tab) (b : Builtin) (xs : List SV) (ts : List Nat) (L : LL) (K : SV → Prop) : Prop :=
  match b, xs, ts with
  | .len, [x], [t] => lenK (ty T t).d L x K
  | .min, [x, y], _ => minK false x y K
  | .max, [x, y], _ => minK true x y K
  | _, _, _ => False
mutual
def closed : SV → Bool
  | .v _ => true
  | .bb _ => true
  | .b _ _ => true
  | .agg cs => closedL cs
  | .tup cs => closedL cs
  | .fn _ cs => closedL cs
  | _ => false
def closedL : List SV → Bool
  | [] => true
  | x :: r => match closed x with | true => closedL r | false => false
end
inductive PC where
  | w (v : Value)
  | row (sz n : Nat) (xs : List Value)
inductive CA where
  | w (x : SV)
  | sl (sz n : Nat) (xs : List Value)
  | pt (cs : List PC)
structure CS where
  f : FuncId
  calm : Bool := false
  ι : Type
  keys : Nat := 0
  more : Nat := 0
  ok : ι → Prop
  rds : ι → List (Option Addr × List Value)
  args : ι → List CA
  L : ι → LL := fun _ => []
  res : ι → SV
  L' : ι → LL := fun _ => []
  rn : List (Nat × Nat × Nat × Nat) := []
  gr : Bool := false
  γ : Type := Unit
  resG : ι → γ → SV := fun i _ => res i
  LG : ι → γ → LL := fun i _ => L' i
  okG : ι → γ → Prop := fun _ _ => True
  rdsG : ι → γ → List (Option Addr × List Value) := fun _ _ => []
  fzr : List (Nat × Nat) := []
def RdsOk (q : PH) (l : List (Option Addr × List Value)) : Prop :=
  match l with
  | [] => True
  | (A, xs) :: r => Reads q A xs ∧ RdsOk q r
def findC (Δ : List CS) (f : FuncId) : Option CS :=
  match Δ with
  | [] => none
  | s :: r => match Nat.beq s.f f with | true => some s | false => findC r f
abbrev As := List (Nat × Nat)
def asGet (as : As) (k : Nat) : Option Nat :=
  match as with
  | [] => none
  | (u, x) :: r => match Nat.beq u k with | true => some x | false => asGet r k
def asHas (as : As) (k : Nat) : Bool :=
  match as with
  | [] => false
  | (_, x) :: r => match Nat.beq x k with | true => true | false => asHas r k
def asK (b : Nat) (as : As) (k j : Nat) (K : As → Prop) : Prop :=
  match Nat.ble b k with
  | true => (match asGet as k with
    | some i => (match Nat.beq i j with | true => K as | false => False)
    | none => (match asHas as j with | true => False | false => K ((k, j) :: as)))
  | false => (match Nat.beq k j with
    | true => (match asGet as k with
      | some _ => K as
      | none => (match asHas as j with | true => False | false => K as))
    | false => False)
mutual
def mSV (b : Nat) (tm ac : SV) (as : As) (K : As → Prop) : Prop :=
  match tm, ac with
  | .bad, _ => K as
  | .v x, .v y => Ob (x = y) ∧ K as
  | .v (.bool x), .bb y => Ob (x = y) ∧ K as
  | .v (.bool x), .b p _ => Ob (x = true ↔ p) ∧ K as
  | .bb x, .bb y => Ob (x = y) ∧ K as
  | .bb x, .b p _ => Ob (x = true ↔ p) ∧ K as
  | .b p _, .b p' _ => Ob (p ↔ p') ∧ K as
  | .b p _, .bb y => Ob (p ↔ y = true) ∧ K as
  | .b p _, .v (.bool y) => Ob (p ↔ y = true) ∧ K as
  | .lp k o, .lp j o' => Ob (o = o') ∧ asK b as k j K
  | .own k, .own j => asK b as k j K
  | .yl k, .yl j => asK b as k j K
  | .vw k lo sz n ex, .vw j lo' sz' n' ex' => Ob (lo = lo' ∧ sz = sz' ∧ n = n' ∧ ex = ex') ∧ asK b as k j K
  | .lq _, .v (.pointer none) => K as
  | .lq k, .lp j 0 => asK b as k j K
  | .lq k, .lq j => asK b as k j K
  | .ls k n, .ls j n' => Ob (n = n') ∧ asK b as k j K
  | .mr k, .mr j => asK b as k j K
  | .el A i, .el A' i' => Ob (A = A' ∧ i = i') ∧ K as
  | .agg l, .agg l' => mL b l l' as K
  | .tup l, .tup l' => mL b l l' as K
  | .fn f l, .fn f' l' => (match Nat.beq f f' with | true => mL b l l' as K | false => False)
  | .v (.agg x), .agg l' => mVL x.toList l' (K as)
  | .v (.tuple x), .tup l' => mVL x.toList l' (K as)
  | _, _ => False
def mL (b : Nat) (tm ac : List SV) (as : As) (K : As → Prop) : Prop :=
  match tm, ac with
  | [], [] => K as
  | x :: r, y :: s => mSV b x y as fun as => mL b r s as K
  | _, _ => False
def mVL (tm : List Value) (ac : List SV) (K : Prop) : Prop :=
  match tm, ac with
  | [], [] => K
  | x :: r, y :: s => mSV 0 (.v x) y [] fun _ => mVL r s K
  | _, _ => False
end
def pcArgs (q : PH) (cs : List PC) : List Value → Prop :=
  List.rec (motive := fun _ => List Value → Prop) (fun us => match us with | [] => True | _ :: _ => False)
    (fun c _ ih us => match us with
      | [] => False
      | u :: s => (match c with
        | .w v => u = v ∧ ih s
        | .row sz n xs => (∃ A c, u = .slice A n c ∧ n ≤ c ∧ xs.length = n * sz ∧ Reads q A xs) ∧ ih s)) cs
def pcG (m : SV → SV → Prop → Prop) (q : PH) (L : LL) (cs : List PC) : List SV → List Nat → (List Nat → Prop) → Prop :=
  List.rec (motive := fun _ => List SV → List Nat → (List Nat → Prop) → Prop) (fun ac ro K => match ac with | [] => K ro | _ :: _ => False)
    (fun c _ ih ac ro K => match ac with
      | [] => False
      | y :: s => (match c with
        | .w v => m (.v v) y (ih s ro K)
        | .row sz n xs => (match y with
          | .v (.slice A m c) => Ob (m = n ∧ m ≤ c ∧ xs.length = m * sz ∧ Reads q A xs) ∧ ih s ro K
          | .own j => (match getL L j with
            | some (.arr _ sz' m ys) => (match Nat.beq sz' sz with | true => Ob (m = n ∧ ys = xs) ∧ ih s (j :: ro) K | false => False)
            | _ => False)
          | .vw j lo sz' m _ => (match getL L j with
            | some (.arr _ sz'' n0 ys) => (match Nat.beq sz' sz, Nat.beq sz'' sz with | true, true => Ob (m = n ∧ lo + m ≤ n0 ∧ vwC ys lo sz m = xs) ∧ ih s (j :: ro) K | _, _ => False)
            | _ => False)
          | _ => False))) cs
def mA (q : PH) (L : LL) (tm : List CA) (ac : List SV) (as : As) (ro : List Nat) (K : As → List Nat → Prop) : Prop :=
  match tm, ac with
  | [], [] => K as ro
  | .w x :: r, y :: s => mSV 0 x y as fun as => mA q L r s as ro K
  | .sl sz n xs :: r, y :: s => (match y with
    | .v (.slice A m c) => Ob (m = n ∧ m ≤ c ∧ xs.length = m * sz ∧ Reads q A xs) ∧ mA q L r s as ro K
    | .own k => (match getL L k with
      | some (.arr _ sz' m ys) => (match Nat.beq sz' sz with | true => Ob (m = n ∧ ys = xs) ∧ mA q L r s as (k :: ro) K | false => False)
      | _ => False)
    | .vw k lo sz' m _ => (match getL L k with
      | some (.arr _ sz'' n0 ys) => (match Nat.beq sz' sz, Nat.beq sz'' sz with | true, true => Ob (m = n ∧ lo + m ≤ n0 ∧ vwC ys lo sz m = xs) ∧ mA q L r s as (k :: ro) K | _, _ => False)
      | _ => False)
    | _ => False)
  | .pt cs :: r, y :: s => (match y with
    | .lp k 0 => (match getL L k with
      | some (.cells _ acs) => pcG (fun t y K => mSV 0 t y [] fun _ => K) q L cs acs (k :: ro) fun ro => mA q L r s as ro K
      | _ => False)
    | .v (.pointer (some a)) => Ob (a.spot = none ∧ ∃ us, us.length = cs.length ∧ Reads q (some a) us ∧ pcArgs q cs us) ∧ mA q L r s as ro K
    | _ => False)
  | _, _ => False
def callK (T : Tab) (Γ : List Spec) (Δ : List CS) (q : PH) (c : Call) (fr : Fr) (L : LL) (K : SV → Prop) : Prop :=
  match c with
  | ⟨.builtin b, xs, ts⟩ => builtK T b (opvs fr xs.toList) ts.toList L K
  | ⟨.value (.func f), xs, _⟩ => (match findS Γ f with
    | some s => datK q L s.ks (opvs fr xs.toList) fun ds => Ob (s.dom ds) ∧ fSV (s.val ds) fun r => match closed r with | true => K r | false => False
    | none => (match findC Δ f with
      | some s => (match s.calm with
        | true => ∃ i, Ob (s.ok i) ∧ Ob (RdsOk q (s.rds i)) ∧ mA q L (s.args i) (opvs fr xs.toList) [] [] fun as _ => fSV (s.res i) fun r => (match as, closed r with | [], true => K r | _, _ => False)
        | false => False)
      | none => False))
  | _ => False
def slc3K (T : Tab) (L : LL) (t : Nat) (x : SV) (lo hi : Option SV) (mx : SV) (K : SV → Prop) : Prop :=
  match (ty T t).d, x, hi with
  | .slice e, .own k, some hi => (match getL L k with
    | some (.arr _ sz n _) => (match Nat.beq sz (ty T e).sz with | true => bndK lo 0 fun l => bndK (some hi) 0 fun h => bndK (some mx) 0 fun x => Ob (0 ≤ l ∧ l ≤ h ∧ h ≤ x ∧ x ≤ n) ∧ ∀ m, m = h.toNat - l.toNat → K (.vw k l.toNat sz m false) | false => False)
    | some (.row _ sz n _) => (match Nat.beq sz (ty T e).sz with | true => bndK lo 0 fun l => bndK (some hi) 0 fun h => bndK (some mx) 0 fun x => Ob (0 ≤ l ∧ l ≤ h ∧ h ≤ x ∧ x ≤ n) ∧ ∀ m, m = h.toNat - l.toNat → K (.vw k l.toNat sz m false) | false => False)
    | _ => False)
  | _, _, _ => False
def sliceOpK (T : Tab) (L : LL) (t : Nat) (x : SV) (lo hi mx : Option SV) (K : SV → Prop) : Prop :=
  match mx with
  | none => slcK T L t x lo hi K
  | some mx => slc3K T L t x lo hi mx K
def calmK (T : Tab) (Γ : List Spec) (Δ : List CS) (wr : Bool) (q : PH) (op : Op) (fr : Fr) (L : LL) (K : SV → Prop) : Prop :=
  match op with
  | .move x => fSV (opv fr x) K
  | .assign x => fSV (opv fr x) K
  | .pick c a b => pickK (opv fr c) (opv fr a) (opv fr b) K
  | .binOp op t x y _ => binK (ty T t).cmp (ty T t).d op wr (opv fr x) (opv fr y) K
  | .unOp op _ x => unK op wr (opv fr x) K
  | .convert src dst x => convK T q L src dst (opv fr x) K
  | .extract x i => extrK (opv fr x) i K
  | .field t x f => fieldK T t f (opv fr x) K
  | .fieldAddr t x f => faddrK T t f (opv fr x) K
  | .nilCheck x => nilcK (opv fr x) K
  | .indexAddr t x i => idxK T L t (opv fr x) (opv fr i) K
  | .index t x i => strIdxK T t (opv fr x) (opv fr i) K
  | .load t x => loadK T q L t (opv fr x) K
  | .slice t x lo hi mx => sliceOpK T L t (opv fr x) (optv fr lo) (optv fr hi) (optv fr mx) K
  | .build t ps => buildK T t fr ps.toList K
  | .makeFunc fn first cs => mkfK fn (opvs fr first.toList) (opvs fr cs.toList) K
  | .call c => callK T Γ Δ q c fr L K
  | _ => False
end
end Go.Eng
