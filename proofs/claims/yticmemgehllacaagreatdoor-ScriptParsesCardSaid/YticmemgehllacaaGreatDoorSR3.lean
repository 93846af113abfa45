/- Texts that the law leans on. -/
import Derived.Test.YticmemgehllacaaGreatDoorSR2
import Derived.KernelRfl
import Derived.Test.YticmemgehllacaaGreatDoorProg
import Derived.WalkKit
import Derived.ProofKit
import Derived.OpenShut
import Derived.ShutString
import Derived.ChangeOld
import Derived.Below
import Derived.Deep.Slices
import Derived.Deep.Fields
set_option linter.unusedVariables false
set_option linter.unusedSimpArgs false
section
namespace Go.Eng.R
open Go Go.Eng
noncomputable section
def setN{α:Type}(l:List α):Nat→α→List α:=List.rec (motive:=λ_=>Nat→α→List α) (λ_ _=>[]) (λx r ih n y=>match n with|0=>y::r|n+1=>x::ih n y) l
def takeN{α:Type}(l:List α):Nat→List α:=List.rec (motive:=λ_=>Nat→List α) (λ_=>[]) (λx _ ih n=>match n with|0=>[]|n+1=>x::ih n) l
def dropN{α:Type}(l:List α):Nat→List α:=List.rec (motive:=λ_=>Nat→List α) (λ_=>[]) (λx r ih n=>match n with|0=>x::r|n+1=>ih n) l
def svHas(k:Nat)(x:SV):Bool:=
 SV.rec (motive_1:=λ_=>Bool) (motive_2:=λ_=>Bool)
  (λ_=>false) (λ_=>false) (λ_ _=>false) (λj _=>Nat.beq j k) (λj=>Nat.beq j k) (λ_ _=>false)
  (λ_ ih=>ih) (λ_ ih=>ih) (λ_ _ ih=>ih) (λj=>Nat.beq j k) (λj _ _ _ _=>Nat.beq j k) (λj=>Nat.beq j k) (λj _=>Nat.beq j k) (λj=>Nat.beq j k) false
  false (λ_ _ hx hr=>match hx with|true=>true|false=>hr) x
def hasL(k:Nat)(l:List SV):Bool:=List.rec (motive:=λ_=>Bool) false (λx _ ih=>match svHas k x with|true=>true|false=>ih) l
def hasF(k:Nat)(l:Fr):Bool:=List.rec (motive:=λ_=>Bool) false (λp _ ih=>match p with|(_,x)=>match svHas k x with|true=>true|false=>ih) l
def lbHas(k:Nat):LB→Bool
 |.cells _ cs=>hasL k cs
 |.row _ _ _ cs=>hasL k cs
 |_=>false
def hasLL(k:Nat)(l:LL):Bool:=List.rec (motive:=λ_=>Bool) false (λp _ ih=>match p with|(u,x)=>match Nat.beq u k with|true=>true|false=>match lbHas k x with|true=>true|false=>ih) l
def opvs(fr:Fr)(l:List Operand):List SV:=List.rec (motive:=λ_=>List SV) [] (λx _ ih=>opv fr x::ih) l
def ldK(g:Nat→Option Value)(j:Nat)(ts:List Ty):(List SV→Prop)→Prop:=
 List.rec (motive:=λ_=>Nat→(List SV→Prop)→Prop) (λ_ K=>K [])
  (fun t _ ih j K=>match t with
   |.int k=>Ob (∃x,g j=some (.int k x))∧∀x,g j=some (.int k x)→ih (j+1) λl=>K (.v (.int k x)::l)
   |.bool=>Ob (∃b,g j=some (.bool b))∧∀b,g j=some (.bool b)→ih (j+1) λl=>K (.b (b=true) (instDecidableEqBool b true)::l)
   |.flt k=>Ob (∃x,g j=some (.float k x))∧∀x,g j=some (.float k x)→ih (j+1) λl=>K (.v (.float k x)::l)
   |.str=>Ob (∃s,g j=some (.string s))∧∀s,g j=some (.string s)→ih (j+1) λl=>K (.v (.string s)::l)
   |.ptr _=>Ob (∃A,g j=some (.pointer A))∧∀A,g j=some (.pointer A)→ih (j+1) λl=>K (.v (.pointer A)::l)
   |.slice _=>Ob (∃A n c,g j=some (.slice A n c))∧∀A n c,g j=some (.slice A n c)→ih (j+1) λl=>K (.v (.slice A n c)::l)
   | _=>False) ts j
def loadK1(d:Ty)(sz:Nat)(flat:List Ty)(q:PH)(L:LL)(x:SV)(K:SV→Prop):Prop:=
 match x with
 |.lp k o=>
  match getL L k with
  |some (.cells _ cs)=>match Nat.ble (o+sz) cs.length with|true=>fSV (zF d (takeN (dropN cs o) sz)) K|false=>False
  |some (.arr _ _ _ xs)=>ldK (λj=>xs[j]?) o flat λl=>fSV (zF d l) K
  |some (.row _ _ _ cs)=>match Nat.ble (o+sz) cs.length with|true=>fSV (zF d (takeN (dropN cs o) sz)) K|false=>False
  |_=>False
 |.el A j=>ldK (rd q A) j flat λl=>fSV (zF d l) K
 |.v (.pointer (some a))=>ldK (rd q (some a)) 0 flat λl=>fSV (zF d l) K
 |_=>False
def loadK(T:Tab)(q:PH)(L:LL)(t:Nat)(x:SV)(K:SV→Prop):Prop:=
 match ty T t with
 |⟨.other,_,_,_,_,_⟩=>False
 |⟨d,sz,_,_,flat,_⟩=>loadK1 d sz flat q L x K
def partsK(T:Tab)(fs:List (Nat×Nat))(fr:Fr)(ps:List (Nat×Operand)):List SV→(List SV→Prop)→Prop:=
 List.rec (motive:=λ_=>List SV→(List SV→Prop)→Prop) (λcs K=>K cs)
  (fun p _ ih cs K=>
   match p with
   |(i,x)=>
   match nth fs i with
   |some (off,t)=>fSV (opv fr x) λy=>
    match y with
    |.agg l=>(match Nat.beq l.length (ty T t).sz with|true=>(match Nat.ble (off+l.length) cs.length with|true=>fSVL (takeN cs off++l++dropN cs (off+l.length)) λc=>ih c K|false=>False)|false=>False)
    |.tup _=>False
    |.bad=>False
    |.v (.agg _)=>False
    |.v (.tuple _)=>False
    |y=>(match Nat.beq (ty T t).sz 1 with|true=>(match Nat.blt off cs.length with|true=>fSVL (setN cs off y) λc=>ih c K|false=>False)|false=>False)
   | none=>False) ps
def valL(l:List Value):List SV:=List.rec (motive:=λ_=>List SV) [] (λx _ ih=>match x with|.bool b=>.bb b::ih|x=>.v x::ih) l
def optAgg(h:Option (List Value)):Option Value:=match h with|some l=>some (.agg l.toArray)|none=>none
def optCons(hx:Option Value)(hr:Option (List Value)):Option (List Value):=match hx with|some y=>(match hr with|some s=>some (y::s)|none=>none)|none=>none
def toV(x:SV):Option Value:=
 SV.rec (motive_1:=λ_=>Option Value) (motive_2:=λ_=>Option (List Value))
  (λx=>some x) (λb=>some (.bool b)) (λp d=>some (.bool (@decide p d))) (λ_ _=>none) (λ_=>none) (λ_ _=>none)
  (λ_ ih=>optAgg ih) (λ_ _=>none) (λ_ _ _=>none) (λ_=>none) (λ_ _ _ _ _=>none) (λ_=>none) (λ_ _=>none) (λ_=>none) none
  (some []) (λ_ _ hx hr=>optCons hx hr) x
def toVL(l:List SV):Option (List Value):=List.rec (motive:=λ_=>Option (List Value)) (some []) (λx _ ih=>optCons (toV x) ih) l
def datK(q:PH)(L:LL)(ks:List AK):List SV→(List Dat→Prop)→Prop:=
 List.rec (motive:=λ_=>List SV→(List Dat→Prop)→Prop)
  (λxs K=>match xs with|[]=>K []|_::_=>False)
  (fun k _ ih xs K=>match xs with
   |[]=>False
   |x::xs=>match k with
    | .v=>(match toV x with
     |some y=>ih xs λl=>K (.v y::l)
     | none=>False)
    | .sl sz=>(match x with
     |.v (.slice A n c)=>Ob (n≤c)∧Ob (∃ys,ys.length=n*sz∧Reads q A ys)∧∀ys,ys.length=n*sz→Reads q A ys→ih xs λl=>K (.sl n ys::l)
     |.own k=>(match getL L k with|some (.arr _ sz' n ys)=>(match Nat.beq sz' sz with|true=>ih xs λl=>K (.sl n ys::l)|false=>False)|_=>False)
     | _=>False)) ks
def findS(Γ:List Spec)(f:FuncId):Option Spec:=List.rec (motive:=λ_=>Option Spec) none (λs _ ih=>match Nat.beq s.f f with|true=>some s|false=>ih) Γ
def closed(x:SV):Bool:=
 SV.rec (motive_1:=λ_=>Bool) (motive_2:=λ_=>Bool)
  (λ_=>true) (λ_=>true) (λ_ _=>true) (λ_ _=>false) (λ_=>false) (λ_ _=>false)
  (λ_ ih=>ih) (λ_ ih=>ih) (λ_ _ ih=>ih) (λ_=>false) (λ_ _ _ _ _=>false) (λ_=>false) (λ_ _=>false) (λ_=>false) false
  true (λ_ _ hx hr=>match hx with|true=>hr|false=>false) x
def RdsOk(q:PH)(l:List (Option Addr×List Value)):Prop:=List.rec (motive:=λ_=>Prop) True (λp _ ih=>match p with|(A,xs)=>Reads q A xs∧ih) l
def findC(Δ:List CS)(f:FuncId):Option CS:=List.rec (motive:=λ_=>Option CS) none (λs _ ih=>match Nat.beq s.f f with|true=>some s|false=>ih) Δ
def asGet(ags:As)(k:Nat):Option Nat:=List.rec (motive:=λ_=>Option Nat) none (λp _ ih=>match p with|(u,x)=>match Nat.beq u k with|true=>some x|false=>ih) ags
def asHas(ags:As)(k:Nat):Bool:=List.rec (motive:=λ_=>Bool) false (λp _ ih=>match p with|(_,x)=>match Nat.beq x k with|true=>true|false=>ih) ags
def asK(b:Nat)(ags:As)(k j:Nat)(K:As→Prop):Prop:=
 match Nat.ble b k with
 | true=>(match asGet ags k with
  |some i=>(match Nat.beq i j with|true=>K ags|false=>False)
  | none=>(match asHas ags j with | true=>False | false=>K ((k,j)::ags)))
 | false=>(match Nat.beq k j with
  | true=>(match asGet ags k with
   |some _=>K ags
   | none=>(match asHas ags j with | true=>False | false=>K ags))
  | false=>False)
def mSV(b:Nat)(tm ac:SV):As→(As→Prop)→Prop:=
 SV.rec (motive_1:=λ_=>Nat→SV→As→(As→Prop)→Prop) (motive_2:=λ_=>(Nat→List SV→As→(As→Prop)→Prop)×(List Value→Prop→Prop))
  (fun y _ tm ags K=>match tm with
   |.bad=>K ags
   |.v x=>Ob (x=y)∧K ags
   |.b p _=>(match y with|.bool y=>Ob (p↔y=true)∧K ags|_=>False)
   |.lq _=>(match y with|.pointer none=>K ags|_=>False)
   | _=>False)
  (fun y _ tm ags K=>match tm with
   |.bad=>K ags
   |.v (.bool x)=>Ob (x=y)∧K ags
   |.bb x=>Ob (x=y)∧K ags
   |.b p _=>Ob (p↔y=true)∧K ags
   | _=>False)
  (fun p _ _ tm ags K=>match tm with
   |.bad=>K ags
   |.v (.bool x)=>Ob (x=true↔p)∧K ags
   |.bb x=>Ob (x=true↔p)∧K ags
   |.b p' _=>Ob (p'↔p)∧K ags
   | _=>False)
  (fun j o' b tm ags K=>match tm with
   |.bad=>K ags
   |.lp k o=>Ob (o=o')∧asK b ags k j K
   |.lq k=>(match o' with|0=>asK b ags k j K|_+1=>False)
   | _=>False)
  (fun j b tm ags K=>match tm with
   |.bad=>K ags
   |.own k=>asK b ags k j K
   | _=>False)
  (fun A' i' _ tm ags K=>match tm with
   |.bad=>K ags
   |.el A i=>Ob (A=A'∧i=i')∧K ags
   | _=>False)
  (fun _ ih b tm ags K=>match tm with
   |.bad=>K ags
   |.agg l=>ih.1 b l ags K
   |.v (.agg x)=>ih.2 x.toList (K ags)
   | _=>False)
  (fun _ ih b tm ags K=>match tm with
   |.bad=>K ags
   |.tup l=>ih.1 b l ags K
   |.v (.tuple x)=>ih.2 x.toList (K ags)
   | _=>False)
  (fun f' _ ih b tm ags K=>match tm with
   |.bad=>K ags
   |.fn f l=>(match Nat.beq f f' with|true=>ih.1 b l ags K|false=>False)
   | _=>False)
  (fun j b tm ags K=>match tm with
   |.bad=>K ags
   |.yl k=>asK b ags k j K
   | _=>False)
  (fun j lo' sz' n' ex' b tm ags K=>match tm with
   |.bad=>K ags
   |.vw k lo sz n ex=>Ob (lo=lo'∧sz=sz'∧n=n'∧ex=ex')∧asK b ags k j K
   | _=>False)
  (fun j b tm ags K=>match tm with
   |.bad=>K ags
   |.lq k=>asK b ags k j K
   | _=>False)
  (fun j n' b tm ags K=>match tm with
   |.bad=>K ags
   |.ls k n=>Ob (n=n')∧asK b ags k j K
   | _=>False)
  (fun j b tm ags K=>match tm with
   |.bad=>K ags
   |.mr k=>asK b ags k j K
   | _=>False)
  (fun _ tm ags K=>match tm with
   |.bad=>K ags
   | _=>False)
  (λ_ tm ags K=>match tm with|[]=>K ags|_::_=>False,λtm K=>match tm with|[]=>K|_::_=>False)
  (λ_ _ hx hr=>(λb tm ags K=>match tm with|x::r=>hx b x ags λags=>hr.1 b r ags K|[]=>False,λtm K=>match tm with|x::r=>hx 0 (.v x) [] λ_=>hr.2 r K|[]=>False))
  ac b tm
def mL(b:Nat)(tm ac:List SV):As→(As→Prop)→Prop:=
 List.rec (motive:=λ_=>List SV→As→(As→Prop)→Prop)
  (λtm ags K=>match tm with|[]=>K ags|_::_=>False)
  (λy _ ih tm ags K=>match tm with|x::r=>mSV b x y ags λags=>ih r ags K|[]=>False) ac tm
def mA(q:PH)(L:LL)(tm:List CA)(ac:List SV):As→List Nat→(As→List Nat→Prop)→Prop:=
 List.rec (motive:=λ_=>List SV→As→List Nat→(As→List Nat→Prop)→Prop)
  (λac ags ro K=>match ac with|[]=>K ags ro|_::_=>False)
  (fun t _ ih ac ags ro K=>match ac with
   |[]=>False
   |y::s=>match t with
    |.w x=>mSV 0 x y ags λags=>ih s ags ro K
    | .sl sz n xs=>(match y with
     |.v (.slice A m c)=>Ob (m=n∧m≤c∧xs.length=m*sz∧Reads q A xs)∧ih s ags ro K
     | .own k=>(match getL L k with
      |some (.arr _ sz' m ys)=>(match Nat.beq sz' sz with|true=>Ob (m=n∧ys=xs)∧ih s ags (k::ro) K|false=>False)
      | _=>False)
     | .vw k lo sz' m _=>(match getL L k with
      |some (.arr _ sz'' n0 ys)=>(match Nat.beq sz' sz,Nat.beq sz'' sz with|true,true=>Ob (m=n∧lo+m≤n0∧vwC ys lo sz m=xs)∧ih s ags (k::ro) K|_,_=>False)
      | _=>False)
     | _=>False)
    | .pt cs=>(match y with
     | .lp k 0=>(match getL L k with
      |some (.cells _ acs)=>pcG (λt y K=>mSV 0 t y [] λ_=>K) q L cs acs (k::ro) λro=>ih s ags ro K
      | _=>False)
     |.v (.pointer (some a))=>Ob (a.spot=none∧∃us,us.length=cs.length∧Reads q (some a) us∧pcArgs q cs us)∧ih s ags ro K
     | _=>False)) tm ac
def convK(T:Tab)(q:PH)(L:LL)(src dst:Nat)(x:SV)(K:SV→Prop):Prop:=Eng.convK T q L src dst x K
def fieldK(T:Tab)(t f:Nat)(x:SV)(K:SV→Prop):Prop:=
 match xR T t f,x with
 | some (off,ft),.agg cs=>(match ty T ft with
  |⟨.other,_,_,_,_,_⟩=>False
  | ⟨d,sz,_,_,_,_⟩=>(match Nat.ble (off+sz) cs.length with | true=>fSV (zF d (takeN (dropN cs off) sz)) K | false=>False))
 |_,_=>False
def buildK(T:Tab)(t:Nat)(fr:Fr)(ps:List (Nat×Operand))(K:SV→Prop):Prop:=
 match (ty T t).d with
 |.struct fs=>partsK T fs fr ps (valL (ty T t).zero) λcs=>K (.agg cs)
 |_=>False
def callK(T:Tab)(Γ:List Spec)(Δ:List CS)(q:PH)(c:Call)(fr:Fr)(L:LL)(K:SV→Prop):Prop:=
 match c with
 |⟨.builtin b,xs,ts⟩=>builtK T b (opvs fr xs.toList) ts.toList L K
 | ⟨.value (.func f),xs,_⟩=>(match findS Γ f with
  |some s=>datK q L s.ks (opvs fr xs.toList) λds=>Ob (s.dom ds)∧fSV (s.val ds) λr=>match closed r with|true=>K r|false=>False
  | none=>(match findC Δ f with
   | some s=>(match s.calm with
    |true=>∃i,Ob (s.ok i)∧Ob (Eng.RdsOk q (s.rds i))∧mA q L (s.args i) (opvs fr xs.toList) [] [] λags _=>fSV (s.res i) λr=>(match ags,closed r with|[],true=>K r|_,_=>False)
    | false=>False)
   | none=>False))
 |_=>False
def calmK(T:Tab)(Γ:List Spec)(Δ:List CS)(wr:Bool)(q:PH)(op:Op)(fr:Fr)(L:LL)(K:SV→Prop):Prop:=
 match op with
 |.move x=>fSV (opv fr x) K
 |.assign x=>fSV (opv fr x) K
 |.pick c a b=>pickK (opv fr c) (opv fr a) (opv fr b) K
 |.binOp op t x y _=>binK (ty T t).cmp (ty T t).d op wr (opv fr x) (opv fr y) K
 |.unOp op _ x=>unK op wr (opv fr x) K
 |.convert src dst x=>Eng.convK T q L src dst (opv fr x) K
 |.extract x i=>extrK (opv fr x) i K
 |.field t x f=>fieldK T t f (opv fr x) K
 |.fieldAddr t x f=>faddrK T t f (opv fr x) K
 |.nilCheck x=>nilcK (opv fr x) K
 |.indexAddr t x i=>idxK T L t (opv fr x) (opv fr i) K
 |.index t x i=>strIdxK T t (opv fr x) (opv fr i) K
 |.load t x=>loadK T q L t (opv fr x) K
 |.slice t x lo hi mx=>sliceOpK T L t (opv fr x) (optv fr lo) (optv fr hi) (optv fr mx) K
 |.build t ps=>buildK T t fr ps.toList K
 |.makeFunc fn first cs=>mkfK fn (opvs fr first.toList) (opvs fr cs.toList) K
 |.call c=>callK T Γ Δ q c fr L K
 |_=>False
def mFr(b:Nat)(tm:Fr)(ac:Fr):As→(As→Prop)→Prop:=List.rec (motive:=λ_=>As→(As→Prop)→Prop) (λags K=>K ags) (λp _ ih ags K=>match p with|(u,x)=>mSV b x (get ac u) ags λags=>ih ags K) tm
def mLB(b:Nat)(tm ac:LB)(ags:As)(K:As→Prop):Prop:=
 match tm,ac with
 |.cells T l,.cells T' l'=>(match Nat.beq T T' with|true=>mL b l l' ags K|false=>False)
 |.arr E sz n xs,.arr E' sz' n' xs'=>(match Nat.beq E E' with|true=>(match Nat.beq sz sz' with|true=>Ob (n=n'∧xs=xs')∧K ags|false=>False)|false=>False)
 |.dfr,.dfr=>K ags
 |.loop .ready none,.loop .ready none=>K ags
 |.loop .busy none,.loop .busy none=>K ags
 |_,_=>False
def mLL(b:Nat)(tm:LL)(ac:LL):As→(As→Prop)→Prop:=List.rec (motive:=λ_=>As→(As→Prop)→Prop) (λags K=>K ags)
 (fun p _ ih ags K=>match p with | (u,x)=>(match asGet ags u with
  |some j=>(match getL ac j with|some y=>mLB b x y ags λags=>ih ags K|none=>False)
  | none=>(match Nat.blt u b,asHas ags u with
   |true,false=>(match getL ac u with|some y=>mLB b x y ((u,u)::ags) λags=>ih ags K|none=>False)
   | _,_=>False))) tm
def restL(ags:As)(L:LL):LL:=List.rec (motive:=λ_=>LL) [] (λp _ ih=>match p with|(u,x)=>match asHas ags u with|true=>ih|false=>(u,x)::ih) L
def sameL(b:Nat)(tm:LL)(ac:LL)(ags:As)(K:Prop):Prop:=List.rec (motive:=λ_=>Prop) K
 (fun p _ ih=>match p with | (u,x)=>(match asHas ags u with
  |true=>False
  | false=>(match getL ac u with | some y=>mLB b x y [] fun _=>ih | none=>False))) tm
def ltK(b:Nat)(x:SV):Bool:=
 SV.rec (motive_1:=λ_=>Bool) (motive_2:=λ_=>Bool)
  (λ_=>true) (λ_=>true) (λ_ _=>true) (λk _=>Nat.blt k b) (λk=>Nat.blt k b) (λ_ _=>true)
  (λ_ ih=>ih) (λ_ ih=>ih) (λ_ _ ih=>ih) (λk=>Nat.blt k b) (λk _ _ _ _=>Nat.blt k b) (λk=>Nat.blt k b) (λk _=>Nat.blt k b) (λk=>Nat.blt k b) true
  true (λ_ _ hx hr=>match hx with|true=>hr|false=>false) x
def ltKL(b:Nat)(l:List SV):Bool:=List.rec (motive:=λ_=>Bool) true (λx _ ih=>match ltK b x with|true=>ih|false=>false) l
def ltF(b:Nat)(l:Fr):Bool:=List.rec (motive:=λ_=>Bool) true (λp _ ih=>match p with|(_,x)=>match ltK b x with|true=>ih|false=>false) l
def ltLL(b:Nat)(l:LL):Bool:=List.rec (motive:=fun _=>Bool) true (fun p _ ih=>match p with | (u,x)=>match Nat.blt u b with
  |true=>(match x with|.cells _ l=>(match ltKL b l with|true=>ih|false=>false)|.row _ _ _ l=>(match ltKL b l with|true=>ih|false=>false)|_=>ih)
  | false=>false) l
def hidFree(ags:As)(L:LL):Bool:=List.rec (motive:=λ_=>Bool) true (λp _ ih=>match p with|(k,x)=>match x with|.dfr=>(match asHas ags k with|true=>false|false=>ih)|_=>ih) L
def rK(ags:As)(nk k:Nat)(K:Nat→Prop):Prop:=
 match asGet ags k with
 |some j=>K j
 |none=>fN (nk+k) K
def rSV(ags:As)(nk:Nat)(x:SV):(SV→Prop)→Prop:=
 SV.rec (motive_1:=λ_=>(SV→Prop)→Prop) (motive_2:=λ_=>(List SV→Prop)→Prop)
  (λx K=>fSV (.v x) K) (λx K=>fSV (.bb x) K) (λp d K=>fSV (.b p d) K) (λk o K=>rK ags nk k λj=>K (.lp j o)) (λk K=>rK ags nk k λj=>K (.own j)) (λA j K=>fSV (.el A j) K)
  (λ_ ih K=>ih λl=>K (.agg l)) (λ_ ih K=>ih λl=>K (.tup l)) (λf _ ih K=>ih λl=>K (.fn f l)) (λk K=>rK ags nk k λj=>K (.yl j)) (λk lo sz n ex K=>rK ags nk k λj=>K (.vw j lo sz n ex)) (λk K=>rK ags nk k λj=>K (.lq j)) (λk n K=>rK ags nk k λj=>K (.ls j n)) (λk K=>rK ags nk k λj=>K (.mr j)) (λK=>fSV .bad K)
  (λK=>K []) (λ_ _ hx hr K=>hx λy=>hr λs=>K (y::s)) x
def rSVL(ags:As)(nk:Nat)(l:List SV):(List SV→Prop)→Prop:=List.rec (motive:=λ_=>(List SV→Prop)→Prop) (λK=>K []) (λx _ ih K=>rSV ags nk x λy=>ih λs=>K (y::s)) l
def rLB(ags:As)(nk:Nat)(x:LB)(K:LB→Prop):Prop:=
 match x with
 |.cells T l=>rSVL ags nk l λl=>K (.cells T l)
 |.row E sz n l=>rSVL ags nk l λl=>K (.row E sz n l)
 |x=>fLB x K
def rLL(ags:As)(nk:Nat)(l:LL)(rest:LL):(LL→Prop)→Prop:=List.rec (motive:=λ_=>(LL→Prop)→Prop) (λK=>K rest)
 (λp _ ih K=>match p with|(k,x)=>rK ags nk k λj=>rLB ags nk x λy=>ih λs=>K ((j,y)::s)) l
def asLt(m nk:Nat)(l:As):Bool:=List.rec (motive:=λ_=>Bool) true (λp _ ih=>match p with|(k,j)=>match Nat.blt k m,Nat.blt j nk with|true,true=>ih|_,_=>false) l
def roFree(ags:As)(l:List Nat):Bool:=List.rec (motive:=λ_=>Bool) true (λk _ ih=>match asHas ags k with|true=>false|false=>ih) l
def callC(s:CS)(n0 nk:Nat)(q:PH)(fr:Fr)(L:LL)(args:List SV)(K:SV→Nat→PH→LL→Prop):Prop:=
 match Nat.ble n0 nk,ltF nk fr,ltLL nk L with
 |true,true,true=>∃i,Ob (s.ok i)∧Ob (Eng.RdsOk q (s.rds i))∧mA q L (s.args i) args [] [] λags ro=>mLL 0 (s.L i) L ags λags=>
  match asLt s.keys nk ags,roFree ags ro,hidFree ags L with
  | true,true,true=>(match s.gr with
   |false=>rLL ags nk (s.L' i) (restL ags L) λL'=>rSV ags nk (s.res i) λr=>fN (nk+s.more) λnk'=>K r nk' q L'
   | true=>∀q' g,q.le q'→s.okG i g→Eng.RdsOk q' (s.rdsG i g)→rLL ags nk (s.LG i g) (restL ags L) fun L'=>rSV ags nk (s.resG i g) fun r=>fN (nk+s.more) fun nk'=>K r nk' q' L')
  |_,_,_=>False
 |_,_,_=>False
def newK(n0 key:Nat)(fr:Fr)(L:LL)(lb:LB)(K:LL→Prop):Prop:=
 match Nat.ble n0 key with
 | true=>(match hasF key fr with
  |true=>False
  | false=>(match hasLL key L with | true=>False | false=>K ((key,lb)::L)))
 |false=>False
def oneL(l:List SV):Bool:=List.rec (motive:=λ_=>Bool) true (λx _ ih=>match x with|.agg _=>false|.tup _=>false|.bad=>false|.v (.agg _)=>false|.v (.tuple _)=>false|_=>ih) l
def oneVL(l:List Value):Bool:=List.rec (motive:=λ_=>Bool) true (λx _ ih=>match x with|.agg _=>false|.tuple _=>false|_=>ih) l
def boxCells(T:Tab)(t:Nat)(x:SV)(K:List SV→Prop):Prop:=
 match x with
 |.agg l=>(match Nat.beq l.length (ty T t).sz,oneL l with|true,true=>K l|_,_=>False)
 |.tup _=>False
 |.bad=>False
 |.v (.agg _)=>False
 |.v (.tuple _)=>False
 |y=>(match Nat.beq (ty T t).sz 1 with|true=>K [y]|false=>False)
def elemPl(sz e:Nat)(n:Nat):Nat→List (Nat×Nat):=Nat.rec (motive:=λ_=>Nat→List (Nat×Nat)) (λ_=>[]) (λ_ ih i=>(i*sz,e)::ih (i+1)) n
def repl(n:Nat)(l:List SV):List SV:=Nat.rec (motive:=λ_=>List SV) [] (λ_ ih=>l++ih) n
def storeK(T:Tab)(t:Nat)(p x:SV)(L:LL)(K:LL→Prop):Prop:=
 match isOther T t with
 |true=>False
 |false=>match p with
 | .lp k o=>(match getL L k with
  |some (.cells TT cs)=>boxCells T t x λl=>(match Nat.ble (o+l.length) cs.length with|true=>fLL (setL L k (.cells TT (takeN cs o++l++dropN cs (o+l.length)))) K|false=>False)
  | some (.arr E sz n xs)=>(match Nat.beq (ty T t).sz 1,toV x with
   | true,some v=>(match v with
    |.agg _=>False
    |.tuple _=>False
    | v=>Ob (o<xs.length)∧∀N zs,N=n→zs=xs.set o v→fLL (setL L k (.arr E sz N zs)) K)
   | _,_=>False)
  | _=>False)
 |_=>False
def appGo(byt n0 e sz key:Nat)(s:SV)(fr:Fr)(L:LL)(K:SV→LL→Prop)(m:Nat)(ys:List Value):Prop:=
 (match s with
 |.v (.slice none 0 0)=>Ob (m≤9223372036854775807∧m*byt≤140737488355328∧∀y∈ys,y.oneCell'=true)∧∀N zs,N=m→zs=ys→newK n0 key fr L (.arr e sz N zs) λL=>K (.own key) L
 | .own k=>(match getL L k with
  | some (.arr e' sz' n xs)=>(match Nat.beq e' e,Nat.beq sz' sz with
   |true,true=>Ob (n+m≤9223372036854775807∧(n+m)*byt≤140737488355328∧∀y∈ys,y.oneCell'=true)∧∀N zs,N=n+m→zs=xs++ys→newK n0 key fr L (.arr e sz N zs) λL=>fLL (remL L k) λL=>K (.own key) L
   | _,_=>False)
  | _=>False)
 | _=>False)
def appK(T:Tab)(q:PH)(t:Nat)(n0 key:Nat)(s x:SV)(fr:Fr)(L:LL)(K:SV→LL→Prop):Prop:=
 match (ty T t).d with
 |.slice e=>
  (match ty T e with
  |⟨.other,_,_,_,_,_⟩=>False
  |⟨_,sz,byt,_,_,_⟩=>
   match x with
   |.v (.slice A m _)=>Ob (∃ys,ys.length=m*sz∧Reads q A ys)∧∀ys,ys.length=m*sz→Reads q A ys→appGo byt n0 e sz key s fr L K m ys
   |.own j=>(match getL L j with|some (.arr _ sz' m ys)=>(match Nat.beq sz' sz with|true=>appGo byt n0 e sz key s fr L K m ys|false=>False)|_=>False)
   |.vw j lo sz'' m _=>(match getL L j with|some (.arr _ sz' n1 ys)=>(match Nat.beq sz'' sz,Nat.beq sz' sz with|true,true=>Ob (lo+m≤n1)∧appGo byt n0 e sz key s fr L K m (vwC ys lo sz m)|_,_=>False)|_=>False)
   | _=>False)
 |_=>False
def appS(T:Tab)(t u:Nat)(n0 key:Nat)(s x:SV)(fr:Fr)(L:LL)(K:SV→LL→Prop):Prop:=
 match (ty T t).d,(ty T u).d,x with
 | .slice e,.str,.v (.string c)=>(match isByte (ty T e) with
  | true=>(match s with
   |.v (.slice none 0 0)=>Ob (c.size≤140737488355328)∧∀N zs,N=c.size→zs=c.data.toList.map bv→newK n0 key fr L (.arr e 1 N zs) λL=>K (.own key) L
   | .own k=>(match getL L k with
    | some (.arr e' sz' n xs)=>(match Nat.beq e' e,Nat.beq sz' 1 with
     |true,true=>Ob (n+c.size≤140737488355328)∧∀N zs,N=n+c.size→zs=xs++c.data.toList.map bv→newK n0 key fr L (.arr e 1 N zs) λL=>fLL (remL L k) λL=>K (.own key) L
     | _,_=>False)
    | _=>False)
   | _=>False)
  | false=>False)
 |_,_,_=>False
def makeK(T:Tab)(t:Nat)(n0 key:Nat)(l c:SV)(fr:Fr)(L:LL)(K:SV→LL→Prop):Prop:=
 match (ty T t).d,l,c with
 |.slice e,.v (.int .i64 n),.v (.int .i64 m)=>
  (match ty T e with
  |⟨.other,_,_,_,_,_⟩=>False
  | ⟨_,sz,byt,zero,_,_⟩=>(match Nat.beq sz 1,zero,oneVL zero with
   |true,[z],true=>Ob (0≤n∧n≤m∧m≤9223372036854775807∧m*byt≤140737488355328)∧∀N zs,N=n.toNat→zs=List.replicate n.toNat z→newK n0 key fr L (.arr e sz N zs) λL=>K (.own key) L
   | _,_,_=>Ob (n=0∧0≤m∧m≤9223372036854775807∧m * byt≤140737488355328)∧newK n0 key fr L (.arr e sz 0 []) fun L=>K (.own key) L))
 |_,_,_=>False
def yGet(Y:Ye)(k:Nat):Option Hd:=List.rec (motive:=λ_=>Option Hd) none (λp _ ih=>match p with|(j,h)=>match Nat.beq j k with|true=>some h|false=>ih) Y
def dLt(b:Nat)(L:LL):Bool:=List.rec (motive:=λ_=>Bool) true (λp _ ih=>match p with|(k,x)=>match x with|.dfr=>(match Nat.blt k b with|true=>ih|false=>false)|_=>ih) L
def nilF(ts:List (Nat×Nat×Nat×Nat))(n0:Nat):Nat→Fr→LL→(Nat→Fr→LL→Prop)→Prop:=
 List.rec (motive:=λ_=>Nat→Fr→LL→(Nat→Fr→LL→Prop)→Prop) (λnk fr L K=>K nk fr L)
  (fun p _ ih nk fr L K=>
   match p with
   |(t,o,e,sz)=>
   match sz with
   |0=>False
   |sz+1=>match nilAt fr t with
    |.v (.slice none 0 0)=>newK n0 nk fr L (.arr e (sz+1) 0 []) λL=>fN (nk+1) λnk1=>ih nk1 (setF fr t (.own nk)) L K
    | .lp k _=>(match getL L k with
     | some (.cells T cs)=>(match nth cs o with
      |some (.v (.slice none 0 0))=>newK n0 nk fr L (.arr e (sz+1) 0 []) λL=>fLL (setL L k (.cells T (setN cs o (.own nk)))) λL=>fN (nk+1) λnk1=>ih nk1 fr L K
      | _=>ih nk fr L K)
     | _=>ih nk fr L K)
    | _=>ih nk fr L K) ts
def effK(E:Env)(inl:Inl)(Y:Ye)(wr:Bool)(n0 N key:Nat)(dst:Option Nat)(op:Op)(nk:Nat)(q:PH)(fr:Fr)(L:LL)(K:Kt):Prop:=
 match op with
 | .alloc t=>(match ty E.T t with
  |⟨.other,_,_,_,_,_⟩=>False
  | ⟨_,_,_,zero,_,_⟩=>fSVL (valL zero) fun z=>newK n0 key fr L (.cells t z) fun L=>putK N dst (.lp key 0) fr fun fr=>K nk q fr L)
 | .box t x=>(match (ty E.T t).d with
  |.other=>False
  | _=>boxCells E.T t (opv fr x) fun l=>newK n0 key fr L (.cells t l) fun L=>putK N dst (.lp key 0) fr fun fr=>K nk q fr L)
 | .buildSlice t n ps=>frzKs (ownsPs fr ps.toList) q fr L fun q fr L=>(match (ty E.T t).d with
  | .slice e=>(match ty E.T e with
   |⟨.other,_,_,_,_,_⟩=>False
   | ⟨_,sz,_,zero,_,_⟩=>partsK E.T (elemPl sz e n 0) fr ps.toList (repl n (valL zero)) fun cs=>(match toVL cs with
    | some xs=>(match oneVL xs,Nat.ble (n * sz) 16777216 with
     |true,true=>newK n0 key fr L (.arr e sz n xs) λL=>putK N dst (.own key) fr λfr=>K nk q fr L
     | _,_=>False)
    | none=>(match hasL key cs,Nat.ble (n * sz) 16777216 with
     |false,true=>newK n0 key fr L (.cells e cs) λL=>putK N dst (.ls key n) fr λfr=>K nk q fr L
     | _,_=>False)))
  | _=>False)
 |.makeSlice t l c=>makeK E.T t n0 key (opv fr l) (opv fr c) fr L λx L=>putK N dst x fr λfr=>K nk q fr L
 | .store t a x=>frzKs (ownSt fr L a x) q fr L fun q fr L=>(match opv fr x with
  | .vw k 0 sz m true=>(match getL L k with
   | some (.arr e sz' n xs)=>(match Nat.beq sz' sz with
    |true=>Ob (m≤n)∧∀N' zs,N'=m→zs=xs.take (m*sz)→newK n0 key fr L (.arr e sz' N' zs) λL=>fLL (remL L k) λL=>storeK E.T t (opv fr a) (.own key) L λL=>putK N dst (.v undef) fr λfr=>K nk q fr L
    | false=>False)
   | _=>False)
  | y=>storeK E.T t (opv fr a) y L fun L=>putK N dst (.v undef) fr fun fr=>K nk q fr L)
 | .convert src t x=>(match (ty E.T src).d,(ty E.T t).d,opv fr x with
  | .str,.slice e,.v (.string s)=>(match (ty E.T e).d with
   |.int .u8=>sbK q s λq x=>putK N dst x fr λfr=>K nk q fr L
   | _=>False)
  | .slice _,.slice e,.own k=>(match Nat.beq src t,(ty E.T e).d,getL L k with
   |true,.int .u8,some (.arr _ _ n xs)=>Ob (0<n)∧∀q' A c,q.le q'→n≤c→Reads q' A xs→fFr (fzF k (.slice A n c) fr) λfr=>fLL (fzLL k (.slice A n c) (remL L k)) λL=>putK N dst (.v (.slice A n c)) fr λfr=>K nk q' fr L
   | _,_,_=>False)
  | _,_,_=>calmK E.T E.Γ E.Δ wr q op fr L fun x=>putK N dst x fr fun fr=>K nk q fr L)
 | .call ⟨callee,xs,ts⟩=>(match callee with
  | .builtin .append=>(match opvs fr xs.toList,ts.toList with
   | [s,x],[t,t']=>(match Nat.beq t t' with
    |true=>appK E.T q t n0 key s x fr L λx L=>putK N dst x fr λfr=>K nk q fr L
    | false=>appS E.T t t' n0 key s x fr L fun x L=>putK N dst x fr fun fr=>K nk q fr L)
   | _,_=>False)
  | .builtin .copy=>(match opvs fr xs.toList,ts.toList with
   |[d,s],[t,_]=>copyK E.T q t d s L λx L=>putK N dst x fr λfr=>K nk q fr L
   | _,_=>False)
  | .value (.func f)=>(match findS E.Γ f with
   |some _=>calmK E.T E.Γ E.Δ wr q op fr L λx=>putK N dst x fr λfr=>K nk q fr L
   | none=>(match findC E.Δ f with
    | some s=>(match s.calm with
     |true=>calmK E.T E.Γ E.Δ wr q op fr L λx=>putK N dst x fr λfr=>K nk q fr L
     | false=>nilF (nlOf E.T L (opvs fr xs.toList)) n0 nk fr L fun nk fr L=>callC s n0 nk q fr L (opvs fr xs.toList) fun r nk q L=>putK N dst r fr fun fr=>K nk q fr L)
    | none=>(match Nat.ble n0 nk,ltF nk fr,dLt nk L with
     |true,true,true=>inl Y f (opvs fr xs.toList) nk q L λr nk q L=>putK N dst r fr λfr=>K nk q fr L
     | _,_,_=>False)))
  | .value (.tmp t)=>(match get fr t with
   | .fn f cs=>(match Nat.ble n0 nk,ltF nk fr,dLt nk L with
    |true,true,true=>inl Y f (opvs fr xs.toList++cs) nk q L λr nk q L=>putK N dst r fr λfr=>K nk q fr L
    | _,_,_=>False)
   | .yl k=>(match Nat.ble n0 nk,ltF nk fr,dLt nk L,yGet Y k with
    |true,true,true,some h=>h (opvs fr xs.toList) nk q L λr nk q L=>putK N dst r fr λfr=>K nk q fr L
    | _,_,_,_=>False)
   | _=>False)
  | _=>calmK E.T E.Γ E.Δ wr q op fr L fun x=>putK N dst x fr fun fr=>K nk q fr L)
 |_=>calmK E.T E.Γ E.Δ wr q op fr L λx=>putK N dst x fr λfr=>K nk q fr L
def vcOps1(E:Env)(inl:Inl)(Y:Ye)(wr:Bool)(n0 N:Nat)(all:List Oper)(o:Oper)(ih:Nat→Nat→PH→Fr→LL→Kt→Prop)(key nk:Nat)(q:PH)(fr:Fr)(L:LL)(K:Kt):Prop:=
 match o with
 |⟨dst,op,_,_,_,guard⟩=>
  match guard with
  |none=>effK E inl Y wr n0 N key dst op nk q fr L λnk q fr L=>ih (key+1) nk q fr L K
  |some (j,want)=>
   match dstOf all j with
   |none=>False
   |some t=>
    match get fr t with
    | .bb b=>(match b,want with
     |true,true=>effK E inl Y wr n0 N key dst op nk q fr L λnk q fr L=>ih (key+1) nk q fr L K
     |false,false=>effK E inl Y wr n0 N key dst op nk q fr L λnk q fr L=>ih (key+1) nk q fr L K
     | _,_=>putK N dst (.v undef) fr fun fr=>ih (key+1) nk q fr L K)
    | .b p _=>(match want with
     |true=>(p→effK E inl Y wr n0 N key dst op nk q (setF fr t (.bb true)) L λnk q fr L=>ih (key+1) nk q fr L K)∧(¬p→putK N dst (.v undef) (setF fr t (.bb false)) λfr=>ih (key+1) nk q fr L K)
     | false=>(p→putK N dst (.v undef) (setF fr t (.bb true)) fun fr=>ih (key+1) nk q fr L K)∧(¬p→effK E inl Y wr n0 N key dst op nk q (setF fr t (.bb false)) L fun nk q fr L=>ih (key+1) nk q fr L K))
    |.v (.tuple _)=>putK N dst (.v undef) fr λfr=>ih (key+1) nk q fr L K
    |_=>False
def vcOps(E:Env)(inl:Inl)(Y:Ye)(wr:Bool)(n0 N:Nat)(all:List Oper)(ops:List Oper):Nat→Nat→PH→Fr→LL→Kt→Prop:=
 List.rec (motive:=λ_=>Nat→Nat→PH→Fr→LL→Kt→Prop) (λ_ nk q fr L K=>K nk q fr L) (λo _ ih=>vcOps1 E inl Y wr n0 N all o ih) ops
def calmOnly1(T:Tab)(Γ:List Spec)(Δ:List CS)(o:Oper)(ih:Bool):Bool:=
 match o.op with
  |.alloc _|.box _ _|.buildSlice _ _ _|.makeSlice _ _ _|.store _ _ _=>false
  | .convert s t _=>(match (ty T s).d,(ty T t).d with
   |.str,.slice _=>false
   |.slice _,.slice _=>false
   | _,_=>ih)
  |.call ⟨.builtin .append,_,_⟩=>false
  |.call ⟨.builtin .copy,_,_⟩=>false
  |.call ⟨.builtin _,_,_⟩=>ih
  |.call ⟨.value (.func f),_,_⟩=>(match findS Γ f with|some _=>ih|none=>(match findC Δ f with|some s=>(match s.calm with|true=>ih|false=>false)|none=>false))
  |.call _=>false
  |_=>ih
def calmOnly(T:Tab)(Γ:List Spec)(Δ:List CS)(l:List Oper):Bool:=List.rec (motive:=λ_=>Bool) true (λo _ ih=>calmOnly1 T Γ Δ o ih) l
def firstReg(c:Code):Option Nat:=
 Code.rec (motive:=λ_=>Option Nat) none (λid _ _=>some id) (λ_ _ a b=>match a with|some x=>some x|none=>b) (λ_ _ _ a b=>match a with|some x=>some x|none=>b)
  (λ_ _ a=>a) (λ_ a=>a) (λ_ _ _ _ _ _=>none) (λ_=>none) (λ_ a=>a) (λ_=>none) (λ_=>none) none (λ_=>none) c
def hasKey(k:Nat)(L:LL):Bool:=List.rec (motive:=λ_=>Bool) false (λp _ ih=>match p with|(u,_)=>match Nat.beq u k with|true=>true|false=>ih) L
def keysOk(lo hi:Nat)(L:LL):Bool:=List.rec (motive:=λ_=>Bool) true (λp r ih=>match p with|(k,_)=>match Nat.ble lo k,Nat.blt k hi,hasKey k r with|true,true,false=>ih|_,_,_=>false) L
def dfrIn(rest:LL)(L:LL):Bool:=List.rec (motive:=λ_=>Bool) true (λp _ ih=>match p with|(k,x)=>match x with|.dfr=>(match hasKey k rest with|true=>ih|false=>false)|_=>ih) L
def loopRound(I:Inv)(n0 nk:Nat)(q:PH)(kf:Fr)(rest:LL)(body:Nat→PH→Fr→LL→Ke→Prop)(K:Ke)(q1:PH):Prop:=
 ∀i,I.ok i→I.rd q1 i →
  match keysOk 0 (nk+I.keys) (I.L nk i),ltF (nk+I.keys) (I.fr nk i),ltLL (nk+I.keys) (I.L nk i) with
  |true,true,true=>fFr (appF (I.fr nk i) kf) λfr1=>fLL (appL (I.L nk i) rest) λL1=>fN (nk+I.keys) λnk1=>body nk1 q1 fr1 L1
   (thenE (λnk2 q' fr' L'=>nilF I.nils n0 nk2 fr' L' λ_ fr' L'=>frzF I.frz q' fr' L' λq' fr' L'=>∃j,Ob (I.ok j∧I.μ j<I.μ i)∧Ob (I.rd q' j)∧Ob (leK I.gr q q')∧mFr nk (I.fr nk j) fr' [] λags=>mLL nk (I.L nk j) L' ags λags=>mFr nk kf fr' ags λags=>sameL nk rest L' ags (dfrIn rest L'=true)) K)
  |_,_,_=>False
def loopK(I:Inv)(n0 nk:Nat)(q:PH)(fr:Fr)(L:LL)(body:Nat→PH→Fr→LL→Ke→Prop)(K:Ke):Prop:=
 match Nat.ble n0 nk with
 |false=>False
 |true=>
 nilF I.nils n0 nk fr L λnk fr L=>frzF I.frz q fr L λq fr L=>
 fFr (keepF I.keep fr) λkf=>
 match Nat.ble n0 nk,ltF nk kf with
 |true,true=>∃i0,Ob (I.ok i0)∧Ob (I.rd q i0)∧mFr nk (I.fr nk i0) fr [] λags=>mLL nk (I.L nk i0) L ags λags=>fLL (restL ags L) λrest=>
  match ltLL nk rest,hidFree ags L with
  |true,true=>
   match I.gr with
   |false=>loopRound I n0 nk q kf rest body K q
   |true=>∀q1,q.le q1→loopRound I n0 nk q kf rest body K q1
  |_,_=>False
 |_,_=>False
def cutNext(I:Cut)(base:Nat)(kf:Fr)(rest:LL)(vb:Nat→PH→Fr→LL→Prop)(q1:PH):Prop:=
 ∀j,I.ok q1 j →
  match keysOk 0 (base+I.keys) (I.L j),ltF (base+I.keys) (I.fr j),ltLL (base+I.keys) (I.L j) with
  |true,true,true=>fN (base+I.keys) λnk=>fFr (appF (I.fr j) kf) λfr1=>fLL (appL (I.L j) rest) λL1=>vb nk q1 fr1 L1
  |_,_,_=>False
def cutK(I:Cut)(n0:Nat)(q:PH)(fr:Fr)(va:Ke→Prop)(vb:Nat→PH→Fr→LL→Prop)(K:Ke):Prop:=
 fFr (keepF I.keep fr) λkf=>fLL I.rest λrest=>fN I.base λbase=>
 match Nat.ble n0 base,ltF base kf,ltLL base rest with
 |true,true,true=>
  va (thenE (λnk1 q' fr' L'=>nilF I.nils n0 nk1 fr' L' λ_ fr' L'=>frzF I.frz q' fr' L' λq' fr' L'=>∃j,Ob (I.ok q' j)∧Ob (leK I.gr q q')∧mFr base (I.fr j) fr' [] λags=>mLL base (I.L j) L' ags λags=>mFr base kf fr' ags λags=>sameL base rest L' ags (dfrIn rest L'=true)) K)
  ∧ (match I.gr with
   |false=>cutNext I base kf rest vb q
   | true=>∀q1,q.le q1→cutNext I base kf rest vb q1)
 |_,_,_=>False
def putsF(ps:List Nat)(xs:List SV)(N:Nat):Fr→(Fr→Prop)→Prop:=
 List.rec (motive:=λ_=>List SV→Fr→(Fr→Prop)→Prop)
  (λxs fr K=>match xs with|[]=>K fr|_::_=>False)
  (λp _ ih xs fr K=>match xs with|x::xs=>(match Nat.blt p N with|true=>ih xs ((p,x)::fr) K|false=>False)|[]=>False) ps xs
def roundK(va vb:Nat→Nat→PH→Fr→LL→Ke→Prop)(N nk:Nat)(ps:List Nat)(fr:Fr):Hd:=λargs nk1 q L K1=>
 match getL L nk with
 |some (.loop .ready none)=>putsF ps args N fr λfr1=>
  va nk1 nk1 q fr1 L (thenE (fun nk2 q fr2 L=>
   (match getL L nk with
   |some (.loop .ready none)=>fLL (setL L nk (.loop .busy none)) λL=>
    vb nk1 nk2 q fr2 L λex nk3 q _ L=>
     (match getL L nk with
     | some (.loop .busy none)=>(match ex with
      |.norm=>fLL (setL L nk (.loop .ready none)) λL=>K1 (.bb true) nk3 q L
      |.ret=>fLL (setL L nk (.loop .done (some .ret))) λL=>K1 (.bb false) nk3 q L
      |.exit n=>fLL (setL L nk (.loop .done (some (.exit n)))) λL=>K1 (.bb false) nk3 q L
      | .goto n=>fLL (setL L nk (.loop .done (some (.goto n)))) fun L=>K1 (.bb false) nk3 q L)
     | _=>False)
   | _=>False)) (fun _ _ _ _ _=>False))
 |_=>False
def vcR(E:Env)(inl:Inl)(f:Nat)(wr:Bool)(N:Nat)(c:Code):Nat→Ye→Option Nat→Nat→PH→Fr→LL→Ke→Prop:=
 Code.rec (motive:=λ_=>Nat→Ye→Option Nat→Nat→PH→Fr→LL→Ke→Prop)
  (λ_ _ _ nk q fr L K=>K .norm nk q fr L)
  (fun _ ops draw n0 Y _ nk q fr L K=>(match draw with
   |false=>fN (nk+ops.toList.length) λnk'=>vcOps E inl Y wr n0 N ops.toList ops.toList nk nk' q fr L (K .norm)
   | true=>Ob (Region.lexB .any ops=true)∧(match calmOnly E.T E.Γ E.Δ ops.toList with
    |true=>fN (nk+ops.toList.length) λnk'=>vcOps E inl Y wr n0 N ops.toList ops.toList nk nk' q fr L (K .norm)
    | false=>(match Nat.ble n0 nk with
     |true=>∃pl:Pn,Ob (planOk ops pl=true)∧vcP ltF ltLL (λop fr L q K=>calmK E.T E.Γ E.Δ wr q op fr L K) (λn0 key dst op nk q fr L K=>effK E inl Y wr n0 N key dst op nk q fr L K) N ops.toList pl [] nk q fr L (K .norm)
     | false=>False))))
  (fun _ b va vb n0 Y ro nk q fr L K=>(match firstReg b with
   |none=>va n0 Y ro nk q fr L (thenE (λnk q fr L=>vb n0 Y ro nk q fr L K) K)
   | some id=>(match E.cut f id with
    |false=>va n0 Y ro nk q fr L (thenE (λnk q fr L=>vb n0 Y ro nk q fr L K) K)
    | true=>∃I:Cut,cutK I n0 q fr (fun K=>va n0 Y ro nk q fr L K) (fun nk q fr L=>vb n0 Y ro nk q fr L K) K)))
  (fun c _ _ vx vy n0 Y ro nk q fr L K=>(match opv fr c with
   |.bb true=>vx n0 Y ro nk q fr L K
   |.bb false=>vy n0 Y ro nk q fr L K
   |.b p _=>(p→vx n0 Y ro nk q fr L K)∧(¬p→vy n0 Y ro nk q fr L K)
   | _=>False))
  (λid _ vc n0 Y ro nk q fr L K=>vc n0 Y ro nk q fr L (blkE id K))
  (fun body vb n0 Y ro nk q fr L K=>(match firstReg body with
   |none=>False
   | some id=>(match E.inv f id nk with
    |none=>∃I:Inv,loopK I n0 nk q fr L (λnk q fr L K=>vb n0 Y ro nk q fr L K) K
    | some I=>loopK I n0 nk q fr L (fun nk q fr L K=>vb n0 Y ro nk q fr L K) K)))
  (fun g ps _ _ va vb n0 Y ro nk q fr L K=>
   (match Nat.ble n0 nk,ltF nk fr,ltLL nk L with
   |true,true,true=>
    (match opv fr g with
    |.fn it cs=>
     (match ro with
     |none=>inl ((nk,roundK (λn0 nk' q fr L K=>va n0 Y (some nk) nk' q fr L K) (λn0 nk' q fr L K=>vb n0 Y (some nk) nk' q fr L K) N nk ps.toList fr)::Y)
       it (.yl nk::cs) (nk+2) q ((nk,.loop .ready none)::(nk+1,.dfr)::L) (doneK nk fr K)
     | some l0=>(match getL L l0 with
      |some (.loop _ _)=>inl ((nk,roundK (λn0 nk' q fr L K=>va n0 Y (some nk) nk' q fr L K) (λn0 nk' q fr L K=>vb n0 Y (some nk) nk' q fr L K) N nk ps.toList fr)::Y)
       it (.yl nk::cs) (nk+2) q ((nk,.loop .ready none)::L) (doneK nk fr K)
      | _=>False))
    | _=>False)
   | _,_,_=>False))
  (λid _ _ _ nk q fr L K=>K (.exit id) nk q fr L)
  (λ_ vc n0 Y ro nk q fr L K=>vc n0 Y ro nk q fr L (scopeE K))
  (λ_ _ _ _ nk q fr L K=>K .norm nk q fr L)
  (λl _ _ _ nk q fr L K=>K (.goto l) nk q fr L)
  (λ_ _ _ nk q fr L K=>K .ret nk q fr L)
  (λ_ _ _ _ _ _ _ _ _=>False)
  c
def vcC(E:Env)(inl:Inl)(f:Nat)(wr:Bool)(n0 N:Nat)(c:Code)(Y:Ye)(ro:Option Nat)(nk:Nat)(q:PH)(fr:Fr)(L:LL)(K:Ke):Prop:=
 vcR E inl f wr N c n0 Y ro nk q fr L K
def resK(T:Tab)(q:PH)(rs:List ResultVar)(fr:Fr)(L:LL):(List SV→Prop)→Prop:=
 List.rec (motive:=λ_=>(List SV→Prop)→Prop) (λK=>K [])
  (fun r _ ih K=>match r with
   |.tmp t=>fSV (get fr t) λx=>ih λl=>K (x::l)
   | .cell t ty=>loadK T q L ty (get fr t) fun x=>ih fun l=>K (x::l)) rs
def dropA(b:Nat)(L0:LL)(L:LL):LL:=
 List.rec (motive:=fun _=>LL) [] (fun p _ ih=>match p with | (k,x)=>(match Nat.ble b k with
  |true=>(match getL L0 k with|some .dfr=>ih|_=>(k,x)::ih)
  | false=>(k,x)::ih)) L
def retE(T:Tab)(b:Nat)(rs:List ResultVar)(K:SV→Nat→PH→LL→Prop):Ke
 |.norm=>λnk q fr L=>fLL (dropA b L L) λL=>resK T q rs fr L λl=>fSV (oneOr l) λr=>K r nk q L
 |.ret=>λnk q fr L=>fLL (dropA b L L) λL=>resK T q rs fr L λl=>fSV (oneOr l) λr=>K r nk q L
 |_=>λ_ _ _ _=>False
def argF(args:List SV)(i:Nat):Fr:=List.rec (motive:=λ_=>Nat→Fr) (λ_=>[]) (λx _ ih i=>(i,x)::ih (i+1)) args i
def vcN(E:Env)(n:Nat):Inl:=
 Nat.rec (motive:=λ_=>Inl) (λ_ _ _ _ _ _ _=>False)
  (fun _ ih Y f args nk q L K=>(match E.FT.get f with
  |none=>False
  | some fn=>(match fn.body with
   |none=>False
   | some c=>(match Nat.ble args.length fn.ntmps with
    |false=>False
    | true=>fFr (argF args 0) fun fr=>vcC E ih f (E.wr f) nk fn.ntmps c Y none nk q fr L (retE E.T nk fn.results.toList K))))) n
def inL(l:List (Nat×Nat))(f id:Nat):Bool:=List.rec (motive:=λ_=>Bool) false (λp _ ih=>match p with|(a,b)=>match Nat.beq a f,Nat.beq b id with|true,true=>true|_,_=>ih) l
end
end Go.Eng.R
end
namespace Go.Eng.R
open Go Go.Eng
theorem setN_e{α:Type}:∀(l:List α) (n:Nat) (y:α),R.setN l n y=Eng.setN l n y
 |[],_,_=>rfl
 |_::_,0,_=>rfl
 |x::r,n+1,y=>congrArg (x :: ·) (setN_e r n y)
theorem setN_eq{α:Type}:@R.setN α=@Eng.setN α:=by funext l n y;exact setN_e l n y
theorem takeN_e{α:Type}:∀(l:List α) (n:Nat),R.takeN l n=Eng.takeN l n
 |[],0=>rfl
 |[],_+1=>rfl
 |_::_,0=>rfl
 |x::r,n+1=>congrArg (x :: ·) (takeN_e r n)
theorem yV{α:Type}:@R.takeN α=@Eng.takeN α:=by funext l n;exact takeN_e l n
theorem dropN_e{α:Type}:∀(l:List α) (n:Nat),R.dropN l n=Eng.dropN l n
 |[],0=>rfl
 |[],_+1=>rfl
 |_::_,0=>rfl
 |_::r,n+1=>dropN_e r n
theorem yW{α:Type}:@R.dropN α=@Eng.dropN α:=by funext l n;exact dropN_e l n
theorem svHas_agg(k:Nat):∀cs,svHas k (.agg cs)=R.hasL k cs
 |[]=>rfl
 |x::r=>by
  show(match svHas k x with|true=>true|false=>svHas k (.agg r))=_;rw[svHas_agg k r];rfl
theorem svHas_tup(k:Nat):∀cs,svHas k (.tup cs)=R.hasL k cs
 |[]=>rfl
 |x::r=>by
  show(match svHas k x with|true=>true|false=>svHas k (.tup r))=_;rw[svHas_tup k r];rfl
theorem svHas_fn(k:Nat)(f:FuncId):∀cs,svHas k (.fn f cs)=R.hasL k cs
 |[]=>rfl
 |x::r=>by
  show(match svHas k x with|true=>true|false=>svHas k (.fn f r))=_;rw[svHas_fn k f r];rfl
mutual
theorem svHas_e(k:Nat):∀x:SV,svHas k x=x.has k
 |.agg cs=>(svHas_agg k cs).trans (hasL_e k cs)
 |.tup cs=>(svHas_tup k cs).trans (hasL_e k cs)
 |.fn f cs=>(svHas_fn k f cs).trans (hasL_e k cs)
 |.v _=>rfl|.bb _=>rfl|.b _ _=>rfl|.lp _ _=>rfl|.own _=>rfl|.el _ _=>rfl|.yl _=>rfl|.vw _ _ _ _ _=>rfl|.lq _=>rfl|.ls _ _=>rfl|.mr _=>rfl|.bad=>rfl
theorem hasL_e(k:Nat):∀l,R.hasL k l=Eng.hasL k l
 |[]=>rfl
 |x::r=>by
  show(match svHas k x with|true=>true|false=>R.hasL k r)=(match x.has k with|true=>true|false=>Eng.hasL k r);rw[svHas_e k x,hasL_e k r]
end
theorem hasL_eq:@R.hasL=@Eng.hasL:=by funext k l;exact hasL_e k l
theorem hasF_eq:@R.hasF=@Eng.hasF:=by
 funext k l
 induction l with
 |nil=>rfl
 |cons p r ih=>
  obtain⟨u,x⟩:=p;show(match svHas k x with|true=>true|false=>R.hasF k r)=(match x.has k with|true=>true|false=>Eng.hasF k r);rw[svHas_e,ih]
theorem lbHas_e(k:Nat)(x:LB):lbHas k x=x.has k:=by cases x<;>first|rfl|exact hasL_e k _
theorem hasLL_eq:@R.hasLL=@Eng.hasLL:=by
 funext k l
 induction l with
 |nil=>rfl
 |cons p r ih=>
  obtain⟨u,x⟩:=p;show(match Nat.beq u k with|true=>true|false=>match lbHas k x with|true=>true|false=>R.hasLL k r)=(match Nat.beq u k with|true=>true|false=>match x.has k with|true=>true|false=>Eng.hasLL k r);rw[lbHas_e,ih]
theorem opvs_eq:@R.opvs=@Eng.opvs:=by
 funext fr l
 induction l with
 |nil=>rfl
 |cons x r ih=>exact congrArg (opv fr x :: ·) ih
theorem ldK_eq:@R.ldK=@Eng.ldK:=by
 funext g j ts K
 induction ts generalizing j K with
 |nil=>rfl
 |cons t r ih=>
  have e:∀j,(λK=>R.ldK g j r K)=Eng.ldK g j r:=λj=>funext λK=>ih j K
  cases t with
  |int k=>show(_∧∀x,_→(λK=>R.ldK g (j+1) r K) _)=_;rw[e];rfl
  |bool=>show(_∧∀x,_→(λK=>R.ldK g (j+1) r K) _)=_;rw[e];rfl
  |str=>show(_∧∀x,_→(λK=>R.ldK g (j+1) r K) _)=_;rw[e];rfl
  |flt k=>show(_∧∀x,_→(λK=>R.ldK g (j+1) r K) _)=_;rw[e];rfl
  |ptr k=>show(_∧∀x,_→(λK=>R.ldK g (j+1) r K) _)=_;rw[e];rfl
  |slice k=>show(_∧∀A n c,_→(λK=>R.ldK g (j+1) r K) _)=_;rw[e];rfl
  |_=>rfl
theorem loadK1_eq:@R.loadK1=@Eng.loadK1:=by
 funext d sz flat q L x K;unfold R.loadK1 Eng.loadK1;simp only[yV,yW,ldK_eq];rfl
theorem loadK_eq:@R.loadK=@Eng.loadK:=by
 funext T q L t x K;unfold R.loadK Eng.loadK;simp only[loadK1_eq];rfl
theorem partsK_eq:@R.partsK=@Eng.partsK:=by
 funext T fs fr ps cs K
 induction ps generalizing cs K with
 |nil=>rfl
 |cons p r ih=>
  obtain⟨i,x⟩:=p;have ih':R.partsK T fs fr r=λcs K=>Eng.partsK T fs fr r cs K:=funext λcs=>funext λK=>ih cs K
  show (match nth fs i with
   |some (off,t)=>fSV (opv fr x) λy=>
    match y with
    |.agg l=>(match Nat.beq l.length (ty T t).sz with|true=>(match Nat.ble (off+l.length) cs.length with|true=>fSVL (R.takeN cs off++l++R.dropN cs (off+l.length)) λc=>R.partsK T fs fr r c K|false=>False)|false=>False)
    |.tup _=>False
    |.bad=>False
    |.v (.agg _)=>False
    |.v (.tuple _)=>False
    |y=>(match Nat.beq (ty T t).sz 1 with|true=>(match Nat.blt off cs.length with|true=>fSVL (R.setN cs off y) λc=>R.partsK T fs fr r c K|false=>False)|false=>False)
   | none=>False)=_
  rw[ih',yV,yW,setN_eq];rfl
theorem valL_eq:@R.valL=@Eng.valL:=by
 funext l
 induction l with
 |nil=>rfl
 |cons x r ih=>cases x<;>exact congrArg (_ :: ·) ih
noncomputable def toVr(l:List SV):Option (List Value):=
 SV.rec_1 (motive_1:=λ_=>Option Value) (motive_2:=λ_=>Option (List Value))
  (λx=>some x) (λb=>some (.bool b)) (λp d=>some (.bool (@decide p d))) (λ_ _=>none) (λ_=>none) (λ_ _=>none)
  (λ_ ih=>optAgg ih) (λ_ _=>none) (λ_ _ _=>none) (λ_=>none) (λ_ _ _ _ _=>none) (λ_=>none) (λ_ _=>none) (λ_=>none) none
  (some []) (λ_ _ hx hr=>optCons hx hr) l
theorem toVr_eq:∀l,toVr l=R.toVL l
 |[]=>rfl
 |x::r=>by show optCons (R.toV x) (toVr r)=optCons (R.toV x) (R.toVL r);rw[toVr_eq r]
theorem toV_agg(cs:List SV):R.toV (.agg cs)=optAgg (R.toVL cs):=by
 rw[←toVr_eq];rfl
mutual
theorem toV_e:∀x:SV,R.toV x=Eng.toV x
 |.agg cs=>by rw[toV_agg,toVL_e];rfl
 |.v _=>rfl|.bb _=>rfl|.b _ _=>rfl|.lp _ _=>rfl|.own _=>rfl|.el _ _=>rfl|.yl _=>rfl|.vw _ _ _ _ _=>rfl|.lq _=>rfl|.ls _ _=>rfl|.mr _=>rfl|.bad=>rfl|.tup _=>rfl|.fn _ _=>rfl
theorem toVL_e:∀l,R.toVL l=Eng.toVL l
 |[]=>rfl
 |x::r=>by
  show optCons (R.toV x) (R.toVL r)=_;rw[toV_e x,toVL_e r];rfl
end
theorem toV_eq:@R.toV=@Eng.toV:=funext toV_e
theorem toVL_eq:@R.toVL=@Eng.toVL:=funext toVL_e
theorem datK_eq:@R.datK=@Eng.datK:=by
 funext q L ks xs K
 induction ks generalizing xs K with
 |nil=>cases xs<;>rfl
 |cons k r ih=>
  cases xs with
  |nil=>cases k<;>rfl
  |cons x xs=>
   have ih':R.datK q L r xs=λK=>Eng.datK q L r xs K:=funext λK=>ih xs K
   cases k with
   |v=>
    show(match R.toV x with|some y=>R.datK q L r xs λl=>K (.v y::l)|none=>False)=(match Eng.toV x with|some y=>Eng.datK q L r xs λl=>K (.v y::l)|none=>False);rw[toV_eq,ih']
   |sl sz=>
    show (match x with
     |.v (.slice A n c)=>Ob (n≤c)∧Ob (∃ys:List Value,ys.length=n*sz∧Reads q A ys)∧∀ys:List Value,ys.length=n*sz→Reads q A ys→R.datK q L r xs λl=>K (.sl n ys::l)
     |.own k=>(match getL L k with|some (.arr _ sz' n ys)=>(match Nat.beq sz' sz with|true=>R.datK q L r xs λl=>K (.sl n ys::l)|false=>False)|_=>False)
     |_=>False)=(match x with
     |.v (.slice A n c)=>Ob (n≤c)∧Ob (∃ys:List Value,ys.length=n*sz∧Reads q A ys)∧∀ys:List Value,ys.length=n*sz→Reads q A ys→Eng.datK q L r xs λl=>K (.sl n ys::l)
     |.own k=>(match getL L k with|some (.arr _ sz' n ys)=>(match Nat.beq sz' sz with|true=>Eng.datK q L r xs λl=>K (.sl n ys::l)|false=>False)|_=>False)
     | _=>False)
    rw[ih']
theorem findS_eq:@R.findS=@Eng.findS:=by
 funext Γ f
 induction Γ with
 |nil=>rfl
 |cons s r ih=>
  show(match Nat.beq s.f f with|true=>some s|false=>R.findS r f)=(match Nat.beq s.f f with|true=>some s|false=>Eng.findS r f);rw[ih]
theorem findC_eq:@R.findC=@Eng.findC:=by
 funext Γ f
 induction Γ with
 |nil=>rfl
 |cons s r ih=>
  show(match Nat.beq s.f f with|true=>some s|false=>R.findC r f)=(match Nat.beq s.f f with|true=>some s|false=>Eng.findC r f);rw[ih]
noncomputable def closedL(l:List SV):Bool:=List.rec (motive:=λ_=>Bool) true (λx _ ih=>match R.closed x with|true=>ih|false=>false) l
theorem closed_agg:∀cs,R.closed (.agg cs)=R.closedL cs
 |[]=>rfl
 |x::r=>by
  show(match R.closed x with|true=>R.closed (.agg r)|false=>false)=_;rw[closed_agg r];rfl
theorem closed_tup:∀cs,R.closed (.tup cs)=R.closedL cs
 |[]=>rfl
 |x::r=>by
  show(match R.closed x with|true=>R.closed (.tup r)|false=>false)=_;rw[closed_tup r];rfl
theorem closed_fn(f:FuncId):∀cs,R.closed (.fn f cs)=R.closedL cs
 |[]=>rfl
 |x::r=>by
  show(match R.closed x with|true=>R.closed (.fn f r)|false=>false)=_;rw[closed_fn f r];rfl
mutual
theorem closed_e:∀x:SV,R.closed x=Eng.closed x
 |.agg cs=>(closed_agg cs).trans (closedL_e cs)
 |.tup cs=>(closed_tup cs).trans (closedL_e cs)
 |.fn f cs=>(closed_fn f cs).trans (closedL_e cs)
 |.v _=>rfl|.bb _=>rfl|.b _ _=>rfl|.lp _ _=>rfl|.own _=>rfl|.el _ _=>rfl|.yl _=>rfl|.vw _ _ _ _ _=>rfl|.lq _=>rfl|.ls _ _=>rfl|.mr _=>rfl|.bad=>rfl
theorem closedL_e:∀l,R.closedL l=Eng.closedL l
 |[]=>rfl
 |x::r=>by
  show(match R.closed x with|true=>R.closedL r|false=>false)=(match Eng.closed x with|true=>Eng.closedL r|false=>false);rw[closed_e x,closedL_e r]
end
theorem closed_eq:@R.closed=@Eng.closed:=funext closed_e
theorem asGet_eq:@R.asGet=@Eng.asGet:=by
 funext ags k
 induction ags with
 |nil=>rfl
 |cons p r ih=>
  obtain⟨u,x⟩:=p;show(match Nat.beq u k with|true=>some x|false=>R.asGet r k)=(match Nat.beq u k with|true=>some x|false=>Eng.asGet r k);rw[ih]
theorem asHas_eq:@R.asHas=@Eng.asHas:=by
 funext ags k
 induction ags with
 |nil=>rfl
 |cons p r ih=>
  obtain⟨u,x⟩:=p;show(match Nat.beq x k with|true=>true|false=>R.asHas r k)=(match Nat.beq x k with|true=>true|false=>Eng.asHas r k);rw[ih]
theorem asK_eq:@R.asK=@Eng.asK:=by
 funext b ags k j K;unfold R.asK Eng.asK;simp only[asGet_eq,asHas_eq];rfl
theorem mSV_agg(b:Nat):∀(l l':List SV) (ags:As) (K:As→Prop),R.mSV b (.agg l) (.agg l') ags K=R.mL b l l' ags K
 |[],[],_,_=>rfl
 |[],_::_,_,_=>rfl
 |_::_,[],_,_=>rfl
 |x::r,y::s,ags,K=>by
  show R.mSV b x y ags (λags=>R.mSV b (.agg r) (.agg s) ags K)=R.mSV b x y ags (λags=>R.mL b r s ags K);congr 1;funext ags;exact mSV_agg b r s ags K
theorem mSV_tup(b:Nat):∀(l l':List SV) (ags:As) (K:As→Prop),R.mSV b (.tup l) (.tup l') ags K=R.mL b l l' ags K
 |[],[],_,_=>rfl
 |[],_::_,_,_=>rfl
 |_::_,[],_,_=>rfl
 |x::r,y::s,ags,K=>by
  show R.mSV b x y ags (λags=>R.mSV b (.tup r) (.tup s) ags K)=R.mSV b x y ags (λags=>R.mL b r s ags K);congr 1;funext ags;exact mSV_tup b r s ags K
def mF(b:Nat)(l l':List SV)(ags:As)(K:As→Prop):Prop:=R.mSV b (.fn 0 l) (.fn 0 l') ags K
theorem mF_eq(b:Nat):∀(l l':List SV) (ags:As) (K:As→Prop),mF b l l' ags K=R.mL b l l' ags K
 |[],[],_,_=>rfl
 |[],_::_,_,_=>rfl
 |_::_,[],_,_=>rfl
 |x::r,y::s,ags,K=>by
  show R.mSV b x y ags (λags=>mF b r s ags K)=R.mSV b x y ags (λags=>R.mL b r s ags K);congr 1;funext ags;exact mF_eq b r s ags K
theorem mSV_fn(b f f':Nat)(l l':List SV)(ags:As)(K:As→Prop):R.mSV b (.fn f l) (.fn f' l') ags K=match Nat.beq f f' with|true=>R.mL b l l' ags K|false=>False:=by
 rw[←mF_eq];rfl
def mVL(l:List Value)(l':List SV)(K:Prop):Prop:=R.mSV 0 (.v (.agg l.toArray)) (.agg l') [] λ_=>K
theorem mSV_vagg(b:Nat)(x:Array Value)(l':List SV)(ags:As)(K:As→Prop):R.mSV b (.v (.agg x)) (.agg l') ags K=mVL x.toList l' (K ags):=by
 unfold mVL;show _=_;rfl
theorem mSV_vtup(b:Nat)(x:Array Value)(l':List SV)(ags:As)(K:As→Prop):R.mSV b (.v (.tuple x)) (.tup l') ags K=mVL x.toList l' (K ags):=by
 unfold mVL;rfl
mutual
theorem mSV_e:∀(b:Nat) (tm ac:SV) (ags:As) (K:As→Prop),R.mSV b tm ac ags K=Eng.mSV b tm ac ags K
 |b,tm,.agg l',ags,K=>by
  cases tm with
  |agg l=>rw[mSV_agg,mL_e b l l' ags K];rfl
  |v x=>
   cases x with
   |agg x=>rw[mSV_vagg,mVL_e x.toList l' (K ags)];rfl
   |_=>rfl
  |_=>rfl
 |b,tm,.tup l',ags,K=>by
  cases tm with
  |tup l=>rw[mSV_tup,mL_e b l l' ags K];rfl
  |v x=>
   cases x with
   |tuple x=>rw[mSV_vtup,mVL_e x.toList l' (K ags)];rfl
   |_=>rfl
  |_=>rfl
 |b,tm,.fn f' l',ags,K=>by
  cases tm with
  |fn f l=>rw[mSV_fn,mL_e b l l' ags K];rfl
  |v x=>cases x<;>rfl
  |_=>rfl
 |b,tm,.v y,ags,K=>by
  cases tm with
  |b p d=>cases y<;>rfl
  |lq k=>cases y with
   |pointer A=>cases A<;>rfl
   |_=>rfl
  |_=>rfl
 |b,tm,.bb y,ags,K=>by
  cases tm with
  |v x=>cases x<;>rfl
  |_=>rfl
 |b,tm,.b p d,ags,K=>by
  cases tm with
  |v x=>cases x<;>rfl
  |_=>rfl
 |b,tm,.lp k o,ags,K=>by
  cases tm with
  |v x=>cases x<;>rfl
  |lp k o=>show(_∧R.asK _ _ _ _ _)=_;rw[asK_eq];rfl
  |lq k'=>cases o with
   |zero=>show R.asK _ _ _ _ _=_;rw[asK_eq];rfl
   |succ o=>rfl
  |_=>rfl
 |b,tm,.lq j,ags,K=>by
  cases tm with
  |v x=>cases x<;>rfl
  |lq k=>show(R.asK _ _ _ _ _)=_;rw[asK_eq];rfl
  |_=>rfl
 |b,tm,.ls j n,ags,K=>by
  cases tm with
  |v x=>cases x<;>rfl
  |ls k m=>show(_∧R.asK _ _ _ _ _)=_;rw[asK_eq];rfl
  |_=>rfl
 |b,tm,.mr j,ags,K=>by
  cases tm with
  |v x=>cases x<;>rfl
  |mr k=>show(R.asK _ _ _ _ _)=_;rw[asK_eq];rfl
  |_=>rfl
 |b,tm,.own k,ags,K=>by
  cases tm with
  |v x=>cases x<;>rfl
  |own k=>show(R.asK _ _ _ _ _)=_;rw[asK_eq];rfl
  |_=>rfl
 |b,tm,.el A j,ags,K=>by
  cases tm with
  |v x=>cases x<;>rfl
  |_=>rfl
 |b,tm,.yl k,ags,K=>by
  cases tm with
  |v x=>cases x<;>rfl
  |yl k=>show(R.asK _ _ _ _ _)=_;rw[asK_eq];rfl
  |_=>rfl
 |b,tm,.vw k lo sz n ex,ags,K=>by
  cases tm with
  |v x=>cases x<;>rfl
  |vw k lo sz n ex=>show(_∧R.asK _ _ _ _ _)=_;rw[asK_eq];rfl
  |_=>rfl
 |b,tm,.bad,ags,K=>by
  cases tm with
  |v x=>cases x<;>rfl
  |_=>rfl
theorem mL_e:∀(b:Nat) (tm ac:List SV) (ags:As) (K:As→Prop),R.mL b tm ac ags K=Eng.mL b tm ac ags K
 |_,[],[],_,_=>rfl
 |_,[],_::_,_,_=>rfl
 |_,_::_,[],_,_=>rfl
 |b,x::r,y::s,ags,K=>by
  have h:(λags=>R.mL b r s ags K)=λags=>Eng.mL b r s ags K:=funext λags=>mL_e b r s ags K;show R.mSV b x y ags (λags=>R.mL b r s ags K)=Eng.mSV b x y ags (λags=>Eng.mL b r s ags K);rw[h,mSV_e b x y]
theorem mVL_e:∀(tm:List Value) (ac:List SV) (K:Prop),R.mVL tm ac K=Eng.mVL tm ac K
 |[],[],_=>rfl
 |[],_::_,_=>rfl
 |_::_,[],_=>rfl
 |x::r,y::s,K=>by
  show R.mSV 0 (.v x) y [] (λ_=>R.mVL r s K)=Eng.mSV 0 (.v x) y [] (λ_=>Eng.mVL r s K);rw[mVL_e r s,mSV_e 0 (.v x) y]
end
theorem mSV_eq:@R.mSV=@Eng.mSV:=by funext b tm ac ags K;exact mSV_e b tm ac ags K
theorem mL_eq:@R.mL=@Eng.mL:=by funext b tm ac ags K;exact mL_e b tm ac ags K
theorem mA_eq:@R.mA=@Eng.mA:=by
 funext q L tm ac ags ro K
 induction tm generalizing ac ags ro K with
 |nil=>cases ac<;>rfl
 |cons t r ih=>
  cases ac with
  |nil=>cases t<;>rfl
  |cons y s=>
   have ih':(λags ro K=>R.mA q L r s ags ro K)=λags ro K=>Eng.mA q L r s ags ro K:=funext λags=>funext λro=>funext λK=>ih s ags ro K
   cases t with
   |w x=>
    show R.mSV 0 x y ags (λags=>(λags ro K=>R.mA q L r s ags ro K) ags ro K)=_;rw[ih',mSV_eq];rfl
   |sl sz n xs=>
    show (match y with
     |.v (.slice A m c)=>Ob (m=n∧m≤c∧xs.length=m*sz∧Reads q A xs)∧(λags ro K=>R.mA q L r s ags ro K) ags ro K
     | .own k=>(match getL L k with
      |some (.arr _ sz' m ys)=>(match Nat.beq sz' sz with|true=>Ob (m=n∧ys=xs)∧(λags ro K=>R.mA q L r s ags ro K) ags (k::ro) K|false=>False)
      | _=>False)
     | .vw k lo sz' m _=>(match getL L k with
      |some (.arr _ sz'' n0 ys)=>(match Nat.beq sz' sz,Nat.beq sz'' sz with|true,true=>Ob (m=n∧lo+m≤n0∧vwC ys lo sz m=xs)∧(λags ro K=>R.mA q L r s ags ro K) ags (k::ro) K|_,_=>False)
      | _=>False)
     | _=>False)=_
    rw[ih'];rfl
   |pt cs=>
    show (match y with
     | .lp k 0=>(match getL L k with
      |some (.cells _ acs)=>pcG (λt y K=>R.mSV 0 t y [] λ_=>K) q L cs acs (k::ro) λro=>(λags ro K=>R.mA q L r s ags ro K) ags ro K
      | _=>False)
     |.v (.pointer (some a))=>Ob (a.spot=none∧∃us:List Value,us.length=cs.length∧Reads q (some a) us∧pcArgs q cs us)∧(λags ro K=>R.mA q L r s ags ro K) ags ro K
     | _=>False)=_
    rw[ih',mSV_eq];rfl
theorem fieldK_eq:@R.fieldK=@Eng.fieldK:=by
 funext T t f x K;unfold R.fieldK Eng.fieldK;simp only[yV,yW];rfl
theorem buildK_eq:@R.buildK=@Eng.buildK:=by
 funext T t fr ps K;unfold R.buildK Eng.buildK;simp only[partsK_eq,valL_eq];rfl
theorem callK_eq:@R.callK=@Eng.callK:=by
 funext T Γ Δ q c fr L K;unfold R.callK Eng.callK;simp only[opvs_eq,findS_eq,findC_eq,datK_eq,closed_eq,mA_eq];rfl
theorem calmK_eq:@R.calmK=@Eng.calmK:=by
 funext T Γ Δ wr q op fr L K;unfold R.calmK Eng.calmK;simp only[fieldK_eq,loadK_eq,buildK_eq,opvs_eq,callK_eq];rfl
theorem mFr_eq:@R.mFr=@Eng.mFr:=by unfold R.mFr Eng.mFr;rw[mSV_eq]
theorem mLB_eq:@R.mLB=@Eng.mLB:=by
 funext b tm ac ags K;unfold R.mLB Eng.mLB;rw[mL_eq];rfl
theorem mLL_eq:@R.mLL=@Eng.mLL:=by unfold R.mLL Eng.mLL;rw[mLB_eq,asGet_eq,asHas_eq];rfl
theorem restL_eq:@R.restL=@Eng.restL:=by unfold R.restL Eng.restL;rw[asHas_eq];rfl
theorem sameL_eq:@R.sameL=@Eng.sameL:=by unfold R.sameL Eng.sameL;rw[mLB_eq,asHas_eq];rfl
theorem ltK_agg(b:Nat):∀cs,R.ltK b (.agg cs)=R.ltKL b cs
 |[]=>rfl
 |x::r=>by
  show(match R.ltK b x with|true=>R.ltK b (.agg r)|false=>false)=_;rw[ltK_agg b r];rfl
theorem ltK_tup(b:Nat):∀cs,R.ltK b (.tup cs)=R.ltKL b cs
 |[]=>rfl
 |x::r=>by
  show(match R.ltK b x with|true=>R.ltK b (.tup r)|false=>false)=_;rw[ltK_tup b r];rfl
theorem ltK_fn(b:Nat)(f:FuncId):∀cs,R.ltK b (.fn f cs)=R.ltKL b cs
 |[]=>rfl
 |x::r=>by
  show(match R.ltK b x with|true=>R.ltK b (.fn f r)|false=>false)=_;rw[ltK_fn b f r];rfl
mutual
theorem ltK_e(b:Nat):∀x:SV,R.ltK b x=Eng.ltK b x
 |.agg cs=>(ltK_agg b cs).trans (ltKL_e b cs)
 |.tup cs=>(ltK_tup b cs).trans (ltKL_e b cs)
 |.fn f cs=>(ltK_fn b f cs).trans (ltKL_e b cs)
 |.v _=>rfl|.bb _=>rfl|.b _ _=>rfl|.lp _ _=>rfl|.own _=>rfl|.el _ _=>rfl|.yl _=>rfl|.vw _ _ _ _ _=>rfl|.lq _=>rfl|.ls _ _=>rfl|.mr _=>rfl|.bad=>rfl
theorem ltKL_e(b:Nat):∀l,R.ltKL b l=Eng.ltKL b l
 |[]=>rfl
 |x::r=>by
  show(match R.ltK b x with|true=>R.ltKL b r|false=>false)=(match Eng.ltK b x with|true=>Eng.ltKL b r|false=>false);rw[ltK_e b x,ltKL_e b r]
end
theorem ltK_eq:@R.ltK=@Eng.ltK:=by funext b x;exact ltK_e b x
theorem ltKL_eq:@R.ltKL=@Eng.ltKL:=by funext b x;exact ltKL_e b x
theorem ltF_eq:@R.ltF=@Eng.ltF:=by unfold R.ltF Eng.ltF;rw[ltK_eq];rfl
theorem ltLL_eq:@R.ltLL=@Eng.ltLL:=by unfold R.ltLL Eng.ltLL;rw[ltKL_eq];rfl
theorem hidFree_eq:@R.hidFree=@Eng.hidFree:=by
 funext ags L
 induction L with
 |nil=>rfl
 |cons p r ih=>
  obtain⟨k,x⟩:=p
  cases x with
  |dfr=>
   show(match R.asHas ags k with|true=>false|false=>R.hidFree ags r)=(match Eng.asHas ags k with|true=>false|false=>Eng.hidFree ags r);rw[asHas_eq,ih]
  |_=>exact ih
theorem rK_eq:@R.rK=@Eng.rK:=by
 funext ags nk k K;unfold R.rK Eng.rK;rw[asGet_eq];rfl
theorem rSV_agg(ags:As)(nk:Nat):∀(l:List SV) (K:SV→Prop),R.rSV ags nk (.agg l) K=R.rSVL ags nk l λl=>K (.agg l)
 |[],_=>rfl
 |x::r,K=>by
  show R.rSV ags nk x (λy=>R.rSV ags nk (.agg r) λz=>match z with|.agg s=>K (.agg (y::s))|_=>False)=R.rSV ags nk x λy=>R.rSVL ags nk r λs=>K (.agg (y::s));congr 1;funext y;rw[rSV_agg ags nk r]
theorem rSV_tup(ags:As)(nk:Nat):∀(l:List SV) (K:SV→Prop),R.rSV ags nk (.tup l) K=R.rSVL ags nk l λl=>K (.tup l)
 |[],_=>rfl
 |x::r,K=>by
  show R.rSV ags nk x (λy=>R.rSV ags nk (.tup r) λz=>match z with|.tup s=>K (.tup (y::s))|_=>False)=R.rSV ags nk x λy=>R.rSVL ags nk r λs=>K (.tup (y::s));congr 1;funext y;rw[rSV_tup ags nk r]
theorem rSV_fn(ags:As)(nk:Nat)(f:FuncId):∀(l:List SV) (K:SV→Prop),R.rSV ags nk (.fn f l) K=R.rSVL ags nk l λl=>K (.fn f l)
 |[],_=>rfl
 |x::r,K=>by
  show R.rSV ags nk x (λy=>R.rSV ags nk (.fn f r) λz=>match z with|.fn _ s=>K (.fn f (y::s))|_=>False)=R.rSV ags nk x λy=>R.rSVL ags nk r λs=>K (.fn f (y::s));congr 1;funext y;rw[rSV_fn ags nk f r]
mutual
theorem rSV_e(ags:As)(nk:Nat):∀(x:SV) (K:SV→Prop),R.rSV ags nk x K=Eng.rSV ags nk x K
 |.agg l,K=>by rw[rSV_agg,rSVL_e ags nk l];rfl
 |.tup l,K=>by rw[rSV_tup,rSVL_e ags nk l];rfl
 |.fn f l,K=>by rw[rSV_fn,rSVL_e ags nk l];rfl
 |.lp k o,K=>by show R.rK ags nk k _=_;rw[rK_eq];rfl
 |.own k,K=>by show R.rK ags nk k _=_;rw[rK_eq];rfl
 |.yl k,K=>by show R.rK ags nk k _=_;rw[rK_eq];rfl
 |.vw k _ _ _ _,K=>by show R.rK ags nk k _=_;rw[rK_eq];rfl
 |.lq k,K=>by show R.rK ags nk k _=_;rw[rK_eq];rfl
 |.ls k n,K=>by show R.rK ags nk k _=_;rw[rK_eq];rfl
 |.mr k,K=>by show R.rK ags nk k _=_;rw[rK_eq];rfl
 |.v _,_=>rfl|.bb _,_=>rfl|.b _ _,_=>rfl|.el _ _,_=>rfl|.bad,_=>rfl
theorem rSVL_e(ags:As)(nk:Nat):∀(l:List SV) (K:List SV→Prop),R.rSVL ags nk l K=Eng.rSVL ags nk l K
 |[],_=>rfl
 |x::r,K=>by
  show R.rSV ags nk x (λy=>R.rSVL ags nk r λs=>K (y::s))=Eng.rSV ags nk x (λy=>Eng.rSVL ags nk r λs=>K (y::s));rw[rSV_e ags nk x];congr 1;funext y;exact rSVL_e ags nk r _
end
theorem rSV_eq:@R.rSV=@Eng.rSV:=by funext ags nk x K;exact rSV_e ags nk x K
theorem rSVL_eq:@R.rSVL=@Eng.rSVL:=by funext ags nk x K;exact rSVL_e ags nk x K
theorem rLB_eq:@R.rLB=@Eng.rLB:=by
 funext ags nk x K;unfold R.rLB Eng.rLB;rw[rSVL_eq];rfl
theorem rLL_eq:@R.rLL=@Eng.rLL:=by
 funext ags nk l rest K
 induction l generalizing K with
 |nil=>rfl
 |cons p r ih=>
  obtain⟨k,x⟩:=p;have ih':R.rLL ags nk r rest=λK=>Eng.rLL ags nk r rest K:=funext ih;show R.rK ags nk k (λj=>R.rLB ags nk x λy=>R.rLL ags nk r rest λs=>K ((j,y)::s))=Eng.rK ags nk k (λj=>Eng.rLB ags nk x λy=>Eng.rLL ags nk r rest λs=>K ((j,y)::s));rw[ih',rK_eq,rLB_eq]
theorem asLt_eq:@R.asLt=@Eng.asLt:=by
 funext m nk l
 induction l with
 |nil=>rfl
 |cons p r ih=>
  obtain⟨k,j⟩:=p;show(match Nat.blt k m,Nat.blt j nk with|true,true=>R.asLt m nk r|_,_=>false)=_;rw[ih];rfl
theorem roFree_eq:@R.roFree=@Eng.roFree:=by
 funext ags l
 induction l with
 |nil=>rfl
 |cons k r ih=>
  show(match R.asHas ags k with|true=>false|false=>R.roFree ags r)=(match Eng.asHas ags k with|true=>false|false=>Eng.roFree ags r);rw[ih,asHas_eq]
theorem callC_eq:@R.callC=@Eng.callC:=by
 funext s n0 nk q fr L args K;unfold R.callC Eng.callC;simp only[ltF_eq,ltLL_eq,mA_eq,mLL_eq,asLt_eq,roFree_eq,hidFree_eq,rLL_eq,restL_eq,rSV_eq];rfl
theorem newK_eq:@R.newK=@Eng.newK:=by
 funext n0 key fr L lb K;unfold R.newK Eng.newK;rw[hasF_eq,hasLL_eq];rfl
theorem oneL_eq:@R.oneL=@Eng.oneL:=by
 funext l
 induction l with
 |nil=>rfl
 |cons x r ih=>
  cases x with
  |v y=>cases y<;>first|rfl|exact ih
  |_=>first|rfl|exact ih
theorem oneVL_eq:@R.oneVL=@Eng.oneVL:=by
 funext l
 induction l with
 |nil=>rfl
 |cons x r ih=>cases x<;>first|rfl|exact ih
theorem boxCells_eq:@R.boxCells=@Eng.boxCells:=by
 funext T t x K;unfold R.boxCells Eng.boxCells;rw[oneL_eq];rfl
theorem elemPl_eq:@R.elemPl=@Eng.elemPl:=by
 funext sz e n i
 induction n generalizing i with
 |zero=>rfl
 |succ n ih=>exact congrArg ((i*sz,e) :: ·) (ih (i+1))
theorem repl_eq:@R.repl=@Eng.repl:=by
 funext n l
 induction n with
 |zero=>rfl
 |succ n ih=>exact congrArg (l ++ ·) ih
theorem storeK_eq:@R.storeK=@Eng.storeK:=by
 funext T t p x L K;unfold R.storeK Eng.storeK;rw[boxCells_eq,yV,yW,toV_eq];rfl
theorem appK_eq:@R.appK=@Eng.appK:=by
 funext T q t n0 key s x fr L K;unfold R.appK Eng.appK R.appGo;rw[newK_eq];rfl
theorem appS_eq:@R.appS=@Eng.appS:=by
 funext T t u n0 key s x fr L K;unfold R.appS Eng.appS;rw[newK_eq];rfl
theorem makeK_eq:@R.makeK=@Eng.makeK:=by
 funext T t n0 key l c fr L K;unfold R.makeK Eng.makeK;rw[newK_eq,oneVL_eq];rfl
theorem yGet_eq:@R.yGet=@Eng.yGet:=by
 funext Y k
 induction Y with
 |nil=>rfl
 |cons p r ih=>
  obtain⟨j,h⟩:=p;show(match Nat.beq j k with|true=>some h|false=>R.yGet r k)=(match Nat.beq j k with|true=>some h|false=>Eng.yGet r k);rw[ih]
theorem dLt_eq:@R.dLt=@Eng.dLt:=by
 funext b L
 induction L with
 |nil=>rfl
 |cons p r ih=>
  obtain⟨k,x⟩:=p
  cases x with
  |dfr=>
   show(match Nat.blt k b with|true=>R.dLt b r|false=>false)=(match Nat.blt k b with|true=>Eng.dLt b r|false=>false);rw[ih]
  |_=>exact ih
theorem nilF_eq:@R.nilF=@Eng.nilF:=by
 funext ts n0 nk fr L K
 induction ts generalizing nk fr L K with
 |nil=>rfl
 |cons p r ih=>
  obtain⟨t,o,e,sz⟩:=p
  cases sz with
  |zero=>rfl
  |succ sz=>
   have ih':R.nilF r n0=λnk fr L K=>Eng.nilF r n0 nk fr L K:=funext λnk=>funext λfr=>funext λL=>funext λK=>ih nk fr L K
   show (match nilAt fr t with
    |.v (.slice none 0 0)=>R.newK n0 nk fr L (.arr e (sz+1) 0 []) λL=>fN (nk+1) λnk1=>R.nilF r n0 nk1 (setF fr t (.own nk)) L K
    | .lp k _=>(match getL L k with
     | some (.cells T cs)=>(match nth cs o with
      |some (.v (.slice none 0 0))=>R.newK n0 nk fr L (.arr e (sz+1) 0 []) λL=>fLL (setL L k (.cells T (R.setN cs o (.own nk)))) λL=>fN (nk+1) λnk1=>R.nilF r n0 nk1 fr L K
      | _=>R.nilF r n0 nk fr L K)
     | _=>R.nilF r n0 nk fr L K)
    | _=>R.nilF r n0 nk fr L K)=_
   rw[ih',newK_eq,setN_eq];rfl
theorem effK_eq:@R.effK=@Eng.effK:=by
 funext E inl Y wr n0 N key dst op nk q fr L K;unfold R.effK Eng.effK;rw[valL_eq,newK_eq,boxCells_eq,hasL_eq,partsK_eq,elemPl_eq,repl_eq,toVL_eq,oneVL_eq,makeK_eq,storeK_eq,calmK_eq,opvs_eq,appK_eq,appS_eq,findS_eq,findC_eq,callC_eq,ltF_eq,dLt_eq,yGet_eq,nilF_eq];rfl
theorem vcOps1_eq:@R.vcOps1=@Eng.vcOps1:=by
 funext E inl Y wr n0 N all o ih key nk q fr L K;unfold R.vcOps1 Eng.vcOps1;rw[effK_eq];obtain⟨dst,op,ty,pos,af,guard⟩:=o
 cases guard with
 |none=>rfl
 |some g=>
  obtain⟨j,want⟩:=g;dsimp only
  cases dstOf all j with
  |none=>rfl
  |some t=>
   dsimp only
   cases get fr t with
   |v x=>cases x<;>rfl
   |bb b=>cases b<;>cases want<;>rfl
   |b p d=>cases want<;>rfl
   |_=>rfl
theorem vcOps_eq:@R.vcOps=@Eng.vcOps:=by unfold R.vcOps Eng.vcOps;rw[vcOps1_eq]
theorem calmOnly_eq:@R.calmOnly=@Eng.calmOnly:=by
 funext T Γ Δ l
 induction l with
 |nil=>rfl
 |cons o r ih=>
  show calmOnly1 T Γ Δ o (R.calmOnly T Γ Δ r)=_;rw[ih];unfold calmOnly1;rw[findS_eq,findC_eq];rfl
theorem firstReg_eq:@R.firstReg=@Eng.firstReg:=by
 funext c
 induction c with
 |seq a b iha ihb=>
  show(match R.firstReg a with|some x=>some x|none=>R.firstReg b)=(match Eng.firstReg a with|some x=>some x|none=>Eng.firstReg b);rw[iha,ihb]
 |cond c a b iha ihb=>
  show(match R.firstReg a with|some x=>some x|none=>R.firstReg b)=(match Eng.firstReg a with|some x=>some x|none=>Eng.firstReg b);rw[iha,ihb]
 |block _ a ih=>exact ih
 |loop a ih=>exact ih
 |scope a ih=>exact ih
 |_=>rfl
theorem hasKey_eq:@R.hasKey=@Eng.hasKey:=by
 funext k L
 induction L with
 |nil=>rfl
 |cons p r ih=>
  obtain⟨u,x⟩:=p;show(match Nat.beq u k with|true=>true|false=>R.hasKey k r)=(match Nat.beq u k with|true=>true|false=>Eng.hasKey k r);rw[ih]
theorem keysOk_eq:@R.keysOk=@Eng.keysOk:=by
 funext lo hi L
 induction L with
 |nil=>rfl
 |cons p r ih=>
  obtain⟨u,x⟩:=p;show(match Nat.ble lo u,Nat.blt u hi,R.hasKey u r with|true,true,false=>R.keysOk lo hi r|_,_,_=>false)=_;rw[ih,hasKey_eq];rfl
theorem dfrIn_eq:@R.dfrIn=@Eng.dfrIn:=by
 funext rest L
 induction L with
 |nil=>rfl
 |cons p r ih=>
  obtain⟨k,x⟩:=p
  cases x with
  |dfr=>
   show(match R.hasKey k rest with|true=>R.dfrIn rest r|false=>false)=(match Eng.hasKey k rest with|true=>Eng.dfrIn rest r|false=>false);rw[ih,hasKey_eq]
  |_=>exact ih
theorem loopRound_eq:@R.loopRound=@Eng.loopRound:=by
 funext I n0 nk q kf rest body K q1;unfold R.loopRound Eng.loopRound;simp only[keysOk_eq,ltF_eq,ltLL_eq,nilF_eq,mFr_eq,mLL_eq,sameL_eq,dfrIn_eq];rfl
theorem loopK_eq:@R.loopK=@Eng.loopK:=by
 funext I n0 nk q fr L body K;unfold R.loopK Eng.loopK;simp only[ltF_eq,ltLL_eq,nilF_eq,mFr_eq,mLL_eq,restL_eq,hidFree_eq,loopRound_eq];rfl
theorem cutNext_eq:@R.cutNext=@Eng.cutNext:=by
 funext I base kf rest vb q1;unfold R.cutNext Eng.cutNext;simp only[keysOk_eq,ltF_eq,ltLL_eq];rfl
theorem cutK_eq:@R.cutK=@Eng.cutK:=by
 funext I n0 q fr va vb K;unfold R.cutK Eng.cutK;simp only[ltF_eq,ltLL_eq,nilF_eq,mFr_eq,mLL_eq,sameL_eq,dfrIn_eq,cutNext_eq];rfl
theorem putsF_eq:@R.putsF=@Eng.putsF:=by
 funext ps xs N fr K
 induction ps generalizing xs fr K with
 |nil=>cases xs<;>rfl
 |cons p r ih=>
  cases xs with
  |nil=>rfl
  |cons x xs=>
   show(match Nat.blt p N with|true=>R.putsF r xs N ((p,x)::fr) K|false=>False)=(match Nat.blt p N with|true=>Eng.putsF r xs N ((p,x)::fr) K|false=>False);rw[ih]
theorem roundK_eq:@R.roundK=@Eng.roundK:=by
 funext va vb N nk ps fr args nk1 q L K1;unfold R.roundK Eng.roundK;simp only[putsF_eq];rfl
theorem vcR_eq:@R.vcR=@Eng.vcR:=by
 funext E inl f wr N c;unfold R.vcR Eng.vcR;rw[vcOps_eq,calmOnly_eq,firstReg_eq,cutK_eq,loopK_eq,ltF_eq,ltLL_eq,roundK_eq,calmK_eq,effK_eq];rfl
theorem vcC_eq:@R.vcC=@Eng.vcC:=by
 funext E inl f wr n0 N c Y ro nk q fr L K;unfold R.vcC Eng.vcC;rw[vcR_eq]
theorem resK_eq:@R.resK=@Eng.resK:=by
 funext T q rs fr L K
 induction rs generalizing K with
 |nil=>rfl
 |cons x r ih=>
  have ih':R.resK T q r fr L=λK=>Eng.resK T q r fr L K:=funext ih
  cases x with
  |tmp t=>
   show fSV (get fr t) (λx=>R.resK T q r fr L λl=>K (x::l))=_;rw[ih'];rfl
  |cell t ty=>
   show R.loadK T q L ty (get fr t) (λx=>R.resK T q r fr L λl=>K (x::l))=_;rw[ih',loadK_eq];rfl
theorem dropA_eq:@R.dropA=@Eng.dropA:=by
 funext b L0 L
 induction L with
 |nil=>rfl
 |cons p r ih=>
  obtain⟨k,x⟩:=p
  show (match Nat.ble b k with
  |true=>(match getL L0 k with|some .dfr=>R.dropA b L0 r|_=>(k,x)::R.dropA b L0 r)
  | false=>(k,x)::R.dropA b L0 r)=_
  rw[ih];rfl
theorem retE_eq:@R.retE=@Eng.retE:=by
 funext T b rs K e;cases e<;>(unfold R.retE Eng.retE Eng.dropD;simp only[dropA_eq,resK_eq])
theorem argF_eq:@R.argF=@Eng.argF:=by
 funext args i
 induction args generalizing i with
 |nil=>rfl
 |cons x r ih=>exact congrArg ((i,x) :: ·) (ih (i+1))
theorem vcN_e(E:Env):∀n,R.vcN E n=Eng.vcN E n
 |0=>rfl
 |n+1=>by
  funext Y f args nk q L K
  show (match E.FT.get f with
  |none=>False
  | some fn=>(match fn.body with
   |none=>False
   | some c=>(match Nat.ble args.length fn.ntmps with
    |false=>False
    | true=>fFr (R.argF args 0) fun fr=>R.vcC E (R.vcN E n) f (E.wr f) nk fn.ntmps c Y none nk q fr L (R.retE E.T nk fn.results.toList K))))=_
  rw[vcN_e E n,argF_eq,vcC_eq,retE_eq];rfl
theorem vcN_eq:@R.vcN=@Eng.vcN:=by funext E n;exact vcN_e E n
end Go.Eng.R
namespace Go.Eng
open Go Go.RowKit
section
def zf{α:Type}(x:Option α)(Φ:α→Prop):Prop:=∃a,x=some a∧Φ a
def ck(p:Prop)[Decidable p]{α:Type}(e:Option α):Option α:=if p then e else none
def jn{α β:Type}(A:(β→Option α)→Option α)(k:β→Option α):Option α:=A k
def sm{α β γ:Type}(o:α ⊕ β)(f:α→γ)(g:β→γ):γ:=match o with|.inl a=>f a|.inr b=>g b
inductive St1 (σ ρ:Type) where
 |go (s:σ)
 |out (r:ρ)
def iter{σ ρ:Type}(step:σ→Option (St1 σ ρ)):Nat→σ→Option ρ
 |0,_=>none
 |n+1,s=>match step s with
  |none=>none
  |some (.go s')=>iter step n s'
  |some (.out r)=>some r
open Classical in
noncomputable def y7{σ ρ:Type}(step:σ→Option (St1 σ ρ))(s:σ):Option ρ:=
 if h:∃r,∃n,iter step n s=some r then some (Classical.choose h) else none
section
variable {σ ρ α β:Type}{step:σ→Option (St1 σ ρ)}{s:σ}
theorem iter_more:∀{n:Nat}{s:σ}{r:ρ}(m:Nat),iter step n s=some r→iter step (n+m) s=some r
 |0,_,_,_,h=>by simp[iter] at h
 |n+1,s,r,m,h=>by
  rw[Nat.add_right_comm];simp only[iter] at h ⊢;split at h
  ·cases h
  ·exact iter_more m h
  exact h
theorem iter_one{n m:Nat}{r r':ρ}(h:iter step n s=some r)(h':iter step m s=some r'):r=r':=by
 have h1:=iter_more m h;have h2:=iter_more n h';rw[Nat.add_comm] at h2;rw[h1] at h2;exact Option.some.inj h2
theorem loopO_iff{r:ρ}:y7 step s=some r↔∃n,iter step n s=some r:=by
 unfold y7;constructor
 ·intro h;split at h
  ·rename_i hex;have:=Classical.choose_spec hex;cases h;exact this
  cases h
 rintro⟨n,hn⟩;have hex:∃r,∃n,iter step n s=some r:=⟨r,n,hn⟩;rw[dif_pos hex];obtain⟨m,hm⟩:=Classical.choose_spec hex;rw[iter_one hm hn]
theorem loopO_eq:y7 step s=match step s with
  |none=>none
  |some (.go s')=>y7 step s'
  |some (.out r)=>some r:=by
 apply Option.ext;intro r;rw[loopO_iff];split
 ·rename_i e;constructor
  ·rintro⟨n,hn⟩
   cases n with
   |zero=>simp[iter] at hn
   |succ n=>simp[iter,e] at hn
  intro h;cases h
 ·rename_i s' e;rw[loopO_iff];constructor
  ·rintro⟨n,hn⟩
   cases n with
   |zero=>simp[iter] at hn
   |succ n=>exact⟨n,by simpa[iter,e] using hn⟩
  rintro⟨n,hn⟩;exact⟨n+1,by simpa[iter,e] using hn⟩
 rename_i r' e;constructor
 ·rintro⟨n,hn⟩
  cases n with
  |zero=>simp[iter] at hn
  |succ n=>simpa[iter,e] using hn
 intro h;exact⟨1,by simpa[iter,e] using h⟩
theorem loopO_go{s':σ}(h:step s=some (.go s')):y7 step s=y7 step s':=by rw[loopO_eq,h]
theorem loopO_out{r:ρ}(h:step s=some (.out r)):y7 step s=some r:=by rw[loopO_eq,h]
theorem loopO_rel{Q:σ→Prop}{R:ρ→Prop}(μ:σ→Nat)(h:∀s,Q s→(∃r,step s=some (.out r)∧R r)∨∃s',step s=some (.go s')∧Q s'∧μ s'<μ s):∀s,Q s→∃r,y7 step s=some r∧R r:=by
 have:∀n,∀s,Q s→μ s=n→∃r,y7 step s=some r∧R r:=by
  intro n
  induction n using Nat.strongRecOn with
  |_ n ih=>
   intro s hs hn;rcases h s hs with ⟨r,h1,h2⟩|⟨s',h1,h2,h3⟩
   ·exact⟨r,loopO_out h1,h2⟩
   rw[loopO_go h1];exact ih _ ws s' h2 rfl
 exact λs hs=>this _ s hs rfl
def IG(step:σ→Option (St1 σ ρ))(Φ:ρ→Prop):Nat→σ→Prop
 |0,_=>False
 |n+1,s=>zf (step s) λx=>match x with|.go s'=>IG step Φ n s'|.out r=>Φ r
def stp(step:σ→Option (St1 σ ρ))(Φ:ρ→Prop)(n:Nat)(x:St1 σ ρ):Prop:=
 match x with
 |.go s'=>IG step Φ n s'
 |.out r=>Φ r
theorem IG_of{Φ:ρ→Prop}:∀{n:Nat}{s:σ}{r:ρ},iter step n s=some r→Φ r→IG step Φ n s
 |0,_,_,h,_=>by simp[iter] at h
 |n+1,s,r,h,hr=>by
  simp only[iter] at h;split at h
  ·cases h
  ·rename_i s' e;exact⟨_,e,IG_of h hr⟩
  rename_i r' e;cases h;exact⟨_,e,hr⟩
theorem zO{Φ:ρ→Prop}{m:Nat}{s:σ}(h:IG step Φ m s):∃n,m=n+1∧zf (step s) (stp step Φ n):=by
 cases m with
 |zero=>exact h.elim
 |succ n=>exact⟨n,rfl,h⟩
theorem loop_st{Φ:ρ→Prop}(H:zf (y7 step s) Φ):∃n,IG step Φ n s:=by
 obtain⟨r,h,hr⟩:=H;obtain⟨n,hn⟩:=loopO_iff.1 h;exact⟨n,IG_of hn hr⟩
theorem zw{a:α}{Φ:α→Prop}(H:zf (some a) Φ):Φ a:=by
 obtain⟨b,h,hb⟩:=H;cases h;exact hb
theorem zo{a r:α}(H:zf (some a) λb=>b=r):a=r:=zw (Φ:=λb=>b=r) H
theorem zN{x:Option β}{f:β→Option α}{Φ:α→Prop}(H:zf (x.bind f) Φ):zf x λa=>zf (f a) Φ:=by
 obtain⟨b,h,hb⟩:=H
 cases x with
 |none=>cases h
 |some a=>exact⟨a,rfl,b,h,hb⟩
theorem za{x:Option β}{f:β→Option α}{Φ:α→Prop}(H:zf (x.bind f) Φ):∃a,x=some a∧zf (f a) Φ:=zN H
theorem ck_st{p:Prop}{_:Decidable p}{e:Option α}{Φ:α→Prop}(H:zf (ck p e) Φ):p∧zf e Φ:=by
 unfold ck at H;by_cases h:p
 ·rw[if_pos h] at H;exact⟨h,H⟩
 rw[if_neg h] at H;obtain⟨_,h,_⟩:=H;cases h
theorem none_st{α:Type}{Φ:α→Prop}(H:zf (none:Option α) Φ):False:=by
 obtain⟨a,h,_⟩:=H;cases h
theorem zr{p:Prop}{_:Decidable p}{e:Option α}{Φ:α→Prop}{G:Prop}(H:zf (ck p e) Φ)(k:p→zf e Φ→G):Ob p∧G:=⟨⟨(ck_st H).1⟩,k (ck_st H).1 (ck_st H).2⟩
theorem zb{p:Prop}{_:Decidable p}{a b:Option α}{Φ:α→Prop}{G1 G2:Prop}(H:zf (if p then a else b) Φ)(k1:p→zf a Φ→G1)(k2:¬p→zf b Φ→G2):(p→G1)∧(¬p→G2):=by
 refine⟨λh=>k1 h ?_,λh=>k2 h ?_⟩
 ·rwa [if_pos h] at H
 rwa [if_neg h] at H
theorem loop_fam{Φ:ρ→Prop}(H:zf (y7 step s) Φ)(keep:List Nat)(nils:List (Nat×Nat×Nat×Nat))(fr:Nat→σ→Fr)(L:Nat→σ→LL)(keys:Nat){n0 nk:Nat}{q:PH}{fr0:Fr}{L0:LL}{body:Nat→PH→Fr→LL→Ke→Prop}{K:Ke}
  (h:∀n,IG step Φ n s→loopK { ι:=Nat×σ,keep:=keep,nils:=nils,fr:=λb i=>fr b i.2,L:=λb i=>L b i.2,keys:=keys,ok:=λi=>IG step Φ i.1 i.2,μ:=λi=>i.1 } n0 nk q fr0 L0 body K):∃I:Inv,loopK I n0 nk q fr0 L0 body K:=by
 obtain⟨n,hn⟩:=loop_st H;exact⟨_,h n hn⟩
theorem cut_fam{A:(β→Option α)→Option α}{k:β→Option α}{Φ:α→Prop}(H:zf (jn A k) Φ)(base:Nat)(keep:List Nat)(nils:List (Nat×Nat×Nat×Nat))(fr:β→Fr)(L:β→LL)(rest:LL)(keys:Nat){n0:Nat}{q:PH}{fr0:Fr}{va:Ke→Prop}{vb:Nat→PH→Fr→LL→Prop}{K:Ke}
  (h:zf (A k) Φ→cutK { ι:=β,base:=base,keep:=keep,nils:=nils,fr:=fr,L:=L,rest:=rest,keys:=keys,ok:=λ_ j=>zf (k j) Φ } n0 q fr0 va vb K):∃I:Cut,cutK I n0 q fr0 va vb K:=⟨_,h H⟩
end
def gmin(a b:Int):Int:=if b<a then b else a
def gmax(a b:Int):Int:=if b>a then b else a
def ei(k:IntKind)(l:List Int):List Value:=l.map (Value.int k)
def eb(l:List Bool):List Value:=l.map Value.bool
def es(l:List ByteArray):List Value:=l.map Value.string
def ec{α:Type}(c:α→List Value)(l:List α):List Value:=l.flatMap c
def bS(b:Bool):SV:=.b (b=true) (instDecidableEqBool b true)
instance inR_dec (k:IntKind) (n:Int):Decidable (inR k n):=by cases k<;>(unfold inR;infer_instance)
theorem ei_len{k:IntKind}{l:List Int}:(ei k l).length=l.length:=by simp[ei]
theorem es_len{l:List ByteArray}:(es l).length=l.length:=by simp[es]
theorem ec_len{α:Type}{c:α→List Value}{sz:Nat}(hc:∀a,(c a).length=sz):∀{l:List α},(ec c l).length=l.length*sz
 |[]=>by simp[ec]
 |x::r=>by
  have:=ec_len hc (l:=r);simp only[ec] at this;simp only[ec,List.flatMap_cons,List.length_append,List.length_cons,this,hc,Nat.succ_mul];omega
theorem ei0{k:IntKind}{l:List Int}(h:(ei k l).length=0):l.length=0:=ei_len.symm.trans h
theorem es0{l:List ByteArray}(h:(es l).length=0):l.length=0:=es_len.symm.trans h
theorem ec0{α:Type}{c:α→List Value}{sz:Nat}(hc:∀a,(c a).length=sz)(hs:0<sz){l:List α}(h:(ec c l).length=0):l.length=0:=by
 rw[ec_len hc] at h;rcases Nat.mul_eq_zero.1 h with h|h
 ·exact h
 omega
theorem w6{α:Type}[Inhabited α]{c:α→List Value}{sz:Nat}(hc:∀a,(c a).length=sz):∀{l:List α}{i o:Nat},i<l.length→o<sz→(ec c l)[i*sz+o]?=(c (l.getD i default))[o]?
 |[],i,o,h,_=>by simp at h
 |x::r,0,o,h,ho=>by
  simp only[ec,List.flatMap_cons,Nat.zero_mul,Nat.zero_add];rw[List.getElem?_append_left (by rw[hc];exact ho)];rfl
 |x::r,i+1,o,h,ho=>by
  have:=w6 hc (l:=r) (i:=i) (o:=o) wX ho;simp only[ec] at this;simp only[ec,List.flatMap_cons];rw[List.getElem?_append_right vh,hc];have e:(i+1)*sz+o-sz=i*sz+o:=by rw[Nat.succ_mul];omega
  rw[e,this];rfl
theorem xB{k:IntKind}{l:List Int}{i:Nat}(h:i<l.length):(ei k l)[i]?=some (.int k (l.getD i 0)):=by simp[ei,h]
theorem es_get{l:List ByteArray}{i:Nat}(h:i<l.length):(es l)[i]?=some (.string (l.getD i default)):=by simp[es,h]
theorem ei_one{k:IntKind}{l:List Int}:∀y∈ei k l,y.oneCell'=true:=by simp[ei,Value.oneCell']
theorem ec_one{α:Type}{c:α→List Value}(hc:∀a,∀y∈c a,y.oneCell'=true){l:List α}:∀y∈ec c l,y.oneCell'=true:=by
 intro y hy;simp only[ec,List.mem_flatMap] at hy;obtain⟨a,_,h⟩:=hy;exact hc a y h
theorem yu{g:Option Value}{k:IntKind}{e:Int}{G:Int→Prop}(hv:g=some (.int k e))(h:G e):Ob (∃x,g=some (.int k x))∧∀x,g=some (.int k x)→G x:=
 ⟨⟨e,hv⟩,λx hx=>by rw[hv] at hx;cases hx;exact h⟩
theorem ld_str{g:Option Value}{e:ByteArray}{G:ByteArray→Prop}(hv:g=some (.string e))(h:G e):Ob (∃x,g=some (.string x))∧∀x,g=some (.string x)→G x:=
 ⟨⟨e,hv⟩,λx hx=>by rw[hv] at hx;cases hx;exact h⟩
theorem yr{q:PH}{A:Option Addr}{xs:List Value}{j:Nat}{v:Value}(hR:Reads q A xs)(h:xs[j]?=some v):rd q A j=some v:=(hR j (List.getElem?_eq_some_iff.1 h).1).trans h
theorem own_get{xs ys:List Value}{j:Nat}{v:Value}(he:xs=ys)(h:ys[j]?=some v):xs[j]?=some v:=by rw[he];exact h
theorem tn{i:Int}{n:Nat}(h:0≤i∧i<(n:Int)):i.toNat<n:=by omega
theorem ob_ix{α:Type}{Φ:α→Prop}{q:PH}{A:Option Addr}{xs:List Value}{n:Nat}{i:Int}{e:Option α}{G:Prop}(hR:Reads q A xs)(hl:xs.length=0→n=0)(H:zf (ck (0≤i∧i<(n:Int)) e) Φ)(k:(0≤i∧i<(n:Int))→zf e Φ→G):
  Ob (0≤i∧i<(n:Int)∧A≠none)∧G:=by
 obtain⟨h,H⟩:=ck_st H;refine⟨⟨h.1,h.2,rd_nn hR ?_⟩,k h H⟩
 cases hx:xs.length with
 |zero=>have:=hl hx;omega
 |succ _=>omega
theorem ob_sl{α:Type}{Φ:α→Prop}{n c:Nat}{l h:Int}{e:Option α}{G:Prop}(hc:n≤c)(H:zf (ck (0≤l∧l≤h∧h≤(n:Int)) e) Φ)(k:(0≤l∧l≤h∧h≤(n:Int))→zf e Φ→G):
  Ob (0≤l∧l≤h∧h≤(c:Int))∧G:=by
 obtain⟨h1,H⟩:=ck_st H;exact⟨⟨h1.1,h1.2.1,by omega⟩,k h1 H⟩
theorem xq{α:Type}{Φ:α→Prop}{n m byt:Nat}{ys:List Value}{e:Option α}{G:Prop}(hb:1≤byt)(hy:∀y∈ys,y.oneCell'=true)(H:zf (ck ((n+m)*byt≤140737488355328) e) Φ)(k:(n+m)*byt≤140737488355328→zf e Φ→G):
  Ob (n+m≤9223372036854775807∧(n+m)*byt≤140737488355328∧∀y∈ys,y.oneCell'=true)∧G:=by
 obtain⟨h1,H⟩:=ck_st H;have:(n+m)*1≤(n+m)*byt:=Nat.mul_le_mul_left _ hb;exact⟨⟨by omega,h1,hy⟩,k h1 H⟩
theorem sl_ei{q:PH}{A:Option Addr}{k:IntKind}{xs:List Int}{n c:Nat}{l h:Int}(hR:Reads q A (ei k xs))(hl:xs.length=n)(hc:n≤c)(h1:0≤l∧l≤h∧h≤(n:Int)):
  Reads q (if c=l.toNat then A else A.map (·.add l.toNat)) (ei k ((xs.drop l.toNat).take (h.toNat-l.toNat)))∧((xs.drop l.toNat).take (h.toNat-l.toNat)).length=h.toNat-l.toNat∧h.toNat-l.toNat≤c-l.toNat:=by
 refine⟨?_,by simp;omega,by omega⟩;have e:ei k ((xs.drop l.toNat).take (h.toNat-l.toNat))=((ei k xs).drop l.toNat).take (h.toNat-l.toNat):=by simp[ei,List.map_take,List.map_drop]
 rw[e];exact hR.cut ws
theorem ec_drop{α:Type}{c:α→List Value}{sz:Nat}(hc:∀a,(c a).length=sz):∀{l:List α}{n:Nat},(ec c l).drop (n*sz)=ec c (l.drop n)
 |l,0=>by simp
 |[],n+1=>by simp[ec]
 |x::r,n+1=>by
  have:=ec_drop hc (l:=r) (n:=n);simp only[ec] at this;simp only[ec,List.flatMap_cons,List.drop_succ_cons,←this];rw[List.drop_append,hc,List.drop_eq_nil_of_le vh];have e:(n+1)*sz-sz=n*sz:=by rw[Nat.succ_mul];omega
  rw[e];simp
theorem ec_take{α:Type}{c:α→List Value}{sz:Nat}(hc:∀a,(c a).length=sz):∀{l:List α}{n:Nat},(ec c l).take (n*sz)=ec c (l.take n)
 |l,0=>by simp[ec]
 |[],n+1=>by simp[ec]
 |x::r,n+1=>by
  have:=ec_take hc (l:=r) (n:=n);simp only[ec] at this;simp only[ec,List.flatMap_cons,List.take_succ_cons,←this];rw[List.take_append,hc,List.take_of_length_le vh];have e:(n+1)*sz-sz=n*sz:=by rw[Nat.succ_mul];omega
  rw[e]
theorem rs_st{q:PH}{A:Option Addr}{xs:List Value}{n sz:Nat}{G:List Value→Prop}(hR:Reads q A xs)(hn:xs.length=n*sz)(h:G xs):
  Ob (∃ys,ys.length=n*sz∧Reads q A ys)∧∀ys,ys.length=n*sz→Reads q A ys→G ys:=rs_both hR hn h
def inL(l:List (Nat×Nat))(f id:Nat):Bool:=
 match l with
 |[]=>false
 |(a,b)::r=>match Nat.beq a f,Nat.beq b id with|true,true=>true|_,_=>inL r f id
def lit(l:List UInt8):ByteArray:=⟨l.toArray⟩
def zW(l:List Int):ByteArray:=⟨(l.map λn=>UInt8.ofNat n.toNat).toArray⟩
def z6(s:ByteArray):List Int:=s.data.toList.map λc=>(c.toNat:Int)
def zx(l:List Int):Prop:=∀c∈l,0≤c∧c≤255
instance isBytes_dec (l:List Int):Decidable (zx l):=by unfold zx;infer_instance
theorem bv_bytes{l:List Int}(h:zx l):ei .u8 l=(l.map λn=>UInt8.ofNat n.toNat).map bv:=by
 simp only[ei,List.map_map];refine List.map_congr_left λc hc=>?_;have:=h c hc;simp only[Function.comp,bv,Value.int.injEq,true_and];rw[UInt8.toNat_ofNat'];omega
theorem bytes_bv{s:ByteArray}:s.data.toList.map bv=ei .u8 (z6 s):=by simp[ei,z6,bv,Function.comp_def]
theorem bv_inj':∀{a b:List UInt8},a.map bv=b.map bv→a=b
 |[],[],_=>rfl
 |x::a,y::b,h=>by
  simp only[List.map_cons,List.cons.injEq,bv,Value.int.injEq,true_and] at h;have e:x.toNat=y.toNat:=by omega
  rw[bv_inj' h.2,UInt8.toNat_inj.1 e]
 |[],_::_,h=>by cases h
 |_::_,[],h=>by cases h
theorem yI{α:Type}{Φ:α→Prop}{l:List Int}{e:Option α}{G:List UInt8→Prop}(H:zf (ck (zx l) e) Φ)(k:zx l→zf e Φ→G (l.map λn=>UInt8.ofNat n.toNat)):
  Ob (∃bs:List UInt8,ei .u8 l=bs.map bv)∧∀bs:List UInt8,ei .u8 l=bs.map bv→G bs:=by
 obtain⟨h,H⟩:=ck_st H;refine⟨⟨_,bv_bytes h⟩,λbs hb=>?_⟩;have:=bv_inj' (hb.symm.trans (bv_bytes h));subst this;exact k h H
theorem zq(s:ByteArray):(z6 s).length=s.size:=by simp[z6]
theorem xO{xs:List Int}{s:ByteArray}:xs.length+s.size=(xs++z6 s).length:=by rw[List.length_append,zq]
theorem ob_sb{α:Type}{Φ:α→Prop}{s:ByteArray}{e:Option α}{q:PH}{G:PH→Option Addr→Nat→Prop}(H:zf (ck (s.size≤140737488355328) e) Φ)
  (k:s.size≤140737488355328→zf e Φ→∀q' A c,q.le q'→s.size≤c→Reads q' A (ei .u8 (z6 s))→G q' A c) :
  Ob (s.size≤140737488355328)∧∀q' A c,q.le q'→s.size≤c→Reads q' A (s.data.toList.map bv)→G q' A c:=by
 obtain⟨h,H⟩:=ck_st H;exact⟨⟨h⟩,λq' A c h1 h2 h3=>k h H q' A c h1 h2 (bytes_bv▸h3)⟩
theorem ld_sl{g:Option Value}{A:Option Addr}{n c:Nat}{G:Option Addr→Nat→Nat→Prop}(hv:g=some (.slice A n c))(h:G A n c):Ob (∃A n c,g=some (.slice A n c))∧∀A n c,g=some (.slice A n c)→G A n c:=
 ⟨⟨A,n,c,hv⟩,λA' n' c' hx=>by rw[hv] at hx;cases hx;exact h⟩
theorem getD_mem{α:Type}[Inhabited α]{l:List α}{i:Nat}(h:i<l.length):l.getD i default∈l:=by
 rw[List.getD_eq_getElem?_getD,List.getElem?_eq_getElem h];exact List.getElem_mem h
theorem rds_mem{q:PH}:∀{l:List (Option Addr×List Value)},RdsOk q l→∀{x:Option Addr×List Value},x∈l→Reads q x.1 x.2
 |_::_,h,_,.head _=>h.1
 |_::_,h,_,.tail _ hx=>rds_mem h.2 hx
theorem ei_vw{k:IntKind}{xs:List Int}{lo m:Nat}:vwC (ei k xs) lo 1 m=ei k ((xs.drop lo).take m):=by simp only[vwC,ei,Nat.mul_one,List.map_take,List.map_drop]
theorem ei_app{k:IntKind}{xs ys:List Int}:ei k (xs++ys)=ei k xs++ei k ys:=by simp only[ei,List.map_append]
theorem ei_appS{xs:List Int}{s:ByteArray}:ei .u8 xs++s.data.toList.map bv=ei .u8 (xs++z6 s):=by rw[bytes_bv];exact ei_app.symm
theorem ec_app{α:Type}{c:α→List Value}{xs ys:List α}:ec c (xs++ys)=ec c xs++ec c ys:=by simp only[ec,List.flatMap_append]
end
end Go.Eng
namespace Go.Eng.R
open Go Go.Eng Go.RowKit
section
variable {P:Program}{w:World}{E:Env}
theorem law(hE:EnvOk P E)(d:Nat){f:Nat}{args:List SV}{vs:List Value}(hvs:okL S0 args vs)(h:R.vcN E d [] f args 0 (phOf w) [] (λr _ _ _=>Yes r)):
  Calls P f vs.toArray w λe w'=>e=.returned (.bool true)∧Below w.heap.size w w':=Eng.law hE d hvs (vcN_eq▸h)
def Is(val:SV)(r:SV):Prop:=R.mSV 0 val r [] λ_=>True
theorem Is_eq:@R.Is=@Eng.Is:=by unfold R.Is Eng.Is;rw[mSV_eq]
def resM(s:CS)(i:s.ι)(r:SV)(nk:Nat)(L:LL):Prop:=
 match s.res i,r with
 | .tup ts,.tup cs=>(match Nat.beq ts.length cs.length with
  |true=>R.nilF s.rn s.keys nk (R.argF cs 0) L λ_ fr L=>R.mFr s.keys (R.argF ts 0) fr [] λags=>R.mLL s.keys (s.L' i) L ags λ_=>True
  | false=>False)
 |t,r=>R.nilF s.rn s.keys nk [(0,r)] L λ_ fr L=>R.mFr s.keys [(0,t)] fr [] λags=>R.mLL s.keys (s.L' i) L ags λ_=>True
theorem resM_eq:@R.resM=@Eng.resM:=by
 unfold R.resM Eng.resM;rw[nilF_eq,argF_eq,mFr_eq,mLL_eq];rfl
theorem cspec{s : CS}{fn : Func}(hP : P.funcs[s.f]? = some fn)(hname : (fn.name == "runtime.NumGoroutine") = false)(hb : fn.body.isSome = true)
  (h:∀i,s.ok i→∀q,Eng.RdsOk q (s.rds i)→∀args,caArgs q (s.args i) args→∃E d,EnvOk P E ∧
   R.vcN E d [] s.f args s.keys q (s.L i) (fun r nk _ L'=>R.resM s i r nk L'))
  (hdef:∃g:s.γ,∀i,s.resG i g=s.res i∧s.LG i g=s.L' i∧s.okG i g∧s.rdsG i g=[]:=by exact⟨(),λ_=>⟨rfl,rfl,trivial,rfl⟩⟩):CSOk P s:=by
 rw[vcN_eq,resM_eq] at h;exact Eng.cspec hP hname hb h hdef
def resMG(s:CS)(i:s.ι)(r:SV)(nk:Nat)(q:PH)(L:LL):Prop:=
 match r with
 |.tup cs=>frzF s.fzr q (R.argF cs 0) L λq fr L=>R.nilF s.rn s.keys nk fr L λ_ fr L=>∃g,Ob (s.okG i g)∧Ob (Eng.RdsOk q (s.rdsG i g)) ∧
  (match s.resG i g with
  | .tup ts=>(match Nat.beq ts.length cs.length with
   |true=>R.mFr s.keys (R.argF ts 0) fr [] λags=>R.mLL s.keys (s.LG i g) L ags λ_=>True
   | false=>False)
  | _=>False)
 |r=>frzF s.fzr q [(0,r)] L λq fr L=>R.nilF s.rn s.keys nk fr L λ_ fr L=>∃g,Ob (s.okG i g)∧Ob (Eng.RdsOk q (s.rdsG i g))∧R.mFr s.keys [(0,s.resG i g)] fr [] λags=>R.mLL s.keys (s.LG i g) L ags λ_=>True
theorem resMG_eq:@R.resMG=@Eng.resMG:=by
 unfold R.resMG Eng.resMG;rw[nilF_eq,argF_eq,mFr_eq,mLL_eq];rfl
theorem cspecG{s : CS}{fn : Func}(hP : P.funcs[s.f]? = some fn)(hname : (fn.name == "runtime.NumGoroutine") = false)(hb : fn.body.isSome = true)(hgr : s.gr = true)(hw : ∀ i, wAll (s.args i) = true)
  (h:∀i,s.ok i→∀q,Eng.RdsOk q (s.rds i)→∀args,caArgs q (s.args i) args→∃E d,EnvOk P E ∧
   R.vcN E d [] s.f args s.keys q (s.L i) (fun r nk q L'=>R.resMG s i r nk q L')):CSOk P s:=by
 rw[vcN_eq,resMG_eq] at h;exact Eng.cspecG hP hname hb hgr hw h
theorem calmspec{s : CS}{fn : Func}(hP : P.funcs[s.f]? = some fn)(hname : (fn.name == "runtime.NumGoroutine") = false)(hb : fn.body.isSome = true)
  (h:∀i,s.ok i→∀q,Eng.RdsOk q (s.rds i)→∀args,caArgs q (s.args i) args→∃E d,EnvOk P E∧Eng.closed (s.res i)=true∧(∀x∈args,Eng.closed x=true)∧R.vcN E d [] s.f args 0 q [] (λr _ _ _=>R.Is (s.res i) r)):zp P s:=by
 rw[vcN_eq,Is_eq] at h;exact Eng.calmspec hP hname hb h
theorem loop_fam{ρ σ:Type}{step:σ→Option (St1 σ ρ)}{s:σ}{Φ:ρ→Prop}(H:zf (y7 step s) Φ)(keep:List Nat)(nils:List (Nat×Nat×Nat×Nat))(fr:Nat→σ→Fr)(L:Nat→σ→LL)(keys:Nat){n0 nk:Nat}{q:PH}{fr0:Fr}{L0:LL}{body:Nat→PH→Fr→LL→Ke→Prop}{K:Ke}
  (h:∀n,IG step Φ n s→R.loopK { ι:=Nat×σ,keep:=keep,nils:=nils,fr:=λb i=>fr b i.2,L:=λb i=>L b i.2,keys:=keys,ok:=λi=>IG step Φ i.1 i.2,μ:=λi=>i.1 } n0 nk q fr0 L0 body K):∃I:Inv,R.loopK I n0 nk q fr0 L0 body K:=by
 obtain⟨n,hn⟩:=loop_st H;exact⟨_,h n hn⟩
theorem cut_fam{α β:Type}{A:(β→Option α)→Option α}{k:β→Option α}{Φ:α→Prop}(H:zf (jn A k) Φ)(base:Nat)(keep:List Nat)(nils:List (Nat×Nat×Nat×Nat))(fr:β→Fr)(L:β→LL)(rest:LL)(keys:Nat){n0:Nat}{q:PH}{fr0:Fr}{va:Ke→Prop}{vb:Nat→PH→Fr→LL→Prop}{K:Ke}
  (h:zf (A k) Φ→R.cutK { ι:=β,base:=base,keep:=keep,nils:=nils,fr:=fr,L:=L,rest:=rest,keys:=keys,ok:=λ_ j=>zf (k j) Φ } n0 q fr0 va vb K):∃I:Cut,R.cutK I n0 q fr0 va vb K:=⟨_,h H⟩
theorem cut_famG{α β:Type}{A:(β→Option α)→Option α}{k:β→Option α}{Φ:α→Prop}(H:zf (jn A k) Φ)(base:Nat)(keep:List Nat)(nils:List (Nat×Nat×Nat×Nat))(frz:List (Nat×Nat))(fr:β→Fr)(L:β→LL)(rest:LL)(keys:Nat){n0:Nat}{q:PH}{fr0:Fr}{va:Ke→Prop}{vb:Nat→PH→Fr→LL→Prop}{K:Ke}
  (h:zf (A k) Φ→R.cutK { ι:=β,base:=base,keep:=keep,nils:=nils,gr:=true,frz:=frz,fr:=fr,L:=L,rest:=rest,keys:=keys,ok:=λ_ j=>zf (k j) Φ } n0 q fr0 va vb K):∃I:Cut,R.cutK I n0 q fr0 va vb K:=⟨_,h H⟩
theorem cut_famXG{α β γ:Type}{A:(β→Option α)→Option α}{k:β→Option α}{Φ:α→Prop}(H:zf (jn A k) Φ)(base:Nat)(keep:List Nat)(nils:List (Nat×Nat×Nat×Nat))(frz:List (Nat×Nat))(fr:β→γ→Fr)(L:β→γ→LL)(rest:LL)(keys:Nat)(rdx:PH→β→γ→Prop){n0:Nat}{q:PH}{fr0:Fr}{va:Ke→Prop}{vb:Nat→PH→Fr→LL→Prop}{K:Ke}
  (h:zf (A k) Φ→R.cutK { ι:=β×γ,base:=base,keep:=keep,nils:=nils,gr:=true,frz:=frz,fr:=λj=>fr j.1 j.2,L:=λj=>L j.1 j.2,rest:=rest,keys:=keys,ok:=λq j=>zf (k j.1) Φ∧rdx q j.1 j.2 } n0 q fr0 va vb K):∃I:Cut,R.cutK I n0 q fr0 va vb K:=⟨_,h H⟩
theorem loop_famG{ρ σ:Type}{step:σ→Option (St1 σ ρ)}{s:σ}{Φ:ρ→Prop}(H:zf (y7 step s) Φ)(keep:List Nat)(nils:List (Nat×Nat×Nat×Nat))(frz:List (Nat×Nat))(fr:Nat→σ→Fr)(L:Nat→σ→LL)(keys:Nat){n0 nk:Nat}{q:PH}{fr0:Fr}{L0:LL}{body:Nat→PH→Fr→LL→Ke→Prop}{K:Ke}
  (h:∀n,IG step Φ n s→R.loopK { ι:=Nat×σ,keep:=keep,nils:=nils,fr:=λb i=>fr b i.2,L:=λb i=>L b i.2,keys:=keys,gr:=true,frz:=frz,ok:=λi=>IG step Φ i.1 i.2,μ:=λi=>i.1 } n0 nk q fr0 L0 body K):∃I:Inv,R.loopK I n0 nk q fr0 L0 body K:=by
 obtain⟨n,hn⟩:=loop_st H;exact⟨_,h n hn⟩
theorem loop_famXG{ρ σ γ:Type}{step:σ→Option (St1 σ ρ)}{s:σ}{Φ:ρ→Prop}(H:zf (y7 step s) Φ)(keep:List Nat)(nils:List (Nat×Nat×Nat×Nat))(frz:List (Nat×Nat))(fr:Nat→σ→γ→Fr)(L:Nat→σ→γ→LL)(keys:Nat)(rdx:PH→σ→γ→Prop){n0 nk:Nat}{q:PH}{fr0:Fr}{L0:LL}{body:Nat→PH→Fr→LL→Ke→Prop}{K:Ke}
  (h:∀n,IG step Φ n s→R.loopK { ι:=Nat×σ×γ,keep:=keep,nils:=nils,fr:=λb i=>fr b i.2.1 i.2.2,L:=λb i=>L b i.2.1 i.2.2,keys:=keys,gr:=true,frz:=frz,ok:=λi=>IG step Φ i.1 i.2.1,μ:=λi=>i.1,rd:=λq i=>rdx q i.2.1 i.2.2 } n0 nk q fr0 L0 body K):∃I:Inv,R.loopK I n0 nk q fr0 L0 body K:=by
 obtain⟨n,hn⟩:=loop_st H;exact⟨_,h n hn⟩
end
end Go.Eng.R
namespace Go.Proofs.YticmemgehllacaaGreatDoor
open Go Go.Eng
def t1:TI:=⟨.func,1,8,[.nilFunc],[.func],[]⟩
def t2:TI:=⟨.int .i64,1,8,[.int .i64 0],[.int .i64],[]⟩
def t4:TI:=⟨.bool,1,1,[.bool false],[.bool],[]⟩
def t5:TI:=⟨.int .u8,1,1,[.int .u8 0],[.int .u8],[]⟩
def t7:TI:=⟨.struct [(0,2),(1,3),(2,4),(3,6)],4,24,[.int .i64 0,.int .i64 0,.bool false,.int .u8 0],[.int .i64,.int .i64,.bool,.int .u8],[]⟩
def t9:TI:=⟨.str,1,16,[.string ⟨#[]⟩],[.str],[]⟩
def t12:TI:=⟨.int .u64,1,8,[.int .u64 0],[.int .u64],[]⟩
def t13:TI:=⟨.struct [(0,9),(1,12)],2,24,[.string ⟨#[]⟩,.int .u64 0],[.str,.int .u64],[]⟩
def t15:TI:=⟨.ptr 543,1,8,[.pointer none],[.ptr 543],[]⟩
def t16:TI:=⟨.ptr 546,1,8,[.pointer none],[.ptr 546],[]⟩
def t17:TI:=⟨.ptr 553,1,8,[.pointer none],[.ptr 553],[]⟩
def t18:TI:=⟨.struct [(0,17)],1,8,[.pointer none],[.ptr 553],[]⟩
def t21:TI:=⟨.int .i32,1,4,[.int .i32 0],[.int .i32],[]⟩
def t22:TI:=⟨.slice 37,1,24,[.slice none 0 0],[.slice 37],[]⟩
def t28:TI:=⟨.slice 49,1,24,[.slice none 0 0],[.slice 49],[]⟩
def t35:TI:=⟨.slice 5,1,24,[.slice none 0 0],[.slice 5],[]⟩
def t36:TI:=⟨.struct [(0,34),(1,35),(2,3),(3,3)],4,48,[.int .i64 0,.slice none 0 0,.int .i64 0,.int .i64 0],[.int .i64,.slice 5,.int .i64,.int .i64],[]⟩
def t48:TI:=⟨.struct [(0,3),(1,9)],2,24,[.int .i64 0,.string ⟨#[]⟩],[.int .i64,.str],[.int .i64,.str]⟩
def t54:TI:=⟨.struct [(0,53),(1,9),(2,3),(3,4),(4,4),(5,4)],6,40,[.int .i64 0,.string ⟨#[]⟩,.int .i64 0,.bool false,.bool false,.bool false],[.int .i64,.str,.int .i64,.bool,.bool,.bool],[.int .i64,.str,.int .i64,.bool,.bool,.bool]⟩
def t57:TI:=⟨.slice 9,1,24,[.slice none 0 0],[.slice 9],[]⟩
def t58:TI:=⟨.flt .f64,1,8,[.float .f64 0],[.flt .f64],[]⟩
def t59:TI:=⟨.slice 3,1,24,[.slice none 0 0],[.slice 3],[]⟩
def t60:TI:=⟨.struct [(0,9),(1,3),(2,4),(3,59),(4,58)],5,64,[.string ⟨#[]⟩,.int .i64 0,.bool false,.slice none 0 0,.float .f64 0],[.str,.int .i64,.bool,.slice 3,.flt .f64],[]⟩
def t62:TI:=⟨.struct [(0,56),(1,9),(2,9),(3,57),(4,3),(5,3),(6,58),(7,58),(8,58),(9,61),(14,9),(15,9)],16,200,[.int .i64 0,.string ⟨#[]⟩,.string ⟨#[]⟩,.slice none 0 0,.int .i64 0,.int .i64 0,.float .f64 0,.float .f64 0,.float .f64 0,.string ⟨#[]⟩,.int .i64 0,.bool false,.slice none 0 0,.float .f64 0,.string ⟨#[]⟩,.string ⟨#[]⟩],[.int .i64,.str,.str,.slice 9,.int .i64,.int .i64,.flt .f64,.flt .f64,.flt .f64,.str,.int .i64,.bool,.slice 3,.flt .f64,.str,.str],[]⟩
def t64:TI:=⟨.slice 63,1,24,[.slice none 0 0],[.slice 63],[]⟩
def t65:TI:=⟨.struct [(0,9),(1,64),(2,57),(3,3)],4,72,[.string ⟨#[]⟩,.slice none 0 0,.slice none 0 0,.int .i64 0],[.str,.slice 63,.slice 9,.int .i64],[]⟩
def t69:TI:=⟨.slice 61,1,24,[.slice none 0 0],[.slice 61],[]⟩
def t72:TI:=⟨.ptr 74,1,8,[.pointer none],[.ptr 74],[]⟩
def t73:TI:=⟨.struct [(0,72),(1,35)],2,32,[.pointer none,.slice none 0 0],[.ptr 74,.slice 5],[]⟩
def t99:TI:=⟨.ptr 161,1,8,[.pointer none],[.ptr 161],[]⟩
def t103:TI:=⟨.struct [(0,35)],1,24,[.slice none 0 0],[.slice 5],[]⟩
def t108:TI:=⟨.slice 192,1,24,[.slice none 0 0],[.slice 192],[]⟩
def t109:TI:=⟨.struct [(0,66),(4,108),(5,3),(6,68),(7,3),(8,3),(9,3)],10,136,[.string ⟨#[]⟩,.slice none 0 0,.slice none 0 0,.int .i64 0,.slice none 0 0,.int .i64 0,.int .i64 0,.int .i64 0,.int .i64 0,.int .i64 0],[.str,.slice 63,.slice 9,.int .i64,.slice 192,.int .i64,.int .i64,.int .i64,.int .i64,.int .i64],[]⟩
def t113:TI:=⟨.struct [(0,35),(1,4)],2,32,[.slice none 0 0,.bool false],[.slice 5,.bool],[]⟩
def t115:TI:=⟨.slice 55,1,24,[.slice none 0 0],[.slice 55],[]⟩
def t123:TI:=⟨.ptr 5,1,8,[.pointer none],[.ptr 5],[]⟩
def t139:TI:=⟨.slice 148,1,24,[.slice none 0 0],[.slice 148],[]⟩
def t145:TI:=⟨.struct [(0,144),(1,58),(2,9),(3,4)],4,40,[.int .i64 0,.float .f64 0,.string ⟨#[]⟩,.bool false],[.int .i64,.flt .f64,.str,.bool],[]⟩
def t147:TI:=⟨.struct [(0,9),(1,146)],5,56,[.string ⟨#[]⟩,.int .i64 0,.float .f64 0,.string ⟨#[]⟩,.bool false],[.str,.int .i64,.flt .f64,.str,.bool],[]⟩
def t156:TI:=⟨.struct [(0,3),(1,3),(2,23)],3,24,[.int .i64 0,.int .i64 0,.int .i64 0],[.int .i64,.int .i64,.int .i64],[.int .i64,.int .i64,.int .i64]⟩
def t159:TI:=⟨.slice 165,1,24,[.slice none 0 0],[.slice 165],[]⟩
def t160:TI:=⟨.struct [(0,66),(4,159),(5,3),(6,68),(7,157)],10,136,[.string ⟨#[]⟩,.slice none 0 0,.slice none 0 0,.int .i64 0,.slice none 0 0,.int .i64 0,.int .i64 0,.int .i64 0,.int .i64 0,.int .i64 0],[.str,.slice 63,.slice 9,.int .i64,.slice 165,.int .i64,.int .i64,.int .i64,.int .i64,.int .i64],[]⟩
def t162:TI:=⟨.ptr 303,1,8,[.pointer none],[.ptr 303],[]⟩
def t163:TI:=⟨.ptr 306,1,8,[.pointer none],[.ptr 306],[]⟩
def t164:TI:=⟨.struct [(0,162),(1,163)],2,16,[.pointer none,.pointer none],[.ptr 303,.ptr 306],[]⟩
def t169:TI:=⟨.slice 4,1,24,[.slice none 0 0],[.slice 4],[]⟩
def t171:TI:=⟨.ptr 104,1,8,[.pointer none],[.ptr 104],[]⟩
def t178:TI:=⟨.slice 330,1,24,[.slice none 0 0],[.slice 330],[]⟩
def t179:TI:=⟨.struct [(0,178)],1,24,[.slice none 0 0],[.slice 330],[]⟩
def t181:TI:=⟨.struct [(0,57),(1,3)],2,32,[.slice none 0 0,.int .i64 0],[.slice 9,.int .i64],[]⟩
def t183:TI:=⟨.slice 482,1,24,[.slice none 0 0],[.slice 482],[]⟩
def t184:TI:=⟨.slice 182,1,24,[.slice none 0 0],[.slice 182],[]⟩
def t185:TI:=⟨.struct [(0,3),(1,182),(3,183),(4,184),(5,4),(6,4),(7,3),(8,3)],9,112,[.int .i64 0,.slice none 0 0,.int .i64 0,.slice none 0 0,.slice none 0 0,.bool false,.bool false,.int .i64 0,.int .i64 0],[.int .i64,.slice 9,.int .i64,.slice 482,.slice 182,.bool,.bool,.int .i64,.int .i64],[]⟩
def t187:TI:=⟨.struct [(0,63),(16,180),(17,186),(26,9),(27,3)],28,360,[.int .i64 0,.string ⟨#[]⟩,.string ⟨#[]⟩,.slice none 0 0,.int .i64 0,.int .i64 0,.float .f64 0,.float .f64 0,.float .f64 0,.string ⟨#[]⟩,.int .i64 0,.bool false,.slice none 0 0,.float .f64 0,.string ⟨#[]⟩,.string ⟨#[]⟩,.slice none 0 0,.int .i64 0,.slice none 0 0,.int .i64 0,.slice none 0 0,.slice none 0 0,.bool false,.bool false,.int .i64 0,.int .i64 0,.string ⟨#[]⟩,.int .i64 0],[.int .i64,.str,.str,.slice 9,.int .i64,.int .i64,.flt .f64,.flt .f64,.flt .f64,.str,.int .i64,.bool,.slice 3,.flt .f64,.str,.str,.slice 330,.int .i64,.slice 9,.int .i64,.slice 482,.slice 182,.bool,.bool,.int .i64,.int .i64,.str,.int .i64],[]⟩
def t189:TI:=⟨.struct [(0,63),(16,180),(17,4),(18,3),(19,169),(20,186),(29,59),(30,3)],31,408,[.int .i64 0,.string ⟨#[]⟩,.string ⟨#[]⟩,.slice none 0 0,.int .i64 0,.int .i64 0,.float .f64 0,.float .f64 0,.float .f64 0,.string ⟨#[]⟩,.int .i64 0,.bool false,.slice none 0 0,.float .f64 0,.string ⟨#[]⟩,.string ⟨#[]⟩,.slice none 0 0,.bool false,.int .i64 0,.slice none 0 0,.int .i64 0,.slice none 0 0,.int .i64 0,.slice none 0 0,.slice none 0 0,.bool false,.bool false,.int .i64 0,.int .i64 0,.slice none 0 0,.int .i64 0],[.int .i64,.str,.str,.slice 9,.int .i64,.int .i64,.flt .f64,.flt .f64,.flt .f64,.str,.int .i64,.bool,.slice 3,.flt .f64,.str,.str,.slice 330,.bool,.int .i64,.slice 4,.int .i64,.slice 9,.int .i64,.slice 482,.slice 182,.bool,.bool,.int .i64,.int .i64,.slice 3,.int .i64],[]⟩
def t191:TI:=⟨.struct [(0,4),(1,188),(29,190)],60,776,[.bool false,.int .i64 0,.string ⟨#[]⟩,.string ⟨#[]⟩,.slice none 0 0,.int .i64 0,.int .i64 0,.float .f64 0,.float .f64 0,.float .f64 0,.string ⟨#[]⟩,.int .i64 0,.bool false,.slice none 0 0,.float .f64 0,.string ⟨#[]⟩,.string ⟨#[]⟩,.slice none 0 0,.int .i64 0,.slice none 0 0,.int .i64 0,.slice none 0 0,.slice none 0 0,.bool false,.bool false,.int .i64 0,.int .i64 0,.string ⟨#[]⟩,.int .i64 0,.int .i64 0,.string ⟨#[]⟩,.string ⟨#[]⟩,.slice none 0 0,.int .i64 0,.int .i64 0,.float .f64 0,.float .f64 0,.float .f64 0,.string ⟨#[]⟩,.int .i64 0,.bool false,.slice none 0 0,.float .f64 0,.string ⟨#[]⟩,.string ⟨#[]⟩,.slice none 0 0,.bool false,.int .i64 0,.slice none 0 0,.int .i64 0,.slice none 0 0,.int .i64 0,.slice none 0 0,.slice none 0 0,.bool false,.bool false,.int .i64 0,.int .i64 0,.slice none 0 0,.int .i64 0],[.bool,.int .i64,.str,.str,.slice 9,.int .i64,.int .i64,.flt .f64,.flt .f64,.flt .f64,.str,.int .i64,.bool,.slice 3,.flt .f64,.str,.str,.slice 330,.int .i64,.slice 9,.int .i64,.slice 482,.slice 182,.bool,.bool,.int .i64,.int .i64,.str,.int .i64,.int .i64,.str,.str,.slice 9,.int .i64,.int .i64,.flt .f64,.flt .f64,.flt .f64,.str,.int .i64,.bool,.slice 3,.flt .f64,.str,.str,.slice 330,.bool,.int .i64,.slice 4,.int .i64,.slice 9,.int .i64,.slice 482,.slice 182,.bool,.bool,.int .i64,.int .i64,.slice 3,.int .i64],[]⟩
def t200:TI:=⟨.struct [(0,3),(1,55),(7,4),(8,4)],9,56,[.int .i64 0,.int .i64 0,.string ⟨#[]⟩,.int .i64 0,.bool false,.bool false,.bool false,.bool false,.bool false],[.int .i64,.int .i64,.str,.int .i64,.bool,.bool,.bool,.bool,.bool],[.int .i64,.int .i64,.str,.int .i64,.bool,.bool,.bool,.bool,.bool]⟩
def t209:TI:=⟨.struct [(0,139),(1,169)],2,48,[.slice none 0 0,.slice none 0 0],[.slice 148,.slice 4],[]⟩
def t224:TI:=⟨.slice 21,1,24,[.slice none 0 0],[.slice 21],[]⟩
def t231:TI:=⟨.slice 233,1,24,[.slice none 0 0],[.slice 233],[]⟩
def t232:TI:=⟨.struct [(0,9),(1,58),(2,9),(3,231)],4,64,[.string ⟨#[]⟩,.float .f64 0,.string ⟨#[]⟩,.slice none 0 0],[.str,.flt .f64,.str,.slice 233],[]⟩
def t287:TI:=⟨.struct [(0,3),(1,5),(2,5),(3,21)],4,16,[.int .i64 0,.int .u8 0,.int .u8 0,.int .i32 0],[.int .i64,.int .u8,.int .u8,.int .i32],[.int .i64,.int .u8,.int .u8,.int .i32]⟩
def t299:TI:=⟨.ptr 377,1,8,[.pointer none],[.ptr 377],[]⟩
def t301:TI:=⟨.ptr 451,1,8,[.pointer none],[.ptr 451],[]⟩
def t302:TI:=⟨.struct [(0,301),(1,63),(17,299),(18,9),(19,3),(20,3)],21,248,[.pointer none,.int .i64 0,.string ⟨#[]⟩,.string ⟨#[]⟩,.slice none 0 0,.int .i64 0,.int .i64 0,.float .f64 0,.float .f64 0,.float .f64 0,.string ⟨#[]⟩,.int .i64 0,.bool false,.slice none 0 0,.float .f64 0,.string ⟨#[]⟩,.string ⟨#[]⟩,.pointer none,.string ⟨#[]⟩,.int .i64 0,.int .i64 0],[.ptr 451,.int .i64,.str,.str,.slice 9,.int .i64,.int .i64,.flt .f64,.flt .f64,.flt .f64,.str,.int .i64,.bool,.slice 3,.flt .f64,.str,.str,.ptr 377,.str,.int .i64,.int .i64],[]⟩
def t305:TI:=⟨.struct [(0,301),(1,63),(17,299),(18,4),(19,3),(20,169),(21,59),(22,3)],23,288,[.pointer none,.int .i64 0,.string ⟨#[]⟩,.string ⟨#[]⟩,.slice none 0 0,.int .i64 0,.int .i64 0,.float .f64 0,.float .f64 0,.float .f64 0,.string ⟨#[]⟩,.int .i64 0,.bool false,.slice none 0 0,.float .f64 0,.string ⟨#[]⟩,.string ⟨#[]⟩,.pointer none,.bool false,.int .i64 0,.slice none 0 0,.slice none 0 0,.int .i64 0],[.ptr 451,.int .i64,.str,.str,.slice 9,.int .i64,.int .i64,.flt .f64,.flt .f64,.flt .f64,.str,.int .i64,.bool,.slice 3,.flt .f64,.str,.str,.ptr 377,.bool,.int .i64,.slice 4,.slice 3,.int .i64],[]⟩
def t329:TI:=⟨.struct [(0,9),(1,270)],2,24,[.string ⟨#[]⟩,.int .i64 0],[.str,.int .i64],[.str,.int .i64]⟩
def t350:TI:=⟨.arr 24 5,24,24,[.int .u8 0,.int .u8 0,.int .u8 0,.int .u8 0,.int .u8 0,.int .u8 0,.int .u8 0,.int .u8 0,.int .u8 0,.int .u8 0,.int .u8 0,.int .u8 0,.int .u8 0,.int .u8 0,.int .u8 0,.int .u8 0,.int .u8 0,.int .u8 0,.int .u8 0,.int .u8 0,.int .u8 0,.int .u8 0,.int .u8 0,.int .u8 0],[.int .u8,.int .u8,.int .u8,.int .u8,.int .u8,.int .u8,.int .u8,.int .u8,.int .u8,.int .u8,.int .u8,.int .u8,.int .u8,.int .u8,.int .u8,.int .u8,.int .u8,.int .u8,.int .u8,.int .u8,.int .u8,.int .u8,.int .u8,.int .u8],[]⟩
def t355:TI:=⟨.int .u32,1,4,[.int .u32 0],[.int .u32],[]⟩
def t359:TI:=⟨.ptr 361,1,8,[.pointer none],[.ptr 361],[]⟩
def t360:TI:=⟨.struct [(0,9),(1,3),(2,3),(3,9)],4,48,[.string ⟨#[]⟩,.int .i64 0,.int .i64 0,.string ⟨#[]⟩],[.str,.int .i64,.int .i64,.str],[.str,.int .i64,.int .i64,.str]⟩
def t365:TI:=⟨.slice 144,1,24,[.slice none 0 0],[.slice 144],[]⟩
def t371:TI:=⟨.struct [(0,57),(1,35),(2,4)],3,56,[.slice none 0 0,.slice none 0 0,.bool false],[.slice 9,.slice 5,.bool],[]⟩
def t375:TI:=⟨.map 9 270,1,8,[.map none],[.map 9 270],[]⟩
def t376:TI:=⟨.struct [(0,375)],1,8,[.map none],[.map 9 270],[]⟩
def t381:TI:=⟨.struct [(0,4),(1,4),(2,4),(3,4),(4,4)],5,5,[.bool false,.bool false,.bool false,.bool false,.bool false],[.bool,.bool,.bool,.bool,.bool],[.bool,.bool,.bool,.bool,.bool]⟩
def t385:TI:=⟨.struct [(0,3),(1,3),(2,3)],3,24,[.int .i64 0,.int .i64 0,.int .i64 0],[.int .i64,.int .i64,.int .i64],[.int .i64,.int .i64,.int .i64]⟩
def t393:TI:=⟨.struct [(0,3),(1,4),(2,4)],3,16,[.int .i64 0,.bool false,.bool false],[.int .i64,.bool,.bool],[.int .i64,.bool,.bool]⟩
def t396:TI:=⟨.slice 468,1,24,[.slice none 0 0],[.slice 468],[]⟩
def t399:TI:=⟨.struct [(0,233),(4,396),(5,4)],6,96,[.string ⟨#[]⟩,.float .f64 0,.string ⟨#[]⟩,.slice none 0 0,.slice none 0 0,.bool false],[.str,.flt .f64,.str,.slice 233,.slice 468,.bool],[]⟩
def t407:TI:=⟨.slice 409,1,24,[.slice none 0 0],[.slice 409],[]⟩
def t408:TI:=⟨.struct [(0,4),(1,3),(2,3),(3,169)],4,48,[.bool false,.int .i64 0,.int .i64 0,.slice none 0 0],[.bool,.int .i64,.int .i64,.slice 4],[]⟩
def t430:TI:=⟨.arr 20 255,20,160,[.int .u64 0,.int .u64 0,.int .u64 0,.int .u64 0,.int .u64 0,.int .u64 0,.int .u64 0,.int .u64 0,.int .u64 0,.int .u64 0,.int .u64 0,.int .u64 0,.int .u64 0,.int .u64 0,.int .u64 0,.int .u64 0,.int .u64 0,.int .u64 0,.int .u64 0,.int .u64 0],[.int .u64,.int .u64,.int .u64,.int .u64,.int .u64,.int .u64,.int .u64,.int .u64,.int .u64,.int .u64,.int .u64,.int .u64,.int .u64,.int .u64,.int .u64,.int .u64,.int .u64,.int .u64,.int .u64,.int .u64],[]⟩
def t444:TI:=⟨.ptr 372,1,8,[.pointer none],[.ptr 372],[]⟩
def t445:TI:=⟨.ptr 487,1,8,[.pointer none],[.ptr 487],[]⟩
def t448:TI:=⟨.slice 57,1,24,[.slice none 0 0],[.slice 57],[]⟩
def t449:TI:=⟨.slice 489,1,24,[.slice none 0 0],[.slice 489],[]⟩
def t450:TI:=⟨.struct [(0,445),(1,448),(2,449),(3,4),(4,4),(5,3),(6,3)],7,80,[.pointer none,.slice none 0 0,.slice none 0 0,.bool false,.bool false,.int .i64 0,.int .i64 0],[.ptr 487,.slice 57,.slice 489,.bool,.bool,.int .i64,.int .i64],[]⟩
def t461:TI:=⟨.struct [(0,5),(1,5)],2,2,[.int .u8 0,.int .u8 0],[.int .u8,.int .u8],[.int .u8,.int .u8]⟩
def t463:TI:=⟨.arr 16 462,32,32,[.int .u8 0,.int .u8 0,.int .u8 0,.int .u8 0,.int .u8 0,.int .u8 0,.int .u8 0,.int .u8 0,.int .u8 0,.int .u8 0,.int .u8 0,.int .u8 0,.int .u8 0,.int .u8 0,.int .u8 0,.int .u8 0,.int .u8 0,.int .u8 0,.int .u8 0,.int .u8 0,.int .u8 0,.int .u8 0,.int .u8 0,.int .u8 0,.int .u8 0,.int .u8 0,.int .u8 0,.int .u8 0,.int .u8 0,.int .u8 0,.int .u8 0,.int .u8 0],[.int .u8,.int .u8,.int .u8,.int .u8,.int .u8,.int .u8,.int .u8,.int .u8,.int .u8,.int .u8,.int .u8,.int .u8,.int .u8,.int .u8,.int .u8,.int .u8,.int .u8,.int .u8,.int .u8,.int .u8,.int .u8,.int .u8,.int .u8,.int .u8,.int .u8,.int .u8,.int .u8,.int .u8,.int .u8,.int .u8,.int .u8,.int .u8],[]⟩
def t465:TI:=⟨.slice 394,1,24,[.slice none 0 0],[.slice 394],[]⟩
def t467:TI:=⟨.struct [(0,5),(1,9)],2,24,[.int .u8 0,.string ⟨#[]⟩],[.int .u8,.str],[.int .u8,.str]⟩
def t476:TI:=⟨.struct [(0,4),(1,3),(2,59)],3,40,[.bool false,.int .i64 0,.slice none 0 0],[.bool,.int .i64,.slice 3],[]⟩
def t481:TI:=⟨.struct [(0,57)],1,24,[.slice none 0 0],[.slice 9],[]⟩
def t486:TI:=⟨.struct [(0,3),(1,57),(2,3),(3,3)],4,48,[.int .i64 0,.slice none 0 0,.int .i64 0,.int .i64 0],[.int .i64,.slice 9,.int .i64,.int .i64],[]⟩
def t500:TI:=⟨.arr 12 3,12,96,[.int .i64 0,.int .i64 0,.int .i64 0,.int .i64 0,.int .i64 0,.int .i64 0,.int .i64 0,.int .i64 0,.int .i64 0,.int .i64 0,.int .i64 0,.int .i64 0],[.int .i64,.int .i64,.int .i64,.int .i64,.int .i64,.int .i64,.int .i64,.int .i64,.int .i64,.int .i64,.int .i64,.int .i64],[]⟩
def t503:TI:=⟨.slice 529,1,24,[.slice none 0 0],[.slice 529],[]⟩
def t513:TI:=⟨.arr 32 5,32,32,[.int .u8 0,.int .u8 0,.int .u8 0,.int .u8 0,.int .u8 0,.int .u8 0,.int .u8 0,.int .u8 0,.int .u8 0,.int .u8 0,.int .u8 0,.int .u8 0,.int .u8 0,.int .u8 0,.int .u8 0,.int .u8 0,.int .u8 0,.int .u8 0,.int .u8 0,.int .u8 0,.int .u8 0,.int .u8 0,.int .u8 0,.int .u8 0,.int .u8 0,.int .u8 0,.int .u8 0,.int .u8 0,.int .u8 0,.int .u8 0,.int .u8 0,.int .u8 0],[.int .u8,.int .u8,.int .u8,.int .u8,.int .u8,.int .u8,.int .u8,.int .u8,.int .u8,.int .u8,.int .u8,.int .u8,.int .u8,.int .u8,.int .u8,.int .u8,.int .u8,.int .u8,.int .u8,.int .u8,.int .u8,.int .u8,.int .u8,.int .u8,.int .u8,.int .u8,.int .u8,.int .u8,.int .u8,.int .u8,.int .u8,.int .u8],[]⟩
def t514:TI:=⟨.arr 64 5,64,64,[.int .u8 0,.int .u8 0,.int .u8 0,.int .u8 0,.int .u8 0,.int .u8 0,.int .u8 0,.int .u8 0,.int .u8 0,.int .u8 0,.int .u8 0,.int .u8 0,.int .u8 0,.int .u8 0,.int .u8 0,.int .u8 0,.int .u8 0,.int .u8 0,.int .u8 0,.int .u8 0,.int .u8 0,.int .u8 0,.int .u8 0,.int .u8 0,.int .u8 0,.int .u8 0,.int .u8 0,.int .u8 0,.int .u8 0,.int .u8 0,.int .u8 0,.int .u8 0,.int .u8 0,.int .u8 0,.int .u8 0,.int .u8 0,.int .u8 0,.int .u8 0,.int .u8 0,.int .u8 0,.int .u8 0,.int .u8 0,.int .u8 0,.int .u8 0,.int .u8 0,.int .u8 0,.int .u8 0,.int .u8 0,.int .u8 0,.int .u8 0,.int .u8 0,.int .u8 0,.int .u8 0,.int .u8 0,.int .u8 0,.int .u8 0,.int .u8 0,.int .u8 0,.int .u8 0,.int .u8 0,.int .u8 0,.int .u8 0,.int .u8 0,.int .u8 0],[.int .u8,.int .u8,.int .u8,.int .u8,.int .u8,.int .u8,.int .u8,.int .u8,.int .u8,.int .u8,.int .u8,.int .u8,.int .u8,.int .u8,.int .u8,.int .u8,.int .u8,.int .u8,.int .u8,.int .u8,.int .u8,.int .u8,.int .u8,.int .u8,.int .u8,.int .u8,.int .u8,.int .u8,.int .u8,.int .u8,.int .u8,.int .u8,.int .u8,.int .u8,.int .u8,.int .u8,.int .u8,.int .u8,.int .u8,.int .u8,.int .u8,.int .u8,.int .u8,.int .u8,.int .u8,.int .u8,.int .u8,.int .u8,.int .u8,.int .u8,.int .u8,.int .u8,.int .u8,.int .u8,.int .u8,.int .u8,.int .u8,.int .u8,.int .u8,.int .u8,.int .u8,.int .u8,.int .u8,.int .u8],[]⟩
def t524:TI:=⟨.ptr 3,1,8,[.pointer none],[.ptr 3],[]⟩
def t528:TI:=⟨.struct [(0,21),(1,21)],2,8,[.int .i32 0,.int .i32 0],[.int .i32,.int .i32],[.int .i32,.int .i32]⟩
def t533:TI:=⟨.ptr 520,1,8,[.pointer none],[.ptr 520],[]⟩
def t542:TI:=⟨.struct [(0,17),(1,17),(2,17),(3,9)],4,40,[.pointer none,.pointer none,.pointer none,.string ⟨#[]⟩],[.ptr 553,.ptr 553,.ptr 553,.str],[]⟩
def t552:TI:=⟨.struct [(0,12),(1,12),(2,355),(3,547),(4,5),(5,5),(6,548),(7,549),(8,123),(9,550),(10,551)],11,48,[.int .u64 0,.int .u64 0,.int .u32 0,.int .u8 0,.int .u8 0,.int .u8 0,.int .u8 0,.nilFunc,.pointer none,.int .i32 0,.int .i32 0],[.int .u64,.int .u64,.int .u32,.int .u8,.int .u8,.int .u8,.int .u8,.func,.ptr 5,.int .i32,.int .i32],[]⟩
def tab:Tab:=(.node (.node (.node (.node (.node (.node (.node (.node (.node .nil 1 t1 .nil) 2 t2 (.node .nil 3 t2 .nil)) 4 t4 (.node (.node .nil 5 t5 .nil) 6 t5 (.node .nil 7 t7 .nil))) 8 t7 (.node (.node (.node .nil 9 t9 .nil) 10 t9 (.node .nil 11 t9 .nil)) 12 t12 (.node (.node .nil 13 t13 .nil) 14 t13 (.node .nil 15 t15 .nil)))) 16 t16 (.node (.node (.node (.node .nil 17 t17 .nil) 18 t18 (.node .nil 19 t18 .nil)) 21 t21 (.node (.node .nil 22 t22 .nil) 23 t2 (.node .nil 25 t1 .nil))) 27 t1 (.node (.node (.node .nil 28 t28 .nil) 29 t1 (.node .nil 30 t1 .nil)) 31 t1 (.node (.node .nil 32 t1 .nil) 33 t1 .nil)))) 34 t2 (.node (.node (.node (.node (.node .nil 35 t35 .nil) 36 t36 (.node .nil 37 t36 .nil)) 39 t1 (.node (.node .nil 41 t1 .nil) 42 t1 (.node .nil 43 t1 .nil))) 44 t1 (.node (.node (.node .nil 45 t1 .nil) 47 t1 (.node .nil 48 t48 .nil)) 49 t48 (.node (.node .nil 50 t1 .nil) 52 t1 .nil))) 53 t2 (.node (.node (.node (.node .nil 54 t54 .nil) 55 t54 (.node .nil 56 t2 .nil)) 57 t57 (.node (.node .nil 58 t58 .nil) 59 t59 (.node .nil 60 t60 .nil))) 61 t60 (.node (.node (.node .nil 62 t62 .nil) 63 t62 (.node .nil 64 t64 .nil)) 65 t65 (.node (.node .nil 66 t65 .nil) 67 t1 .nil))))) 68 t2 (.node (.node (.node (.node (.node (.node .nil 69 t69 .nil) 71 t1 (.node .nil 72 t72 .nil)) 73 t73 (.node (.node .nil 74 t73 .nil) 76 t1 (.node .nil 80 t1 .nil))) 81 t1 (.node (.node (.node .nil 82 t1 .nil) 83 t1 (.node .nil 84 t1 .nil)) 86 t1 (.node (.node .nil 87 t1 .nil) 89 t1 (.node .nil 91 t1 .nil)))) 92 t1 (.node (.node (.node (.node .nil 94 t1 .nil) 95 t1 (.node .nil 97 t1 .nil)) 98 t1 (.node (.node .nil 99 t99 .nil) 101 t1 (.node .nil 102 t1 .nil))) 103 t103 (.node (.node (.node .nil 104 t103 .nil) 105 t1 (.node .nil 106 t1 .nil)) 107 t1 (.node (.node .nil 108 t108 .nil) 109 t109 .nil)))) 110 t109 (.node (.node (.node (.node (.node .nil 112 t1 .nil) 113 t113 (.node .nil 114 t113 .nil)) 115 t115 (.node (.node .nil 117 t1 .nil) 119 t1 (.node .nil 120 t1 .nil))) 121 t1 (.node (.node (.node .nil 122 t1 .nil) 123 t123 (.node .nil 125 t1 .nil)) 126 t12 (.node (.node .nil 128 t1 .nil) 129 t1 .nil))) 130 t1 (.node (.node (.node (.node .nil 131 t1 .nil) 132 t1 (.node .nil 133 t1 .nil)) 134 t1 (.node (.node .nil 135 t1 .nil) 136 t1 (.node .nil 137 t1 .nil))) 138 t1 (.node (.node (.node .nil 139 t139 .nil) 140 t1 (.node .nil 141 t1 .nil)) 142 t1 (.node (.node .nil 143 t1 .nil) 144 t2 .nil)))))) 145 t145 (.node (.node (.node (.node (.node (.node (.node .nil 146 t145 .nil) 147 t147 (.node .nil 148 t147 .nil)) 149 t1 (.node (.node .nil 150 t1 .nil) 152 t1 (.node .nil 153 t1 .nil))) 154 t1 (.node (.node (.node .nil 155 t1 .nil) 156 t156 (.node .nil 157 t156 .nil)) 158 t1 (.node (.node .nil 159 t159 .nil) 160 t160 (.node .nil 161 t160 .nil)))) 162 t162 (.node (.node (.node (.node .nil 163 t163 .nil) 164 t164 (.node .nil 165 t164 .nil)) 166 t1 (.node (.node .nil 167 t1 .nil) 168 t1 (.node .nil 169 t169 .nil))) 170 t1 (.node (.node (.node .nil 171 t171 .nil) 172 t1 (.node .nil 173 t1 .nil)) 174 t1 (.node (.node .nil 176 t1 .nil) 177 t1 .nil)))) 178 t178 (.node (.node (.node (.node (.node .nil 179 t179 .nil) 180 t179 (.node .nil 181 t181 .nil)) 182 t181 (.node (.node .nil 183 t183 .nil) 184 t184 (.node .nil 185 t185 .nil))) 186 t185 (.node (.node (.node .nil 187 t187 .nil) 188 t187 (.node .nil 189 t189 .nil)) 190 t189 (.node (.node .nil 191 t191 .nil) 192 t191 .nil))) 194 t1 (.node (.node (.node (.node .nil 196 t1 .nil) 197 t1 (.node .nil 198 t1 .nil)) 199 t1 (.node (.node .nil 200 t200 .nil) 201 t200 (.node .nil 202 t1 .nil))) 203 t1 (.node (.node (.node .nil 205 t1 .nil) 207 t1 (.node .nil 208 t1 .nil)) 209 t209 (.node (.node .nil 210 t209 .nil) 211 t1 .nil))))) 212 t1 (.node (.node (.node (.node (.node (.node .nil 214 t1 .nil) 215 t1 (.node .nil 216 t1 .nil)) 217 t1 (.node (.node .nil 218 t1 .nil) 219 t1 (.node .nil 221 t1 .nil))) 222 t1 (.node (.node (.node .nil 223 t1 .nil) 224 t224 (.node .nil 226 t1 .nil)) 227 t1 (.node (.node .nil 228 t1 .nil) 229 t1 .nil))) 230 t1 (.node (.node (.node (.node .nil 231 t231 .nil) 232 t232 (.node .nil 233 t232 .nil)) 235 t1 (.node (.node .nil 237 t1 .nil) 238 t1 (.node .nil 240 t1 .nil))) 241 t1 (.node (.node (.node .nil 242 t1 .nil) 243 t1 (.node .nil 244 t1 .nil)) 245 t1 (.node (.node .nil 246 t1 .nil) 248 t1 .nil)))) 250 t1 (.node (.node (.node (.node (.node .nil 251 t1 .nil) 253 t1 (.node .nil 254 t1 .nil)) 255 t12 (.node (.node .nil 256 t1 .nil) 257 t1 (.node .nil 258 t1 .nil))) 259 t1 (.node (.node (.node .nil 260 t1 .nil) 261 t1 (.node .nil 262 t1 .nil)) 263 t1 (.node (.node .nil 264 t1 .nil) 265 t1 .nil))) 267 t1 (.node (.node (.node (.node .nil 268 t1 .nil) 269 t1 (.node .nil 270 t2 .nil)) 272 t1 (.node (.node .nil 273 t1 .nil) 274 t1 (.node .nil 275 t1 .nil))) 276 t1 (.node (.node (.node .nil 277 t1 .nil) 278 t1 (.node .nil 279 t1 .nil)) 280 t1 (.node (.node .nil 281 t1 .nil) 282 t1 .nil))))))) 283 t1 (.node (.node (.node (.node (.node (.node (.node (.node .nil 284 t1 .nil) 285 t1 (.node .nil 286 t1 .nil)) 287 t287 (.node (.node .nil 288 t287 .nil) 289 t1 (.node .nil 290 t1 .nil))) 292 t1 (.node (.node (.node .nil 293 t1 .nil) 294 t1 (.node .nil 296 t1 .nil)) 297 t1 (.node (.node .nil 298 t1 .nil) 299 t299 (.node .nil 300 t1 .nil)))) 301 t301 (.node (.node (.node (.node .nil 302 t302 .nil) 303 t302 (.node .nil 304 t1 .nil)) 305 t305 (.node (.node .nil 306 t305 .nil) 307 t1 (.node .nil 308 t1 .nil))) 309 t1 (.node (.node (.node .nil 310 t1 .nil) 311 t1 (.node .nil 312 t1 .nil)) 313 t1 (.node (.node .nil 315 t1 .nil) 316 t1 .nil)))) 317 t1 (.node (.node (.node (.node (.node .nil 318 t1 .nil) 320 t1 (.node .nil 322 t1 .nil)) 324 t1 (.node (.node .nil 326 t1 .nil) 327 t1 (.node .nil 328 t1 .nil))) 329 t329 (.node (.node (.node .nil 330 t329 .nil) 331 t1 (.node .nil 332 t1 .nil)) 333 t1 (.node (.node .nil 334 t1 .nil) 335 t1 .nil))) 337 t1 (.node (.node (.node (.node .nil 338 t1 .nil) 339 t1 (.node .nil 340 t1 .nil)) 341 t1 (.node (.node .nil 342 t1 .nil) 343 t1 (.node .nil 344 t1 .nil))) 345 t1 (.node (.node (.node .nil 346 t1 .nil) 347 t1 (.node .nil 349 t1 .nil)) 350 t350 (.node (.node .nil 351 t1 .nil) 352 t1 .nil))))) 354 t1 (.node (.node (.node (.node (.node (.node .nil 355 t355 .nil) 357 t1 (.node .nil 358 t1 .nil)) 359 t359 (.node (.node .nil 360 t360 .nil) 361 t360 (.node .nil 362 t1 .nil))) 365 t365 (.node (.node (.node .nil 366 t1 .nil) 368 t1 (.node .nil 369 t1 .nil)) 370 t1 (.node (.node .nil 371 t371 .nil) 372 t371 (.node .nil 373 t1 .nil)))) 374 t1 (.node (.node (.node (.node .nil 375 t375 .nil) 376 t376 (.node .nil 377 t376 .nil)) 379 t1 (.node (.node .nil 380 t1 .nil) 381 t381 (.node .nil 382 t381 .nil))) 383 t1 (.node (.node (.node .nil 384 t1 .nil) 385 t385 (.node .nil 386 t385 .nil)) 388 t1 (.node (.node .nil 389 t1 .nil) 390 t1 .nil)))) 391 t1 (.node (.node (.node (.node (.node .nil 392 t1 .nil) 393 t393 (.node .nil 394 t393 .nil)) 395 t1 (.node (.node .nil 396 t396 .nil) 398 t1 (.node .nil 399 t399 .nil))) 400 t399 (.node (.node (.node .nil 401 t1 .nil) 402 t1 (.node .nil 403 t1 .nil)) 404 t1 (.node (.node .nil 405 t1 .nil) 406 t1 .nil))) 407 t407 (.node (.node (.node (.node .nil 408 t408 .nil) 409 t408 (.node .nil 410 t1 .nil)) 411 t1 (.node (.node .nil 413 t1 .nil) 414 t1 (.node .nil 415 t1 .nil))) 416 t1 (.node (.node (.node .nil 418 t1 .nil) 419 t1 (.node .nil 420 t1 .nil)) 421 t1 (.node (.node .nil 422 t1 .nil) 423 t1 .nil)))))) 424 t1 (.node (.node (.node (.node (.node (.node (.node .nil 425 t1 .nil) 426 t1 (.node .nil 427 t1 .nil)) 428 t1 (.node (.node .nil 429 t1 .nil) 430 t430 (.node .nil 432 t1 .nil))) 433 t1 (.node (.node (.node .nil 434 t1 .nil) 435 t1 (.node .nil 436 t1 .nil)) 437 t1 (.node (.node .nil 438 t1 .nil) 439 t1 (.node .nil 440 t1 .nil)))) 441 t1 (.node (.node (.node (.node .nil 442 t1 .nil) 443 t1 (.node .nil 444 t444 .nil)) 445 t445 (.node (.node .nil 447 t1 .nil) 448 t448 (.node .nil 449 t449 .nil))) 450 t450 (.node (.node (.node .nil 451 t450 .nil) 452 t1 (.node .nil 453 t1 .nil)) 454 t1 (.node (.node .nil 455 t1 .nil) 456 t1 .nil)))) 457 t1 (.node (.node (.node (.node (.node .nil 458 t1 .nil) 459 t1 (.node .nil 461 t461 .nil)) 462 t461 (.node (.node .nil 463 t463 .nil) 464 t1 (.node .nil 465 t465 .nil))) 466 t1 (.node (.node (.node .nil 467 t467 .nil) 468 t467 (.node .nil 470 t1 .nil)) 471 t1 (.node (.node .nil 472 t385 .nil) 473 t385 .nil))) 475 t1 (.node (.node (.node (.node .nil 476 t476 .nil) 477 t476 (.node .nil 478 t1 .nil)) 479 t1 (.node (.node .nil 480 t1 .nil) 481 t481 (.node .nil 482 t481 .nil))) 483 t1 (.node (.node (.node .nil 484 t1 .nil) 485 t1 (.node .nil 486 t486 .nil)) 487 t486 (.node (.node .nil 488 t181 .nil) 489 t181 .nil))))) 490 t1 (.node (.node (.node (.node (.node (.node .nil 491 t1 .nil) 492 t1 (.node .nil 493 t1 .nil)) 494 t2 (.node (.node .nil 496 t1 .nil) 497 t1 (.node .nil 498 t1 .nil))) 499 t1 (.node (.node (.node .nil 500 t500 .nil) 501 t1 (.node .nil 502 t1 .nil)) 503 t503 (.node (.node .nil 504 t1 .nil) 505 t1 .nil))) 506 t1 (.node (.node (.node (.node .nil 507 t1 .nil) 508 t1 (.node .nil 509 t1 .nil)) 510 t1 (.node (.node .nil 511 t1 .nil) 512 t1 (.node .nil 513 t513 .nil))) 514 t514 (.node (.node (.node .nil 515 t1 .nil) 516 t1 (.node .nil 517 t1 .nil)) 518 t1 (.node (.node .nil 519 t1 .nil) 520 t12 .nil)))) 521 t1 (.node (.node (.node (.node (.node .nil 522 t1 .nil) 523 t1 (.node .nil 524 t524 .nil)) 525 t1 (.node (.node .nil 527 t1 .nil) 528 t528 (.node .nil 529 t528 .nil))) 530 t1 (.node (.node (.node .nil 531 t1 .nil) 532 t1 (.node .nil 533 t533 .nil)) 534 t1 (.node (.node .nil 535 t1 .nil) 536 t1 .nil))) 537 t1 (.node (.node (.node (.node .nil 538 t1 .nil) 539 t1 (.node .nil 540 t1 .nil)) 541 t1 (.node (.node .nil 542 t542 .nil) 543 t542 (.node .nil 547 t5 .nil))) 548 t5 (.node (.node (.node .nil 549 t1 .nil) 550 t21 (.node .nil 551 t21 .nil)) 552 t552 (.node (.node .nil 553 t552 .nil) 554 t1 .nil))))))))
theorem tab_b:tabB Tryz.prog tab=true:=by kernel_rfl
theorem tab_ok:zG Tryz.prog tab:=tabOk_of tab_b
theorem nmA : Tryz.prog.funcs.toList.all (fun f => !(f.name == "runtime.NumGoroutine")) = true := by kernel_rfl
theorem nq9{k : Nat}{v : Func}(h : Tryz.prog.funcs[k]? = some v): (v.name == "runtime.NumGoroutine") = false := by
 have hm:v∈Tryz.prog.funcs.toList:=by rw[←Array.getElem?_toList] at h;exact List.mem_of_getElem? h
 have:=List.all_eq_true.1 nmA v hm;simpa using this
noncomputable def ftv(k:Nat):Func:=(Tryz.prog.funcs.toList[k]?).getD Tryz.f0
noncomputable def ftb(d:Nat):Nat→Nat→Tr Func:=Nat.rec (motive:=λ_=>Nat→Nat→Tr Func) (λ_ _=>.nil) (λ_ ih lo n=>Nat.rec (motive:=λ_=>Tr Func) .nil (λm _=>.node (ih lo (Nat.div m 2)) (Nat.add lo (Nat.div m 2)) (ftv (Nat.add lo (Nat.div m 2))) (ih (Nat.succ (Nat.add lo (Nat.div m 2))) (Nat.sub m (Nat.div m 2)))) n) d
theorem ftb_get:∀(d lo n:Nat) (j:Nat) (u:Func),(ftb d lo n).get j=some u→lo≤j∧j<lo+n∧u=ftv j
 |0,lo,n,j,u,h=>by cases h
 |d+1,lo,0,j,u,h=>by cases h
 |d+1,lo,m+1,j,u,h=>by
  have e:ftb (d+1) lo (m+1)=.node (ftb d lo (m/2)) (lo+m/2) (ftv (lo+m/2)) (ftb d (lo+m/2+1) (m-m/2)):=rfl;rw[e,Tr.get_c] at h;split at h
  ·rename_i hb;have hj:=Nat.eq_of_beq_eq_true hb;injection h with h;exact⟨by omega,by omega,by rw[hj];exact h.symm⟩
  split at h
  ·obtain⟨a,b,c⟩:=ftb_get d _ _ j u h;exact⟨a,by omega,c⟩
  obtain⟨a,b,c⟩:=ftb_get d _ _ j u h;exact⟨by omega,by omega,c⟩
noncomputable def ft:Tr Func:=ftb 14 0 563
theorem ft_len:Tryz.prog.funcs.toList.length=563:=by kernel_rfl
theorem ft_ok:FTOk Tryz.prog ft:=λf fn h=>by
 obtain⟨_,h2,rfl⟩:=ftb_get 14 0 563 f fn h
 have e:Tryz.prog.funcs[f]?=some (ftv f):=by
  unfold ftv;rw[←Array.getElem?_toList,List.getElem?_eq_getElem (by rw[ft_len];omega)];rfl
 exact⟨e,nq9 e⟩
theorem mix_ok:Tryz.prog.follows .mixedOrders=true:=by kernel_rfl
noncomputable def envC(Δ:List Eng.CS)(wr:Bool)(cuts:List (Nat×Nat)):Env:={ T:=tab,Γ:=[],Δ:=Δ,FT:=ft,inv:=λ_ _ _=>none,wr:=λ_=>wr,cut:=R.inL cuts }
theorem zi{Δ:List Eng.CS}{wr:Bool}{cuts:List (Nat×Nat)}(h':CSsOk Tryz.prog Δ):EnvOk Tryz.prog (envC Δ wr cuts):=⟨mix_ok,tab_ok,specs_nil,h',ft_ok⟩
end Go.Proofs.YticmemgehllacaaGreatDoor
namespace Go.Eng
open Go
section
section
variable {σ ρ α β:Type}{Φ Ψ:α→Prop}{Ω:β→Prop}
theorem z7{a:α}(h:Φ a):zf (some a) Φ:=⟨a,rfl,h⟩
theorem g_mono{x:Option α}(h:zf x Ψ)(hm:∀a,Ψ a→Φ a):zf x Φ:=by obtain⟨a,h1,h2⟩:=h;exact⟨a,h1,hm a h2⟩
theorem y3{x:Option β}{f:β→Option α}(h:zf x Ω)(hf:∀b,Ω b→zf (f b) Φ):zf (x.bind f) Φ:=by
 obtain⟨b,rfl,hb⟩:=h;exact hf b hb
theorem zh{x:Option β}{b:β}{f:β→Option α}(h:x=some b)(hf:zf (f b) Φ):zf (x.bind f) Φ:=by subst h;exact hf
theorem g_ck{p:Prop}{_:Decidable p}{e:Option α}(hp:p)(h:zf e Φ):zf (ck p e) Φ:=by unfold ck;rw[if_pos hp];exact h
theorem zJ{n:Int}{_:Decidable (inR .i64 n)}{e:Option α}(h1:-9223372036854775808≤n∧n≤9223372036854775807)(h:zf e Φ):zf (ck (inR .i64 n) e) Φ:=g_ck h1 h
theorem g_i32{n:Int}{_:Decidable (inR .i32 n)}{e:Option α}(h1:-2147483648≤n∧n≤2147483647)(h:zf e Φ):zf (ck (inR .i32 n) e) Φ:=g_ck h1 h
theorem g_u8{n:Int}{_:Decidable (inR .u8 n)}{e:Option α}(h1:0≤n∧n≤255)(h:zf e Φ):zf (ck (inR .u8 n) e) Φ:=g_ck h1 h
theorem g_if{p:Prop}{_:Decidable p}{a b:Option α}(h1:p→zf a Φ)(h2:¬p→zf b Φ):zf (if p then a else b) Φ:=by
 split
 ·exact h1 ‹_›
 exact h2 ‹_›
theorem g_t{p:Prop}{_:Decidable p}{a b:Option α}(hp:p)(h1:zf a Φ):zf (if p then a else b) Φ:=by rw[if_pos hp];exact h1
theorem g_f{p:Prop}{_:Decidable p}{a b:Option α}(hp:¬p)(h1:zf b Φ):zf (if p then a else b) Φ:=by rw[if_neg hp];exact h1
theorem g_jn{A:(β→Option α)→Option α}{k:β→Option α}(Ψ:β→Prop)(hA:∀k:β→Option α,(∀b,Ψ b→zf (k b) Φ)→zf (A k) Φ)(hk:∀b,Ψ b→zf (k b) Φ):zf (jn A k) Φ:=hA k hk
theorem g_jo{A:(β→Option α)→Option α}{k:β→Option α}(h:zf (A k) Φ):zf (jn A k) Φ:=h
def rnd(Q:σ→Prop)(μ:σ→Nat)(m:Nat)(R:ρ→Prop)(x:St1 σ ρ):Prop:=match x with|.go s=>Q s∧μ s<m|.out r=>R r
theorem g_go{Q:σ→Prop}{μ:σ→Nat}{m:Nat}{R:ρ→Prop}{s:σ}(h:Q s)(hm:μ s<m):zf (some (St1.go s)) (rnd Q μ m R):=⟨_,rfl,h,hm⟩
theorem zP{Q:σ→Prop}{μ:σ→Nat}{m:Nat}{R:ρ→Prop}{r:ρ}(h:R r):zf (some (St1.out (σ:=σ) r)) (rnd Q μ m R):=⟨_,rfl,h⟩
theorem yf{step:σ→Option (St1 σ ρ)}{R:ρ→Prop}(Q:σ→Prop)(μ:σ→Nat)(h:∀s,Q s→zf (step s) (rnd Q μ (μ s) R)){s:σ}(hs:Q s):zf (y7 step s) R:=by
 have:=loopO_rel (step:=step) (Q:=Q) (R:=R) μ (fun s hs=>by
  obtain⟨x,hx,hr⟩:=h s hs
  cases x with
  |go s'=>exact .inr ⟨s',hx,hr⟩
  | out r=>exact .inl ⟨r,hx,hr⟩) s hs
 exact this
theorem g_eq{x:Option α}{a:α}(h:zf x λb=>b=a):x=some a:=by obtain⟨b,h,rfl⟩:=h;exact h
theorem g_sm{γ:Type}{o:β ⊕ γ}{f:β→Option α}{g:γ→Option α}(h1:∀b,o=.inl b→zf (f b) Φ)(h2:∀c,o=.inr c→zf (g c) Φ):zf (sm o f g) Φ:=by
 cases o with
 |inl b=>exact h1 b rfl
 |inr c=>exact h2 c rfl
end
section
variable {σ ρ α β γ:Type}
def Le(x y:Option α):Prop:=∀r,x=some r→y=some r
theorem le_refl{x:Option α}:Le x x:=λ_ h=>h
end
end
end Go.Eng
namespace Go.Eng
open Go Go.RowKit
theorem wf_in{k:IntKind}{a:Int}(h:(Lit.int k a).wf=true):inR k a:=by
 simp only[Lit.wf,Bool.and_eq_true,decide_eq_true_eq] at h;cases k<;>exact h
theorem rds_of{q:PH}:∀{l:List (Option Addr×List Value)},(∀x∈l,Reads q x.1 x.2)→RdsOk q l
 |[],_=>trivial
 |x::r,h=>⟨h x (.head _),rds_of λy hy=>h y (.tail _ hy)⟩
theorem ec_vw{α:Type}{c:α→List Value}{sz:Nat}(hc:∀a,(c a).length=sz){xs:List α}{lo m:Nat}:vwC (ec c xs) lo sz m=ec c ((xs.drop lo).take m):=by
 unfold vwC;rw[ec_drop hc,ec_take hc]
theorem y6{q:PH}:∀{a b:List (Option Addr×List Value)},RdsOk q (a++b)↔RdsOk q a∧RdsOk q b
 |[],b=>by simp[RdsOk]
 |(A,xs)::r,b=>by
  show(Reads q A xs∧RdsOk q (r++b))↔(Reads q A xs∧RdsOk q r)∧RdsOk q b;rw[y6,and_assoc]
theorem xA{α β:Type}{f:α→β}{X:List α}{x:List β}(h:X.map f=x):X.length=x.length:=by rw[←h,List.length_map]
theorem er_get{α β:Type}[Inhabited α][Inhabited β]{f:α→β}{X:List α}{x:List β}(h:X.map f=x){i:Nat}(hi:i<x.length):f (X.getD i default)=x.getD i default:=by
 subst h;have h2:i<X.length:=by simpa using hi
 simp[List.getD_eq_getElem?_getD,h2]
theorem er_app{α β:Type}{f:α→β}{X Y:List α}{x y:List β}(h:X.map f=x)(k:Y.map f=y):(X++Y).map f=x++y:=by rw[List.map_append,h,k]
theorem nx{α β:Type}{f:α→β}{C:α→List Value}{P:α→Prop}{X:List α}{x:List β}{zs:List Value}(h:X.map f=x)(hP:∀p∈X,P p)(hz:zs=ec C X):∃X',X'.map f=x∧(∀p∈X',P p)∧X'.length=x.length∧zs=ec C X':=⟨X,h,hP,xA h,hz⟩
theorem rd_eq{α:Type}{f:α→List Value}{q:PH}{A:Option Addr}{l l':α}(h:l=l')(k:Reads q A (f l)):Reads q A (f l'):=h▸k
theorem pin_app{α:Type}{P:α→Prop}{X Y:List α}(h:∀p∈X,P p)(k:∀p∈Y,P p):∀p∈X++Y,P p:=λp hp=>(List.mem_append.1 hp).elim (h p) (k p)
theorem pin_one{α:Type}{P:α→Prop}{a:α}(h:P a):∀p∈[a],P p:=λp hp=>by rw[List.mem_singleton.1 hp];exact h
theorem yF{α:Type}{P:α→Prop}:∀p∈([]:List α),P p:=λp hp=>by cases hp
def cl{α:Type}(b:Nat)(a:List α):Option (List α):=ck (a.length*b≤140737488355328) <| some a
end Go.Eng
section
namespace Go.Eng
open Go Go.RowKit
variable {P:Program}{S S' Sb:Pl}{fr:Fr}{L L':LL}{q q':PH}{w0:W0}{w w':World}{a:Act}{n0 N:Nat}{B:Nat→Prop}{E:Env}
variable {r:Option Nat}{n:Nat}{Q:Exit→Act→World→Prop}
noncomputable section
def xfresh(n0 key:Nat)(fr:Fr)(L:LL):Bool:=
 match Nat.ble n0 key with
 |true=>(match hasF key fr with|true=>false|false=>(match hasLL key L with|true=>false|false=>true))
 |false=>false
def xcap(n byt:Nat):Bool:=match Nat.ble n 9223372036854775807 with|true=>Nat.ble (n*byt) 140737488355328|false=>false
def xsrc(L:LL)(sz:Nat)(x:SV):Option (Nat×List SV):=
 match x with
 |.v (.slice none 0 _)=>some (0,[])
 | .own j=>(match getL L j with
  |some (.row _ sz' n cs)=>(match Nat.beq sz' sz with|true=>some (n,cs)|false=>none)
  |some (.sb _ n xs)=>(match Nat.beq sz 1,oneVL xs with|true,true=>some (n,valL xs)|_,_=>none)
  | _=>none)
 | .vw j lo sz'' m _=>(match getL L j with
  |some (.row _ sz' n cs)=>(match Nat.beq sz'' sz,Nat.beq sz' sz,Nat.ble (lo+m) n with|true,true,true=>some (m,vwS cs lo sz m)|_,_,_=>none)
  |some (.sb _ n xs)=>(match Nat.beq sz'' 1,Nat.beq sz 1,Nat.ble (lo+m) n,oneVL xs with|true,true,true,true=>some (m,valL ((xs.drop lo).take m))|_,_,_,_=>none)
  | _=>none)
 |_=>none
def xdst(L:LL)(e sz:Nat)(s:SV):Option (Option Nat×Nat×List SV):=
 match s with
 |.v (.slice none 0 0)=>some (none,0,[])
 |.own k=>(match getL L k with|some (.row e' sz' n cs)=>(match Nat.beq e' e,Nat.beq sz' sz with|true,true=>some (some k,n,cs)|_,_=>none)|_=>none)
 |.vw k 0 sz'' m true=>(match getL L k with|some (.row e' sz' n cs)=>(match Nat.beq e' e,Nat.beq sz' sz,Nat.ble m n with|true,true,true=>some (some k,m,takeN cs (m*sz))|_,_,_=>none)|_=>none)
 |_=>none
def xrem(k:Option Nat)(L:LL):LL:=match k with|none=>L|some k=>remL L k
def xapp(T:Tab)(t n0 key:Nat)(s x:SV)(fr:Fr)(L:LL):Option (SV×LL):=
 match (ty T t).d with
 |.slice e=>
  (match ty T e with
  |⟨.other,_,_,_,_,_⟩=>none
  | ⟨_,sz,byt,_,_,_⟩=>(match xsrc L sz x with
   |none=>none
   | some (m,ys)=>(match xdst L e sz s with
    |none=>none
    | some (k,n,cs)=>(match xcap (n+m) byt,xfresh n0 key fr L with
     |true,true=>some (.own key,(key,.row e sz (n+m) (catQ cs ys))::xrem k L)
     | _,_=>none))))
 |_=>none
end
theorem wj{α:Type}:∀(a b:List α),catQ a b=a++b
 |[],b=>rfl
 |x::r,b=>by show x::catQ r b=_;rw[wj r b];rfl
theorem xfresh_ok{key:Nat}(h:xfresh n0 key fr L=true):n0≤key∧hasF key fr=false∧hasLL key L=false:=by
 unfold xfresh at h;split at h
 ·rename_i h1;split at h
  ·cases h
  rename_i h2;split at h
  ·cases h
  rename_i h3;exact⟨Nat.le_of_ble_eq_true h1,h2,h3⟩
 cases h
theorem xcap_ok{n byt:Nat}(h:xcap n byt=true):n≤9223372036854775807∧n*byt≤140737488355328:=by
 unfold xcap at h;split at h
 ·rename_i h1;exact⟨Nat.le_of_ble_eq_true h1,Nat.le_of_ble_eq_true h⟩
 cases h
theorem yY{k:Nat}{x:SV}{r:List SV}:hasL k (x::r)=(x.has k||hasL k r):=by
 rw[hasL];cases x.has k<;>rfl
theorem hasF_cons{k u:Nat}{x:SV}{r:Fr}:hasF k ((u,x)::r)=(x.has k||hasF k r):=by
 rw[hasF_c];cases x.has k<;>rfl
theorem yi{k u:Nat}{x:LB}{r:LL}:hasLL k ((u,x)::r)=(Nat.beq u k||(x.has k||hasLL k r)):=by
 rw[hasLL_c];cases Nat.beq u k<;>cases x.has k<;>rfl
theorem hasL_takeN{k:Nat}:∀{l:List SV}{n:Nat},hasL k (takeN l n)=true→hasL k l=true
 |_,0,h=>by simp[takeN,hasL] at h
 |[],n+1,h=>by simp[takeN,hasL] at h
 |x::r,n+1,h=>by
  simp only[takeN,yY,Bool.or_eq_true] at h ⊢;exact h.imp id hasL_takeN
theorem hasL_dropN{k:Nat}:∀{l:List SV}{n:Nat},hasL k (dropN l n)=true→hasL k l=true
 |[],0,h=>h
 |_::_,0,h=>h
 |[],n+1,h=>by simp[dropN,hasL] at h
 |x::r,n+1,h=>by
  simp only[dropN] at h;rw[yY,Bool.or_eq_true];exact .inr (hasL_dropN h)
theorem hasL_append{k:Nat}:∀{l m:List SV},hasL k (l++m)=true→hasL k l=true∨hasL k m=true
 |[],m,h=>.inr h
 |x::r,m,h=>by
  rw[List.cons_append,yY,Bool.or_eq_true] at h;rw[yY,Bool.or_eq_true];rcases h with h|h
  ·exact .inl (.inl h)
  exact(hasL_append h).imp .inr id
theorem hasLL_setL{j k:Nat}{lb:LB}:∀{L:LL},hasLL j (setL L k lb)=true→hasLL j L=true∨lb.has j=true
 |[],h=>.inl h
 |(u,y)::r,h=>by
  rw[setL_c] at h
  cases e:Nat.beq u k with
  |true=>
   rw[e] at h;simp only[yi,Bool.or_eq_true] at h ⊢;rcases h with h|h|h
   ·exact .inl (.inl h)
   ·exact .inr h
   exact .inl (.inr (.inr h))
  |false=>
   rw[e] at h;simp only[yi,Bool.or_eq_true] at h ⊢;rcases h with h|h|h
   ·exact .inl (.inl h)
   ·exact .inl (.inr (.inl h))
   exact(hasLL_setL h).imp (λh=>.inr (.inr h)) id
theorem remL_setL'{k:Nat}{x:LB}:∀{L:LL},remL (setL L k x) k=remL L k
 |[]=>rfl
 |(u,y)::r=>by
  by_cases h:Nat.beq u k=true
  ·simp[setL_c,remL_c,h]
  have h:Nat.beq u k=false:=by rw[Bool.eq_false_iff];exact h
  simp[setL_c,remL_c,h,remL_setL' (L:=r)]
theorem Mem.retell{k:Nat}{lb lb':LB}(hm:Mem w0 q S L w)(hk:getL L k=some lb)(hb:blk S k lb'=blk S k lb)(hc:zD 0 S k lb' w):Mem w0 q S (setL L k lb') w:=by
 have g:∀j x,getL (setL L k lb') j=some x→∃y,getL L j=some y∧blk S j x=blk S j y∧zD 0 S j x w:=by
  intro j x hj;rw[zK] at hj;split at hj
  ·rename_i e;subst e;rw[hk] at hj;cases hj;exact⟨lb,hk,hb,hc⟩
  exact⟨x,hj,rfl,hm.ch j x hj⟩
 refine⟨λj x hj=>(g j x hj).elim λ_ h=>h.2.2,λj x j' x' hj hj' hne b h1 h2=>?_,λj x hj b h1=>?_,λj x hj b h1=>?_,hm.on,hm.be,hm.gw⟩
 ·obtain⟨y,g1,g2,_⟩:=g j x hj;obtain⟨y',g1',g2',_⟩:=g j' x' hj';exact hm.ap j y j' y' g1 g1' hne b (g2▸h1) (g2'▸h2)
 ·obtain⟨y,g1,g2,_⟩:=g j x hj;exact hm.po j y g1 b (g2▸h1)
 obtain⟨y,g1,g2,_⟩:=g j x hj;exact hm.fz j y g1 b (g2▸h1)
theorem Mem.view{k e sz n:Nat}{cs:List SV}(hm:Mem w0 q S L w)(hk:getL L k=some (.row e sz n cs)):∃xs,okL S cs xs∧zD 0 S k (.arr e sz n xs) w∧getL (setL L k (.arr e sz n xs)) k=some (.arr e sz n xs)∧Mem w0 q S (setL L k (.arr e sz n xs)) w:=by
 obtain⟨xs,h1,h2⟩:=hm.ch k _ hk;refine⟨xs,h2,h1,?_,hm.retell hk rfl h1⟩;rw[zK,if_pos rfl,hk];rfl
theorem Mem.head{key e sz n:Nat}{xs:List Value}{cs:List SV}(hm:Mem w0 q S ((key,.arr e sz n xs)::L) w)(hok:okL S cs xs):Mem w0 q S ((key,.row e sz n cs)::L) w:=by
 have hk:getL ((key,LB.arr e sz n xs)::L) key=some (.arr e sz n xs):=by rw[ze,if_pos rfl]
 have:=hm.retell (lb':=.row e sz n cs) hk rfl ⟨xs,hm.ch key _ hk,hok⟩
 rwa [setL_c,Nat.beq_refl] at this
theorem Cfg.rem'{key k:Nat}{lb lb0:LB}{l:Loc}(hc:Cfg w0 Sb B n0 N S q fr L a w)(h0:n0≤key)(h1:hasF key fr=false)(h2:hasLL key L=false)(hk:getL L k=some lb0)(hd:lb0≠.dfr)(hm:Mem w0 q (updS S key l) ((key,lb)::remL L k) w'):
  Cfg w0 Sb B n0 N (updS S key l) q fr ((key,lb)::remL L k) a w':=by
 have hne:∀d,getL L d=some .dfr→d≠key:=λd hd e=>by subst e;rw[zm hd (.inl rfl)] at h2;cases h2
 have hg:∀d,getL L d=some .dfr→getL ((key,lb)::remL L k) d=some .dfr:=λd hd'=>by
  rw[ze,if_neg (λe=>hne d hd' e.symm),zM];rw[if_neg (λe=>by subst e;rw[hk] at hd';cases hd';exact hd rfl)];exact hd'
 exact⟨λk hk=>(zz ws).trans (hc.ag k hk),λd hd hB=>hg d (hc.b d hd hB),hm,okF_upd h1 hc.f,hc.n,hc.d⟩
theorem okL_updS{key:Nat}{l:Loc}{cs:List SV}{vs:List Value}(h:okL S cs vs)(hk:hasL key cs=false):okL (updS S key l) cs vs:=
 yc cs (λk hk'=>zz (λe=>by subst e;rw[hk] at hk';cases hk')) h
theorem sb_src{k e n lo m:Nat}{xs:List Value}(hc:zD 0 S k (.sb e n xs) w)(h:lo+m≤n):Src w ((S k).A.map (·.add lo)) m 1 ((xs.drop lo).take m):=by
 obtain⟨_,hA,_,_,hl,cur,fz,hh,ht⟩:=hc;refine⟨by rw[List.length_take,List.length_drop];omega,λj v hv=>?_⟩;have hj:=(List.getElem?_eq_some_iff.1 hv).1;rw[List.length_take,List.length_drop] at hj;refine⟨⟨(S k).b,lo,none⟩,by rw[hA];simp[Addr.add_lit],rfl,?_⟩;rw[List.getElem?_take_of_lt ws,List.getElem?_drop,←ht,List.getElem?_take_of_lt ws] at hv;simp only[World.cell?,hh];simpa using hv
theorem xsrc_ok{sz m:Nat}{x:SV}{ys:List SV}{u:Value}(hm:Mem w0 q S L w)(h:xsrc L sz x=some (m,ys))(hx:okv S x u):
  ∃A c vs,u=.slice A m c∧Src w A m sz vs∧okL S ys vs∧(∀y∈vs,y.oneCell'=true)∧∀k,hasL k ys=true→hasLL k L=true:=by
 unfold xsrc at h;split at h
 ·cases h;exact⟨none,_,[],hx,⟨by simp,λj v hv=>by simp at hv⟩,trivial,λ_ h=>wL,λk hk=>by simp[hasL] at hk⟩
 ·rename_i j;split at h
  ·rename_i sz' n' cs hj;split at h;rotate_left
   ·cases h
   rename_i hs;have hs:=Nat.eq_of_beq_eq_true hs;subst hs;cases h;obtain⟨xs,hok,hch,_⟩:=hm.view hj;refine⟨(S j).A,(S j).c,xs,?_,src_of_own hch,hok,hch.2.2.2.1,λk hk=>zm hj (.inr hk)⟩;have hx:u=.slice (S j).A (S j).n (S j).c:=hx;rw[hx,hch.2.1]
  ·rename_i e' n' xs hj;split at h;rotate_left
   ·cases h
   rename_i h1 h2;have h1:=Nat.eq_of_beq_eq_true h1;subst h1;cases h;have hch:=hm.ch j _ hj;have hs:=sb_src (lo:=0) (m:=m) hch ws;obtain⟨_,hA,hn,_,hl,_⟩:=hch;refine⟨(S j).A,(S j).c,xs,?_,?_,yv _,oneVL_ok h2,λk hk=>by rw[hasL_valL] at hk;cases hk⟩
   ·have hx:u=.slice (S j).A (S j).n (S j).c:=hx;rw[hx,hn]
   rw[List.drop_zero,List.take_of_length_le ws] at hs;rw[hA] at hs ⊢;simpa[Addr.add_lit] using hs
  cases h
 ·rename_i j lo sz'' m' ex;split at h
  ·rename_i sz' n' cs hj;split at h;rotate_left
   ·cases h
   rename_i h1 h2 h3;have h1:=Nat.eq_of_beq_eq_true h1;have h2:=Nat.eq_of_beq_eq_true h2;have h3:=Nat.le_of_ble_eq_true h3;subst h1 h2;cases h;obtain⟨xs,hok,hch,_⟩:=hm.view hj;obtain⟨A,c,hu,hsrc⟩:=src_of_vw hx hch h3;exact⟨A,c,_,hu,hsrc,vwS_ok hok,vwC_one hch.2.2.2.1,λk hk=>zm hj (.inr (hasL_dropN (hasL_takeN hk)))⟩
  ·rename_i e' n' xs hj;split at h;rotate_left
   ·cases h
   rename_i h1 h2 h3 h4;have h1:=Nat.eq_of_beq_eq_true h1;have h2:=Nat.eq_of_beq_eq_true h2;have h3:=Nat.le_of_ble_eq_true h3;subst h1 h2;cases h;have hs:=sb_src (hm.ch j _ hj) h3;obtain⟨A,c,hu,_,hA,_⟩:=hx;refine⟨A,c,_,hu,?_,yv _,λy hy=>oneVL_ok h4 y (List.mem_of_mem_drop (List.mem_of_mem_take hy)),λk hk=>by rw[hasL_valL] at hk;cases hk⟩;rcases hA with rfl|hA
   ·exact⟨by simp,λj v hv=>by simp at hv⟩
   rw[Nat.mul_one] at hA;rw[hA];exact hs
  cases h
 cases h
theorem xapp_step(hT:zG P E.T){o:Oper}{t key nk:Nat}{so xo:Operand}{y:SV}{K:Kt}(hop:o.op=.call ⟨.builtin .append,#[so,xo],#[t,t]⟩)(hc:Cfg w0 Sb B n0 N S q fr L a w)
  (h:xapp E.T t n0 key (opv fr so) (opv fr xo) fr L=some (y,L')) (hK:putK N o.dst y fr λfr=>K nk q fr L'):Oper.wpIn (FF r) n P o a w (St w0 Sb B n0 N K) Q:=by
 have hs:=zu hc.f so;have hx:=zu hc.f xo;unfold xapp at h;split at h;rotate_left
 ·cases h
 rename_i e hd;split at h
 ·cases h
 rename_i d sz byt zero fl cm hne hte;have hdo:d≠.other:=λe'=>hne e';split at h
 ·cases h
 rename_i m ys hxs;split at h
 ·cases h
 rename_i k n' cs hds;split at h;rotate_left
 ·cases h
 rename_i hcap hfr;cases h;obtain⟨k0,k1,k2⟩:=xfresh_ok hfr;obtain⟨g1,g2⟩:=xcap_ok hcap;obtain⟨A,c,vs,hxe,hsrc,hys,hone,hysk⟩:=xsrc_ok hc.m hxs hx
 have hysn:hasL key ys=false:=by
  cases hb:hasL key ys with
  |false=>rfl
  |true=>rw[hysk key hb] at k2;cases k2
 have hrun:∀{v:Value}{w':World},(Builtin.append_ #[t,t] o.type #[a.eval so,a.eval xo]).run P w=.ok v w'→(execOp a.eval o).run P w=.ok (.value v) w':=by
  intro v w' hr;simp only[execOp,hop,resolve,invoke,builtin,Sem.run_bind,Sem.run_pure,Result.andThen_ok,List.map_toArray,List.map_cons,List.map_nil,hr]
 have hdf:∀c,o.op≠.defer c:=yJ hop wv;obtain⟨ht,hsz,i,hi,hisz,hiby⟩:yz P E.T t (.slice e):=by rw[←hd];exact(hT t wD).d
 obtain⟨i',z,hi',hisz',_,hz,hzc⟩:=(hT e vi).i;have hzl:=(hT e vi).zl;rw[hi] at hi';cases hi';rw[hte] at hisz hsz hiby hzc hzl;simp only at hisz hsz hiby hzc hzl;have hzs:z.cells.size=sz:=by rw[←hzl,←hzc];simp
 rw[wj] at hK
 have own:∀{k1' n1:Nat}{cs1:List SV},getL L k1'=some (.row e sz n1 cs1)→n'≤n1→a.eval so=.slice (S k1').A n' (S k1').c→cs=takeN cs1 (n'*sz)→k=some k1'→Oper.wpIn (FF r) n P o a w (St w0 Sb B n0 N K) Q:=by
  intro kk n1 cs1 hk hle hso hcs hkk;subst hkk hcs;obtain⟨xs,hok,hch,hk',hm'⟩:=hc.m.view hk;obtain⟨hown0,hn,_,hone0,hA⟩:=hch;rw[hn] at hown0;have hown1:=own_short hown0 hle;obtain⟨v',w',hr,hown,hg,hb⟩:=yX (ty:=o.type) (P:=P) ht hi hz hisz hiby hzs hsz hown1 hsrc hone (xm g1) g2 (Nat.zero_le _);obtain⟨A',c',rfl,hA'⟩:=own_form hown;rw[←hso,←hxe] at hr;have hne:key≠kk:=λe=>by subst e;rw[zm hk (.inl rfl)] at k2;cases k2
  have k2':hasLL key (setL L kk (.arr e sz n1 xs))=false:=by
   cases hb:hasLL key (setL L kk (.arr e sz n1 xs)) with
   |false=>rfl
   |true=>
    rcases hasLL_setL hb with h|h
    ·rw[h] at k2;cases k2
    simp[LB.has] at h
  have own_blk:∀(A:Option Addr) (n c n' c':Nat),(Value.slice A n c).ownBlock=(Value.slice A n' c').ownBlock:=λA n c n' c'=>by cases A<;>rfl
  have hmem:=hm'.app (k:=kk) (key:=key) (e':=e) (sz':=sz) (xs':=xs.take (n' * sz)++vs) hk' k2' (by rw [own_blk _ _ _ n' (S kk).c];exact hg) hown hsz (fun x hx=>by
   rcases List.mem_append.1 hx with hx|hx
   ·exact hone0 x (List.mem_of_mem_take hx)
   exact hone x hx) hA' (by rw [own_blk (S kk).A (S kk).n _ n' (S kk).c];exact hb)
  rw[remL_setL'] at hmem
  have hcsn:hasL key (takeN cs1 (n'*sz))=false:=by
   cases hb:hasL key (takeN cs1 (n'*sz)) with
   |false=>rfl
   |true=>rw[zm hk (.inr (hasL_takeN hb))] at k2;cases k2
  have hok':okL (updS S key (yA A' (n'+m) c')) (takeN cs1 (n'*sz)++ys) (xs.take (n'*sz)++vs):=zV (okL_updS (yG _ hok) hcsn) (okL_updS hys hysn);refine zA hdf (hrun hr) ?_;obtain⟨fr',hK',hc'⟩:=(hc.rem' k0 k1 k2 hk wv (hmem.head hok')).put (v:=.slice A' (n'+m) c') hK (own_loc hown);exact⟨_,q,fr',_,nk,hc',hK'⟩
 unfold xdst at hds;split at hds
 ·rename_i es;rw[es] at hs;have hs:a.eval so=.slice none 0 0:=hs;cases hds;obtain⟨v',w',hr,hown,hg,hb⟩:=yX (ty:=o.type) (P:=P) ht hi hz hisz hiby hzs hsz (World.ownsRow_nil w 0 e sz) hsrc hone (xm g1) g2 (Nat.zero_le _);rw[Nat.zero_add,List.nil_append] at hown;obtain⟨A',c',rfl,hA'⟩:=own_form hown;rw[←hs,←hxe] at hr;refine zA hdf (hrun hr) ?_
  have hmem:Mem w0 q (updS S key (yA A' m c')) ((key,.arr e sz m vs)::L) w':=by
   refine hc.m.new k2 ((Below.refl _ w).grown hg (Nat.le_refl _) (λk e=>by cases e)) (xY hown hsz hone hA') λb hbb=>?_;rcases hb with hb|hb
   ·rcases hA' with rfl|⟨g,rfl⟩
    ·simp[blk,zc,yA] at hbb
    simp[Value.ownBlock] at hb
   rcases hA' with rfl|⟨g,rfl⟩
   ·simp[blk,zc,yA] at hbb
   simp[blk,zc,yA] at hbb;simp[Value.ownBlock] at hb;omega
  rw[Nat.zero_add,List.nil_append] at hK;obtain⟨fr',hK',hc'⟩:=(hc.new k0 k1 k2 (hmem.head (okL_updS hys hysn))).put (v:=.slice A' m c') hK (own_loc hown);exact⟨_,q,fr',_,nk,hc',hK'⟩
 ·rename_i kk es;rw[es] at hs;have hs:a.eval so=.slice (S kk).A (S kk).n (S kk).c:=hs;split at hds;rotate_left
  ·cases hds
  rename_i e' sz' n1 cs1 hk;split at hds;rotate_left
  ·cases hds
  rename_i he hsz';have he:=Nat.eq_of_beq_eq_true he;have hsz':=Nat.eq_of_beq_eq_true hsz';subst he hsz';cases hds;obtain⟨xs,hok,hch,_⟩:=hc.m.view hk;have hl:cs.length=n'*sz':=(zC hok).trans hch.1.1;exact own hk (Nat.le_refl _) (by rw[hs,hch.2.1]) (by rw[yV,List.take_of_length_le ws]) rfl
 ·rename_i kk sz'' mm es;rw[es] at hs;split at hds;rotate_left
  ·cases hds
  rename_i e' sz' n1 cs1 hk;split at hds;rotate_left
  ·cases hds
  rename_i he hsz' hle;have he:=Nat.eq_of_beq_eq_true he;have hsz':=Nat.eq_of_beq_eq_true hsz';have hle:=Nat.le_of_ble_eq_true hle;subst he hsz';cases hds;obtain⟨A0,c0,hu,_,_,hex⟩:=hs;obtain⟨hA0,hc0⟩:=hex rfl rfl;exact own hk hle (by rw[hu,hA0,hc0]) rfl rfl
 cases hds
end Go.Eng
end
