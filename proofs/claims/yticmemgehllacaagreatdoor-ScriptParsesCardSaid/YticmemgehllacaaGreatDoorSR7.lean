/- Texts that the law leans on. -/
import Derived.Test.YticmemgehllacaaGreatDoorSR6
import Derived.Test.YticmemgehllacaaGreatDoorSR3
import Derived.Test.YticmemgehllacaaGreatDoorSR4
import Derived.Test.YticmemgehllacaaGreatDoorSR5
set_option maxRecDepth 8000
set_option maxHeartbeats 4000000
set_option linter.unusedVariables false
set_option linter.unusedSimpArgs false
section
namespace Go.Eng
open Go Go.RowKit
namespace Exe
noncomputable section
abbrev RR:=Option (SV×Nat×Mm)
abbrev KV:=SV→Nat→Mm→RR
abbrev XHk:=List SV→Nat→Mm→KV→RR
abbrev Yk:=List (Nat×XHk)
abbrev XIk:=Yk→Nat→XHk
def obR(x:RR)(K:KV):RR:=Option.rec (motive:=λ_=>RR) none (λp=>K p.1 p.2.1 p.2.2) x
def yk(Y:Yk)(k:Nat):Option XHk:=List.rec (motive:=λ_=>Option XHk) none (λp _ ih=>Bool.rec (motive:=λ_=>Option XHk) ih (some p.2) (Nat.beq p.1 k)) Y
def frN(n:Nat)(K:Nat→RR):RR:=Nat.rec (motive:=λ_=>RR) (K 0) (λp _=>K (Nat.succ p)) n
def frI(n:Int)(K:Int→RR):RR:=Int.rec (motive:=λ_=>RR) (λm=>frN m λm=>K (.ofNat m)) (λm=>frN m λm=>K (.negSucc m)) n
def frB(b:Bool)(K:Bool→RR):RR:=Bool.rec (motive:=λ_=>RR) (K false) (K true) b
def frLS(l:List SV)(K:List SV→RR):RR:=List.rec (motive:=λ_=>(List SV→RR)→RR) (λK=>K []) (λx _ ih K=>ih λs=>K (x::s)) l K
def frBs(l:List UInt8)(K:List UInt8→RR):RR:=List.rec (motive:=λ_=>(List UInt8→RR)→RR) (λK=>K []) (λx _ ih K=>frN x.toNat λn=>ih λs=>K (UInt8.ofNat n::s)) l K
abbrev FcF:=Nat→Mm→KV→RR
def fcVbool(b:Bool):FcF:=λnk M K=>frB b λb=>K (.v (.bool b)) nk M
def fcVint(k:IntKind)(n:Int):FcF:=λnk M K=>frI n λn=>K (.v (.int k n)) nk M
def fcVflt(k:FloatKind)(n:Nat):FcF:=λnk M K=>frN n λn=>K (.v (.float k n)) nk M
def fcVcpl(k:FloatKind)(a b:Nat):FcF:=λnk M K=>K (.v (.complex k a b)) nk M
def fcVstr(s:ByteArray):FcF:=λnk M K=>K (.v (.string s)) nk M
def fcVptr(a:Option Addr):FcF:=λnk M K=>K (.v (.pointer a)) nk M
def fcVsl(a:Option Addr)(l c:Nat):FcF:=λnk M K=>K (.v (.slice a l c)) nk M
def fcVmap(a:Option Nat):FcF:=λnk M K=>K (.v (.map a)) nk M
def fcVchan(a:Option Nat):FcF:=λnk M K=>K (.v (.chan a)) nk M
def fcVfunc(f:Fn)(a b:Array Value)(_ _:Unit):FcF:=λnk M K=>K (.v (.func f a b)) nk M
def fcVnf:FcF:=λnk M K=>K (.v .nilFunc) nk M
def fcVif(t:TypeId)(v:Value)(_:FcF):FcF:=λnk M K=>K (.v (.iface t v)) nk M
def fcVni:FcF:=λnk M K=>K (.v .nilIface) nk M
def fcVagg(a:Array Value)(_:Unit):FcF:=λnk M K=>K (.v (.agg a)) nk M
def fcVtup(a:Array Value)(_:Unit):FcF:=λnk M K=>K (.v (.tuple a)) nk M
def fcV(v:Value):FcF:=Value.rec (motive_1:=λ_=>FcF) (motive_2:=λ_=>Unit) (motive_3:=λ_=>Unit)
 fcVbool fcVint fcVflt fcVcpl fcVstr fcVptr fcVsl fcVmap fcVchan fcVfunc fcVnf fcVif fcVni fcVagg fcVtup (λ_ _=>()) () (λ_ _ _ _=>()) v
def fcBB(b:Bool):FcF:=λnk M K=>frB b λb=>K (.bb b) nk M
def fcB(p:Prop)(d:Decidable p):FcF:=λnk M K=>Decidable.rec (motive:=λ_=>RR) (λ_=>K (.bb false) nk M) (λ_=>K (.bb true) nk M) d
def fcLp(k o:Nat):FcF:=λnk M K=>Bool.rec (motive:=λ_=>RR) none (frN o λo=>K (.lp k o) nk M) (Nat.blt k nk)
def fcOwn(k:Nat):FcF:=λnk M K=>Bool.rec (motive:=λ_=>RR) none (K (.own k) nk M) (Nat.blt k nk)
def fcEl(A:Option Addr)(j:Nat):FcF:=λnk M K=>K (.el A j) nk M
def fcAgg(l:List SV)(_:Unit):FcF:=λnk M K=>Bool.rec (motive:=λ_=>RR) none (frLS l λl=>K (.agg l) nk M) (R.ltKL nk l)
def fcTup(l:List SV)(_:Unit):FcF:=λnk M K=>Bool.rec (motive:=λ_=>RR) none (frLS l λl=>K (.tup l) nk M) (R.ltKL nk l)
def fcFn(f:FuncId)(l:List SV)(_:Unit):FcF:=λnk M K=>Bool.rec (motive:=λ_=>RR) none (frLS l λl=>K (.fn f l) nk M) (R.ltKL nk l)
def fcYl(k:Nat):FcF:=λnk M K=>Bool.rec (motive:=λ_=>RR) none (K (.yl k) nk M) (Nat.blt k nk)
def fcVw(k lo sz n:Nat)(ex:Bool):FcF:=λnk M K=>Bool.rec (motive:=λ_=>RR) none (frN lo λlo=>frN n λn=>frB ex λex=>K (.vw k lo sz n ex) nk M) (Nat.blt k nk)
def fcNo1(k:Nat):FcF:=λ_ _ _=>none
def fcNo2(k n:Nat):FcF:=λ_ _ _=>none
def fcMr(k:Nat):FcF:=λnk M K=>Bool.rec (motive:=λ_=>RR) none (K (.mr k) nk M) (Nat.blt k nk)
def fcBad:FcF:=λnk M K=>K .bad nk M
def frc(y:SV):FcF:=SV.rec (motive_1:=λ_=>FcF) (motive_2:=λ_=>Unit)
 fcV fcBB fcB fcLp fcOwn fcEl fcAgg fcTup fcFn fcYl fcVw fcNo1 fcNo2 fcMr fcBad () (λ_ _ _ _=>()) y
def frcO(y:Option SV)(nk:Nat)(M:Mm)(K:KV):RR:=Option.rec (motive:=λ_=>RR) none (λy=>frc y nk M K) y
def mvV(v:Value):FcF:=λnk M K=>K (.v v) nk M
def mvBB(b:Bool):FcF:=λnk M K=>K (.bb b) nk M
def mvLp(k o:Nat):FcF:=λnk M K=>Bool.rec (motive:=λ_=>RR) none (K (.lp k o) nk M) (Nat.blt k nk)
def mvAgg(l:List SV)(_:Unit):FcF:=λnk M K=>Bool.rec (motive:=λ_=>RR) none (K (.agg l) nk M) (R.ltKL nk l)
def mvTup(l:List SV)(_:Unit):FcF:=λnk M K=>Bool.rec (motive:=λ_=>RR) none (K (.tup l) nk M) (R.ltKL nk l)
def mvFn(f:FuncId)(l:List SV)(_:Unit):FcF:=λnk M K=>Bool.rec (motive:=λ_=>RR) none (K (.fn f l) nk M) (R.ltKL nk l)
def mvVw(k lo sz n:Nat)(ex:Bool):FcF:=λnk M K=>Bool.rec (motive:=λ_=>RR) none (K (.vw k lo sz n ex) nk M) (Nat.blt k nk)
def mv(y:SV):FcF:=SV.rec (motive_1:=λ_=>FcF) (motive_2:=λ_=>Unit)
 mvV mvBB fcB mvLp fcOwn fcEl mvAgg mvTup mvFn fcYl mvVw fcNo1 fcNo2 fcMr fcBad () (λ_ _ _ _=>()) y
def mvO(y:Option SV)(nk:Nat)(M:Mm)(K:KV):RR:=Option.rec (motive:=λ_=>RR) none (λy=>mv y nk M K) y
def fwV(x:Value)(K:SV→RR):RR:=K (.v x)
def fwBB(x:Bool)(K:SV→RR):RR:=K (.bb x)
def fwB(p:Prop)(_:Decidable p)(K:SV→RR):RR:=none
def fwLp(k o:Nat)(K:SV→RR):RR:=K (.lp k o)
def fwOwn(k:Nat)(K:SV→RR):RR:=K (.own k)
def fwEl(A:Option Addr)(j:Nat)(K:SV→RR):RR:=K (.el A j)
def fwNo(_:List SV)(_:Unit)(K:SV→RR):RR:=none
def fwFn(f:FuncId)(l:List SV)(_:Unit)(K:SV→RR):RR:=K (.fn f l)
def fwYl(k:Nat)(K:SV→RR):RR:=K (.yl k)
def fwVw(k lo sz n:Nat)(ex:Bool)(K:SV→RR):RR:=K (.vw k lo sz n ex)
def fwN1(k:Nat)(K:SV→RR):RR:=none
def fwN2(k n:Nat)(K:SV→RR):RR:=none
def fwMr(k:Nat)(K:SV→RR):RR:=K (.mr k)
def fwBad(K:SV→RR):RR:=none
def fw(y:SV):(SV→RR)→RR:=SV.rec (motive_1:=λ_=>(SV→RR)→RR) (motive_2:=λ_=>Unit)
 fwV fwBB fwB fwLp fwOwn fwEl fwNo fwNo fwFn fwYl fwVw fwN1 fwN2 fwMr fwBad () (λ_ _ _ _=>()) y
def takeK(l:List SV):Nat→(List SV→RR)→RR:=List.rec (motive:=λ_=>Nat→(List SV→RR)→RR) (λ_ K=>K []) (λx _ ih n K=>Nat.rec (motive:=λ_=>RR) (K []) (λn _=>ih n λs=>K (x::s)) n) l
def dropK(l:List SV):Nat→(List SV→RR)→RR:=List.rec (motive:=λ_=>Nat→(List SV→RR)→RR) (λ_ K=>K []) (λx r ih n K=>Nat.rec (motive:=λ_=>RR) (K (x::r)) (λn _=>ih n K) n) l
def catK(a b:List SV)(K:List SV→RR):RR:=List.rec (motive:=λ_=>(List SV→RR)→RR) (λK=>K b) (λx _ ih K=>ih λs=>K (x::s)) a K
def lenK1(l:List SV):Nat→(Nat→RR)→RR:=List.rec (motive:=λ_=>Nat→(Nat→RR)→RR) (λn K=>frN n K) (λ_ _ ih n K=>ih (Nat.succ n) K) l
def lenB(l:List UInt8)(K:Nat→RR):RR:=List.rec (motive:=λ_=>Nat→RR) (λn=>frN n K) (λ_ _ ih n=>ih (Nat.succ n)) l 0
def takeB(l:List UInt8):Nat→(List UInt8→RR)→RR:=List.rec (motive:=λ_=>Nat→(List UInt8→RR)→RR) (λ_ K=>K []) (λx _ ih n K=>Nat.rec (motive:=λ_=>RR) (K []) (λn _=>ih n λs=>K (x::s)) n) l
def dropB(l:List UInt8):Nat→(List UInt8→RR)→RR:=List.rec (motive:=λ_=>Nat→(List UInt8→RR)→RR) (λ_ K=>K []) (λx r ih n K=>Nat.rec (motive:=λ_=>RR) (K (x::r)) (λn _=>ih n K) n) l
def nthB(l:List UInt8):Nat→(Nat→RR)→RR:=List.rec (motive:=λ_=>Nat→(Nat→RR)→RR) (λ_ _=>none) (λx _ ih n K=>Nat.rec (motive:=λ_=>RR) (frN x.toNat K) (λn _=>ih n K) n) l
def nthV(l:List Value):Nat→Option Value:=List.rec (motive:=λ_=>Nat→Option Value) (λ_=>none) (λx _ ih n=>Nat.rec (motive:=λ_=>Option Value) (some x) (λn _=>ih n) n) l
def gt(fr:Fr)(t:Nat):SV:=List.rec (motive:=λ_=>SV) .bad (λp _ ih=>Bool.rec (motive:=λ_=>SV) ih p.2 (Nat.beq p.1 t)) fr
def cst(v:Value):SV:=match v with|.bool b=>.bb b|v=>.v v
def ovTmp(t:Nat)(fr:Fr):SV:=gt fr t
def ovCst(v:Value)(fr:Fr):SV:=cst v
def ovGlo(n:Nat)(fr:Fr):SV:=.bad
def ovFn(f:FuncId)(fr:Fr):SV:=.fn f []
def ov(x:Operand)(fr:Fr):SV:=Operand.rec (motive:=λ_=>Fr→SV) ovTmp ovCst ovGlo ovFn x fr
def ovs(l:List Operand)(fr:Fr)(K:List SV→RR):RR:=List.rec (motive:=λ_=>(List SV→RR)→RR) (λK=>K []) (λx _ ih K=>ih λs=>K (ov x fr::s)) l K
def nthS(l:List SV)(n:Nat):Option SV:=List.rec (motive:=λ_=>Nat→Option SV) (λ_=>none) (λx _ ih n=>Nat.rec (motive:=λ_=>Option SV) (some x) (λn _=>ih n) n) l n
def tget(M:Mm)(n:Nat):Option LB:=Tm.rec (motive:=λ_=>Nat→Option LB) (λ_=>none)
 (λ_ v _ gl gr n=>Nat.rec (motive:=λ_=>Option LB) v (λm _=>Bool.rec (motive:=λ_=>Option LB) (gr (Nat.div m 2)) (gl (Nat.div m 2)) (Nat.beq (Nat.mod m 2) 0)) n) M n
def tputL(n:Nat)(x:Option LB)(f:Nat)(K:Mm→RR)(ih:Mm→Nat→(Mm→RR)→RR):RR:=
 Nat.rec (motive:=λ_=>RR) (K (.nd .lf x .lf)) (λm _=>Bool.rec (motive:=λ_=>RR) (ih .lf (Nat.div m 2) λt=>K (.nd .lf none t)) (ih .lf (Nat.div m 2) λt=>K (.nd t none .lf)) (Nat.beq (Nat.mod m 2) 0)) n
def tputN(l:Mm)(v:Option LB)(r:Mm)(n:Nat)(x:Option LB)(f:Nat)(K:Mm→RR)(ih:Mm→Nat→(Mm→RR)→RR):RR:=
 Nat.rec (motive:=λ_=>RR) (K (.nd l x r)) (λm _=>Bool.rec (motive:=λ_=>RR) (ih r (Nat.div m 2) λt=>K (.nd l v t)) (ih l (Nat.div m 2) λt=>K (.nd t v r)) (Nat.beq (Nat.mod m 2) 0)) n
def tput1(x:Option LB)(f:Nat)(ih:Mm→Nat→(Mm→RR)→RR)(T:Mm)(n:Nat)(K:Mm→RR):RR:=
 Tm.rec (motive:=λ_=>RR) (tputL n x f K ih) (λl v r _ _=>tputN l v r n x f K ih) T
def tput0(x:Option LB)(f:Nat):Mm→Nat→(Mm→RR)→RR:=Nat.rec (motive:=λ_=>Mm→Nat→(Mm→RR)→RR) (λT _ K=>K T) (λf ih T n K=>tput1 x f ih T n K) f
def tput(M:Mm)(k:Nat)(x:Option LB)(K:Mm→RR):RR:=Bool.rec (motive:=λ_=>RR) none (tput0 x 31 M k K) (Nat.blt k 1000000000)
def newB(x:LB)(nk:Nat)(M:Mm)(K:Nat→Mm→RR):RR:=tput M nk (some x) λM=>frN (Nat.succ nk) λnk'=>K nk' M
def ltI(a b:Int):Bool:=Int.rec (motive:=λ_=>Bool) (λm=>Int.rec (motive:=λ_=>Bool) (λn=>Nat.blt m n) (λ_=>false) b) (λm=>Int.rec (motive:=λ_=>Bool) (λ_=>true) (λn=>Nat.blt n m) b) a
def eqI(a b:Int):Bool:=Int.rec (motive:=λ_=>Bool) (λm=>Int.rec (motive:=λ_=>Bool) (λn=>Nat.beq m n) (λ_=>false) b) (λm=>Int.rec (motive:=λ_=>Bool) (λ_=>false) (λn=>Nat.beq m n) b) a
def wrG(k:IntKind)(n:Int)(K:Int→RR):RR:=frI (k.wrap n) K
def wr64(n:Int)(K:Int→RR):RR:=Int.rec (motive:=λ_=>RR)
 (λm=>Bool.rec (motive:=λ_=>RR) (wrG .i64 (.ofNat m) K) (frN m λm=>K (.ofNat m)) (Nat.ble m 9223372036854775807))
 (λm=>Bool.rec (motive:=λ_=>RR) (wrG .i64 (.negSucc m) K) (frN m λm=>K (.negSucc m)) (Nat.ble m 9223372036854775807)) n
def wr8(n:Int)(K:Int→RR):RR:=Int.rec (motive:=λ_=>RR) (λm=>frN (Nat.mod m 256) λm=>K (.ofNat m)) (λm=>wrG .u8 (.negSucc m) K) n
def wr32(n:Int)(K:Int→RR):RR:=Int.rec (motive:=λ_=>RR)
 (λm=>Bool.rec (motive:=λ_=>RR) (wrG .i32 (.ofNat m) K) (frN m λm=>K (.ofNat m)) (Nat.ble m 2147483647)) (λm=>wrG .i32 (.negSucc m) K) n
def wrK(k:IntKind)(n:Int)(K:Int→RR):RR:=IntKind.rec (motive:=λ_=>Int→(Int→RR)→RR) (wrG .i8) (wrG .i16) wr32 wr64 wr8 (wrG .u16) (wrG .u32) (wrG .u64) k n K
def kcF(k:IntKind):Nat:=IntKind.rec (motive:=λ_=>Nat) 0 1 2 3 4 5 6 7 k
abbrev IF2:=IntKind→Int→Int→Nat→Mm→KV→RR→RR
def bxB(b:Bool)(nk:Nat)(M:Mm)(K:KV):RR:=Bool.rec (motive:=λ_=>RR) (K (.bb false) nk M) (K (.bb true) nk M) b
def notB(b:Bool):Bool:=Bool.rec (motive:=λ_=>Bool) true false b
def iAdd:IF2:=λk a b nk M K _=>wrK k (Int.add a b) λn=>K (.v (.int k n)) nk M
def iSub:IF2:=λk a b nk M K _=>wrK k (Int.sub a b) λn=>K (.v (.int k n)) nk M
def iMul:IF2:=λk a b nk M K _=>wrK k (Int.mul a b) λn=>K (.v (.int k n)) nk M
def iEql:IF2:=λk a b nk M K _=>bxB (eqI a b) nk M K
def iNeq:IF2:=λk a b nk M K _=>bxB (notB (eqI a b)) nk M K
def iLss:IF2:=λk a b nk M K _=>bxB (ltI a b) nk M K
def iLeq:IF2:=λk a b nk M K _=>bxB (notB (ltI b a)) nk M K
def iGtr:IF2:=λk a b nk M K _=>bxB (ltI b a) nk M K
def iGeq:IF2:=λk a b nk M K _=>bxB (notB (ltI a b)) nk M K
def iSlow:IF2:=λ_ _ _ _ _ _ s=>s
def iOp(op:BinOp):IF2:=BinOp.rec (motive:=λ_=>IF2) iAdd iSub iMul iSlow iSlow iSlow iSlow iSlow iSlow iSlow iSlow iEql iNeq iLss iLeq iGtr iGeq op
def eqBs(a:List UInt8):List UInt8→Bool:=List.rec (motive:=λ_=>List UInt8→Bool) (λb=>List.rec (motive:=λ_=>Bool) true (λ_ _ _=>false) b)
 (λx _ ih b=>List.rec (motive:=λ_=>Bool) false (λy s _=>Bool.rec (motive:=λ_=>Bool) false (ih s) (Nat.beq x.toNat y.toNat)) b) a
abbrev SF2:=ByteArray→ByteArray→Nat→Mm→KV→RR→RR
def sEql:SF2:=λa b nk M K _=>bxB (eqBs a.data.toList b.data.toList) nk M K
def sNeq:SF2:=λa b nk M K _=>bxB (notB (eqBs a.data.toList b.data.toList)) nk M K
def sAdd:SF2:=λa b nk M K s=>Bool.rec (motive:=λ_=>RR) s (frBs (List.append a.data.toList b.data.toList) λl=>K (.v (.string ⟨⟨l⟩⟩)) nk M) (Nat.ble (Nat.add a.data.toList.length b.data.toList.length) 9223372036854775807)
def sSlow:SF2:=λ_ _ _ _ _ s=>s
def sOp(op:BinOp):SF2:=BinOp.rec (motive:=λ_=>SF2) sAdd sSlow sSlow sSlow sSlow sSlow sSlow sSlow sSlow sSlow sSlow sEql sNeq sSlow sSlow sSlow sSlow op
structure Wk where
 i:IntKind→Int→RR
 s:ByteArray→RR
 o:RR
def wkVbool(_:Bool)(k:Wk):RR:=k.o
def wkVint(a:IntKind)(n:Int)(k:Wk):RR:=k.i a n
def wkVflt(_:FloatKind)(_:Nat)(k:Wk):RR:=k.o
def wkVcpl(_:FloatKind)(_ _:Nat)(k:Wk):RR:=k.o
def wkVstr(s:ByteArray)(k:Wk):RR:=k.s s
def wkVptr(_:Option Addr)(k:Wk):RR:=k.o
def wkVsl(_:Option Addr)(_ _:Nat)(k:Wk):RR:=k.o
def wkVmap(_:Option Nat)(k:Wk):RR:=k.o
def wkVfunc(_:Fn)(_ _:Array Value)(_ _:Unit)(k:Wk):RR:=k.o
def wkVnf(k:Wk):RR:=k.o
def wkVif(_:TypeId)(_:Value)(_:Wk→RR)(k:Wk):RR:=k.o
def wkVagg(_:Array Value)(_:Unit)(k:Wk):RR:=k.o
def wkV(v:Value):Wk→RR:=Value.rec (motive_1:=λ_=>Wk→RR) (motive_2:=λ_=>Unit) (motive_3:=λ_=>Unit)
 wkVbool wkVint wkVflt wkVcpl wkVstr wkVptr wkVsl wkVmap wkVmap wkVfunc wkVnf wkVif wkVnf wkVagg wkVagg (λ_ _=>()) () (λ_ _ _ _=>()) v
def wkBB(_:Bool)(k:Wk):RR:=k.o
def wkB(p:Prop)(_:Decidable p)(k:Wk):RR:=k.o
def wkLp(_ _:Nat)(k:Wk):RR:=k.o
def wkOwn(_:Nat)(k:Wk):RR:=k.o
def wkEl(_:Option Addr)(_:Nat)(k:Wk):RR:=k.o
def wkAgg(_:List SV)(_:Unit)(k:Wk):RR:=k.o
def wkFn(_:FuncId)(_:List SV)(_:Unit)(k:Wk):RR:=k.o
def wkVw(_ _ _ _:Nat)(_:Bool)(k:Wk):RR:=k.o
def wkBad(k:Wk):RR:=k.o
def wk(y:SV):Wk→RR:=SV.rec (motive_1:=λ_=>Wk→RR) (motive_2:=λ_=>Unit)
 wkV wkBB wkB wkLp wkOwn wkEl wkAgg wkAgg wkFn wkOwn wkVw wkOwn wkLp wkOwn wkBad () (λ_ _ _ _=>()) y
structure Ak where
 lp:Nat→Nat→RR
 own:Nat→RR
 vw:Nat→Nat→Nat→Nat→Bool→RR
 o:RR
def akV(_:Value)(k:Ak):RR:=k.o
def akBB(_:Bool)(k:Ak):RR:=k.o
def akB(p:Prop)(_:Decidable p)(k:Ak):RR:=k.o
def akLp(a b:Nat)(k:Ak):RR:=k.lp a b
def akOwn(a:Nat)(k:Ak):RR:=k.own a
def akEl(_:Option Addr)(_:Nat)(k:Ak):RR:=k.o
def akAgg(_:List SV)(_:Unit)(k:Ak):RR:=k.o
def akFn(_:FuncId)(_:List SV)(_:Unit)(k:Ak):RR:=k.o
def akN(_:Nat)(k:Ak):RR:=k.o
def akVw(a b c d:Nat)(e:Bool)(k:Ak):RR:=k.vw a b c d e
def akNN(_ _:Nat)(k:Ak):RR:=k.o
def akBad(k:Ak):RR:=k.o
def ak(y:SV):Ak→RR:=SV.rec (motive_1:=λ_=>Ak→RR) (motive_2:=λ_=>Unit)
 akV akBB akB akLp akOwn akEl akAgg akAgg akFn akN akVw akN akNN akN akBad () (λ_ _ _ _=>()) y
def cellsOf(b:LB)(K:List SV→RR)(s:RR):RR:=LB.rec (motive:=λ_=>RR) (λ_ cs=>K cs) (λ_ _ _ _=>s) (λ_ _ _ cs=>K cs) s (λ_ _=>s) (λ_ _=>s) (λ_ _ _=>s) b
def rowOf(b:LB)(K:Nat→Nat→List SV→RR)(s:RR):RR:=LB.rec (motive:=λ_=>RR) (λ_ _=>s) (λ_ _ _ _=>s) (λ_ sz n cs=>K sz n cs) s (λ_ _=>s) (λ_ _=>s) (λ_ _ _=>s) b
structure Ev where
 xi:XIk
 Y:Yk
 lf:Nat
 N:Nat
def one1(i:TI):Bool:=match i with|⟨d,1,_,_,_,_⟩=>(match d with|.struct _=>false|.arr _ _=>false|.other=>false|_=>true)|_=>false
def isW(y:SV):Bool:=match y with|.agg _=>false|.tup _=>false|.bad=>false|.v (.agg _)=>false|.v (.tuple _)=>false|_=>true
abbrev OPF:=XE→Ev→Nat→Fr→Mm→KV→RR
def yK(op:Op):OPF:=λX e nk fr M K=>frcO (zy X.E.T op fr M.get) nk M K
def slow1(x:Option (SV×Mm))(nk:Nat)(K:KV):RR:=Option.rec (motive:=λ_=>RR) none (λp=>frN (Nat.succ nk) λnk'=>fw p.1 λy=>K y nk' p.2) x
def slowU(x:Option Mm)(nk:Nat)(K:KV):RR:=Option.rec (motive:=λ_=>RR) none (λM=>K (.v undef) nk M) x
def oMove(x:Operand):OPF:=λX e nk fr M K=>mv (ov x fr) nk M K
def oPick(c a b:Operand):OPF:=yK (.pick c a b)
def oAlloc(t:TypeId):OPF:=λX e nk fr M K=>slow1 (wq X.E.T t nk M) nk K
def oBox(t:TypeId)(x:Operand):OPF:=λX e nk fr M K=>slow1 (xboxM X.E.T t nk (ov x fr) M) nk K
def oBuild(t:TypeId)(ps:Array (Nat×Operand)):OPF:=yK (.build t ps)
def inOrd(ps:List (Nat×Operand)):Nat→Nat→Bool:=List.rec (motive:=λ_=>Nat→Nat→Bool) (λi m=>Nat.beq i m) (λp _ ih i m=>Bool.rec (motive:=λ_=>Bool) false (ih (Nat.succ i) m) (Nat.beq p.1 i)) ps
def ptK(fr:Fr)(ps:List (Nat×Operand)):(List SV→RR)→RR:=List.rec (motive:=λ_=>(List SV→RR)→RR) (λK=>K []) (λp _ ih K=>fw (ov p.2 fr) λy=>Bool.rec (motive:=λ_=>RR) none (ih λs=>K (y::s)) (isW y)) ps
def oBuildS(t:TypeId)(m:Nat)(ps:Array (Nat×Operand)):OPF:=λX e nk fr M K=>match (ty X.E.T t).d with
  |.slice el=>Bool.rec (motive:=λ_=>RR) (slow1 (x7 X.E.T t m nk fr ps.toList M) nk K) (ptK fr ps.toList λl=>newB (.row el 1 m l) nk M λnk' M=>K (.own nk) nk' M)
     (Bool.rec (motive:=λ_=>Bool) false (Bool.rec (motive:=λ_=>Bool) false (Bool.rec (motive:=λ_=>Bool) false (Nat.ble m 16777216) (one1 (ty X.E.T el))) (Nat.beq (ty X.E.T el).zero.length 1)) (inOrd ps.toList 0 m))
  |_=>none
def fdM(s:List UInt8)(es:List MapEntry):Nat→(Nat→Value→RR)→RR→RR→RR:=
 List.rec (motive:=λ_=>Nat→(Nat→Value→RR)→RR→RR→RR) (λ_ _ no _=>no) (λe _ ih i K no bad=>wkV e.key ⟨λ_ _=>bad,λb=>Bool.rec (motive:=λ_=>RR) (ih (Nat.succ i) K no bad) (K i e.val) (eqBs s b.data.toList),bad⟩) es
def mpOf(b:LB)(K:List MapEntry→Nat→RR)(s:RR):RR:=LB.rec (motive:=λ_=>RR) (λ_ _=>s) (λ_ _ _ _=>s) (λ_ _ _ _=>s) s (λ_ _=>s) (λes c=>K es c) (λ_ _ _=>s) b
def mpE(es:List MapEntry)(e:MapEntry)(K:List MapEntry→RR):RR:=List.rec (motive:=λ_=>(List MapEntry→RR)→RR) (λK=>K [e]) (λx _ ih K=>ih λs=>K (x::s)) es K
def mrOf(y:SV)(K:Nat→RR)(s:RR):RR:=match y with|.mr b=>K b|_=>s
def muF(t:Nat)(m k x:SV)(X:XE)(nk:Nat)(M:Mm)(K:KV):RR:=match (ty X.E.T t).d with
 | .map kt _=>(match (ty X.E.T kt).d with
  | .str=>wk k ⟨fun _ _=>none,fun s=>Option.rec (motive:=fun _=>RR) none (fun v=>mrOf m (fun b=>Option.rec (motive:=fun _=>RR) none (fun lb=>mpOf lb (fun es c=>
    fdM s.data.toList es 0 (λi _=>tput M b (some (.mp (xmodE es v i) c)) λM=>K (.v undef) nk M)
     (mpE es { key:=.string s,val:=v,born:=c } fun es=>frN (Nat.succ c) fun c=>tput M b (some (.mp es c)) fun M=>K (.v undef) nk M) none) none) (tget M b)) none) (R.toV x),none⟩
  | _=>none)
 |_=>none
def oMapUpd(t:TypeId)(m k x:Operand):OPF:=λX e nk fr M K=>muF t (ov m fr) (ov k fr) (ov x fr) X nk M K
def agg1(i:TI):Bool:=match i.d with|.struct _=>true|.arr _ _=>true|_=>false
def byte1(i:TI):Bool:=match i.d,i.flat with|.int _,[.int .u8]=>true|_,_=>false
def isSl(X:XE)(t:Nat):Bool:=match (ty X.E.T t).d with|.slice _=>true|_=>false
def isStr(X:XE)(t:Nat):Bool:=match (ty X.E.T t).d with|.str=>true|_=>false
def elSz(X:XE)(t:Nat):Nat:=match (ty X.E.T t).d with|.slice e=>(ty X.E.T e).sz|_=>0
def ldAg(sz:Nat)(nk:Nat)(M:Mm)(K:KV)(l:List SV):RR:=lenK1 l 0 λn=>Bool.rec (motive:=λ_=>RR) none (Nat.rec (motive:=λ_=>RR) none (λ_ _=>mv (.agg l) nk M K) n) (Nat.beq n sz)
def ldCs(t o:Nat)(X:XE)(nk:Nat)(M:Mm)(K:KV)(s:RR)(cs:List SV):RR:=
 Bool.rec (motive:=λ_=>RR) (Bool.rec (motive:=λ_=>RR) s (dropK cs o λd=>takeK d (ty X.E.T t).sz (ldAg (ty X.E.T t).sz nk M K)) (agg1 (ty X.E.T t))) (mvO (nthS cs o) nk M K) (one1 (ty X.E.T t))
def ldVal(v:Value)(nk:Nat)(M:Mm)(K:KV)(s:RR):RR:=match v with|.int .u8 n=>frI n λn=>K (.v (.int .u8 n)) nk M|_=>s
def ldSb(t o:Nat)(X:XE)(nk:Nat)(M:Mm)(K:KV)(s:RR)(xs:List Value):RR:=
 Bool.rec (motive:=λ_=>RR) s (Option.rec (motive:=λ_=>RR) none (λv=>ldVal v nk M K s) (nthV xs o)) (byte1 (ty X.E.T t))
def ldB(t o:Nat)(X:XE)(nk:Nat)(M:Mm)(K:KV)(s:RR)(b:LB):RR:=LB.rec (motive:=λ_=>RR) (λ_ cs=>ldCs t o X nk M K s cs) (λ_ _ _ _=>s) (λ_ _ _ cs=>ldCs t o X nk M K s cs) s (λ_ _=>s) (λ_ _=>s) (λ_ _ xs=>ldSb t o X nk M K s xs) b
def oLoad(t:TypeId)(x:Operand):OPF:=λX e nk fr M K=>ak (ov x fr)
 ⟨λk o=>Option.rec (motive:=λ_=>RR) none (ldB t o X nk M K (yK (.load t x) X e nk fr M K)) (tget M k),λ_=>none,λ_ _ _ _ _=>none,none⟩
def setS(cs:List SV)(o:Nat)(y:SV)(K:List SV→RR):RR:=List.rec (motive:=λ_=>Nat→(List SV→RR)→RR) (λ_ _=>none)
 (λx r ih o K=>Nat.rec (motive:=λ_=>RR) (K (y::r)) (λo _=>ih o λs=>K (x::s)) o) cs o K
def stB(k o:Nat)(y:SV)(nk:Nat)(M:Mm)(K:KV)(s:RR)(b:LB):RR:=LB.rec (motive:=λ_=>RR) (λT cs=>setS cs o y λcs=>tput M k (some (.cells T cs)) λM=>K (.v undef) nk M) (λ_ _ _ _=>s)
 (λE sz n cs=>setS cs o y λcs=>tput M k (some (.row E sz n cs)) λM=>K (.v undef) nk M) s (λ_ _=>s) (λ_ _=>s) (λ_ _ _=>s) b
def oStore(t:TypeId)(p x:Operand):OPF:=λX e nk fr M K=>
 Bool.rec (motive:=λ_=>RR) (slowU (xstore X.E.T t (ov p fr) (ov x fr) M) nk K)
  (fw (ov x fr) λy=>Bool.rec (motive:=λ_=>RR) none (ak (ov p fr) ⟨λk o=>Option.rec (motive:=λ_=>RR) none (stB k o y nk M K none) (tget M k),λ_=>none,λ_ _ _ _ _=>none,none⟩) (isW y))
  (one1 (ty X.E.T t))
def oNo1(_:Nat):OPF:=λ_ _ _ _ _ _=>none
def oNil(x:Operand):OPF:=λX e nk fr M K=>ak (ov x fr) ⟨λk o=>Bool.rec (motive:=λ_=>RR) none (K (.lp k o) nk M) (Nat.blt k nk),λ_=>none,λ_ _ _ _ _=>none,yK (.nilCheck x) X e nk fr M K⟩
def andO(b:Bool)(x:Option Bool):Option Bool:=Option.rec (motive:=λ_=>Option Bool) none (λq=>some (Bool.rec (motive:=λ_=>Bool) false q b)) x
def cmpF(c:List Ty):List SV→List SV→Option Bool:=
 List.rec (motive:=λ_=>List SV→List SV→Option Bool)
  (λx y=>match x,y with|[],[]=>some true|_,_=>none)
  (fun t _ ih x y=>match t,x,y with
   |.int _,.v (.int k m)::s,.v (.int k' n)::r=>Bool.rec (motive:=λ_=>Option Bool) none (andO (eqI m n) (ih s r)) (Nat.beq (kcF k) (kcF k'))
   |.str,.v (.string a)::s,.v (.string b)::r=>andO (eqBs a.data.toList b.data.toList) (ih s r)
   |.bool,.bb a::s,.bb b::r=>andO (Bool.rec (motive:=λ_=>Bool) (notB b) b a) (ih s r)
   | _,_,_=>none) c
def bAgg(op:BinOp)(i:TI)(x y:SV)(nk:Nat)(M:Mm)(K:KV)(s:RR):RR:=match x,y with
 | .agg xs,.agg ys=>(match i.cmp,i.d,op with
  |t::c,.struct _,.eql=>Option.rec (motive:=λ_=>RR) s (λb=>bxB b nk M K) (cmpF (t::c) xs ys)
  |t::c,.struct _,.neq=>Option.rec (motive:=λ_=>RR) s (λb=>bxB (notB b) nk M K) (cmpF (t::c) xs ys)
  | _,_,_=>s)
 |_,_=>s
def oBin(op:BinOp)(t:TypeId)(x y:Operand)(u:TypeId):OPF:=λX e nk fr M K=>wk (ov x fr)
  ⟨fun k a=>wk (ov y fr) ⟨fun k' b=>Bool.rec (motive:=fun _=>RR) (yK (.binOp op t x y u) X e nk fr M K) (iOp op k a b nk M K (yK (.binOp op t x y u) X e nk fr M K)) (Nat.beq (kcF k) (kcF k')),fun _=>none,none⟩,
   λa=>wk (ov y fr) ⟨λ_ _=>none,λb=>sOp op a b nk M K (yK (.binOp op t x y u) X e nk fr M K),none⟩,
   bAgg op (ty X.E.T t) (ov x fr) (ov y fr) nk M K (yK (.binOp op t x y u) X e nk fr M K)⟩
def oUn(op:UnOp)(t:TypeId)(x:Operand):OPF:=yK (.unOp op t x)
def byK(l:List SV):(List UInt8→RR)→RR:=List.rec (motive:=λ_=>(List UInt8→RR)→RR) (λK=>K []) (λx _ ih K=>wk x ⟨λk n=>Bool.rec (motive:=λ_=>RR) none (Int.rec (motive:=λ_=>RR) (λm=>Bool.rec (motive:=λ_=>RR) none (ih λs=>K (UInt8.ofNat m::s)) (Nat.blt m 256)) (λ_=>none) n) (Nat.beq (kcF k) 4),λ_=>none,none⟩) l
def cvB(lo m:Nat)(own:Bool)(nk:Nat)(M:Mm)(K:KV)(s:RR)(b:LB):RR:=LB.rec (motive:=λ_=>RR) (λ_ _=>s) (λ_ _ _ _=>s)
 (fun _ sz n cs=>Bool.rec (motive:=fun _=>RR) none (Bool.rec (motive:=fun _=>RR)
  (Bool.rec (motive:=λ_=>RR) none (dropK cs lo λd=>takeK d m λl=>byK l λbs=>K (.v (.string ⟨⟨bs⟩⟩)) nk M) (Nat.ble (Nat.add lo m) n))
  (byK cs fun bs=>K (.v (.string ⟨⟨bs⟩⟩)) nk M) own) (Nat.beq sz 1)) s (fun _ _=>s) (fun _ _=>s) (fun _ _ _=>s) b
def cvI(k':IntKind)(nk:Nat)(M:Mm)(K:KV)(s:RR)(k:IntKind)(n:Int):RR:=Bool.rec (motive:=λ_=>RR) s (Int.rec (motive:=λ_=>RR) (λm=>Bool.rec (motive:=λ_=>RR) s (frN m λm=>K (.v (.int .i64 (.ofNat m))) nk M) (Nat.ble m 9223372036854775807)) (λ_=>s) n) (Bool.rec (motive:=λ_=>Bool) false (widens k .i64) (Nat.beq (kcF k') 3))
def sbR(e:Nat)(s:ByteArray)(nk:Nat)(M:Mm)(K:KV):RR:=lenB s.data.toList λn=>Bool.rec (motive:=λ_=>RR) none (newB (.sb e n (s.data.toList.map bv)) nk M λnk' M=>K (.own nk) nk' M) (Nat.ble n 140737488355328)
def oConv(s t:TypeId)(x:Operand):OPF:=λX e nk fr M K=>match (ty X.E.T s).d,(ty X.E.T t).d with
 |.str,.slice el=>(match (ty X.E.T el).d with|.int .u8=>wk (ov x fr) ⟨λ_ _=>none,λs=>sbR el s nk M K,none⟩|_=>none)
 | .slice el,.str=>(match (ty X.E.T el).d with
  | .int .u8=>ak (ov x fr) ⟨fun _ _=>none,fun k=>Option.rec (motive:=fun _=>RR) none (cvB 0 0 true nk M K (yK (.convert s t x) X e nk fr M K)) (tget M k),
   fun k lo sz m _=>Bool.rec (motive:=fun _=>RR) none (Option.rec (motive:=fun _=>RR) none (cvB lo m false nk M K (yK (.convert s t x) X e nk fr M K)) (tget M k)) (Nat.beq sz 1),yK (.convert s t x) X e nk fr M K⟩
  | _=>none)
 |.slice _,.slice _=>Bool.rec (motive:=λ_=>RR) none (Option.rec (motive:=λ_=>RR) none (λp=>fw p.1 λy=>K y nk p.2) (xfz X.E.T t (ov x fr) M)) (Nat.beq s t)
 |.int _,.int k'=>wk (ov x fr) ⟨λk n=>cvI k' nk M K (yK (.convert s t x) X e nk fr M K) k n,λ_=>none,none⟩
 |_,_=>yK (.convert s t x) X e nk fr M K
def oNo2(_:TypeId)(_:Operand):OPF:=λ_ _ _ _ _ _=>none
def oMkF(f:Fn)(a b:Array Operand):OPF:=yK (.makeFunc f a b)
def oMkMap(t:TypeId)(r:Option Operand):OPF:=λX e nk fr M K=>slow1 (xmakeMap r nk M) nk K
def oMkSl(t:TypeId)(l c:Operand):OPF:=λX e nk fr M K=>slow1 (xmakeA X.E.T t nk (ov l fr) (ov c fr) M) nk K
def bndF(x:Option Operand)(fr:Fr)(d:Nat)(K:Nat→RR):RR:=Option.rec (motive:=λ_=>RR) (K d) (λx=>wk (ov x fr) ⟨λ_ i=>Int.rec (motive:=λ_=>RR) (λm=>K m) (λ_=>none) i,λ_=>none,none⟩) x
def slS(s:ByteArray)(a b:Option Operand)(nk:Nat)(fr:Fr)(M:Mm)(K:KV):RR:=lenB s.data.toList λn=>bndF a fr 0 λl=>bndF b fr n λh=>
 Bool.rec (motive:=λ_=>RR) none (Bool.rec (motive:=λ_=>RR) none (dropB s.data.toList l λd=>takeB d (Nat.sub h l) λr=>K (.v (.string ⟨⟨r⟩⟩)) nk M) (Nat.ble h n)) (Nat.ble l h)
def slR(k lo sz n:Nat)(a b:Option Operand)(nk:Nat)(fr:Fr)(M:Mm)(K:KV)(ex:Bool):RR:=bndF a fr 0 λl=>bndF b fr n λh=>
 Bool.rec (motive:=λ_=>RR) none (Bool.rec (motive:=λ_=>RR) none (Bool.rec (motive:=λ_=>RR) none (frN (Nat.add lo l) λlo=>frN (Nat.sub h l) λm=>K (.vw k lo sz m ex) nk M) (Nat.blt k nk)) (Nat.ble h n)) (Nat.ble l h)
def slB(k sz:Nat)(a b:Option Operand)(nk:Nat)(fr:Fr)(M:Mm)(K:KV)(s:RR)(x:LB):RR:=LB.rec (motive:=λ_=>RR) (λ_ _=>s) (λ_ _ _ _=>s)
 (λ_ sz' n _=>Bool.rec (motive:=λ_=>RR) none (slR k 0 sz' n a b nk fr M K true) (Nat.beq sz' sz)) s (λ_ _=>s) (λ_ _=>s) (λ_ n _=>Bool.rec (motive:=λ_=>RR) none (slR k 0 1 n a b nk fr M K false) (Nat.beq sz 1)) x
def sl2(t:TypeId)(x:Operand)(a b:Option Operand):OPF:=λX e nk fr M K=>Bool.rec (motive:=λ_=>RR)
 (Bool.rec (motive:=λ_=>RR) (yK (.slice t x a b none) X e nk fr M K) (wk (ov x fr) ⟨λ_ _=>none,λs=>slS s a b nk fr M K,none⟩) (isStr X t))
 (ak (ov x fr) ⟨fun _ _=>none,fun k=>Option.rec (motive:=fun _=>RR) none (slB k (elSz X t) a b nk fr M K none) (tget M k),
  fun k lo sz n _=>Bool.rec (motive:=fun _=>RR) none (slR k lo sz n a b nk fr M K false) (Nat.beq sz (elSz X t)),yK (.slice t x a b none) X e nk fr M K⟩) (isSl X t)
def oSlice(t:TypeId)(x:Operand)(a b c:Option Operand):OPF:=Option.rec (motive:=λ_=>OPF) (sl2 t x a b) (λc=>yK (.slice t x a b (some c))) c
def oFA(t:TypeId)(x:Operand)(f:Nat):OPF:=λX e nk fr M K=>ak (ov x fr)
 ⟨λk o=>Option.rec (motive:=λ_=>RR) none (λp=>Bool.rec (motive:=λ_=>RR) none (frN (Nat.add o p.1) λo=>K (.lp k o) nk M) (Nat.blt k nk)) (xR X.E.T t f),λ_=>none,λ_ _ _ _ _=>none,none⟩
def fldS(y:SV)(off:Nat)(nk:Nat)(M:Mm)(K:KV)(s:RR):RR:=match y with|.agg cs=>mvO (nthS cs off) nk M K|_=>s
def oField(t:TypeId)(x:Operand)(f:Nat):OPF:=λX e nk fr M K=>Option.rec (motive:=λ_=>RR) none
 (λp=>Bool.rec (motive:=λ_=>RR) (yK (.field t x f) X e nk fr M K) (fldS (ov x fr) p.1 nk M K (yK (.field t x f) X e nk fr M K)) (one1 (ty X.E.T p.2))) (xR X.E.T t f)
def iaI(n k lo sz:Nat)(nk:Nat)(M:Mm)(K:KV)(i:Int):RR:=Int.rec (motive:=λ_=>RR) (λm=>Bool.rec (motive:=λ_=>RR) none (Bool.rec (motive:=λ_=>RR) none (frN (Nat.mul (Nat.add lo m) sz) λo=>K (.lp k o) nk M) (Nat.blt k nk)) (Nat.blt m n)) (λ_=>none) i
def lenOf(b:LB)(sz:Nat)(K:Nat→RR)(s:RR):RR:=LB.rec (motive:=λ_=>RR) (λ_ _=>s) (λ_ _ _ _=>s) (λ_ _ n _=>K n) s (λ_ _=>s) (λ_ _=>s) (λ_ n _=>Bool.rec (motive:=λ_=>RR) s (K n) (Nat.beq sz 1)) b
def oIA(t:TypeId)(x i:Operand):OPF:=fun X e nk fr M K=>Bool.rec (motive:=fun _=>RR) (yK (.indexAddr t x i) X e nk fr M K) (ak (ov x fr)
  ⟨fun _ _=>none,
   λk=>wk (ov i fr) ⟨λ_ i'=>Option.rec (motive:=λ_=>RR) none (λb=>lenOf b (elSz X t) (λn=>iaI n k 0 (elSz X t) nk M K i') none) (tget M k),λ_=>none,none⟩,
   λk lo sz m _=>wk (ov i fr) ⟨λ_ i'=>Bool.rec (motive:=λ_=>RR) none (Option.rec (motive:=λ_=>RR) none (λb=>lenOf b (elSz X t) (λn=>Bool.rec (motive:=λ_=>RR) none (iaI m k lo sz nk M K i') (Nat.ble (Nat.add lo m) n)) none) (tget M k)) (Nat.beq sz (elSz X t)),λ_=>none,none⟩,
   yK (.indexAddr t x i) X e nk fr M K⟩) (isSl X t)
def oIdx(t:TypeId)(x i:Operand):OPF:=fun X e nk fr M K=>Bool.rec (motive:=fun _=>RR) none (wk (ov x fr)
 ⟨fun _ _=>none,fun s=>wk (ov i fr) ⟨fun _ i=>Int.rec (motive:=fun _=>RR) (fun m=>nthB s.data.toList m fun n=>K (.v (.int .u8 (.ofNat n))) nk M) (fun _=>none) i,fun _=>none,none⟩,none⟩) (isStr X t)
def lkF(t:Nat)(x i:SV)(ok:Bool)(X:XE)(nk:Nat)(M:Mm)(K:KV)(s:RR):RR:=match (ty X.E.T t).d with
 | .map kt _=>(match (ty X.E.T kt).d with
  | .str=>wk i ⟨fun _ _=>none,fun a=>mrOf x (fun b=>Option.rec (motive:=fun _=>RR) none (fun lb=>mpOf lb (fun es _=>fdM a.data.toList es 0
    (fun _ v=>Bool.rec (motive:=fun _=>RR) (frc (nv v) nk M K) (frc (nv v) nk M fun y nk M=>K (.tup [y,.bb true]) nk M) ok) s none) none) (tget M b)) s,none⟩
  | _=>none)
 |_=>none
def oLook(t:TypeId)(x i:Operand)(ok:Bool):OPF:=λX e nk fr M K=>lkF t (ov x fr) (ov i fr) ok X nk M K (frcO (wp X.E.T X.Z t (ov x fr) (ov i fr) ok M.get) nk M K)
def oNo3(_:TypeId)(_ _:Operand):OPF:=λ_ _ _ _ _ _=>none
def oNoX(_:Operand)(_:Bool):OPF:=λ_ _ _ _ _ _=>none
def oNoY(_:Operand):OPF:=λ_ _ _ _ _ _=>none
def oNoA(_:Operand)(_ _:TypeId)(_:Bool):OPF:=λ_ _ _ _ _ _=>none
def extS(y:SV)(i:Nat)(nk:Nat)(M:Mm)(K:KV):RR:=match y with|.tup cs=>mvO (nthS cs i) nk M K|_=>none
def oExt(x:Operand)(i:Nat):OPF:=λX e nk fr M K=>extS (ov x fr) i nk M K
def kck(nk0:Nat)(K:KV):KV:=λy nk M=>Bool.rec (motive:=λ_=>RR) none (Bool.rec (motive:=λ_=>RR) none (K y nk M) (R.ltK nk y)) (Nat.ble nk0 nk)
def callFn(f:Nat)(xs:List Operand):OPF:=λX e nk fr M K=>ovs xs fr λl=>Option.rec (motive:=λ_=>RR) (e.xi e.Y f l nk M (kck nk K)) (λg=>frcO (g l) nk M K) (X.ext.get f)
def callT(t:Nat)(xs:List Operand):OPF:=λX e nk fr M K=>match gt fr t with
 |.fn f cs=>ovs xs fr λl=>e.xi e.Y f (catQ l cs) nk M (kck nk K)
 |.yl k=>ovs xs fr λl=>(match yk e.Y k with|some h=>h l nk M (kck nk K)|none=>none)
 |_=>none
def cvT(t:Nat)(ags:Array Operand)(ts:Array TypeId):OPF:=callT t ags.toList
def cvF(f:FuncId)(ags:Array Operand)(ts:Array TypeId):OPF:=callFn f ags.toList
def cvNoV(_:Value)(_:Array Operand)(_:Array TypeId):OPF:=λ_ _ _ _ _ _=>none
def cvNoN(_:Nat)(_:Array Operand)(_:Array TypeId):OPF:=λ_ _ _ _ _ _=>none
def cVal(f:Operand):Array Operand→Array TypeId→OPF:=Operand.rec (motive:=λ_=>Array Operand→Array TypeId→OPF) cvT cvNoV cvNoN cvF f
def cInv(_:Operand)(_:String)(_:Array Operand)(_:Array TypeId):OPF:=λ_ _ _ _ _ _=>none
def lnF(x:Operand)(t:Nat)(X:XE)(nk:Nat)(fr:Fr)(M:Mm)(K:KV)(s:RR):RR:=Bool.rec (motive:=λ_=>RR)
 (Bool.rec (motive:=λ_=>RR) s (wk (ov x fr) ⟨λ_ _=>none,λs=>lenB s.data.toList λn=>K (.v (.int .i64 (.ofNat n))) nk M,none⟩) (isStr X t))
 (ak (ov x fr) ⟨λ_ _=>none,λk=>Option.rec (motive:=λ_=>RR) none (λb=>lenOf b 1 (λn=>K (.v (.int .i64 (.ofNat n))) nk M) s) (tget M k),λ_ _ _ n _=>K (.v (.int .i64 (.ofNat n))) nk M,s⟩) (isSl X t)
def srF(M:Mm)(sz:Nat)(y:SV)(K:Nat→List SV→RR)(s:RR):RR:=ak y ⟨fun _ _=>none,
 λj=>Option.rec (motive:=λ_=>RR) none (λb=>rowOf b (λsz' n cs=>Bool.rec (motive:=λ_=>RR) none (K n cs) (Nat.beq sz' sz)) s) (tget M j),
 fun j lo sz'' m _=>Option.rec (motive:=fun _=>RR) none (fun b=>rowOf b (fun sz' n cs=>Bool.rec (motive:=fun _=>RR) none (Bool.rec (motive:=fun _=>RR) none (Bool.rec (motive:=fun _=>RR) none
  (dropK cs (Nat.mul lo sz) fun d=>takeK d (Nat.mul m sz) fun l=>K m l) (Nat.ble (Nat.add lo m) n)) (Nat.beq sz' sz)) (Nat.beq sz'' sz)) s) (tget M j),s⟩
def apF(T:Tab)(e t nk:Nat)(k:Option Nat)(n:Nat)(cs:List SV)(m:Nat)(ys:List SV)(M:Mm)(K:KV):RR:=
 Bool.rec (motive:=fun _=>RR) none (catK cs ys fun l=>frN (Nat.add n m) fun nm=>newB (.row e (ty T e).sz nm l) nk M fun nk' M1=>
  Option.rec (motive:=fun _=>RR) (K (.own nk) nk' M1) (fun k=>tput M1 k none fun M2=>K (.own nk) nk' M2) k) (xcap (Nat.add n m) (ty T e).byt)
def apK(t nk:Nat)(y z:SV)(X:XE)(M:Mm)(K:KV)(s:RR):RR:=match (ty X.E.T t).d with
 | .slice e=>(match (ty X.E.T e).d with
  |.other=>none
  | _=>srF M (ty X.E.T e).sz z (fun m ys=>ak y ⟨fun _ _=>none,
   λk=>Option.rec (motive:=λ_=>RR) none (λb=>LB.rec (motive:=λ_=>RR) (λ_ _=>none) (λ_ _ _ _=>none) (λe' sz' n cs=>Bool.rec (motive:=λ_=>RR) none (Bool.rec (motive:=λ_=>RR) none (apF X.E.T e t nk (some k) n cs m ys M K) (Nat.beq sz' (ty X.E.T e).sz)) (Nat.beq e' e)) none (λ_ _=>none) (λ_ _=>none) (λ_ _ _=>none) b) (tget M k),
   fun _ _ _ _ _=>s,s⟩) s)
 |_=>none
def cBui(b:Builtin)(ags:Array Operand)(ts:Array TypeId):OPF:=λX e nk fr M K=>match b with
 | .append=>(match ags.toList,ts.toList with
  | [s,x],[t,t']=>(match Nat.beq t t' with
   |true=>apK t nk (ov s fr) (ov x fr) X M K (slow1 (xappM X.E.T t nk (ov s fr) (ov x fr) M) nk K)
   | false=>slow1 (xappSM X.E.T t t' nk (ov s fr) (ov x fr) M) nk K)
  | _,_=>none)
 | .copy=>(match ags.toList,ts.toList with
  |[d,s],[t,t']=>(match xcopy X.E.T t (ov d fr) (ov s fr) M with|some (y,M')=>frc y nk M' K|none=>none)
  | _,_=>none)
 | .len=>(match ags.toList,ts.toList with
  |[x],[t]=>lnF x t X nk fr M K (yK (.call ⟨.builtin .len,ags,ts⟩) X e nk fr M K)
  | _,_=>none)
 |b=>yK (.call ⟨.builtin b,ags,ts⟩) X e nk fr M K
def cCallee(c:Callee):Array Operand→Array TypeId→OPF:=Callee.rec (motive:=λ_=>Array Operand→Array TypeId→OPF) cVal cInv cBui c
def oCall(c:Call):OPF:=Call.rec (motive:=λ_=>OPF) cCallee c
def oNoC(_:Call):OPF:=λ_ _ _ _ _ _=>none
def oNoXX(_ _:Operand):OPF:=λ_ _ _ _ _ _=>none
def oNoR(_:TypeId)(_:Operand)(_:Bool):OPF:=λ_ _ _ _ _ _=>none
def oNoS(_:Array SelectCase)(_:Bool):OPF:=λ_ _ _ _ _ _=>none
def oNoE(_:TypeId)(_ _ _:Operand):OPF:=λ_ _ _ _ _ _=>none
def opF(op:Op):OPF:=Op.rec (motive:=λ_=>OPF)
 oMove oMove oPick oAlloc oBox oBuild oBuildS oMapUpd oLoad oStore oNo1 oNo1 oNil oBin oUn oConv oNo2 oNo2 oMkF oMkMap oNo2 oMkSl oSlice oFA oField oIA oIdx oLook oMapUpd oNo3 oNoE oNo2 oNoX oNoY oNoA oExt oCall oNoC oNoC oNoY oNoXX oNoR oNoS op
def gdB(want:Bool)(yes no:RR)(y:SV):RR:=match y with
 |.bb b=>Bool.rec (motive:=λ_=>RR) (Bool.rec (motive:=λ_=>RR) yes no want) (Bool.rec (motive:=λ_=>RR) no yes want) b
 |.v (.tuple _)=>no
 |_=>none
def gdF(all:List Oper)(g:Nat×Bool)(fr:Fr)(yes no:RR):RR:=Option.rec (motive:=λ_=>RR) none (λt=>gdB g.2 yes no (gt fr t)) (dstOf all g.1)
def stF(all:List Oper)(o:Oper):OPF:=λX e nk fr M K=>Option.rec (motive:=λ_=>RR) (opF o.op X e nk fr M K) (λg=>gdF all g fr (opF o.op X e nk fr M K) (K (.v undef) nk M)) o.guard
def putF(N:Nat)(dst:Option Nat)(y:SV)(fr:Fr)(K:Fr→RR):RR:=Option.rec (motive:=λ_=>RR) (K fr) (λd=>Bool.rec (motive:=λ_=>RR) none (K ((d,y)::fr)) (Nat.blt d N)) dst
abbrev CKn:=Nat→Fr→Mm→RR
def opsF(all:List Oper)(l:List Oper):XE→Ev→Nat→Fr→Mm→CKn→RR:=List.rec (motive:=λ_=>XE→Ev→Nat→Fr→Mm→CKn→RR) (λ_ _ nk fr M K=>K nk fr M)
 (λo _ ih X e nk fr M K=>stF all o X e nk fr M λy nk M=>putF e.N o.dst y fr λfr=>ih X e nk fr M K) l
def trF(all:List Oper)(l:List Oper):XE→Ev→Nat→Fr→Mm→(List Tc→CKn)→RR:=List.rec (motive:=λ_=>XE→Ev→Nat→Fr→Mm→(List Tc→CKn)→RR) (λ_ _ nk fr M K=>K [] nk fr M)
 (λo _ ih X e nk fr M K=>stF all o X e nk fr M λy nk' M'=>Bool.rec (motive:=λ_=>RR) none (Bool.rec (motive:=λ_=>RR) none (putF e.N o.dst y fr λfr'=>ih X e nk' fr' M' λl=>K (⟨nk,fr,M,y⟩::l)) (R.ltK nk' y)) (Nat.ble nk nk')) l
def isTrueR(x:RR):Bool:=Option.rec (motive:=λ_=>Bool) false (λp=>true) x
def smF(X:XE)(e:Ev)(all:List Oper)(o:Oper)(tc:Tc)(nk:Nat)(M:Mm):Bool:=
 Bool.rec (motive:=fun _=>Bool) false (Bool.rec (motive:=fun _=>Bool)
  (isTrueR (stF all o X e nk tc.fr M fun y _ _=>Bool.rec (motive:=fun _=>RR) none (some (.bad,0,.lf)) (svEq y tc.y))) true (isPure o.op)) (R.ltK nk tc.y)
def yD(T:XE)(all:List Oper)(bs:List Nat)(i:Nat):List Oper→Nat→List (Nat×Bool):=
 List.rec (motive:=fun _=>Nat→List (Nat×Bool)) (fun _=>[]) (fun o _ ih e=>match isEff T o.op with
  |false=>ih (e+1)
  | true=>(match Nat.blt e i with
   |true=>(match nth bs i with|some m=>(match bit m e,xT T all bs i e o with|true,false=>ih (e+1)|_,_=>(e,true)::ih (e+1))|none=>(e,true)::ih (e+1))
   | false=>(match nth bs e with | some m=>(match bit m i with | true=>ih (e+1) | false=>(e,false)::ih (e+1)) | none=>(e,false)::ih (e+1))))
def planOf(T:XE)(bs:List Nat)(all:List Oper):List Oper→Nat→List (Nat×Oper×List (Nat×Bool)):=
 List.rec (motive:=fun _=>Nat→List (Nat×Oper×List (Nat×Bool))) (fun _=>[]) (fun o _ ih i=>match isEff T o.op with
  |true=>ih (i+1)
  | false=>(match yD T all bs i all 0 with | []=>ih (i+1) | p=>(i,o,p)::ih (i+1)))
def effsOk(X:XE)(bs:List Nat)(all:List Oper):List Oper→Nat→Bool:=
 List.rec (motive:=fun _=>Nat→Bool) (fun _=>true) (fun o _ ih i=>match isEff X o.op with
  |true=>(match yC X all o with|true=>ih (i+1)|false=>(match xeffs X bs i all 0 with|true=>ih (i+1)|false=>false))
  | false=>ih (i+1))
def nthT(l:List Tc)(n:Nat)(K:Tc→Bool)(no:Bool):Bool:=List.rec (motive:=λ_=>Nat→Bool) (λ_=>no) (λx _ ih n=>Nat.rec (motive:=λ_=>Bool) (K x) (λn _=>ih n) n) l n
def prF(X:XE)(e:Ev)(all:List Oper)(o:Oper)(tr:List Tc)(nkF:Nat)(MF:Mm)(ti:Tc)(ps:List (Nat×Bool)):Bool:=
 List.rec (motive:=fun _=>Bool) true (fun p _ ih=>Bool.rec (motive:=fun _=>Bool) false ih
  (Bool.rec (motive:=fun _=>Bool) (nthT tr (Nat.succ p.1) (fun t=>smF X e all o ti t.nk t.M) (smF X e all o ti nkF MF)) (nthT tr p.1 (fun t=>smF X e all o ti t.nk t.M) false) p.2)) ps
def chF(X:XE)(e:Ev)(bs:List Nat)(all:List Oper)(tr:List Tc)(nkF:Nat)(MF:Mm)(pl:List (Nat×Oper×List (Nat×Bool))):Bool:=
 List.rec (motive:=λ_=>Bool) true (λp _ ih=>Bool.rec (motive:=λ_=>Bool) false ih (nthT tr p.1 (λti=>Bool.rec (motive:=λ_=>Bool) (prF X e all p.2.1 tr nkF MF ti p.2.2) true (ldSafe X bs p.1 all tr p.2.1 ti)) false)) pl
def drF(ops:List Oper):XE→Ev→Nat→Fr→Mm→CKn→RR:=λX e nk fr M K=>trF ops ops X e nk fr M λtr nk' fr' M'=>
 Bool.rec (motive:=λ_=>RR) none (Bool.rec (motive:=λ_=>RR) none (K nk' fr' M') (chF X e (befs ops []) ops tr nk' M' (planOf X (befs ops []) ops ops 0))) (effsOk X (befs ops []) ops ops 0)
abbrev CKo:=Ex→Nat→Fr→Mm→RR
abbrev CF:=XE→Ev→Option Nat→Nat→Fr→Mm→CKn→CKo→RR
def ptsF(N:Nat)(ps:List Nat):List SV→Fr→(Fr→RR)→RR:=List.rec (motive:=λ_=>List SV→Fr→(Fr→RR)→RR) (λxs fr K=>match xs with|[]=>K fr|_::_=>none)
 (λp _ ih xs fr K=>List.rec (motive:=λ_=>RR) none (λx xs _=>Bool.rec (motive:=λ_=>RR) none (ih xs ((p,x)::fr) K) (Nat.blt p N)) xs) ps
def isRdy(b:Option LB):Bool:=match b with|some (.loop .ready none)=>true|_=>false
def isBusy(b:Option LB):Bool:=match b with|some (.loop .busy none)=>true|_=>false
def isLoop(b:Option LB):Bool:=match b with|some (.loop _ _)=>true|_=>false
def rdF(va vb:Nat→Fr→Mm→CKn→CKo→RR)(N nk:Nat)(ps:List Nat)(fr:Fr):XHk:=λargs nk1 M K=>
 Bool.rec (motive:=fun _=>RR) none (ptsF N ps args fr fun fr1=>va nk1 fr1 M (fun nk2 fr2 M2=>Bool.rec (motive:=fun _=>RR) none
   (tput M2 nk (some (.loop .busy none)) fun M3=>vb nk2 fr2 M3
    (λnk3 _ M4=>Bool.rec (motive:=λ_=>RR) none (tput M4 nk (some (.loop .ready none)) λM5=>K (.bb true) nk3 M5) (isBusy (tget M4 nk)))
    (fun ex nk3 _ M4=>Bool.rec (motive:=fun _=>RR) none (tput M4 nk (some (.loop .done (some ex))) fun M5=>K (.bb false) nk3 M5) (isBusy (tget M4 nk))))
   (isRdy (tget M2 nk))) (fun _ _ _ _=>none)) (isRdy (tget M nk))
def dnF(nk:Nat)(fr:Fr)(nk1:Nat)(M:Mm)(Kn:CKn)(Ko:CKo):RR:=
 match tget M nk with
 |some (.loop .ready none)=>tput M nk none λM1=>tput M1 (nk+1) none λM2=>Kn nk1 fr M2
 |some (.loop .done (some .ret))=>tput M nk none λM1=>tput M1 (nk+1) none λM2=>Ko .ret nk1 fr M2
 |some (.loop .done (some (.exit n)))=>tput M nk none λM1=>tput M1 (nk+1) none λM2=>Ko (.exit n) nk1 fr M2
 |some (.loop .done (some (.goto n)))=>tput M nk none λM1=>tput M1 (nk+1) none λM2=>Ko (.goto n) nk1 fr M2
 |_=>none
def nmF(fr:Fr):Nat→(Fr→RR)→RR:=List.rec (motive:=λ_=>Nat→(Fr→RR)→RR) (λ_ K=>K [])
 (λp _ ih seen K=>Bool.rec (motive:=λ_=>RR) (ih (Nat.lor seen (Nat.pow 2 p.1)) λs=>K (p::s)) (ih seen K) (Nat.beq (Nat.mod (Nat.shiftRight seen p.1) 2) 1)) fr
def lpF(body:Nat→Fr→Mm→CKn→CKo→RR)(Kn:CKn)(Ko:CKo)(f:Nat):Nat→Fr→Mm→RR:=
 Nat.rec (motive:=λ_=>Nat→Fr→Mm→RR) (λ_ _ _=>none) (λ_ ih nk fr M=>nmF fr 0 λfr=>body nk fr M ih Ko) f
def goF(va vb:CF)(X:XE)(e:Ev)(ps:List Nat)(it:Nat)(cs:List SV)(nk:Nat)(fr:Fr)(M1:Mm)(Kn:CKn)(Ko:CKo):RR:=
 tput M1 nk (some (.loop .ready none)) λM2=>frN (nk+2) λnk2=>e.xi ((nk,rdF (va X e (some nk)) (vb X e (some nk)) e.N nk ps fr)::e.Y) it (.yl nk::cs) nk2 M2
  λ_ nk1 M3=>Bool.rec (motive:=λ_=>RR) none (dnF nk fr nk1 M3 Kn Ko) (Nat.ble nk nk1)
def rgF(va vb:CF)(ps:List Nat)(X:XE)(e:Ev)(ro:Option Nat)(nk:Nat)(fr:Fr)(M:Mm)(Kn:CKn)(Ko:CKo)(g:SV):RR:=
 match g with
 | .fn it cs=>(match ro with
  |none=>tput M (nk+1) (some .dfr) λM1=>goF va vb X e ps it cs nk fr M1 Kn Ko
  | some l0=>Bool.rec (motive:=fun _=>RR) none (goF va vb X e ps it cs nk fr M Kn Ko) (isLoop (tget M l0)))
 |_=>none
def cdSkip:CF:=λX e ro nk fr M Kn Ko=>Kn nk fr M
def cdReg(id:Nat)(ops:Array Oper)(draw:Bool):CF:=λX e ro nk fr M Kn Ko=>Bool.rec (motive:=λ_=>RR) (opsF ops.toList ops.toList X e nk fr M Kn) (drF ops.toList X e nk fr M Kn) draw
def cdSeq(_ _:Code)(va vb:CF):CF:=λX e ro nk fr M Kn Ko=>va X e ro nk fr M (λnk fr M=>vb X e ro nk fr M Kn Ko) Ko
def tst(y:SV)(a b:RR):RR:=match y with|.bb x=>Bool.rec (motive:=λ_=>RR) b a x|_=>none
def cdCond(c:Operand)(_ _:Code)(va vb:CF):CF:=λX e ro nk fr M Kn Ko=>tst (ov c fr) (va X e ro nk fr M Kn Ko) (vb X e ro nk fr M Kn Ko)
def exF(id:Nat)(Kn:CKn)(Ko:CKo):CKo:=λex nk fr M=>match ex with|.exit n=>Bool.rec (motive:=λ_=>RR) (Ko (.exit n) nk fr M) (Kn nk fr M) (Nat.beq n id)|ex=>Ko ex nk fr M
def cdBlock(id:Nat)(_:Code)(vc:CF):CF:=λX e ro nk fr M Kn Ko=>vc X e ro nk fr M Kn (exF id Kn Ko)
def cdLoop(_:Code)(vc:CF):CF:=λX e ro nk fr M Kn Ko=>lpF (vc X e ro) Kn Ko e.lf nk fr M
def cdRange(g:Operand)(ps:Array Nat)(_ _:Code)(va vb:CF):CF:=λX e ro nk fr M Kn Ko=>rgF va vb ps.toList X e ro nk fr M Kn Ko (ov g fr)
def cdExit(id:Nat):CF:=λX e ro nk fr M Kn Ko=>Ko (.exit id) nk fr M
def scF(Ko:CKo):CKo:=λex nk fr M=>match ex with|.goto _=>none|ex=>Ko ex nk fr M
def cdScope(_:Code)(vc:CF):CF:=λX e ro nk fr M Kn Ko=>vc X e ro nk fr M Kn (scF Ko)
def cdLabel(_:Nat):CF:=λX e ro nk fr M Kn Ko=>Kn nk fr M
def cdGoto(l:Nat):CF:=λX e ro nk fr M Kn Ko=>Ko (.goto l) nk fr M
def cdRet:CF:=λX e ro nk fr M Kn Ko=>Ko .ret nk fr M
def cdNo(_:String):CF:=λ_ _ _ _ _ _ _ _=>none
def cdF(c:Code):CF:=Code.rec (motive:=λ_=>CF) cdSkip cdReg cdSeq cdCond cdBlock cdLoop cdRange cdExit cdScope cdLabel cdGoto cdRet cdNo c
def isB(y:SV):Bool:=match y with|.b _ _=>true|_=>false
def endF(X:XE)(rs:List ResultVar)(K:KV):CKn:=fun nk fr M=>Option.rec (motive:=fun _=>RR) none (fun l=>frLS l fun l=>match l with
 |[x]=>Bool.rec (motive:=λ_=>RR) (mv x nk M K) none (isB x)
 | l=>K (.tup l) nk M) (xres X.E.T rs fr M)
def endO(X:XE)(rs:List ResultVar)(K:KV):CKo:=λex nk fr M=>match ex with|.ret=>endF X rs K nk fr M|_=>none
def bdF(X:XE)(lf:Nat)(xi:XIk)(Y:Yk)(args:List SV)(nk:Nat)(M:Mm)(K:KV)(fn:Func):RR:=
 Option.rec (motive:=λ_=>RR) none (λc=>Bool.rec (motive:=λ_=>RR) none (cdF c X ⟨xi,Y,lf,fn.ntmps⟩ none nk (argF args 0) M (endF X fn.results.toList K) (endO X fn.results.toList K)) (Nat.ble args.length fn.ntmps)) fn.body
def xF(X:XE)(lf:Nat)(d:Nat):XIk:=Nat.rec (motive:=λ_=>XIk) (λ_ _ _ _ _ _=>none)
 (λ_ ih Y f args nk M K=>Option.rec (motive:=λ_=>RR) (Option.rec (motive:=λ_=>RR) none (bdF X lf ih Y args nk M K) (X.E.FT.get f)) (λp=>obR (p args nk M) K) (X.prim.get f)) d
end
end Exe
end Go.Eng
end
section
namespace Go.Eng
open Go Go.RowKit
namespace Exe
noncomputable section
def Via(x:RR)(K:KV)(r:SV×Nat×Mm):Prop:=∃y nk M,x=some (y,nk,M)∧K y nk M=some r
theorem obR_ok{x:RR}{K:KV}{r}(h:obR x K=some r):Via x K r:=by
 cases x with
 |none=>cases h
 |some p=>exact⟨p.1,p.2.1,p.2.2,rfl,h⟩
theorem bofs{b:Bool}{x y:RR}{r}(h:Bool.rec (motive:=λ_=>RR) x y b=some r):(b=true∧y=some r)∨(b=false∧x=some r):=by
 cases b with
 |true=>exact .inl ⟨rfl,h⟩
 |false=>exact .inr ⟨rfl,h⟩
theorem bon{b:Bool}{y:RR}{r}(h:Bool.rec (motive:=λ_=>RR) none y b=some r):b=true∧y=some r:=by
 cases b with
 |true=>exact⟨rfl,h⟩
 |false=>cases h
theorem oon{α:Type}{x:Option α}{f:α→RR}{r}(h:Option.rec (motive:=λ_=>RR) none f x=some r):∃a,x=some a∧f a=some r:=by
 cases x with
 |none=>cases h
 |some a=>exact⟨a,rfl,h⟩
theorem yo{n:Nat}{K:Nat→RR}:frN n K=K n:=by cases n<;>rfl
theorem frI_o{m:Nat}{K:Int→RR}:frI (.ofNat m) K=frN m λm=>K (.ofNat m):=rfl
theorem frI_n{m:Nat}{K:Int→RR}:frI (.negSucc m) K=frN m λm=>K (.negSucc m):=rfl
theorem frI_eq{n:Int}{K:Int→RR}:frI n K=K n:=by
 cases n with
 |ofNat m=>rw[frI_o,yo]
 |negSucc m=>rw[frI_n,yo]
theorem frB_eq{b:Bool}{K:Bool→RR}:frB b K=K b:=by cases b<;>rfl
theorem frLS_eq:∀{l:List SV}{K:List SV→RR},frLS l K=K l
 |[],_=>rfl
 |x::l,K=>(frLS_eq (l:=l) (K:=λs=>K (x::s)) :)
theorem frBs_eq:∀{l:List UInt8}{K:List UInt8→RR},frBs l K=K l
 |[],_=>rfl
 |x::l,K=>by
  show frN x.toNat (λn=>frBs l λs=>K (UInt8.ofNat n::s))=_;rw[yo,frBs_eq,UInt8.ofNat_toNat]
theorem yk_c0{j k:Nat}{h:XHk}{Y:Yk}:yk ((j,h)::Y) k=Bool.rec (motive:=λ_=>Option XHk) (yk Y k) (some h) (Nat.beq j k):=rfl
theorem yk_c{j k:Nat}{h:XHk}{Y:Yk}:yk ((j,h)::Y) k=match Nat.beq j k with|true=>some h|false=>yk Y k:=by
 rw[yk_c0];cases Nat.beq j k<;>rfl
theorem ltA(b:Nat):∀cs,R.ltK b (.agg cs)=R.ltKL b cs
 |[]=>rfl
 |x::r=>by
  show(match R.ltK b x with|true=>R.ltK b (.agg r)|false=>false)=_;rw[ltA b r];rfl
theorem ltT(b:Nat):∀cs,R.ltK b (.tup cs)=R.ltKL b cs
 |[]=>rfl
 |x::r=>by
  show(match R.ltK b x with|true=>R.ltK b (.tup r)|false=>false)=_;rw[ltT b r];rfl
theorem ltFn(b f:Nat):∀cs,R.ltK b (.fn f cs)=R.ltKL b cs
 |[]=>rfl
 |x::r=>by
  show(match R.ltK b x with|true=>R.ltK b (.fn f r)|false=>false)=_;rw[ltFn b f r];rfl
theorem frc_b{b:Bool}{nk:Nat}{M:Mm}{K:KV}:frc (.v (.bool b)) nk M K=frB b λb=>K (.v (.bool b)) nk M:=rfl
theorem frc_i{k:IntKind}{n:Int}{nk:Nat}{M:Mm}{K:KV}:frc (.v (.int k n)) nk M K=frI n λn=>K (.v (.int k n)) nk M:=rfl
theorem frc_f{k:FloatKind}{n:Nat}{nk:Nat}{M:Mm}{K:KV}:frc (.v (.float k n)) nk M K=frN n λn=>K (.v (.float k n)) nk M:=rfl
theorem frc_bb{b:Bool}{nk:Nat}{M:Mm}{K:KV}:frc (.bb b) nk M K=frB b λb=>K (.bb b) nk M:=rfl
theorem frc_ok{y:SV}{nk:Nat}{M:Mm}{K:KV}{r}(h:frc y nk M K=some r):R.ltK nk y=true∧K (nb y) nk M=some r:=by
 cases y with
 |v x=>
  refine⟨rfl,?_⟩;show K (.v x) nk M=_
  cases x with
  |bool b=>rw[frc_b,frB_eq] at h;exact h
  |int k n=>rw[frc_i,frI_eq] at h;exact h
  |float k n=>rw[frc_f,yo] at h;exact h
  |_=>exact h
 |bb b=>refine⟨rfl,?_⟩;rw[frc_bb,frB_eq] at h;exact h
 |b p d=>
  refine⟨rfl,?_⟩;show K (match @decide p d with|true=>.bb true|false=>.bb false) nk M=_;cases d<;>exact h
 |lp k o=>obtain⟨h1,h2⟩:=bon h;rw[yo] at h2;exact⟨h1,h2⟩
 |own k=>exact bon h
 |el A j=>exact⟨rfl,h⟩
 |agg l=>obtain⟨h1,h2⟩:=bon h;rw[frLS_eq] at h2;exact⟨by rw[ltA];exact h1,h2⟩
 |tup l=>obtain⟨h1,h2⟩:=bon h;rw[frLS_eq] at h2;exact⟨by rw[ltT];exact h1,h2⟩
 |fn f l=>obtain⟨h1,h2⟩:=bon h;rw[frLS_eq] at h2;exact⟨by rw[ltFn];exact h1,h2⟩
 |yl k=>exact bon h
 |vw k lo sz n ex=>obtain⟨h1,h2⟩:=bon h;rw[yo,yo,frB_eq] at h2;exact⟨h1,h2⟩
 |mr k=>exact bon h
 |lq _=>cases h
 |ls _ _=>cases h
 |bad=>exact⟨rfl,h⟩
theorem mv_ok{y:SV}{nk:Nat}{M:Mm}{K:KV}{r}(h:mv y nk M K=some r):R.ltK nk y=true∧K (nb y) nk M=some r:=by
 cases y with
 |v x=>exact⟨rfl,h⟩
 |bb b=>exact⟨rfl,h⟩
 |b p d=>
  refine⟨rfl,?_⟩;show K (match @decide p d with|true=>.bb true|false=>.bb false) nk M=_;cases d<;>exact h
 |lp k o=>exact bon h
 |own k=>exact bon h
 |el A j=>exact⟨rfl,h⟩
 |agg l=>obtain⟨h1,h2⟩:=bon h;exact⟨by rw[ltA];exact h1,h2⟩
 |tup l=>obtain⟨h1,h2⟩:=bon h;exact⟨by rw[ltT];exact h1,h2⟩
 |fn f l=>obtain⟨h1,h2⟩:=bon h;exact⟨by rw[ltFn];exact h1,h2⟩
 |yl k=>exact bon h
 |vw k lo sz n ex=>exact bon h
 |mr k=>exact bon h
 |lq _=>cases h
 |ls _ _=>cases h
 |bad=>exact⟨rfl,h⟩
theorem wo{y:SV}{x:Option SV}{nk:Nat}{M:Mm}{K:KV}{r}(hx:x=some y)(h:R.ltK nk y=true∧K (nb y) nk M=some r):Via (ye nk M x) K r:=
 ⟨nb y,nk,M,by subst hx;simp only[ye,h.1],h.2⟩
theorem frcO_ok{x:Option SV}{nk:Nat}{M:Mm}{K:KV}{r}(h:frcO x nk M K=some r):Via (ye nk M x) K r:=by
 obtain⟨y,hy,h⟩:=oon h;exact wo hy (frc_ok h)
theorem mvO_ok{x:Option SV}{nk:Nat}{M:Mm}{K:KV}{r}(h:mvO x nk M K=some r):Via (ye nk M x) K r:=by
 obtain⟨y,hy,h⟩:=oon h;exact wo hy (mv_ok h)
theorem x8{y:SV}{x:Option SV}{nk:Nat}{M:Mm}{K:KV}{r}(hx:x=some y)(hl:R.ltK nk y=true)(hn:nb y=y)(h:K y nk M=some r):Via (ye nk M x) K r:=
 wo hx ⟨hl,by rw[hn];exact h⟩
theorem takeK_eq:∀{l:List SV}{n:Nat}{K:List SV→RR},takeK l n K=K (takeN l n)
 |[],n,K=>by cases n<;>rfl
 |x::l,0,K=>rfl
 |x::l,n+1,K=>(takeK_eq (l:=l) (n:=n) (K:=λs=>K (x::s)) :)
theorem dropK_eq:∀{l:List SV}{n:Nat}{K:List SV→RR},dropK l n K=K (dropN l n)
 |[],n,K=>by cases n<;>rfl
 |x::l,0,K=>rfl
 |x::l,n+1,K=>(dropK_eq (l:=l) (n:=n) (K:=K) :)
theorem catK_eq:∀{a b:List SV}{K:List SV→RR},catK a b K=K (catQ a b)
 |[],b,K=>rfl
 |x::a,b,K=>(catK_eq (a:=a) (b:=b) (K:=λs=>K (x::s)) :)
theorem lenK1_eq:∀{l:List SV}{n:Nat}{K:Nat→RR},lenK1 l n K=K (n+l.length)
 |[],n,K=>(yo (n:=n) (K:=K) :)
 |x::l,n,K=>by
  have:=lenK1_eq (l:=l) (n:=n+1) (K:=K);rw[show n+(x::l).length=n+1+l.length by simp only[List.length_cons];omega];exact this
theorem lenB_eq{l:List UInt8}{K:Nat→RR}:lenB l K=K l.length:=by
 have:∀(l:List UInt8) (n:Nat),List.rec (motive:=λ_=>Nat→RR) (λn=>frN n K) (λ_ _ ih n=>ih (Nat.succ n)) l n=K (n+l.length):=by
  intro l
  induction l with
  |nil=>intro n;exact(yo (n:=n) (K:=K) :)
  |cons x l ih=>
   intro n;rw[show n+(x::l).length=n+1+l.length by simp only[List.length_cons];omega];exact ih (n+1)
 have:=this l 0;rw[Nat.zero_add] at this;exact this
theorem takeB_eq:∀{l:List UInt8}{n:Nat}{K:List UInt8→RR},takeB l n K=K (l.take n)
 |[],n,K=>by cases n<;>rfl
 |x::l,0,K=>rfl
 |x::l,n+1,K=>(takeB_eq (l:=l) (n:=n) (K:=λs=>K (x::s)) :)
theorem dropB_eq:∀{l:List UInt8}{n:Nat}{K:List UInt8→RR},dropB l n K=K (l.drop n)
 |[],n,K=>by cases n<;>rfl
 |x::l,0,K=>rfl
 |x::l,n+1,K=>(dropB_eq (l:=l) (n:=n) (K:=K) :)
theorem nthB_ok:∀{l:List UInt8}{n:Nat}{K:Nat→RR}{r},nthB l n K=some r→∃x,l[n]?=some x∧K x.toNat=some r
 |[],n,K,r,h=>by cases n<;>cases h
 |x::l,0,K,r,h=>⟨x,rfl,by have h':frN x.toNat K=some r:=h;rwa [yo] at h'⟩
 |x::l,n+1,K,r,h=>by have h':nthB l n K=some r:=h;simpa using nthB_ok h'
theorem nthV_eq:∀{l:List Value}{n:Nat},nthV l n=nth l n
 |[],n=>by cases n<;>rfl
 |x::l,0=>rfl
 |x::l,n+1=>(nthV_eq (l:=l) (n:=n) :)
theorem nthS_eq:∀{l:List SV}{n:Nat},nthS l n=nth l n
 |[],n=>by cases n<;>rfl
 |x::l,0=>rfl
 |x::l,n+1=>(nthS_eq (l:=l) (n:=n) :)
theorem setS_ok:∀{cs:List SV}{o:Nat}{y:SV}{K:List SV→RR}{r},setS cs o y K=some r→o+1≤cs.length∧K (takeN cs o++[y]++dropN cs (o+1))=some r
 |[],o,y,K,r,h=>by cases o<;>cases h
 | x::l,0,y,K,r,h=>⟨by simp,by
  have h':K (y::l)=some r:=h
  simpa [takeN,yW] using h'⟩
 |x::l,o+1,y,K,r,h=>by
  have h':setS l o y (λs=>K (x::s))=some r:=h;obtain⟨h1,h2⟩:=setS_ok h';exact⟨by simp;omega,by simpa[takeN,dropN] using h2⟩
theorem gt_eq:∀{fr:Fr}{t:Nat},gt fr t=get fr t
 |[],t=>rfl
 |(u,x)::fr,t=>by
  rw[get_c,←gt_eq];show Bool.rec (motive:=λ_=>SV) (gt fr t) x (Nat.beq u t)=_;cases Nat.beq u t<;>rfl
theorem zQ{x:Operand}{fr:Fr}:ov x fr=opv fr x:=by
 cases x with
 |tmp t=>exact gt_eq
 |const v=>cases v<;>rfl
 |global n=>rfl
 |func f=>rfl
theorem ovs_eq:∀{l:List Operand}{fr:Fr}{K:List SV→RR},ovs l fr K=K (opvs fr l)
 |[],fr,K=>rfl
 |x::l,fr,K=>by
  show ovs l fr (λs=>K (ov x fr::s))=K (opv fr x::opvs fr l);rw[ovs_eq,zQ]
theorem y9:∀{M:Mm}{n:Nat},tget M n=M.get n
 |.lf,n=>rfl
 |.nd l v r,0=>rfl
 |.nd l v r,n+1=>by
  rw[Tm.get_s,←y9,←y9];show Bool.rec (motive:=λ_=>Option LB) (tget r (n/2)) (tget l (n/2)) (Nat.beq (n%2) 0)=_;cases Nat.beq (n%2) 0<;>rfl
theorem tput0_eq{x:Option LB}:∀{f:Nat}{T:Mm}{n:Nat}{K:Mm→RR},tput0 x f T n K=K (T.put f n x)
 |0,T,n,K=>rfl
 |f+1,.lf,0,K=>rfl
 |f+1,.lf,n+1,K=>by
  show Bool.rec (motive:=λ_=>RR) (tput0 x f .lf (n/2) λt=>K (.nd .lf none t)) (tput0 x f .lf (n/2) λt=>K (.nd t none .lf)) (Nat.beq (n%2) 0)=K (match Nat.beq (n%2) 0 with|true=>.nd (Tm.put f .lf (n/2) x) none .lf|false=>.nd .lf none (Tm.put f .lf (n/2) x));rw[tput0_eq,tput0_eq];cases Nat.beq (n%2) 0<;>rfl
 |f+1,.nd l v r,0,K=>rfl
 |f+1,.nd l v r,n+1,K=>by
  show Bool.rec (motive:=λ_=>RR) (tput0 x f r (n/2) λt=>K (.nd l v t)) (tput0 x f l (n/2) λt=>K (.nd t v r)) (Nat.beq (n%2) 0)=K (match Nat.beq (n%2) 0 with|true=>.nd (Tm.put f l (n/2) x) v r|false=>.nd l v (Tm.put f r (n/2) x));rw[tput0_eq,tput0_eq];cases Nat.beq (n%2) 0<;>rfl
theorem yg{M:Mm}{k:Nat}{x:Option LB}{K:Mm→RR}{r}(h:tput M k x K=some r):∃M',xput M k x=some M'∧K M'=some r:=by
 obtain⟨h1,h2⟩:=bon h;rw[tput0_eq] at h2;exact⟨_,by unfold xput;rw[h1],h2⟩
theorem newB_ok{x:LB}{nk:Nat}{M:Mm}{K:Nat→Mm→RR}{r}(h:newB x nk M K=some r):∃M',xput M nk (some x)=some M'∧K (nk+1) M'=some r:=by
 obtain⟨M',h1,h2⟩:=yg h;rw[yo] at h2;exact⟨M',h1,h2⟩
theorem ltI_eq{a b:Int}:ltI a b=decide (a<b):=by
 cases a with
 |ofNat m=>cases b with
  |ofNat n=>
   rw[Bool.eq_iff_iff,decide_eq_true_iff];show Nat.ble (m+1) n=true↔((m:Int)<(n:Int));rw[Nat.ble_eq];omega
  |negSucc n=>
   rw[Bool.eq_iff_iff,decide_eq_true_iff];show false=true↔((m:Int)<Int.negSucc n);simp only[Bool.false_eq_true,false_iff];omega
 |negSucc m=>cases b with
  |ofNat n=>
   rw[Bool.eq_iff_iff,decide_eq_true_iff];show true=true↔(Int.negSucc m<(n:Int));simp only[true_iff];omega
  |negSucc n=>
   rw[Bool.eq_iff_iff,decide_eq_true_iff];show Nat.ble (n+1) m=true↔_;rw[Nat.ble_eq];omega
theorem eqI_eq{a b:Int}:eqI a b=decide (a=b):=by
 cases a with
 |ofNat m=>cases b with
  |ofNat n=>
   rw[Bool.eq_iff_iff,decide_eq_true_iff];show Nat.beq m n=true↔((m:Int)=(n:Int));rw[Nat.beq_eq];omega
  |negSucc n=>
   rw[Bool.eq_iff_iff,decide_eq_true_iff];show false=true↔((m:Int)=Int.negSucc n);simp only[Bool.false_eq_true,false_iff];omega
 |negSucc m=>cases b with
  |ofNat n=>
   rw[Bool.eq_iff_iff,decide_eq_true_iff];show false=true↔(Int.negSucc m=(n:Int));simp only[Bool.false_eq_true,false_iff];omega
  |negSucc n=>
   rw[Bool.eq_iff_iff,decide_eq_true_iff];show Nat.beq m n=true↔_;rw[Nat.beq_eq];omega
theorem notB_eq{b:Bool}:notB b=!b:=by cases b<;>rfl
theorem wrap64{n:Int}(h1:-9223372036854775808≤n)(h2:n≤9223372036854775807):IntKind.wrap .i64 n=n:=by
 have e1:IntKind.bits .i64=64:=rfl;have e2:IntKind.signed .i64=true:=rfl;unfold IntKind.wrap;simp only[e1,e2,Bool.true_and,decide_eq_true_eq];split<;>omega
theorem wrap32{n:Int}(h1:0≤n)(h2:n≤2147483647):IntKind.wrap .i32 n=n:=by
 have e1:IntKind.bits .i32=32:=rfl;have e2:IntKind.signed .i32=true:=rfl;unfold IntKind.wrap;simp only[e1,e2,Bool.true_and,decide_eq_true_eq];split<;>omega
theorem wrap8{m:Nat}:IntKind.wrap .u8 (.ofNat m)=.ofNat (Nat.mod m 256):=by
 have e1:IntKind.bits .u8=8:=rfl;have e2:IntKind.signed .u8=false:=rfl;unfold IntKind.wrap;simp only[e1,e2,Bool.false_and];show(if false=true then _ else((m:Int)%(2^8:Int)))=((m%256:Nat):Int);rw[if_neg wv];omega
theorem wrG_eq{k:IntKind}{n:Int}{K:Int→RR}:wrG k n K=K (k.wrap n):=frI_eq
theorem wrK_eq{k:IntKind}{n:Int}{K:Int→RR}:wrK k n K=K (k.wrap n):=by
 cases k<;>first
  |exact wrG_eq
  |skip
 ·change wr32 n K=_
  cases n with
  |ofNat m=>
   show Bool.rec (motive:=λ_=>RR) (wrG .i32 (.ofNat m) K) (frN m λm=>K (.ofNat m)) (Nat.ble m 2147483647)=_
   cases hb:Nat.ble m 2147483647 with
   |true=>
    show frN m (λm=>K (.ofNat m))=_;rw[yo,wrap32 wv wZ]
   |false=>exact wrG_eq
  |negSucc m=>exact wrG_eq
 ·change wr64 n K=_
  cases n with
  |ofNat m=>
   show Bool.rec (motive:=λ_=>RR) (wrG .i64 (.ofNat m) K) (frN m λm=>K (.ofNat m)) (Nat.ble m 9223372036854775807)=_
   cases hb:Nat.ble m 9223372036854775807 with
   |true=>
    show frN m (λm=>K (.ofNat m))=_;rw[yo,wrap64 (by show _≤(m:Int);omega) wZ]
   |false=>exact wrG_eq
  |negSucc m=>
   show Bool.rec (motive:=λ_=>RR) (wrG .i64 (.negSucc m) K) (frN m λm=>K (.negSucc m)) (Nat.ble m 9223372036854775807)=_
   cases hb:Nat.ble m 9223372036854775807 with
   |true=>
    show frN m (λm=>K (.negSucc m))=_;have:=Nat.le_of_ble_eq_true hb;rw[yo,wrap64 ws ws]
   |false=>exact wrG_eq
 show wr8 n K=_
 cases n with
 |ofNat m=>show frN (Nat.mod m 256) (λm=>K (.ofNat m))=_;rw[yo,wrap8]
 |negSucc m=>exact wrG_eq
theorem kcF_eq{k:IntKind}:kcF k=kc k:=by cases k<;>rfl
theorem bxB_ok{b:Bool}{p:Prop}{d:Decidable p}{nk:Nat}{M:Mm}{K:KV}{r}(hb:b=@decide p d)(h:bxB b nk M K=some r):Via (ye nk M (some (.b p d))) K r:=by
 refine wo rfl ⟨rfl,?_⟩;show K (match @decide p d with|true=>.bb true|false=>.bb false) nk M=_;rw[←hb];cases b<;>exact h
theorem iOp_ok{op:BinOp}{k:IntKind}{a b:Int}{nk:Nat}{M:Mm}{K:KV}{s:RR}{r}(h:iOp op k a b nk M K s=some r):Via (ye nk M (xint op k a b)) K r∨s=some r:=by
 cases op<;>first
  |exact .inr h
  |skip
 ·left;have h':wrK k (a+b) (λn=>K (.v (.int k n)) nk M)=some r:=h;rw[wrK_eq] at h';exact x8 rfl rfl rfl h'
 ·left;have h':wrK k (a-b) (λn=>K (.v (.int k n)) nk M)=some r:=h;rw[wrK_eq] at h';exact x8 rfl rfl rfl h'
 ·left;have h':wrK k (a*b) (λn=>K (.v (.int k n)) nk M)=some r:=h;rw[wrK_eq] at h';exact x8 rfl rfl rfl h'
 ·exact .inl (bxB_ok eqI_eq h)
 ·exact .inl (bxB_ok (by rw[notB_eq,eqI_eq];simp) h)
 ·exact .inl (bxB_ok ltI_eq h)
 ·exact .inl (bxB_ok vj h)
 ·exact .inl (bxB_ok ltI_eq h)
 exact .inl (bxB_ok vj h)
theorem eqBs_eq:∀{a b:List UInt8},eqBs a b=decide (a=b)
 |[],[]=>rfl
 |[],y::b=>rfl
 |x::a,[]=>rfl
 |x::a,y::b=>by
  show Bool.rec (motive:=λ_=>Bool) false (eqBs a b) (Nat.beq x.toNat y.toNat)=_;rw[eqBs_eq]
  cases h:Nat.beq x.toNat y.toNat with
  |true=>
   have:=UInt8.toNat_inj.1 (Nat.eq_of_beq_eq_true h);simp[this]
  |false=>
   have:x≠y:=λe=>Nat.ne_of_beq_eq_false h vt;simp[this]
theorem append_bs{a b:ByteArray}:a++b=⟨⟨a.data.toList++b.data.toList⟩⟩:=by
 apply ByteArray.ext;simp[ByteArray.data_append]
theorem sOp_ok{op:BinOp}{a b:ByteArray}{nk:Nat}{M:Mm}{K:KV}{s:RR}{r}(h:sOp op a b nk M K s=some r):Via (ye nk M (xstr op a b)) K r∨s=some r:=by
 cases op<;>first
  |exact .inr h
  |skip
 ·rcases bofs (b:=Nat.ble (a.data.toList.length+b.data.toList.length) 9223372036854775807) (x:=s) (y:=frBs (a.data.toList++b.data.toList) λl=>K (.v (.string ⟨⟨l⟩⟩)) nk M) h with ⟨h1,h2⟩|⟨h1,h2⟩
  ·left;have h1:=Nat.le_of_ble_eq_true h1;rw[frBs_eq] at h2;refine x8 (y:=.v (.string (a++b))) ?_ rfl rfl ?_
   ·show(match decide (a.size+b.size≤9223372036854775807) with|true=>some _|false=>none)=_;rw[decide_eq_true (by simpa using h1)]
   rw[append_bs];exact h2
  exact .inr h2
 ·exact .inl (bxB_ok eqBs_eq h)
 exact .inl (bxB_ok (by rw[notB_eq,eqBs_eq];simp) h)
theorem wk_ok{y:SV}{k:Wk}{r}(h:wk y k=some r):(∃kk n,y=.v (.int kk n)∧k.i kk n=some r)∨(∃s,y=.v (.string s)∧k.s s=some r)∨k.o=some r:=by
 cases y with
 |v x=>
  cases x with
  |int kk n=>exact .inl ⟨kk,n,rfl,h⟩
  |string s=>exact .inr (.inl ⟨s,rfl,h⟩)
  |_=>exact .inr (.inr h)
 |_=>exact .inr (.inr h)
theorem ak_ok{y:SV}{k:Ak}{r}(h:ak y k=some r):(∃a o,y=.lp a o∧k.lp a o=some r)∨(∃a,y=.own a∧k.own a=some r)∨(∃a b c d e,y=.vw a b c d e∧k.vw a b c d e=some r)∨k.o=some r:=by
 cases y with
 |lp a o=>exact .inl ⟨a,o,rfl,h⟩
 |own a=>exact .inr (.inl ⟨a,rfl,h⟩)
 |vw a b c d e=>exact .inr (.inr (.inl ⟨a,b,c,d,e,rfl,h⟩))
 |_=>exact .inr (.inr (.inr h))
end
end Exe
end Go.Eng
end
section
namespace Go.Eng
open Go Go.RowKit
namespace Exe
noncomputable section
theorem fw_ok{y:SV}{K:SV→RR}{r}(h:fw y K=some r):K y=some r:=by
 cases y<;>first
  |exact h
  |cases h
theorem xh{x:Option (SV×Mm)}{nk:Nat}{K:KV}{r}(h:slow1 x nk K=some r):Via (we nk x) K r:=by
 obtain⟨p,hp,h2⟩:=oon h;subst hp;rw[yo] at h2;exact⟨p.1,nk+1,p.2,rfl,fw_ok h2⟩
theorem slowU_ok{x:Option Mm}{nk:Nat}{K:KV}{r}(h:slowU x nk K=some r):Via (liftU nk x) K r:=by
 obtain⟨p,hp,h2⟩:=oon h;subst hp;exact⟨_,_,_,rfl,h2⟩
theorem via_imp{x x':Option SV}{nk:Nat}{M:Mm}{K:KV}{r}(hx:∀y,x=some y→x'=some y)(h:Via (ye nk M x) K r):Via (ye nk M x') K r:=by
 cases x with
 |none=>obtain⟨y,n,m,h1,_⟩:=h;cases h1
 |some y=>rw[hx y rfl];exact h
theorem xx{T:Tab}{op:Op}{fr:Fr}{M:Mg}{y:SV}(h:ym T op fr M=some y):zy T op fr M=some y:=by
 unfold zy;rw[h]
theorem calm2r{T:Tab}{op:Op}{fr:Fr}{M:Mg}{y:SV}(h0:ym T op fr M=none)(h:xrd T op fr M=some y):zy T op fr M=some y:=by
 unfold zy;rw[h0];exact h
theorem zE{op:Op}{X:XE}{e:Ev}{nk:Nat}{fr:Fr}{M:Mm}{K:KV}{r}(h:yK op X e nk fr M K=some r):Via (ye nk M (zy X.E.T op fr M.get)) K r:=frcO_ok h
theorem cells_tmp{x:Operand}{fr:Fr}(h:∀v,opv fr x≠.v v)(h2:∀b,opv fr x≠.bb b)(h3:opv fr x≠.bad)(h4:∀f,opv fr x≠.fn f []):∃t,x=.tmp t:=by
 cases x with
 |tmp t=>exact⟨t,rfl⟩
 |const v=>cases v<;>first|exact(h2 _ rfl).elim|exact(h _ rfl).elim
 |global n=>exact(h3 rfl).elim
 |func f=>exact(h4 f rfl).elim
theorem nth_tk{cs:List SV}{o:Nat}{y:SV}(h:nth cs o=some y):xtake cs o 1=some [y]:=by
 have e:takeN (dropN cs o) 1=[y]:=by
  rw[yV,yW];rw[xp] at h;obtain⟨h1,h2⟩:=List.getElem?_eq_some_iff.1 h;rw[List.drop_eq_getElem_cons h1,List.take_succ_cons,h2,List.take_zero]
 unfold xtake;split
 ·rename_i h0;exact absurd h0 ww
 rename_i h0;rw[e]
 try rfl
theorem one1_ok{i:TI}(h:one1 i=true):i.sz=1∧i.d≠.other∧∀y,zF i.d [y]=y:=by
 obtain⟨d,sz,byt,z,fl,cm⟩:=i;unfold one1 at h;split at h
 ·rename_i d' _ _ _ _ e;cases e;split at h
  ·cases h
  ·cases h
  ·cases h
  rename_i N1 N2 N3;refine⟨rfl,N3,λy=>?_⟩;unfold zF;dsimp only;split
  ·exact(N1 _ rfl).elim
  ·exact(N2 _ _ rfl).elim
  rfl
 cases h
theorem agg1_ok{i:TI}(h:agg1 i=true):i.d≠.other∧∀l,zF i.d l=.agg l:=by
 obtain⟨d,sz,byt,z,fl,cm⟩:=i;unfold agg1 at h;dsimp only at h;split at h
 ·exact⟨by simp_all,λ_=>by simp_all[zF]⟩
 ·exact⟨by simp_all,λ_=>by simp_all[zF]⟩
 cases h
theorem isSl_ok{X:XE}{t:Nat}(h:isSl X t=true):∃e,(ty X.E.T t).d=.slice e∧elSz X t=(ty X.E.T e).sz:=by
 unfold isSl at h;split at h
 ·rename_i e he;exact⟨e,he,by unfold elSz;rw[he]⟩
 cases h
theorem isStr_ok{X:XE}{t:Nat}(h:isStr X t=true):(ty X.E.T t).d=.str:=by
 unfold isStr at h;split at h
 ·assumption
 cases h
variable {X:XE}{e:Ev}{xi:XI}{Y:Yx}{nk:Nat}{fr:Fr}{M:Mm}{K:KV}{r:SV×Nat×Mm}
theorem xload_of{T:Tab}{t k o:Nat}{cs l:List SV}{Mg':Mg}(h0:(ty T t).d≠.other)(hk:(∃TT,Mg' k=some (.cells TT cs))∨(∃E sz n,Mg' k=some (.row E sz n cs)))(h:xtake cs o (ty T t).sz=some l):xload T Mg' t (.lp k o)=some (zF (ty T t).d l):=by
 unfold xload
 revert h h0
 generalize ty T t=i;obtain⟨d,sz,byt,z,fl,cm⟩:=i;intro h0 h;have h:xtake cs o sz=some l:=h
 have main:(match Mg' k with
   |some (.cells _ cs)=>(match xtake cs o sz with|some l=>some (zF d l)|none=>none)
   |some (.row _ _ _ cs)=>(match xtake cs o sz with|some l=>some (zF d l)|none=>none)
   | _=>none)=some (zF d l):=by
  rcases hk with ⟨TT,hk⟩|⟨E,s,n,hk⟩<;>rw[hk]<;>dsimp only<;>rw[h]
 cases d<;>first
  |exact main
  |exact absurd rfl h0
theorem ldCs_ok{t k o:Nat}{x:Operand}{cs:List SV}(hx:opv fr x=.lp k o)(hk:(∃TT,M.get k=some (.cells TT cs))∨(∃E sz n,M.get k=some (.row E sz n cs)))
  (h:ldCs t o X nk M K (yK (.load t x) X e nk fr M K) cs=some r):Via (ye nk M (zy X.E.T (.load t x) fr M.get)) K r:=by
 rcases bofs h with ⟨h1,h⟩|⟨h1,h⟩
 ·obtain⟨hs,hd,hc⟩:=one1_ok h1;refine via_imp (λy hy=>xx ?_) (mvO_ok h);rw[nthS_eq] at hy;show xload X.E.T M.get t (opv fr x)=_;rw[hx,xload_of hd hk (by rw[hs];exact nth_tk hy),hc]
 rcases bofs h with ⟨h2,h⟩|⟨h2,h⟩
 ·obtain⟨hd,hc⟩:=agg1_ok h2;rw[dropK_eq,takeK_eq] at h;unfold ldAg at h;rw[lenK1_eq,Nat.zero_add] at h;obtain⟨h3,h⟩:=bon h;have h3:=Nat.eq_of_beq_eq_true h3;refine wo (y:=.agg (takeN (dropN cs o) (ty X.E.T t).sz)) (xx ?_) ?_
  ·show xload X.E.T M.get t (opv fr x)=_;rw[hx,xload_of (l:=takeN (dropN cs o) (ty X.E.T t).sz) hd hk,hc];unfold xtake;split
   ·rename_i e0;rw[e0] at h3 h;rw[h3] at h;cases h
   rw[h3,show Nat.beq (ty X.E.T t).sz (ty X.E.T t).sz=true from Nat.beq_refl _]
  revert h
  generalize (takeN (dropN cs o) (ty X.E.T t).sz).length=n;intro h
  cases n with
  |zero=>cases h
  |succ n=>exact mv_ok h
 exact zE (e:=e) h
theorem lp_tmp{x:Operand}{k o:Nat}(hx:opv fr x=.lp k o):∃s,x=.tmp s:=
 cells_tmp (λv=>by rw[hx];simp) (λv=>by rw[hx];simp) v8 (λv=>by rw[hx];simp)
theorem oLoad_ok{t:TypeId}{x:Operand}(h:oLoad t x X e nk fr M K=some r):Via (xop X xi Y nk fr M (.load t x)) K r:=by
 show Via (ye nk M (zy X.E.T (.load t x) fr M.get)) K r;rcases ak_ok h with ⟨k,o,hx,h⟩|⟨k,hx,h⟩|⟨_,_,_,_,_,hx,h⟩|h
 ·rw[zQ] at hx;obtain⟨b,hb,h⟩:=oon h;rw[y9] at hb
  cases b with
  |cells TT cs=>exact ldCs_ok hx (.inl ⟨TT,hb⟩) h
  |row E sz n cs=>exact ldCs_ok hx (.inr ⟨E,sz,n,hb⟩) h
  |sb E n xs=>
   rcases bofs h with ⟨h1,h⟩|⟨h1,h⟩
   ·obtain⟨v,hv,h⟩:=oon h;rw[nthV_eq] at hv;unfold ldVal at h;split at h
    ·rename_i m;rw[frI_eq] at h;refine x8 (calm2r ?_ ?_) rfl rfl h
     ·show xload X.E.T M.get t (opv fr x)=none;unfold xload;rw[hx];split
      ·rfl
      dsimp only;rw[hb]
     obtain⟨s,rfl⟩:=lp_tmp hx;have hx:get fr s=.lp k o:=hx;unfold byte1 at h1;split at h1
     ·rename_i k1 h2 h3;simp only[xrd];rw[hx];dsimp only;rw[hb];dsimp only;rw[h2,h3,hv]
      try rfl
     cases h1
    exact zE (e:=e) h
   exact zE (e:=e) h
  |_=>exact zE (e:=e) h
 ·cases h
 ·cases h
 cases h
theorem xbox_1{T:Tab}{t:Nat}{y:SV}(hy:isW y=true)(hs:(ty T t).sz=1):xbox T t y=some [y]:=by
 unfold xbox;unfold isW at hy;split at hy
 ·cases hy
 ·cases hy
 ·cases hy
 ·cases hy
 ·cases hy
 rename_i N1 N2 N3 N4 N5;split
 ·exact(N1 _ rfl).elim
 ·exact(N2 _ rfl).elim
 ·exact(N3 rfl).elim
 ·exact(N4 _ rfl).elim
 ·exact(N5 _ rfl).elim
 rw[hs]
theorem oStore_ok{t:TypeId}{p x:Operand}(h:oStore t p x X e nk fr M K=some r):Via (xop X xi Y nk fr M (.store t p x)) K r:=by
 show Via (liftU nk (xstore X.E.T t (opv fr p) (opv fr x) M)) K r;rcases bofs h with ⟨h1,h⟩|⟨h1,h⟩
 ·obtain⟨hs,hd,hc⟩:=one1_ok h1;have h:=fw_ok h;rw[zQ (x:=x)] at h;obtain⟨h2,h⟩:=bon h;rcases ak_ok h with ⟨k,o,hx,h⟩|⟨k,hx,h⟩|⟨_,_,_,_,_,hx,h⟩|h
  ·rw[zQ] at hx;obtain⟨b,hb,h⟩:=oon h;rw[y9] at hb
   have ho:isOther X.E.T t=false:=by
    unfold isOther;split
    ·rename_i e;exact absurd e hd
    rfl
   cases b with
   |cells TT cs=>
    obtain⟨h3,h⟩:=setS_ok h;obtain⟨M',h4,h⟩:=yg h;refine⟨_,_,M',?_,h⟩;simp only[xstore,ho,hx,xbox_1 h2 hs,hb,List.length_singleton,Nat.ble_eq_true_of_le h3,h4]
    try rfl
   |row E sz n cs=>
    obtain⟨h3,h⟩:=setS_ok h;obtain⟨M',h4,h⟩:=yg h;refine⟨_,_,M',?_,h⟩;simp only[xstore,ho,hx,xbox_1 h2 hs,hb,List.length_singleton,Nat.ble_eq_true_of_le h3,h4]
    try rfl
   |_=>cases h
  ·cases h
  ·cases h
  cases h
 rw[zQ,zQ] at h;exact slowU_ok h
theorem oNil_ok{x:Operand}(h:oNil x X e nk fr M K=some r):Via (xop X xi Y nk fr M (.nilCheck x)) K r:=by
 show Via (ye nk M (zy X.E.T (.nilCheck x) fr M.get)) K r;rcases ak_ok h with ⟨k,o,hx,h⟩|⟨k,hx,h⟩|⟨_,_,_,_,_,hx,h⟩|h
 ·obtain⟨h1,h⟩:=bon h;rw[zQ] at hx;refine x8 (xx ?_) (show R.ltK nk (.lp k o)=true from h1) rfl h;show xnilc (opv fr x)=_;rw[hx];rfl
 ·cases h
 ·cases h
 exact zE (e:=e) h
theorem oFA_ok{t:TypeId}{x:Operand}{f:Nat}(h:oFA t x f X e nk fr M K=some r):Via (xop X xi Y nk fr M (.fieldAddr t x f)) K r:=by
 show Via (ye nk M (zy X.E.T (.fieldAddr t x f) fr M.get)) K r;rcases ak_ok h with ⟨k,o,hx,h⟩|⟨k,hx,h⟩|⟨_,_,_,_,_,hx,h⟩|h
 ·obtain⟨p,hp,h⟩:=oon h;obtain⟨h1,h⟩:=bon h;rw[yo] at h;rw[zQ] at hx;refine x8 (xx ?_) (show R.ltK nk (.lp k (o+p.1))=true from h1) rfl h;show xfaddr X.E.T t f (opv fr x)=_;unfold xfaddr;rw[hx,hp]
 ·cases h
 ·cases h
 cases h
theorem iaI_ok{n k lo sz:Nat}{i:Int}(h:iaI n k lo sz nk M K i=some r):inI i n=true∧Nat.blt k nk=true∧K (.lp k ((lo+i.toNat)*sz)) nk M=some r:=by
 cases i with
 |ofNat m=>
  obtain⟨h1,h⟩:=bon h;obtain⟨h2,h⟩:=bon h;rw[yo] at h;refine⟨decide_eq_true ⟨by simp,?_⟩,h2,h⟩;have:m<n:=Nat.le_of_ble_eq_true h1;simp only[Int.ofNat_eq_natCast];omega
 |negSucc m=>cases h
theorem lenOf_ok{b:LB}{sz:Nat}{K:Nat→RR}{s:RR}(h:lenOf b sz K s=some r):(∃E s' n cs,b=.row E s' n cs∧K n=some r)∨(∃E n xs,b=.sb E n xs∧sz=1∧K n=some r)∨s=some r:=by
 cases b with
 |row E s' n cs=>exact .inl ⟨E,s',n,cs,rfl,h⟩
 |sb E n xs=>
  rcases bofs h with ⟨h1,h⟩|⟨h1,h⟩
  ·exact .inr (.inl ⟨E,n,xs,rfl,Nat.eq_of_beq_eq_true h1,h⟩)
  exact .inr (.inr h)
 |_=>exact .inr (.inr h)
theorem oIA_ok{t:TypeId}{x i:Operand}(h:oIA t x i X e nk fr M K=some r):Via (xop X xi Y nk fr M (.indexAddr t x i)) K r:=by
 show Via (ye nk M (zy X.E.T (.indexAddr t x i) fr M.get)) K r;rcases bofs h with ⟨h0,h⟩|⟨h0,h⟩;rotate_left
 ·exact zE (e:=e) h
 obtain⟨el,hd,hsz⟩:=isSl_ok h0;rcases ak_ok h with ⟨k,o,hx,h⟩|⟨k,hx,h⟩|⟨k,lo,sz,m,ex,hx,h⟩|h
 ·cases h
 ·rw[zQ] at hx;rcases wk_ok h with ⟨kk,i',hi,h⟩|⟨_,_,h⟩|h;rotate_left
  ·cases h
  ·cases h
  rw[zQ] at hi;obtain⟨b,hb,h⟩:=oon h;rw[y9] at hb;rcases lenOf_ok h with ⟨E,s',n,cs,rfl,h⟩|⟨E,n,xs,rfl,h1,h⟩|h
  ·obtain⟨h2,h3,h⟩:=iaI_ok h;rw[Nat.zero_add,hsz] at h;refine x8 (xx ?_) (show R.ltK nk (.lp k _)=true from h3) rfl h;show xidx X.E.T M.get t (opv fr x) (opv fr i)=_;unfold xidx;rw[hx,hi,hd];dsimp only;rw[hb];dsimp only;rw[h2]
  ·obtain⟨h2,h3,h⟩:=iaI_ok h;rw[Nat.zero_add,h1,Nat.mul_one] at h;rw[hsz] at h1;refine x8 (calm2r ?_ ?_) (show R.ltK nk (.lp k _)=true from h3) rfl h
   ·show xidx X.E.T M.get t (opv fr x) (opv fr i)=_;unfold xidx;rw[hx,hi,hd];dsimp only;rw[hb]
   obtain⟨s,rfl⟩:=cells_tmp (x:=x) (fr:=fr) (λv=>by rw[hx];simp) (λv=>by rw[hx];simp) v8 (λv=>by rw[hx];simp);have hx:get fr s=.own k:=hx;simp only[xrd];rw[hd,hx,hi];dsimp only;rw[hb];dsimp only;rw[h1,h2]
   try rfl
  cases h
 ·rw[zQ] at hx;rcases wk_ok h with ⟨kk,i',hi,h⟩|⟨_,_,h⟩|h;rotate_left
  ·cases h
  ·cases h
  rw[zQ] at hi;obtain⟨hz,h⟩:=bon h;have hz:=Nat.eq_of_beq_eq_true hz;obtain⟨b,hb,h⟩:=oon h;rw[y9] at hb;rcases lenOf_ok h with ⟨E,s',n,cs,rfl,h⟩|⟨E,n,xs,rfl,h1,h⟩|h
  ·obtain⟨h4,h⟩:=bon h;obtain⟨h2,h3,h⟩:=iaI_ok h;rw[hz,hsz] at h;refine x8 (xx ?_) (show R.ltK nk (.lp k _)=true from h3) rfl h;show xidx X.E.T M.get t (opv fr x) (opv fr i)=_;unfold xidx;rw[hx,hi,hd];dsimp only;rw[hb];dsimp only;have h4:Nat.ble (lo+m) n=true:=h4;rw[h2,hz,hsz,Nat.beq_refl,h4]
  ·obtain⟨h4,h⟩:=bon h;obtain⟨h2,h3,h⟩:=iaI_ok h;rw[hz,h1,Nat.mul_one] at h;rw[hsz] at h1;rw[hsz,h1] at hz;refine x8 (calm2r ?_ ?_) (show R.ltK nk (.lp k _)=true from h3) rfl h
   ·show xidx X.E.T M.get t (opv fr x) (opv fr i)=_;unfold xidx;rw[hx,hi,hd];dsimp only;rw[hb]
   obtain⟨s,rfl⟩:=cells_tmp (x:=x) (fr:=fr) (λv=>by rw[hx];simp) (λv=>by rw[hx];simp) v8 (λv=>by rw[hx];simp);have hx:get fr s=.vw k lo sz m ex:=hx;simp only[xrd];rw[hd,hx,hi];dsimp only;rw[hb];dsimp only;rw[h1,h2,hz]
   try rfl
  cases h
 exact zE (e:=e) h
theorem oIdx_ok{t:TypeId}{x i:Operand}(h:oIdx t x i X e nk fr M K=some r):Via (xop X xi Y nk fr M (.index t x i)) K r:=by
 show Via (ye nk M (zy X.E.T (.index t x i) fr M.get)) K r;obtain⟨h0,h⟩:=bon h;have h0:=isStr_ok h0;rcases wk_ok h with ⟨_,_,_,h⟩|⟨s,hx,h⟩|h
 ·cases h
 ·rw[zQ] at hx;rcases wk_ok h with ⟨kk,i',hi,h⟩|⟨_,_,h⟩|h
  ·rw[zQ] at hi
   cases i' with
   |ofNat m=>
    obtain⟨c,hc,h⟩:=nthB_ok h;refine x8 (xx ?_) rfl rfl h;show xstrIdx X.E.T t (opv fr x) (opv fr i)=_;unfold xstrIdx;rw[hx,hi,h0];dsimp only;obtain⟨h1,h2⟩:=List.getElem?_eq_some_iff.1 hc
    have hin:inI (Int.ofNat m) s.size=true:=decide_eq_true ⟨by simp,by
     have:m<s.size:=by simpa using h1
     simp only [Int.ofNat_eq_natCast];omega⟩
    rw[hin];dsimp only;rw[show(Int.ofNat m).toNat=m from rfl,hc]
    try rfl
   |negSucc m=>cases h
  ·cases h
  cases h
 cases h
theorem oExt_ok{x:Operand}{i:Nat}(h:oExt x i X e nk fr M K=some r):Via (xop X xi Y nk fr M (.extract x i)) K r:=by
 show Via (ye nk M (zy X.E.T (.extract x i) fr M.get)) K r;unfold oExt extS at h;split at h
 ·rename_i cs hx;rw[zQ] at hx;refine via_imp (λy hy=>xx ?_) (mvO_ok h);rw[nthS_eq] at hy;show xextr (opv fr x) i=_;rw[hx];exact hy
 cases h
theorem oField_ok{t:TypeId}{x:Operand}{f:Nat}(h:oField t x f X e nk fr M K=some r):Via (xop X xi Y nk fr M (.field t x f)) K r:=by
 show Via (ye nk M (zy X.E.T (.field t x f) fr M.get)) K r;obtain⟨p,hp,h⟩:=oon h;rcases bofs h with ⟨h1,h⟩|⟨h1,h⟩
 ·unfold fldS at h;split at h
  ·rename_i cs hx;rw[zQ] at hx;refine via_imp (λy hy=>xx ?_) (mvO_ok h);rw[nthS_eq] at hy;show xfield X.E.T t f (opv fr x)=_;unfold xfield;rw[hx,hp];obtain⟨off,ft⟩:=p;dsimp only at h1 hy ⊢;obtain⟨hs,hd,hc⟩:=one1_ok h1
   revert hs hd hc
   generalize ty X.E.T ft=i;obtain⟨d,sz,byt,z,fl,cm⟩:=i;intro hs hd hc;have hs:sz=1:=hs;subst hs
   have main:(match xtake cs off 1 with|some l=>some (zF d l)|none=>none)=some y:=by
    rw[nth_tk hy];exact congrArg some (hc y)
   cases d<;>first
    |exact main
    |exact absurd rfl hd
  exact zE (e:=e) h
 exact zE (e:=e) h
theorem bndF_ok{x:Option Operand}{d:Nat}{K:Nat→RR}(h:bndF x fr d K=some r):∃l:Nat,xbnd (optv fr x) (d:Int)=some (l:Int)∧K l=some r:=by
 cases x with
 |none=>exact⟨d,rfl,h⟩
 |some x=>
  rcases wk_ok h with ⟨kk,i',hi,h⟩|⟨_,_,h⟩|h
  ·rw[zQ] at hi
   cases i' with
   |ofNat m=>exact⟨m,by show xbnd (some (opv fr x)) _=_;rw[hi];rfl,h⟩
   |negSucc m=>cases h
  ·cases h
  cases h
theorem extract_bs{s:ByteArray}{l h:Nat}:s.extract l h=⟨⟨(s.data.toList.drop l).take (h-l)⟩⟩:=by
 apply ByteArray.ext;rw[ByteArray.data_extract];apply Array.ext';simp[List.extract]
theorem slS_ok{s:ByteArray}{t:TypeId}{x:Operand}{a b:Option Operand}(hd:(ty X.E.T t).d=.str)(hx:opv fr x=.v (.string s))(h:slS s a b nk fr M K=some r):Via (ye nk M (zy X.E.T (.slice t x a b none) fr M.get)) K r:=by
 unfold slS at h;rw[lenB_eq] at h;obtain⟨l,hl,h⟩:=bndF_ok h;obtain⟨u,hu,h⟩:=bndF_ok h;obtain⟨h1,h⟩:=bon h;obtain⟨h2,h⟩:=bon h;have h1:=Nat.le_of_ble_eq_true h1;have h2:=Nat.le_of_ble_eq_true h2;rw[dropB_eq,takeB_eq] at h;refine x8 (xx ?_) rfl rfl h;show xslc X.E.T M.get t (opv fr x) (optv fr a) (optv fr b)=_;unfold xslc;rw[hx,hd];dsimp only;have hsz:s.size=s.data.toList.length:=by simp
 rw[show xbnd (optv fr a) 0=some (l:Int) from hl,show xbnd (optv fr b) (s.size:Int)=some (u:Int) by rw[hsz];exact hu];dsimp only;have hin:in3 (l:Int) (u:Int) s.size=true:=decide_eq_true ⟨by omega,by omega,by rw[hsz];omega⟩;rw[hin];dsimp only;rw[extract_bs]
 try rfl
theorem slR_ok{k lo sz n:Nat}{a b:Option Operand}{ex:Bool}(h:slR k lo sz n a b nk fr M K ex=some r):∃l u:Nat,xbnd (optv fr a) 0=some (l:Int)∧xbnd (optv fr b) (n:Int)=some (u:Int)∧in3 (l:Int) (u:Int) n=true∧Nat.blt k nk=true∧K (.vw k (lo+l) sz (u-l) ex) nk M=some r:=by
 obtain⟨l,hl,h⟩:=bndF_ok h;obtain⟨u,hu,h⟩:=bndF_ok h;obtain⟨h1,h⟩:=bon h;obtain⟨h2,h⟩:=bon h;obtain⟨h3,h⟩:=bon h;rw[yo,yo] at h;exact⟨l,u,hl,hu,decide_eq_true ⟨by omega,by have:=Nat.le_of_ble_eq_true h1;omega,by have:=Nat.le_of_ble_eq_true h2;omega⟩,h3,h⟩
theorem oSlice_ok{t:TypeId}{x:Operand}{a b c:Option Operand}(h:oSlice t x a b c X e nk fr M K=some r):Via (xop X xi Y nk fr M (.slice t x a b c)) K r:=by
 show Via (ye nk M (zy X.E.T (.slice t x a b c) fr M.get)) K r
 cases c with
 |some c=>exact zE (e:=e) h
 |none=>
  rcases bofs (show Bool.rec (motive:=λ_=>RR) _ _ _=some r from h) with ⟨h0,h⟩|⟨h0,h⟩
  ·obtain⟨el,hd,hsz⟩:=isSl_ok h0;rcases ak_ok h with ⟨k,o,hx,h⟩|⟨k,hx,h⟩|⟨k,lo,sz,m,ex,hx,h⟩|h
   ·cases h
   ·rw[zQ] at hx;obtain⟨lb,hb,h⟩:=oon h;rw[y9] at hb
    cases lb with
    |row E sz' n cs=>
     obtain⟨h1,h⟩:=bon h;obtain⟨l,u,hl,hu,h2,h3,h⟩:=slR_ok h;rw[Nat.zero_add] at h;refine x8 (xx ?_) (show R.ltK nk (.vw k l sz' (u-l) true)=true from h3) rfl h;show xslc X.E.T M.get t (opv fr x) (optv fr a) (optv fr b)=_;unfold xslc;rw[hx,hd];dsimp only;rw[hb];dsimp only;rw[←hsz,h1,hl,hu];dsimp only;rw[h2]
     try rfl
    |sb E n xs=>
     obtain⟨h1,h⟩:=bon h;obtain⟨l,u,hl,hu,h2,h3,h⟩:=slR_ok h;rw[Nat.zero_add] at h;refine x8 (calm2r ?_ ?_) (show R.ltK nk (.vw k l 1 (u-l) false)=true from h3) rfl h
     ·show xslc X.E.T M.get t (opv fr x) (optv fr a) (optv fr b)=_;unfold xslc;rw[hx,hd];dsimp only;rw[hb]
     obtain⟨s,rfl⟩:=cells_tmp (x:=x) (fr:=fr) (λv=>by rw[hx];simp) (λv=>by rw[hx];simp) v8 (λv=>by rw[hx];simp);have hx:get fr s=.own k:=hx;simp only[xrd];rw[hd,hx];dsimp only;rw[hb];dsimp only;rw[←hsz,h1,hl,hu];dsimp only;rw[h2]
     try rfl
    |_=>cases h
   ·rw[zQ] at hx;obtain⟨h1,h⟩:=bon h;obtain⟨l,u,hl,hu,h2,h3,h⟩:=slR_ok h;refine x8 (xx ?_) (show R.ltK nk (.vw k (lo+l) sz (u-l) false)=true from h3) rfl h;show xslc X.E.T M.get t (opv fr x) (optv fr a) (optv fr b)=_;unfold xslc;rw[hx,hd];dsimp only;rw[←hsz,h1,hl,hu];dsimp only;rw[h2]
    try rfl
   exact zE (e:=e) h
  rcases bofs h with ⟨h1,h⟩|⟨h1,h⟩
  ·rcases wk_ok h with ⟨_,_,_,h⟩|⟨s,hx,h⟩|h
   ·cases h
   ·rw[zQ] at hx;exact slS_ok (isStr_ok h1) hx h
   cases h
  exact zE (e:=e) h
end
end Exe
end Go.Eng
end
section
namespace Go.Eng
open Go Go.RowKit
namespace Exe
noncomputable section
variable {X:XE}{e:Ev}{xi:XI}{Y:Yx}{nk:Nat}{fr:Fr}{M:Mm}{K:KV}{r:SV×Nat×Mm}
theorem cmpF_n{xs ys:List SV}:cmpF [] xs ys=(match xs,ys with|[],[]=>some true|_,_=>none):=rfl
theorem cmpF_c{t:Ty}{c:List Ty}{xs ys:List SV}:cmpF (t::c) xs ys=(match t,xs,ys with
   |.int _,.v (.int k m)::s,.v (.int k' n)::r=>Bool.rec (motive:=λ_=>Option Bool) none (andO (eqI m n) (cmpF c s r)) (Nat.beq (kcF k) (kcF k'))
   |.str,.v (.string a)::s,.v (.string b)::r=>andO (eqBs a.data.toList b.data.toList) (cmpF c s r)
   |.bool,.bb a::s,.bb b::r=>andO (Bool.rec (motive:=λ_=>Bool) (notB b) b a) (cmpF c s r)
   | _,_,_=>none):=rfl
theorem andO_ok{b:Bool}{x:Option Bool}{z:Bool}(h:andO b x=some z):∃q,x=some q∧z=(b&&q):=by
 cases x with
 |none=>cases h
 |some q=>cases h;cases b<;>exact⟨q,rfl,rfl⟩
theorem cmpF_ok:∀{c:List Ty}{xs ys:List SV}{b:Bool},cmpF c xs ys=some b→∃p,∃i:Decidable p,(∀J,xeqL c xs ys J=J p i)∧@decide p i=b
 |[],xs,ys,b,h=>by
  rw[cmpF_n] at h;split at h
  ·cases h;exact⟨True,instDecidableTrue,λJ=>rfl,rfl⟩
  cases h
 |t::c,xs,ys,b,h=>by
  rw[cmpF_c] at h;split at h
  ·rename_i k m s k' n r;rw[kcF_eq,kcF_eq] at h
   cases hk:Nat.beq (kc k) (kc k') with
   |false=>rw[hk] at h;cases h
   |true=>
    rw[hk] at h;obtain⟨q,h1,h2⟩:=andO_ok h;obtain⟨p,i,h3,h4⟩:=cmpF_ok h1;refine⟨m=n∧p,@instDecidableAnd _ _ (Int.instDecidableEq m n) i,λJ=>?_,?_⟩
    ·rw[xeqL_c];dsimp only;rw[hk];exact h3 _
    rw[h2,eqI_eq,←h4];exact Bool.decide_and _ _
  ·rename_i a s b' r;obtain⟨q,h1,h2⟩:=andO_ok h;obtain⟨p,i,h3,h4⟩:=cmpF_ok h1;refine⟨a.data.toList=b'.data.toList∧p,@instDecidableAnd _ _ (decStr a b') i,λJ=>?_,?_⟩
   ·rw[xeqL_c];exact h3 _
   rw[h2,eqBs_eq,←h4];exact Bool.decide_and _ _
  ·rename_i a s b' r;obtain⟨q,h1,h2⟩:=andO_ok h;obtain⟨p,i,h3,h4⟩:=cmpF_ok h1
   cases a<;>cases b'<;>first
    |exact⟨True∧p,@instDecidableAnd _ _ instDecidableTrue i,λJ=>by rw[xeqL_c];exact h3 _,by rw[h2,←h4];cases i<;>rfl⟩
    |exact⟨False∧p,@instDecidableAnd _ _ instDecidableFalse i,λJ=>by rw[xeqL_c];exact h3 _,by rw[h2];rfl⟩
  cases h
theorem bAgg_ok{op:BinOp}{i:TI}{x y:SV}{s:RR}(h:bAgg op i x y nk M K s=some r):Via (ye nk M (xbin2 i.cmp i.d op x y)) K r∨s=some r:=by
 unfold bAgg at h;split at h;rotate_left
 ·exact .inr h
 rename_i xs ys;unfold xbin2;split at h
 ·rename_i t c f hc hd
  cases hb:cmpF (t::c) xs ys with
  |none=>rw[hb] at h;exact .inr h
  |some b=>
   rw[hb] at h;obtain⟨p,i',h1,h2⟩:=cmpF_ok hb;left;rw[hc,hd];dsimp only;rw[h1];exact bxB_ok h2.symm h
 ·rename_i t c f hc hd
  cases hb:cmpF (t::c) xs ys with
  |none=>rw[hb] at h;exact .inr h
  |some b=>
   rw[hb] at h;obtain⟨p,i',h1,h2⟩:=cmpF_ok hb;left;rw[hc,hd];dsimp only;rw[h1];refine bxB_ok ?_ h;rw[notB_eq,←h2];cases i'<;>rfl
 exact .inr h
theorem oBin_ok{op:BinOp}{t:TypeId}{x y:Operand}{u:TypeId}(h:oBin op t x y u X e nk fr M K=some r):Via (xop X xi Y nk fr M (.binOp op t x y u)) K r:=by
 show Via (ye nk M (zy X.E.T (.binOp op t x y u) fr M.get)) K r;rcases wk_ok h with ⟨k,a,hx,h⟩|⟨a,hx,h⟩|h
 ·rcases wk_ok h with ⟨k',b,hy,h⟩|⟨_,_,h⟩|h
  ·rw[zQ] at hx hy;rcases bofs h with ⟨h1,h⟩|⟨h1,h⟩
   ·rw[kcF_eq,kcF_eq] at h1;rcases iOp_ok h with h|h
    ·refine via_imp (λz hz=>xx ?_) h;show xbin2 (ty X.E.T t).cmp (ty X.E.T t).d op (opv fr x) (opv fr y)=_;rw[hx,hy];unfold xbin2 xbin
     cases op<;>first
      |(dsimp only;rw[h1];exact hz)
      |(simp[xint] at hz;done)
    exact zE (e:=e) h
   exact zE (e:=e) h
  ·cases h
  cases h
 ·rcases wk_ok h with ⟨_,_,_,h⟩|⟨b,hy,h⟩|h
  ·cases h
  ·rw[zQ] at hx hy;rcases sOp_ok h with h|h
   ·refine via_imp (λz hz=>xx ?_) h;show xbin2 (ty X.E.T t).cmp (ty X.E.T t).d op (opv fr x) (opv fr y)=_;rw[hx,hy];exact hz
   exact zE (e:=e) h
  cases h
 have h:bAgg op (ty X.E.T t) (ov x fr) (ov y fr) nk M K (yK (.binOp op t x y u) X e nk fr M K)=some r:=h;rw[zQ,zQ] at h;rcases bAgg_ok h with h|h
 ·exact via_imp (λz hz=>xx hz) h
 exact zE (e:=e) h
theorem byK_ok:∀{cs:List SV}{K:List UInt8→RR},byK cs K=some r→∃bs xs,rowVL cs=some xs∧xbytes xs=some bs∧K bs=some r
 |[],K,h=>⟨[],[],rfl,rfl,h⟩
 |x::cs,K,h=>by
  have h:wk x ⟨λk n=>Bool.rec (motive:=λ_=>RR) none (Int.rec (motive:=λ_=>RR) (λm=>Bool.rec (motive:=λ_=>RR) none (byK cs λs=>K (UInt8.ofNat m::s)) (Nat.blt m 256)) (λ_=>none) n) (Nat.beq (kcF k) 4),λ_=>none,none⟩=some r:=h;rcases wk_ok h with ⟨k,n,hx,h⟩|⟨_,_,h⟩|h
  ·obtain⟨h1,h⟩:=bon h;rw[kcF_eq] at h1
   have hk:k=.u8:=by
    have:=Nat.eq_of_beq_eq_true h1;cases k<;>first|rfl|cases this
   subst hk
   cases n with
   |ofNat m=>
    obtain⟨h2,h⟩:=bon h;obtain⟨bs,xs,h3,h4,h⟩:=byK_ok h;have h2:m<256:=Nat.le_of_ble_eq_true h2;refine⟨UInt8.ofNat m::bs,.int .u8 (.ofNat m)::xs,?_,?_,h⟩
    ·subst hx;show(match rowVL cs with|some s=>some (_::s)|none=>none)=_;rw[h3]
    rw[xbytes_c];dsimp only;rw[show inI (Int.ofNat m) 256=true from decide_eq_true ⟨by simp,by simp only[Int.ofNat_eq_natCast];omega⟩,h4];rfl
   |negSucc m=>cases h
  ·cases h
  cases h
theorem cvB_ok{s t el:TypeId}{x:Operand}{lo m:Nat}{own:Bool}{b:LB}(h1:(ty X.E.T s).d=.slice el)(h2:(ty X.E.T t).d=.str)(h3:(ty X.E.T el).d=.int .u8)
  {k sz:Nat}{ex:Bool}(hk:M.get k=some b) (hx:(own=true∧opv fr x=.own k)∨(own=false∧opv fr x=.vw k lo sz m ex∧Nat.beq sz 1=true))
  (h:cvB lo m own nk M K (yK (.convert s t x) X e nk fr M K) b=some r):Via (ye nk M (zy X.E.T (.convert s t x) fr M.get)) K r:=by
 cases b with
 |row E sz' n cs=>
  obtain⟨h4,h⟩:=bon h;rcases hx with ⟨rfl,hx⟩|⟨rfl,hx,hs⟩
  ·obtain⟨bs,xs,h5,h6,h⟩:=byK_ok h;refine x8 (xx ?_) rfl rfl h;show xconv X.E.T M.get s t (opv fr x)=_;unfold xconv;rw[h1,h2,hx];dsimp only;rw[h3,hk];dsimp only;rw[h4,h5];dsimp only;rw[h6]
   try rfl
  obtain⟨h7,h⟩:=bon h;rw[dropK_eq,takeK_eq] at h;obtain⟨bs,xs,h5,h6,h⟩:=byK_ok h;refine x8 (xx ?_) rfl rfl h;show xconv X.E.T M.get s t (opv fr x)=_;unfold xconv;rw[h1,h2,hx];dsimp only;rw[h3,hk];dsimp only;have h7:Nat.ble (lo+m) n=true:=h7;rw[hs,h4,h7,show vwS cs lo 1 m=takeN (dropN cs lo) m by unfold vwS;rw[Nat.mul_one,Nat.mul_one],h5];dsimp only;rw[h6]
  try rfl
 |_=>exact zE (e:=e) h
theorem oConv_ok{s t:TypeId}{x:Operand}(h:oConv s t x X e nk fr M K=some r):Via (xop X xi Y nk fr M (.convert s t x)) K r:=by
 show Via (y5 X nk fr M s t x) K r;unfold oConv at h;unfold y5;split at h
 ·rename_i el h1 h2;rw[h1,h2];dsimp only;split at h
  ·rename_i h3;rcases wk_ok h with ⟨_,_,_,h⟩|⟨a,hx,h⟩|h
   ·cases h
   ·rw[zQ] at hx;have h:sbR el a nk M K=some r:=h;unfold sbR at h;rw[lenB_eq] at h;obtain⟨h4,h⟩:=bon h;obtain⟨M',h5,h⟩:=newB_ok h;refine⟨_,_,M',?_,h⟩;unfold xsb;have hsz:a.size=a.data.toList.length:=by simp
    rw[h2,hx];dsimp only;rw[h3,hsz,h4,h5]
    try rfl
   cases h
  cases h
 ·rename_i el h1 h2;rw[h1,h2];dsimp only;split at h
  ·rename_i h3;rcases ak_ok h with ⟨k,o,hx,h⟩|⟨k,hx,h⟩|⟨k,lo,sz,m,ex,hx,h⟩|h
   ·cases h
   ·rw[zQ] at hx;obtain⟨b,hb,h⟩:=oon h;rw[y9] at hb;exact cvB_ok (sz:=0) (ex:=false) h1 h2 h3 hb (.inl ⟨rfl,hx⟩) h
   ·rw[zQ] at hx;obtain⟨hs,h⟩:=bon h;obtain⟨b,hb,h⟩:=oon h;rw[y9] at hb;exact cvB_ok h1 h2 h3 hb (.inr ⟨rfl,hx,hs⟩) h
   exact zE (e:=e) h
  cases h
 ·rename_i e1 e2 h1 h2;rw[h1,h2];dsimp only;obtain⟨h3,h⟩:=bon h;obtain⟨p,hp,h⟩:=oon h;rw[zQ] at hp;rw[h3,hp];exact⟨p.1,nk,p.2,rfl,fw_ok h⟩
 ·rename_i k0 k' h1 h2;rw[h1,h2];dsimp only;rcases wk_ok h with ⟨k,n,hx,g⟩|⟨_,_,h⟩|h
  ·clear h;rw[zQ] at hx;rcases bofs g with ⟨h3,g2⟩|⟨h3,g2⟩
   ·clear g
    have h4:Nat.beq (kcF k') 3=true∧widens k .i64=true:=by
     revert h3
     cases Nat.beq (kcF k') 3<;>cases widens k .i64<;>simp
    obtain⟨h4,h5⟩:=h4
    have hk:k'=.i64:=by
     have:=Nat.eq_of_beq_eq_true h4;cases k'<;>first|rfl|cases this
    subst hk
    cases n with
    |ofNat m=>
     rcases bofs g2 with ⟨h6,g3⟩|⟨h6,g3⟩
     ·rw[yo] at g3;have h6:=Nat.le_of_ble_eq_true h6;refine x8 (xx ?_) rfl rfl g3;show xconv X.E.T M.get s t (opv fr x)=_;unfold xconv;rw[h1,h2,hx];dsimp only;rw[h5];dsimp only;rw[show xinR .i64 (Int.ofNat m)=true from decide_eq_true ⟨by simp only[Int.ofNat_eq_natCast];omega,by simp only[Int.ofNat_eq_natCast];omega⟩]
     exact zE (e:=e) g3
    |negSucc m=>exact zE (e:=e) g2
   exact zE (e:=e) g2
  ·cases h
  cases h
 rename_i N1 N2 N3 N4;split
 ·rename_i h1 h2;exact(N1 _ h1 h2).elim
 ·rename_i h1 h2;exact(N3 _ _ h1 h2).elim
 exact zE (e:=e) h
theorem lnF_ok{x:Operand}{t:Nat}{s:RR}{ags:Array Operand}{ts:Array TypeId}(ha:ags.toList=[x])(ht:ts.toList=[t])
  (h:lnF x t X nk fr M K s=some r):Via (ye nk M (zy X.E.T (.call ⟨.builtin .len,ags,ts⟩) fr M.get)) K r∨s=some r:=by
 have calm:∀y,xlen (ty X.E.T t).d M.get (opv fr x)=some y→ym X.E.T (.call ⟨.builtin .len,ags,ts⟩) fr M.get=some y:=λy hy=>by
  show xbuilt X.E.T .len (opvs fr ags.toList) ts.toList M.get=_;rw[ha,ht];exact hy
 rcases bofs h with ⟨h0,h⟩|⟨h0,h⟩
 ·obtain⟨el,hd,hsz⟩:=isSl_ok h0;rcases ak_ok h with ⟨k,o,hx,h⟩|⟨k,hx,h⟩|⟨k,lo,sz,m,ex,hx,h⟩|h
  ·cases h
  ·rw[zQ] at hx;obtain⟨b,hb,h⟩:=oon h;rw[y9] at hb;rcases lenOf_ok h with ⟨E,s',n,cs,rfl,h⟩|⟨E,n,xs,rfl,_,h⟩|h
   ·refine .inl (x8 (xx (calm _ ?_)) rfl rfl h);unfold xlen;rw[hd,hx];dsimp only;rw[hb];rfl
   ·refine .inl (x8 (calm2r ?_ ?_) rfl rfl h)
    ·show xbuilt X.E.T .len (opvs fr ags.toList) ts.toList M.get=none;rw[ha,ht];show xlen (ty X.E.T t).d M.get (opv fr x)=none;unfold xlen;rw[hd,hx];dsimp only;rw[hb]
    obtain⟨s,rfl⟩:=cells_tmp (x:=x) (fr:=fr) (λv=>by rw[hx];simp) (λv=>by rw[hx];simp) v8 (λv=>by rw[hx];simp);have hx:get fr s=.own k:=hx;simp only[xrd];rw[ha,ht];dsimp only;rw[hd,hx];dsimp only;rw[hb];rfl
   exact .inr h
  ·rw[zQ] at hx;refine .inl (x8 (xx (calm _ ?_)) rfl rfl h);unfold xlen;rw[hd,hx];rfl
  exact .inr h
 rcases bofs h with ⟨h1,h⟩|⟨h1,h⟩
 ·have h1:=isStr_ok h1;rcases wk_ok h with ⟨_,_,_,h⟩|⟨a,hx,h⟩|h
  ·cases h
  ·rw[zQ] at hx;have h:lenB a.data.toList (λn=>K (.v (.int .i64 (.ofNat n))) nk M)=some r:=h;rw[lenB_eq] at h;refine .inl (x8 (xx (calm _ ?_)) rfl rfl h);unfold xlen;rw[h1,hx];dsimp only;rw[show a.size=a.data.toList.length by simp];rfl
  cases h
 exact .inr h
theorem srF_ok{sz:Nat}{y:SV}{K:Nat→List SV→RR}{s:RR}(h:srF M sz y K s=some r):(∃n cs,xsrcM M.get sz y=some (n,cs)∧K n cs=some r)∨s=some r:=by
 rcases ak_ok h with ⟨k,o,hx,h⟩|⟨k,hx,h⟩|⟨k,lo,sz'',m,ex,hx,h⟩|h
 ·cases h
 ·subst hx;obtain⟨b,hb,h⟩:=oon h;rw[y9] at hb
  cases b with
  |row E sz' n cs=>
   obtain⟨h1,h⟩:=bon h;exact .inl ⟨n,cs,by simp only[xsrcM];rw[hb];dsimp only;rw[h1],h⟩
  |_=>exact .inr h
 ·subst hx;obtain⟨b,hb,h⟩:=oon h;rw[y9] at hb
  cases b with
  |row E sz' n cs=>
   obtain⟨h1,h⟩:=bon h;obtain⟨h2,h⟩:=bon h;obtain⟨h3,h⟩:=bon h;rw[dropK_eq,takeK_eq] at h;have h3:Nat.ble (lo+m) n=true:=h3;exact .inl ⟨m,_,by simp only[xsrcM];rw[hb];dsimp only;rw[h1,h2,h3];rfl,h⟩
  |_=>exact .inr h
 exact .inr h
theorem apK_ok{t:Nat}{y z:SV}(h:apK t nk y z X M K (slow1 (xappM X.E.T t nk y z M) nk K)=some r):Via (we nk (xappM X.E.T t nk y z M)) K r:=by
 unfold apK at h;split at h;rotate_left
 ·cases h
 rename_i el hd;split at h
 ·cases h
 rename_i hne;rcases srF_ok h with ⟨m,ys,hs,h⟩|h;rotate_left
 ·exact xh h
 rcases ak_ok h with ⟨k,o,hx,h⟩|⟨k,hx,h⟩|⟨k,lo,sz'',m',ex,hx,h⟩|h
 ·cases h
 ·obtain⟨b,hb,h⟩:=oon h;rw[y9] at hb
  cases b with
  |row E sz' n cs=>
   obtain⟨h1,h⟩:=bon h;obtain⟨h2,h⟩:=bon h;obtain⟨h3,h⟩:=bon h;rw[catK_eq,yo] at h;obtain⟨M1,h4,h⟩:=newB_ok h;obtain⟨M2,h5,h⟩:=yg h;refine⟨_,_,M2,?_,h⟩
   have e:xappM X.E.T t nk y z M=some (.own nk,M2):=by
    unfold xappM;rw[hd]
    have main:(match xsrcM M.get (ty X.E.T el).sz z with
     |none=>none
     | some (m,ys)=>(match xdstM M.get el (ty X.E.T el).sz y with
      |none=>none
      | some (k,n,cs)=>(match xcap (n+m) (ty X.E.T el).byt,xput M nk (some (.row el (ty X.E.T el).sz (n+m) (catQ cs ys))) with
       |true,some M1=>(match xremM M1 k with|some M2=>some (.own nk,M2)|none=>none)
       | _,_=>none)))=some (SV.own nk,M2):=by
     rw[hs];dsimp only
     rw [show xdstM M.get el (ty X.E.T el).sz y=some (some k,n,cs) by
      subst hx;simp only [xdstM];rw [hb];dsimp only;rw [h1,h2]]
     dsimp only;have h3:xcap (n+m) (ty X.E.T el).byt=true:=h3;have h4:xput M nk (some (.row el (ty X.E.T el).sz (n+m) (catQ cs ys)))=some M1:=h4;rw[h3,h4];dsimp only;rw[show xremM M1 (some k)=some M2 from h5]
    dsimp only;split
    ·rename_i ho;exact absurd ho hne
    exact main
   rw[e];rfl
  |_=>cases h
 ·exact xh h
 exact xh h
theorem inOrd_c{p:Nat×Operand}{ps:List (Nat×Operand)}{i m:Nat}(h:inOrd (p::ps) i m=true):p.1=i∧inOrd ps (i+1) m=true:=by
 have h:Bool.rec (motive:=λ_=>Bool) false (inOrd ps (i+1) m) (Nat.beq p.1 i)=true:=h
 cases hb:Nat.beq p.1 i with
 |true=>rw[hb] at h;exact⟨Nat.eq_of_beq_eq_true hb,h⟩
 |false=>rw[hb] at h;cases h
theorem nth_elemPl{sz el:Nat}:∀(m i o:Nat),i<m→nth (elemPl sz el m o) i=some ((o+i)*sz,el)
 |0,i,o,h=>by omega
 |m+1,0,o,h=>rfl
 |m+1,i+1,o,h=>by
  show nth (elemPl sz el m (o+1)) i=_;rw[nth_elemPl m i (o+1) ws,Nat.add_assoc,Nat.add_comm 1 i]
theorem setN_app:∀(a:List SV) (x y:SV) (b:List SV),setN (a++x::b) a.length y=a++y::b
 |[],x,y,b=>rfl
 |z::a,x,y,b=>by show z::setN (a++x::b) a.length y=_;rw[setN_app];rfl
theorem ptK_c{p:Nat×Operand}{ps:List (Nat×Operand)}{K:List SV→RR}:ptK fr (p::ps) K=fw (ov p.2 fr) λy=>Bool.rec (motive:=λ_=>RR) none (ptK fr ps λs=>K (y::s)) (isW y):=rfl
theorem ptK_ok{T:Tab}{el m:Nat}(hs:(ty T el).sz=1):∀{ps:List (Nat×Operand)}{i:Nat}{a b:List SV}{K:List SV→RR},inOrd ps i m=true→a.length=i→b.length+i=m→ptK fr ps K=some r →
  ∃l,yM T (elemPl 1 el m 0) fr ps (a++b)=some (a++l)∧(∀y∈l,isW y=true)∧K l=some r
 |[],i,a,b,K,hi,ha,hb,h=>by
  have hi:=Nat.eq_of_beq_eq_true (show Nat.beq i m=true from hi);have:b=[]:=List.eq_nil_of_length_eq_zero ws;subst this;exact⟨[],rfl,by simp,h⟩
 |p::ps,i,a,b,K,hi,ha,hb,h=>by
  obtain⟨hp,hi⟩:=inOrd_c hi;rw[ptK_c] at h;have h:=fw_ok h;obtain⟨hw,h⟩:=bon h
  have him:i<m:=by
   have:∀(ps:List (Nat×Operand)) (j:Nat),inOrd ps j m=true→j≤m:=by
    intro ps
    induction ps with
    |nil=>intro j hj;exact Nat.le_of_eq (Nat.eq_of_beq_eq_true hj)
    |cons q qs ih=>intro j hj;have:=ih _ (inOrd_c hj).2;omega
   have:=this ps (i+1) hi;omega
  obtain⟨z,b,rfl⟩:∃z b',b=z::b':=by
   cases b with
   |nil=>simp at hb;omega
   |cons z b'=>exact⟨z,b',rfl⟩
  obtain⟨l,h1,h2,h3⟩:=ptK_ok hs (a:=a++[ov p.2 fr]) (b:=b) hi (by simp[ha]) (by simp at hb;omega) h;refine⟨ov p.2 fr::l,?_,?_,h3⟩
  ·obtain⟨j,x⟩:=p;have hp:j=i:=hp;subst hp;rw[xparts_c,nth_elemPl m j 0 him];dsimp only;have hoff:(0+j)*1=a.length:=by omega
   have main:(match Nat.beq (ty T el).sz 1,Nat.blt ((0+j) * 1) (a++z::b).length with
    |true,true=>yM T (elemPl 1 el m 0) fr ps (setN (a++z::b) ((0+j)*1) (opv fr x))
    | _,_=>none)=some (a++(ov x fr::l)):=by
    rw[hs,hoff,show Nat.blt a.length (a++z::b).length=true from Nat.ble_eq_true_of_le (by rw[List.length_append,List.length_cons];omega),setN_app];dsimp only;rw[zQ] at h1 ⊢;simpa using h1
   rw[zQ] at hw
   revert main hw
   generalize opv fr x=y;intro hw main;unfold isW at hw;split at hw
   ·cases hw
   ·cases hw
   ·cases hw
   ·cases hw
   ·cases hw
   rename_i N1 N2 N3 N4 N5;split
   ·exact(N1 _ rfl).elim
   ·exact(N2 _ rfl).elim
   ·exact(N3 rfl).elim
   ·exact(N4 _ rfl).elim
   ·exact(N5 _ rfl).elim
   exact main
  intro y hy;rcases List.mem_cons.1 hy with rfl|hy
  ·exact hw
  exact h2 y hy
theorem repl_len{l:List SV}(hl:l.length=1):∀m,(repl m l).length=m
 |0=>rfl
 |m+1=>by show(l++repl m l).length=_;rw[List.length_append,hl,repl_len hl m];omega
theorem valL_len:∀(l:List Value),(valL l).length=l.length
 |[]=>rfl
 |x::l=>by cases x<;>simp[valL,valL_len l]
theorem oneL_of:∀{l:List SV},(∀y∈l,isW y=true)→oneL l=true
 |[],_=>rfl
 |y::l,h=>by
  have h1:=h y (.head _);have h2:=oneL_of (l:=l) λz hz=>h z (.tail _ hz);clear h;unfold oneL;unfold isW at h1
  split at h1<;>first
   |cases h1
   |skip
  rename_i N1 N2 N3 N4 N5;split
  ·rename_i e;cases e
  ·rename_i e;cases e;exact(N1 _ rfl).elim
  ·rename_i e;cases e;exact(N2 _ rfl).elim
  ·rename_i e;cases e;exact(N3 rfl).elim
  ·rename_i e;cases e;exact(N4 _ rfl).elim
  ·rename_i e;cases e;exact(N5 _ rfl).elim
  rename_i e;cases e;exact h2
theorem oBuildS_ok{t:TypeId}{m:Nat}{ps:Array (Nat×Operand)}(h:oBuildS t m ps X e nk fr M K=some r):Via (xop X xi Y nk fr M (.buildSlice t m ps)) K r:=by
 show Via (we nk (x7 X.E.T t m nk fr ps.toList M)) K r;unfold oBuildS at h;split at h;rotate_left
 ·cases h
 rename_i el hd;rcases bofs h with ⟨h1,h⟩|⟨h1,h⟩
 ·have h4:inOrd ps.toList 0 m=true∧Nat.beq (ty X.E.T el).zero.length 1=true∧one1 (ty X.E.T el)=true∧Nat.ble m 16777216=true:=by
   revert h1
   cases inOrd ps.toList 0 m<;>cases Nat.beq (ty X.E.T el).zero.length 1<;>cases one1 (ty X.E.T el)<;>cases Nat.ble m 16777216<;>simp
  obtain⟨hi,hz,h1,hm⟩:=h4;obtain⟨hs,hne,_⟩:=one1_ok h1;have hz:=Nat.eq_of_beq_eq_true hz;obtain⟨l,h2,h3,h⟩:=ptK_ok (T:=X.E.T) (el:=el) hs (a:=[]) (b:=repl m (valL (ty X.E.T el).zero)) hi rfl (by rw[repl_len (by rw[valL_len];exact hz)];omega) h;obtain⟨M1,h4,h⟩:=newB_ok h;refine⟨_,_,M1,?_,h⟩
  have e:x7 X.E.T t m nk fr ps.toList M=some (.own nk,M1):=by
   unfold x7;rw[hd];dsimp only;split
   ·rename_i ho;exact absurd ho hne
   rw[hs,show yM X.E.T (elemPl 1 el m 0) fr ps.toList (repl m (valL (ty X.E.T el).zero))=some l from h2];dsimp only;rw[oneL_of h3,Nat.mul_one,hm,h4]
  rw[e];rfl
 exact xh h
theorem wkV_ok{v:Value}{k:Wk}(h:wkV v k=some r):(∃kk n,v=.int kk n∧k.i kk n=some r)∨(∃s,v=.string s∧k.s s=some r)∨k.o=some r:=by
 cases v with
 |int kk n=>exact .inl ⟨kk,n,rfl,h⟩
 |string s=>exact .inr (.inl ⟨s,rfl,h⟩)
 |_=>exact .inr (.inr h)
theorem fdM_ok{s:ByteArray}:∀{es:List MapEntry}{i:Nat}{K:Nat→Value→RR}{no bad:RR},fdM s.data.toList es i K no bad=some r →
  (∃j v,xfind s es i=some (some (j,v))∧K j v=some r)∨(xfind s es i=some none∧no=some r)∨bad=some r
 |[],i,K,no,bad,h=>.inr (.inl ⟨rfl,h⟩)
 |e::es,i,K,no,bad,h=>by
  have h:wkV e.key ⟨λ_ _=>bad,λb=>Bool.rec (motive:=λ_=>RR) (fdM s.data.toList es (i+1) K no bad) (K i e.val) (eqBs s.data.toList b.data.toList),bad⟩=some r:=h
  have hu:xfind s (e::es) i=(match e.key with
   |.string b=>(match beqS s b with|true=>some (some (i,e.val))|false=>xfind s es (i+1))
   | _=>none):=rfl
  rcases wkV_ok h with ⟨_,_,_,h⟩|⟨b,hk,h⟩|h
  ·exact .inr (.inr h)
  ·rw[hk] at hu;dsimp only at hu;rw[show beqS s b=eqBs s.data.toList b.data.toList from eqBs_eq.symm] at hu;rcases bofs h with ⟨h1,h⟩|⟨h1,h⟩
   ·rw[h1] at hu;exact .inl ⟨i,e.val,hu,h⟩
   rw[h1] at hu;rw[hu];exact fdM_ok h
  exact .inr (.inr h)
theorem mpE_eq{e:MapEntry}:∀{es:List MapEntry}{K:List MapEntry→RR},mpE es e K=K (catQ es [e])
 |[],K=>rfl
 |x::es,K=>by show mpE es e (λs=>K (x::s))=_;rw[mpE_eq];rfl
theorem mrOf_ok{y:SV}{K:Nat→RR}{s:RR}(h:mrOf y K s=some r):(∃b,y=.mr b∧K b=some r)∨s=some r:=by
 unfold mrOf at h;split at h
 ·exact .inl ⟨_,rfl,h⟩
 exact .inr h
theorem mpOf_ok{b:LB}{K:List MapEntry→Nat→RR}{s:RR}(h:mpOf b K s=some r):(∃es c,b=.mp es c∧K es c=some r)∨s=some r:=by
 cases b with
 |mp es c=>exact .inl ⟨es,c,rfl,h⟩
 |_=>exact .inr h
theorem muF_ok{t:Nat}{m k x:SV}(h:muF t m k x X nk M K=some r):Via (liftU nk (wl X.E.T t m k x M)) K r:=by
 unfold muF at h;split at h;rotate_left
 ·cases h
 rename_i kt et hd;split at h;rotate_left
 ·cases h
 rename_i hk;rcases wk_ok h with ⟨_,_,_,h⟩|⟨s,hs,h⟩|h
 ·cases h
 ·obtain⟨v,hv,h⟩:=oon h;rw[R.toV_eq] at hv;rcases mrOf_ok h with ⟨b,hm,h⟩|h;rotate_left
  ·cases h
  obtain⟨lb,hb,h⟩:=oon h;rw[y9] at hb;rcases mpOf_ok h with ⟨es,c,hl,h⟩|h;rotate_left
  ·cases h
  subst hl;rcases fdM_ok h with ⟨i,w,hf,h⟩|⟨hf,h⟩|h
  ·obtain⟨M1,h1,h⟩:=yg h;refine⟨_,_,M1,?_,h⟩
   have e:wl X.E.T t m k x M=some M1:=by
    unfold wl;rw[hd];dsimp only;rw[hk,hs,hv];dsimp only;rw[hm];dsimp only;rw[hb];dsimp only;rw[hf];exact h1
   rw[e];rfl
  ·rw[mpE_eq,yo] at h;obtain⟨M1,h1,h⟩:=yg h;refine⟨_,_,M1,?_,h⟩
   have e:wl X.E.T t m k x M=some M1:=by
    unfold wl;rw[hd];dsimp only;rw[hk,hs,hv];dsimp only;rw[hm];dsimp only;rw[hb];dsimp only;rw[hf];exact h1
   rw[e];rfl
  cases h
 cases h
theorem nb_nv(v:Value):nb (nv v)=nv v:=by cases v<;>rfl
theorem lt_nv(v:Value):R.ltK nk (nv v)=true:=by cases v<;>rfl
theorem ltKL_1{y:SV}(h:R.ltK nk y=true):R.ltKL nk [y,.bb true]=true:=by
 show(match R.ltK nk y with|true=>true|false=>false)=true;rw[h]
theorem look_eq{t kt et b c j:Nat}{s:ByteArray}{es:List MapEntry}{w:Value}{x i:SV}{ok:Bool}{T:Tab}{Z:Zt}{Mg':Mg}(hd:(ty T t).d=.map kt et)(hk:(ty T kt).d=.str)(hs:i=.v (.string s))(hm:x=.mr b)(hb:Mg' b=some (.mp es c))(hf:xfind s es 0=some (some (j,w))):
  wp T Z t x i ok Mg'=(match ok with|true=>some (.tup [nv w,.bb true])|false=>some (nv w)):=by
 unfold wp;rw[hd];dsimp only;rw[hk,hs];dsimp only;rw[hm];dsimp only;rw[hb];dsimp only;rw[hf]
 try rfl
theorem lkF_ok{t:Nat}{x i:SV}{ok:Bool}(h:lkF t x i ok X nk M K (frcO (wp X.E.T X.Z t x i ok M.get) nk M K)=some r):Via (ye nk M (wp X.E.T X.Z t x i ok M.get)) K r:=by
 unfold lkF at h;split at h;rotate_left
 ·cases h
 rename_i kt et hd;split at h;rotate_left
 ·cases h
 rename_i hk;rcases wk_ok h with ⟨_,_,_,h⟩|⟨s,hs,h⟩|h
 ·cases h
 ·rcases mrOf_ok h with ⟨b,hm,h⟩|h;rotate_left
  ·exact frcO_ok h
  obtain⟨lb,hb,h⟩:=oon h;rw[y9] at hb;rcases mpOf_ok h with ⟨es,c,hl,h⟩|h;rotate_left
  ·cases h
  subst hl;rcases fdM_ok h with ⟨j,w,hf,h⟩|⟨hf,h⟩|h
  ·have eu:=look_eq (ok:=ok) (Z:=X.Z) hd hk hs hm hb hf;rcases bofs h with ⟨h1,g⟩|⟨h1,g⟩
   ·rw[h1] at eu ⊢;obtain⟨_,g⟩:=frc_ok g;rw[nb_nv] at g;refine x8 eu ?_ rfl g;rw[ltT];exact ltKL_1 (lt_nv w)
   rw[h1] at eu ⊢;obtain⟨_,g⟩:=frc_ok g;rw[nb_nv] at g;exact x8 eu (lt_nv w) (nb_nv w) g
  ·exact frcO_ok h
  cases h
 cases h
end
end Exe
end Go.Eng
end
section
namespace Go.Eng
open Go Go.RowKit
namespace Exe
noncomputable section
def YR(Z:Yk)(Y:Yx):Prop:=∀k h,yk Z k=some h→∃g,yxGet Y k=some g∧∀args nk M K r,h args nk M K=some r→Via (g args nk M) K r
def XR2(z:XIk)(xi:XI):Prop:=∀Z Y,YR Z Y→∀f args nk M K r,z Z f args nk M K=some r→Via (xi Y f args nk M) K r
structure EvR (e:Ev) (xi:XI) (Y:Yx):Prop where
 x:XR2 e.xi xi
 y:YR e.Y Y
variable {X:XE}{e:Ev}{xi:XI}{Y:Yx}{nk:Nat}{fr:Fr}{M:Mm}{K:KV}{r:SV×Nat×Mm}
theorem kck_ok{x:RR}{nk0:Nat}(h:Via x (kck nk0 K) r):Via (xck nk0 x) K r:=by
 obtain⟨y,n,m,rfl,h⟩:=h;obtain⟨h1,h⟩:=bon h;obtain⟨h2,h⟩:=bon h;exact⟨y,n,m,by simp only[xck,h1,h2],h⟩
theorem callFn_ok(he:EvR e xi Y){f:Nat}{xs:List Operand}(h:callFn f xs X e nk fr M K=some r):Via (xcall2 X xi Y nk fr M f (opvs fr xs)) K r:=by
 unfold callFn at h;rw[ovs_eq] at h;unfold xcall2;split
 ·rename_i g hg;rw[hg] at h;exact frcO_ok h
 rename_i hg;rw[hg] at h;exact kck_ok (he.x _ _ he.y _ _ _ _ _ _ h)
theorem callT_ok(he:EvR e xi Y){t:Nat}{xs:List Operand}(h:callT t xs X e nk fr M K=some r):Via (xfn X xi Y nk fr M (get fr t) (opvs fr xs)) K r:=by
 unfold callT at h;rw[gt_eq] at h;unfold xfn;split at h
 ·rename_i f cs hg;rw[hg];rw[ovs_eq] at h;exact kck_ok (he.x _ _ he.y _ _ _ _ _ _ h)
 ·rename_i k hg;rw[hg];rw[ovs_eq] at h;dsimp only;split at h
  ·rename_i g hk;obtain⟨g',h1,h2⟩:=he.y k g hk;rw[h1];exact kck_ok (h2 _ _ _ _ _ h)
  cases h
 cases h
theorem oCall_ok(he:EvR e xi Y){c:Call}(h:oCall c X e nk fr M K=some r):Via (xop X xi Y nk fr M (.call c)) K r:=by
 obtain⟨callee,ags,ts⟩:=c
 cases callee with
 |value f=>
  cases f with
  |tmp t=>exact callT_ok (X:=X) he h
  |const v=>cases h
  |global n=>cases h
  |func f=>exact callFn_ok (X:=X) he h
 |invoke a b=>cases h
 |builtin b=>
  have h:cBui b ags ts X e nk fr M K=some r:=h;unfold cBui at h;split at h
  ·show Via (xapp2 X nk fr M ags.toList ts.toList) K r;unfold xapp2;split at h
   ·rename_i s x t t' h1 h2;rw[h1,h2];dsimp only;split at h
    ·rename_i e0;rw[e0];rw[zQ,zQ] at h;exact apK_ok h
    rename_i e0;rw[e0];rw[zQ,zQ] at h;exact xh h
   cases h
  ·show Via (xcopy2 X nk fr M ags.toList ts.toList) K r;unfold xcopy2;split at h
   ·rename_i d s t t' h1 h2;rw[h1,h2];dsimp only;rw[zQ,zQ] at h;split at h
    ·rename_i y M' h3;rw[h3]
     have hy:nb y=y:=by
      unfold xcopy at h3;split at h3;rotate_left
      ·cases h3
      split at h3;rotate_left
      ·cases h3
      split at h3
      ·split at h3;rotate_left
       ·cases h3
       split at h3
       ·cases h3;rfl
       cases h3
      ·split at h3;rotate_left
       ·cases h3
       split at h3
       ·cases h3;rfl
       cases h3
      first
      |(cases h3;done)
      |(split at h3<;>first|(cases h3;rfl)|cases h3)
     obtain⟨h4,h⟩:=frc_ok h;rw[hy] at h;exact⟨y,nk,M',rfl,h⟩
    cases h
   cases h
  ·show Via (ye nk M (zy X.E.T (.call ⟨.builtin .len,ags,ts⟩) fr M.get)) K r;split at h
   ·rename_i x t h1 h2;rcases lnF_ok h1 h2 h with h|h
    ·exact h
    exact zE (e:=e) h
   cases h
  rename_i N1 N2 N3;have h:=zE (e:=e) h
  cases b<;>first
   |exact h
   |exact(N1 rfl).elim
   |exact(N2 rfl).elim
theorem opF_ok(he:EvR e xi Y){op:Op}(h:opF op X e nk fr M K=some r):Via (xop X xi Y nk fr M op) K r:=by
 cases op with
 |move x=>
  have h:mv (ov x fr) nk M K=some r:=h;rw[zQ] at h;exact wo (xx (show ym X.E.T (.move x) fr M.get=some (opv fr x) from rfl)) (mv_ok h)
 |assign x=>
  have h:mv (ov x fr) nk M K=some r:=h;rw[zQ] at h;exact wo (xx (show ym X.E.T (.assign x) fr M.get=some (opv fr x) from rfl)) (mv_ok h)
 |pick c a b=>exact zE (e:=e) h
 |alloc t=>exact xh h
 |box t x=>
  have h:slow1 (xboxM X.E.T t nk (ov x fr) M) nk K=some r:=h;rw[zQ] at h;exact xh h
 |build t ps=>exact zE (e:=e) h
 |buildSlice t m ps=>exact oBuildS_ok (X:=X) (e:=e) h
 |insert t m k x=>
  have h:muF t (ov m fr) (ov k fr) (ov x fr) X nk M K=some r:=h;rw[zQ,zQ,zQ] at h;exact muF_ok h
 |load t x=>exact oLoad_ok (X:=X) (e:=e) h
 |store t p x=>exact oStore_ok (X:=X) (e:=e) h
 |nilCheck x=>exact oNil_ok (X:=X) (e:=e) h
 |binOp op t x y u=>exact oBin_ok (X:=X) (e:=e) h
 |unOp op t x=>exact zE (e:=e) h
 |convert s t x=>exact oConv_ok (X:=X) (e:=e) h
 |makeFunc f a b=>exact zE (e:=e) h
 |makeMap t rs=>exact xh h
 |makeSlice t l c=>
  have h:slow1 (xmakeA X.E.T t nk (ov l fr) (ov c fr) M) nk K=some r:=h;rw[zQ,zQ] at h;exact xh h
 |slice t x a b c=>exact oSlice_ok (X:=X) (e:=e) h
 |fieldAddr t x f=>exact oFA_ok (X:=X) (e:=e) h
 |field t x f=>exact oField_ok (X:=X) (e:=e) h
 |indexAddr t x i=>exact oIA_ok (X:=X) (e:=e) h
 |index t x i=>exact oIdx_ok (X:=X) (e:=e) h
 |lookup t x i ok=>
  have h:lkF t (ov x fr) (ov i fr) ok X nk M K (frcO (wp X.E.T X.Z t (ov x fr) (ov i fr) ok M.get) nk M K)=some r:=h;rw[zQ,zQ] at h;exact lkF_ok h
 |mapUpdate t m k x=>
  have h:muF t (ov m fr) (ov k fr) (ov x fr) X nk M K=some r:=h;rw[zQ,zQ,zQ] at h;exact muF_ok h
 |extract x i=>exact oExt_ok (X:=X) (e:=e) h
 |call c=>exact oCall_ok he h
 |_=>cases h
def gdS(want:Bool)(y:SV):Option Bool:=match y with
   |.bb b=>(match b,want with|true,true=>some true|false,false=>some true|_,_=>some false)
   |.v (.tuple _)=>some false
   |_=>none
theorem gdB_ok{want:Bool}{yes no:RR}{y:SV}(h:gdB want yes no y=some r):(gdS want y=some true∧yes=some r)∨(gdS want y=some false∧no=some r):=by
 unfold gdB at h;unfold gdS;split at h
 ·rename_i b
  cases b<;>cases want<;>first
   |exact .inl ⟨rfl,h⟩
   |exact .inr ⟨rfl,h⟩
 ·exact .inr ⟨rfl,h⟩
 cases h
theorem stF_ok(he:EvR e xi Y){all:List Oper}{o:Oper}(h:stF all o X e nk fr M K=some r):Via (yj X xi Y all o nk fr M) K r:=by
 unfold stF at h;unfold yj xguard
 cases hg:o.guard with
 |none=>
  rw[hg] at h;exact opF_ok he h
 |some g=>
  rw[hg] at h;have h:gdF all g fr (opF o.op X e nk fr M K) (K (.v undef) nk M)=some r:=h;obtain⟨j,want⟩:=g;unfold gdF at h;obtain⟨t,ht,h⟩:=oon h;dsimp only at ht h ⊢;rw[ht];dsimp only;rw[gt_eq] at h
  show Via (match gdS want (get fr t) with
   |none=>none
   |some false=>some (.v undef,nk,M)
   | some true=>xop X xi Y nk fr M o.op) K r
  rcases gdB_ok h with ⟨h1,h⟩|⟨h1,h⟩
  ·rw[h1];exact opF_ok he h
  rw[h1];exact⟨_,_,_,rfl,h⟩
theorem putF_ok{N:Nat}{dst:Option Nat}{y:SV}{K:Fr→RR}(h:putF N dst y fr K=some r):∃fr',putX N dst y fr=some fr'∧K fr'=some r:=by
 cases dst with
 |none=>exact⟨fr,rfl,h⟩
 |some d=>
  obtain⟨h1,h⟩:=bon h;exact⟨_,by simp only[putX,h1],h⟩
theorem opsF_ok(he:EvR e xi Y){all:List Oper}:∀{l:List Oper}{nk:Nat}{fr:Fr}{M:Mm}{K:CKn},opsF all l X e nk fr M K=some r→∃nk' fr' M',xops X xi Y e.N all l nk fr M=some (nk',fr',M')∧K nk' fr' M'=some r
 |[],nk,fr,M,K,h=>⟨nk,fr,M,rfl,h⟩
 |o::l,nk,fr,M,K,h=>by
  obtain⟨y,nk1,M1,h1,h⟩:=stF_ok he (K:=λy nk M=>putF e.N o.dst y fr λfr=>opsF all l X e nk fr M K) h;obtain⟨fr1,h2,h⟩:=putF_ok h;obtain⟨nk',fr',M',h3,h⟩:=opsF_ok he h;refine⟨nk',fr',M',?_,h⟩
  show (match yj X xi Y all o nk fr M with
   |none=>none
   | some (y,nk',M')=>(match putX e.N o.dst y fr with
    |none=>none
    | some fr'=>xops X xi Y e.N all l nk' fr' M'))=_
  rw[h1];dsimp only;rw[h2];exact h3
theorem trF_ok(he:EvR e xi Y){all:List Oper}:∀{l:List Oper}{nk:Nat}{fr:Fr}{M:Mm}{K:List Tc→CKn},trF all l X e nk fr M K=some r →
  ∃tr nk' fr' M',xtrace X xi Y e.N all l nk fr M=some (tr,nk',fr',M')∧tr.length=l.length∧K tr nk' fr' M'=some r
 |[],nk,fr,M,K,h=>⟨[],nk,fr,M,rfl,rfl,h⟩
 |o::l,nk,fr,M,K,h=>by
  obtain⟨y,nk1,M1,h1,h⟩:=stF_ok he (K:=λy nk' M'=>Bool.rec (motive:=λ_=>RR) none (Bool.rec (motive:=λ_=>RR) none (putF e.N o.dst y fr λfr'=>trF all l X e nk' fr' M' λl=>K (⟨nk,fr,M,y⟩::l)) (R.ltK nk' y)) (Nat.ble nk nk')) h;obtain⟨h5,h⟩:=bon h;obtain⟨h6,h⟩:=bon h;obtain⟨fr1,h2,h⟩:=putF_ok h;obtain⟨tr,nk',fr',M',h3,hlen,h⟩:=trF_ok he h;refine⟨_,nk',fr',M',?_,by simp[hlen],h⟩
  show (match yj X xi Y all o nk fr M with
   |none=>none
   | some (y,nk',M')=>(match putX e.N o.dst y fr,Nat.ble nk nk',R.ltK nk' y with
    | some fr',true,true=>(match xtrace X xi Y e.N all l nk' fr' M' with
     |none=>none
     | some (l,z)=>some ((⟨nk,fr,M,y⟩:Tc)::l,z))
    | _,_,_=>none))=_
  rw[h1];dsimp only;rw[h2,h5,h6];dsimp only;rw[h3]
theorem smF_ok(he:EvR e xi Y){all:List Oper}{o:Oper}{tc:Tc}{nk:Nat}{M:Mm}(h:smF X e all o tc nk M=true):xsame X xi Y all o tc nk M=true:=by
 unfold smF at h;unfold xsame
 cases h1:R.ltK nk tc.y with
 |false=>rw[h1] at h;cases h
 |true=>
  rw[h1] at h;dsimp only
  cases h2:isPure o.op with
  |true=>rfl
  |false=>
   rw[h2] at h;have h:isTrueR (stF all o X e nk tc.fr M λy _ _=>Bool.rec (motive:=λ_=>RR) none (some (.bad,0,.lf)) (svEq y tc.y))=true:=h
   cases hs:stF all o X e nk tc.fr M (λy _ _=>Bool.rec (motive:=λ_=>RR) none (some (.bad,0,.lf)) (svEq y tc.y)) with
   |none=>rw[hs] at h;cases h
   |some r=>
    obtain⟨y,n,m,h3,h4⟩:=stF_ok he hs;rw[h3];exact(bon h4).1
theorem nthT_eq:∀{l:List Tc}{n:Nat}{K:Tc→Bool}{no:Bool},nthT l n K no=match l.drop n with|t::_=>K t|[]=>no
 |[],n,K,no=>by cases n<;>rfl
 |x::l,0,K,no=>rfl
 |x::l,n+1,K,no=>by
  show nthT l n K no=_;rw[nthT_eq];rfl
theorem prF_all{all:List Oper}{o:Oper}{tr:List Tc}{nkF:Nat}{MF:Mm}{ti:Tc}:∀{ps:List (Nat×Bool)},prF X e all o tr nkF MF ti ps=true→∀p∈ps,
  Bool.rec (motive:=λ_=>Bool) (nthT tr (Nat.succ p.1) (λt=>smF X e all o ti t.nk t.M) (smF X e all o ti nkF MF)) (nthT tr p.1 (λt=>smF X e all o ti t.nk t.M) false) p.2=true
 |[],_,p,hp=>by cases hp
 |q::ps,h,p,hp=>by
  have h:Bool.rec (motive:=λ_=>Bool) false (prF X e all o tr nkF MF ti ps) (Bool.rec (motive:=λ_=>Bool) (nthT tr (Nat.succ q.1) (λt=>smF X e all o ti t.nk t.M) (smF X e all o ti nkF MF)) (nthT tr q.1 (λt=>smF X e all o ti t.nk t.M) false) q.2)=true:=h;generalize hb:(Bool.rec (motive:=λ_=>Bool) (nthT tr (Nat.succ q.1) (λt=>smF X e all o ti t.nk t.M) (smF X e all o ti nkF MF)) (nthT tr q.1 (λt=>smF X e all o ti t.nk t.M) false) q.2:Bool)=b at h
  cases b with
  |false=>cases h
  |true=>
   rcases List.mem_cons.1 hp with rfl|hp
   ·exact hb
   exact prF_all h p hp
theorem chF_all{bs:List Nat}{all:List Oper}{tr:List Tc}{nkF:Nat}{MF:Mm}:∀{pl:List (Nat×Oper×List (Nat×Bool))},chF X e bs all tr nkF MF pl=true→∀p∈pl,nthT tr p.1 (λti=>Bool.rec (motive:=λ_=>Bool) (prF X e all p.2.1 tr nkF MF ti p.2.2) true (ldSafe X bs p.1 all tr p.2.1 ti)) false=true
 |[],_,p,hp=>by cases hp
 |q::pl,h,p,hp=>by
  have h:Bool.rec (motive:=λ_=>Bool) false (chF X e bs all tr nkF MF pl) (nthT tr q.1 (λti=>Bool.rec (motive:=λ_=>Bool) (prF X e all q.2.1 tr nkF MF ti q.2.2) true (ldSafe X bs q.1 all tr q.2.1 ti)) false)=true:=h;generalize hb:nthT tr q.1 (λti=>Bool.rec (motive:=λ_=>Bool) (prF X e all q.2.1 tr nkF MF ti q.2.2) true (ldSafe X bs q.1 all tr q.2.1 ti)) false=b at h
  cases b with
  |false=>cases h
  |true=>
   rcases List.mem_cons.1 hp with rfl|hp
   ·exact hb
   exact chF_all h p hp
theorem len_catQ{α:Type}:∀{a b:List α},(catQ a b).length=a.length+b.length
 |[],b=>by show b.length=_;simp
 |x::a,b=>by show(x::catQ a b).length=_;rw[List.length_cons,len_catQ,List.length_cons];omega
theorem len_befs:∀(ops:List Oper) (bs:List Nat),(befs ops bs).length=bs.length+ops.length
 |[],bs=>rfl
 |o::ops,bs=>by
  show(befs ops (catQ bs [befs1 bs o.after.toList])).length=_;rw[len_befs ops,len_catQ,List.length_cons,List.length_cons,List.length_nil];omega
theorem nth_lt{α:Type}{l:List α}{i:Nat}(h:i<l.length):∃x,nth l i=some x:=by
 rw[xp];exact⟨_,List.getElem?_eq_getElem h⟩
theorem pairsOf_c{T:XE}{all:List Oper}{bs:List Nat}{i e:Nat}{o:Oper}{r:List Oper}:yD T all bs i (o::r) e=(match isEff T o.op with
  |false=>yD T all bs i r (e+1)
  | true=>(match Nat.blt e i with
   |true=>(match nth bs i with|some m=>(match bit m e,xT T all bs i e o with|true,false=>yD T all bs i r (e+1)|_,_=>(e,true)::yD T all bs i r (e+1))|none=>(e,true)::yD T all bs i r (e+1))
   | false=>(match nth bs e with | some m=>(match bit m i with | true=>yD T all bs i r (e+1) | false=>(e,false)::yD T all bs i r (e+1)) | none=>(e,false)::yD T all bs i r (e+1)))):=rfl
theorem pairs_ok(he:EvR e xi Y){all:List Oper}{bs:List Nat}{i:Nat}{oi:Oper}{tr:List Tc}{nkF:Nat}{MF:Mm}{ti:Tc}(hbs:bs.length=tr.length)(hi:i<tr.length):∀{l:List Oper}{s:List Tc}{j:Nat},tr.drop j=s→l.length=s.length →
  (∀p∈yD X all bs i l j,Bool.rec (motive:=λ_=>Bool) (nthT tr (Nat.succ p.1) (λt=>smF X e all oi ti t.nk t.M) (smF X e all oi ti nkF MF)) (nthT tr p.1 (λt=>smF X e all oi ti t.nk t.M) false) p.2=true) →
  xpairs X xi Y all bs i oi ti nkF MF l s j=true
 |[],[],j,_,_,_=>by simp[xpairs]
 |oe::l,te::s,j,hd,hl,h=>by
  have hj:j<tr.length:=by
   have:=congrArg List.length hd;simp at this;omega
  have hd':tr.drop (j+1)=s:=by
   have:=congrArg (List.drop 1) hd;simpa[Nat.add_comm] using this
  have ih:=λh'=>pairs_ok he (all:=all) (bs:=bs) (i:=i) (oi:=oi) (nkF:=nkF) (MF:=MF) (ti:=ti) hbs hi (l:=l) (s:=s) hd' vA h';rw[pairsOf_c] at h;simp only[xpairs,Bool.and_eq_true]
  cases hE:isEff X oe.op with
  |false=>
   rw[hE] at h;exact⟨rfl,ih h⟩
  |true=>
   rw[hE] at h;dsimp only at h ⊢;obtain⟨mi,hmi⟩:=nth_lt (l:=bs) (i:=i) ws;obtain⟨mj,hmj⟩:=nth_lt (l:=bs) (i:=j) ws
   cases hlt:Nat.blt j i with
   |true=>
    rw[hlt,hmi] at h;dsimp only at h
    have key:∀(n:Nat) (m:Mm),xpair X xi Y all bs (xT X all bs i j oe) i j oi ti te n m=match bit mi j,xT X all bs i j oe with|true,false=>true|_,_=>xsame X xi Y all oi ti te.nk te.M:=λn m=>by
     unfold xpair;rw[hlt];dsimp only;rw[hmi];try rfl
    have add:(∀p∈(j,true)::yD X all bs i l (j+1),Bool.rec (motive:=λ_=>Bool) (nthT tr (Nat.succ p.1) (λt=>smF X e all oi ti t.nk t.M) (smF X e all oi ti nkF MF)) (nthT tr p.1 (λt=>smF X e all oi ti t.nk t.M) false) p.2=true) →
      xsame X xi Y all oi ti te.nk te.M=true∧xpairs X xi Y all bs i oi ti nkF MF l s (j+1)=true:=λh=>by
     have h0:=h (j,true) (.head _);have h0:nthT tr j (λt=>smF X e all oi ti t.nk t.M) false=true:=h0;rw[nthT_eq,hd] at h0;exact⟨smF_ok he h0,ih λp hp=>h p (.tail _ hp)⟩
    cases hb:bit mi j with
    |true=>
     cases hea:xT X all bs i j oe with
     |false=>
      rw[hb,hea] at h key;refine⟨?_,ih h⟩;cases s<;>exact key _ _
     |true=>
      rw[hb,hea] at h key;obtain⟨a1,a2⟩:=add h;refine⟨?_,a2⟩;cases s<;>exact(key _ _).trans a1
    |false=>
     rw[hb] at h key;obtain⟨a1,a2⟩:=add h;refine⟨?_,a2⟩;cases s<;>exact(key _ _).trans a1
   |false=>
    rw[hlt,hmj] at h;dsimp only at h
    have key:∀(n:Nat) (m:Mm),xpair X xi Y all bs (xT X all bs i j oe) i j oi ti te n m=match bit mj i with|true=>true|false=>xsame X xi Y all oi ti n m:=λn m=>by
     unfold xpair;rw[hlt];dsimp only;rw[hmj];try rfl
    cases hb:bit mj i with
    |true=>
     rw[hb] at h key;refine⟨?_,ih h⟩;cases s<;>exact key _ _
    |false=>
     rw[hb] at h key;have h0:=h (j,false) (.head _);have h0:nthT tr (j+1) (λt=>smF X e all oi ti t.nk t.M) (smF X e all oi ti nkF MF)=true:=h0;rw[nthT_eq,hd'] at h0;refine⟨?_,ih λp hp=>h p (.tail _ hp)⟩
     cases s with
     |nil=>exact(key _ _).trans (smF_ok he h0)
     |cons tn s=>exact(key _ _).trans (smF_ok he h0)
 |[],_::_,j,_,hl,_=>by simp at hl
 |_::_,[],j,_,hl,_=>by simp at hl
theorem planOf_c{T:XE}{bs:List Nat}{all:List Oper}{o:Oper}{l:List Oper}{i:Nat}:planOf T bs all (o::l) i=(match isEff T o.op with
  |true=>planOf T bs all l (i+1)
  | false=>(match yD T all bs i all 0 with | []=>planOf T bs all l (i+1) | p=>(i,o,p)::planOf T bs all l (i+1))):=rfl
theorem effsOk_c{bs:List Nat}{all:List Oper}{o:Oper}{l:List Oper}{i:Nat}:effsOk X bs all (o::l) i=(match isEff X o.op with
  |true=>(match yC X all o with|true=>effsOk X bs all l (i+1)|false=>(match xeffs X bs i all 0 with|true=>effsOk X bs all l (i+1)|false=>false))
  | false=>effsOk X bs all l (i+1)):=rfl
theorem chk_ok(he:EvR e xi Y){all:List Oper}{bs:List Nat}{tr:List Tc}{nkF:Nat}{MF:Mm}(hbs:bs.length=tr.length)(hall:all.length=tr.length):∀{l:List Oper}{s:List Tc}{i:Nat},tr.drop i=s→l.length=s.length →
  effsOk X bs all l i=true→(∀p∈planOf X bs all l i,nthT tr p.1 (λti=>Bool.rec (motive:=λ_=>Bool) (prF X e all p.2.1 tr nkF MF ti p.2.2) true (ldSafe X bs p.1 all tr p.2.1 ti)) false=true)→xchk X xi Y all bs tr nkF MF l s i=true
 |[],[],i,_,_,_,_=>by simp[xchk]
 |o::l,t::s,i,hd,hl,hE,hP=>by
  have hi:i<tr.length:=by
   have:=congrArg List.length hd;simp at this;omega
  have hd':tr.drop (i+1)=s:=by
   have:=congrArg (List.drop 1) hd;simpa[Nat.add_comm] using this
  have ih:=λh1 h2=>chk_ok he (all:=all) (bs:=bs) (nkF:=nkF) (MF:=MF) hbs hall (l:=l) (s:=s) hd' vA h1 h2;rw[planOf_c] at hP;rw[effsOk_c] at hE;simp only[xchk,Bool.and_eq_true]
  cases hF:isEff X o.op with
  |true=>
   rw[hF] at hP hE;dsimp only at hP hE ⊢
   cases hea:yC X all o with
   |true=>rw[hea] at hE;exact⟨rfl,ih hE hP⟩
   |false=>
    rw[hea] at hE;dsimp only at hE
    cases hx:xeffs X bs i all 0 with
    |true=>rw[hx] at hE;exact⟨rfl,ih hE hP⟩
    |false=>rw[hx] at hE;cases hE
  |false=>
   rw[hF] at hP hE;dsimp only at hP hE ⊢
   have hp:ldSafe X bs i all tr o t=true∨∀p∈yD X all bs i all 0,Bool.rec (motive:=λ_=>Bool) (nthT tr (Nat.succ p.1) (λu=>smF X e all o t u.nk u.M) (smF X e all o t nkF MF)) (nthT tr p.1 (λu=>smF X e all o t u.nk u.M) false) p.2=true:=by
    cases hq:yD X all bs i all 0 with
    |nil=>exact .inr λp hp=>by cases hp
    |cons q qs=>
     rw[hq] at hP;have h0:=hP _ (.head _);dsimp only at h0;rw[nthT_eq,hd] at h0;have h0:Bool.rec (motive:=λ_=>Bool) (prF X e all o tr nkF MF t (q::qs)) true (ldSafe X bs i all tr o t)=true:=h0
     cases hls:ldSafe X bs i all tr o t with
     |true=>exact .inl rfl
     |false=>rw[hls] at h0;exact .inr λp hp=>prF_all h0 p hp
   refine⟨Bool.or_eq_true_iff.2 (hp.imp id λhp=>pairs_ok he hbs hi rfl hall hp),ih hE ?_⟩
   cases hq:yD X all bs i all 0 with
   |nil=>rw[hq] at hP;exact hP
   |cons q qs=>rw[hq] at hP;exact λp hp=>hP p (.tail _ hp)
 |[],_::_,i,_,hl,_,_=>by simp at hl
 |_::_,[],i,_,hl,_,_=>by simp at hl
theorem drF_ok(he:EvR e xi Y){ops:List Oper}{K:CKn}(h:drF ops X e nk fr M K=some r):∃nk' fr' M',xdraw X xi Y e.N ops nk fr M=some (nk',fr',M')∧K nk' fr' M'=some r:=by
 obtain⟨tr,nk',fr',M',h1,hlen,h⟩:=trF_ok he h;obtain⟨h2,h⟩:=bon h;obtain⟨h3,h⟩:=bon h;refine⟨nk',fr',M',?_,h⟩;unfold xdraw;rw[h1];dsimp only;rw[show xchk X xi Y ops (befs ops []) tr nk' M' ops tr 0=true from chk_ok he (by rw[len_befs,hlen];simp) hlen.symm (i:=0) rfl hlen.symm h2 (chF_all h3)]
def ViaC(x:XR)(Kn:CKn)(Ko:CKo)(r:SV×Nat×Mm):Prop:=∃ex nk fr M,x=some (ex,nk,fr,M)∧((ex=.norm∧Kn nk fr M=some r)∨(ex≠.norm∧Ko ex nk fr M=some r))
theorem ptsF_ok{N:Nat}:∀{ps:List Nat}{xs:List SV}{fr:Fr}{K:Fr→RR},ptsF N ps xs fr K=some r→∃fr',xputs ps N xs fr=some fr'∧K fr'=some r
 |[],[],fr,K,h=>⟨fr,rfl,h⟩
 |[],_::_,fr,K,h=>by cases h
 |p::ps,[],fr,K,h=>by cases h
 |p::ps,x::xs,fr,K,h=>by
  have h:Bool.rec (motive:=λ_=>RR) none (ptsF N ps xs ((p,x)::fr) K) (Nat.blt p N)=some r:=h;obtain⟨h1,h⟩:=bon h;obtain⟨fr',h2,h⟩:=ptsF_ok h;refine⟨fr',?_,h⟩;show(match Nat.blt p N with|true=>xputs ps N xs ((p,x)::fr)|false=>none)=_;rw[h1];exact h2
theorem isRdy_ok{b:Option LB}(h:isRdy b=true):b=some (.loop .ready none):=by
 unfold isRdy at h;split at h
 ·rfl
 cases h
theorem isBusy_ok{b:Option LB}(h:isBusy b=true):b=some (.loop .busy none):=by
 unfold isBusy at h;split at h
 ·rfl
 cases h
theorem isLoop_ok{b:Option LB}(h:isLoop b=true):∃x y,b=some (.loop x y):=by
 unfold isLoop at h;split at h
 ·exact⟨_,_,rfl⟩
 cases h
abbrev BodyR(va:Nat→Fr→Mm→CKn→CKo→RR)(xa:Nat→Fr→Mm→XR):Prop:=∀nk fr M Kn Ko r,va nk fr M Kn Ko=some r→ViaC (xa nk fr M) Kn Ko r
theorem rdF_ok{va vb:Nat→Fr→Mm→CKn→CKo→RR}{xa xb:Nat→Fr→Mm→XR}(ha:BodyR va xa)(hb:BodyR vb xb){N:Nat}{ps:List Nat}:∀args nk1 M K r,rdF va vb N nk ps fr args nk1 M K=some r→Via (xround xa xb N nk ps fr args nk1 M) K r:=by
 intro args nk1 M K r h;unfold rdF at h;obtain⟨h0,h⟩:=bon h;rw[y9] at h0;have h0:=isRdy_ok h0;obtain⟨fr1,h1,h⟩:=ptsF_ok h;obtain⟨ex,nk2,fr2,M2,h2,h⟩:=ha _ _ _ _ _ _ h;rcases h with ⟨rfl,h⟩|⟨_,h⟩;rotate_left
 ·cases h
 obtain⟨h3,h⟩:=bon h;rw[y9] at h3;have h3:=isRdy_ok h3;obtain⟨M3,h4,h⟩:=yg h;obtain⟨ex,nk3,fr3,M4,h5,h⟩:=hb _ _ _ _ _ _ h;rcases h with ⟨rfl,h⟩|⟨hne,h⟩
 ·obtain⟨h6,h⟩:=bon h;rw[y9] at h6;have h6:=isBusy_ok h6;obtain⟨M5,h7,h⟩:=yg h;refine⟨_,_,M5,?_,h⟩;unfold xround;simp only[h0,h1,h2,h3,h4,h5,h6,h7]
 obtain⟨h6,h⟩:=bon h;rw[y9] at h6;have h6:=isBusy_ok h6;obtain⟨M5,h7,h⟩:=yg h;refine⟨_,_,M5,?_,h⟩;unfold xround;simp only[h0,h1,h2,h3,h4,h5,h6]
 cases ex<;>first
  |exact absurd rfl hne
  |simp only[h7]
theorem dnF_ok{nk1:Nat}{Kn:CKn}{Ko:CKo}(h:dnF nk fr nk1 M Kn Ko=some r):ViaC (xdone nk fr nk1 M) Kn Ko r:=by
 unfold dnF at h;rw[y9] at h;unfold xdone;split at h
 ·rename_i h0;obtain⟨M1,h1,h⟩:=yg h;obtain⟨M2,h2,h⟩:=yg h;exact⟨.norm,nk1,fr,M2,by simp only[h0,h1,h2],.inl ⟨rfl,h⟩⟩
 ·rename_i h0;obtain⟨M1,h1,h⟩:=yg h;obtain⟨M2,h2,h⟩:=yg h;exact⟨.ret,nk1,fr,M2,by simp only[h0,h1,h2],.inr ⟨by simp,h⟩⟩
 ·rename_i n h0;obtain⟨M1,h1,h⟩:=yg h;obtain⟨M2,h2,h⟩:=yg h;exact⟨.exit n,nk1,fr,M2,by simp only[h0,h1,h2],.inr ⟨by simp,h⟩⟩
 ·rename_i n h0;obtain⟨M1,h1,h⟩:=yg h;obtain⟨M2,h2,h⟩:=yg h;exact⟨.goto n,nk1,fr,M2,by simp only[h0,h1,h2],.inr ⟨by simp,h⟩⟩
 cases h
theorem nmF_eq:∀{fr:Fr}{seen:Nat}{K:Fr→RR},nmF fr seen K=K (xnorm fr seen)
 |[],seen,K=>rfl
 |(t,x)::fr,seen,K=>by
  have e:Nat.beq (Nat.mod (Nat.shiftRight seen t) 2) 1=bit seen t:=by
   show Nat.beq ((seen >>> t)%2) 1=Nat.testBit seen t;unfold Nat.testBit;rw[Nat.one_and_eq_mod_two];have:(seen >>> t)%2=0∨(seen >>> t)%2=1:=by omega
   rcases this with h|h<;>rw[h]<;>rfl
  show Bool.rec (motive:=λ_=>RR) (nmF fr (Nat.lor seen (2^t)) λs=>K ((t,x)::s)) (nmF fr seen K) (Nat.beq (Nat.mod (Nat.shiftRight seen t) 2) 1)=K (match bit seen t with|true=>xnorm fr seen|false=>(t,x)::xnorm fr (Nat.lor seen (2^t)));rw[e,nmF_eq,nmF_eq];cases bit seen t<;>rfl
theorem lpF_ok{body:Nat→Fr→Mm→CKn→CKo→RR}{xb:Nat→Fr→Mm→XR}(hb:BodyR body xb){Kn:CKn}{Ko:CKo}:∀{f:Nat}{nk:Nat}{fr:Fr}{M:Mm},lpF body Kn Ko f nk fr M=some r→ViaC (xloop xb f nk fr M) Kn Ko r
 |0,nk,fr,M,h=>by cases h
 |f+1,nk,fr,M,h=>by
  have h:nmF fr 0 (λfr=>body nk fr M (lpF body Kn Ko f) Ko)=some r:=h;rw[nmF_eq] at h;obtain⟨ex,nk',fr',M',h1,h⟩:=hb _ _ _ _ _ _ h
  have hu:xloop xb (f+1) nk fr M=(match xb nk (xnorm fr 0) M with
   |some (.norm,nk',fr',M')=>xloop xb f nk' fr' M'
   | r=>r):=rfl
  rw[h1] at hu;rcases h with ⟨rfl,h⟩|⟨hne,h⟩
  ·rw[hu];exact lpF_ok hb h
  refine⟨ex,nk',fr',M',?_,.inr ⟨hne,h⟩⟩;rw[hu]
  cases ex<;>first
   |exact absurd rfl hne
   |rfl
theorem goF_ok(he:EvR e xi Y){va vb:CF}{xa xb:Option Nat→Nat→Fr→Mm→XR}(ha:∀ro,BodyR (va X e ro) (xa ro))(hb:∀ro,BodyR (vb X e ro) (xb ro)){ps:Array Nat}{it:Nat}{cs:List SV}{Kn:CKn}{Ko:CKo}
  (h:goF va vb X e ps.toList it cs nk fr M Kn Ko=some r):ViaC (xgo xi e.N Y xa xb ps it cs nk fr M) Kn Ko r:=by
 obtain⟨M2,h1,h⟩:=yg h;rw[yo] at h
 obtain ⟨y,nk1,M3,h2,h⟩:=he.x _ ((nk,xround (xa (some nk)) (xb (some nk)) e.N nk ps.toList fr)::Y) (by
  intro k g hg;rw[yk_c] at hg;rw[yxGet_c]
  cases hk:Nat.beq nk k with
  |true=>
   rw[hk] at hg;cases hg;exact⟨_,rfl,rdF_ok (ha _) (hb _)⟩
  |false=>
   rw[hk] at hg
   exact he.y k g hg) _ _ _ _ _ _ h
 obtain⟨h3,h⟩:=bon h;obtain⟨ex,nk',fr',M',h4,h⟩:=dnF_ok h;refine⟨ex,nk',fr',M',?_,h⟩;unfold xgo;rw[h1];dsimp only;rw[h2];dsimp only;rw[h3];exact h4
theorem cdF_ok(he:EvR e xi Y):∀{c:Code}{ro:Option Nat}{nk:Nat}{fr:Fr}{M:Mm}{Kn:CKn}{Ko:CKo}{r},cdF c X e ro nk fr M Kn Ko=some r→ViaC (xC X xi e.lf e.N Y c ro nk fr M) Kn Ko r:=by
 intro c
 induction c with
 |skip=>intro ro nk fr M Kn Ko r h;exact⟨.norm,nk,fr,M,rfl,.inl ⟨rfl,h⟩⟩
 |region id ops draw=>
  intro ro nk fr M Kn Ko r h
  cases draw with
  |false=>
   obtain⟨nk',fr',M',h1,h⟩:=opsF_ok he (show opsF ops.toList ops.toList X e nk fr M Kn=some r from h);refine⟨.norm,nk',fr',M',?_,.inl ⟨rfl,h⟩⟩;show(match xops X xi Y e.N ops.toList ops.toList nk fr M with|some (nk',fr',M')=>some (Ex.norm,nk',fr',M')|none=>none)=_;rw[h1]
  |true=>
   obtain⟨nk',fr',M',h1,h⟩:=drF_ok he (show drF ops.toList X e nk fr M Kn=some r from h);refine⟨.norm,nk',fr',M',?_,.inl ⟨rfl,h⟩⟩;show(match xdraw X xi Y e.N ops.toList nk fr M with|some (nk',fr',M')=>some (Ex.norm,nk',fr',M')|none=>none)=_;rw[h1]
 |seq a b iha ihb=>
  intro ro nk fr M Kn Ko r h;obtain⟨ex,nk',fr',M',h1,h⟩:=iha (show cdF a X e ro nk fr M (λnk fr M=>cdF b X e ro nk fr M Kn Ko) Ko=some r from h)
  have hu:xC X xi e.lf e.N Y (.seq a b) ro nk fr M=(match xC X xi e.lf e.N Y a ro nk fr M with
   |some (.norm,nk',fr',M')=>xC X xi e.lf e.N Y b ro nk' fr' M'
   | r=>r):=rfl
  rw[h1] at hu;rcases h with ⟨rfl,h⟩|⟨hne,h⟩
  ·rw[hu];exact ihb h
  refine⟨ex,nk',fr',M',?_,.inr ⟨hne,h⟩⟩;rw[hu]
  cases ex<;>first
   |exact absurd rfl hne
   |rfl
 |cond c a b iha ihb=>
  intro ro nk fr M Kn Ko r h;have h:tst (ov c fr) (cdF a X e ro nk fr M Kn Ko) (cdF b X e ro nk fr M Kn Ko)=some r:=h
  have hu:xC X xi e.lf e.N Y (.cond c a b) ro nk fr M=(match opv fr c with
   |.bb true=>xC X xi e.lf e.N Y a ro nk fr M
   |.bb false=>xC X xi e.lf e.N Y b ro nk fr M
   | _=>none):=rfl
  rw[zQ] at h;unfold tst at h;split at h
  ·rename_i x hx;rw[hx] at hu
   cases x with
   |true=>rw[hu];exact iha h
   |false=>rw[hu];exact ihb h
  cases h
 |block id c ih=>
  intro ro nk fr M Kn Ko r h;obtain⟨ex,nk',fr',M',h1,h⟩:=ih (show cdF c X e ro nk fr M Kn (exF id Kn Ko)=some r from h)
  have hu:xC X xi e.lf e.N Y (.block id c) ro nk fr M=(match xC X xi e.lf e.N Y c ro nk fr M with
   |some (.exit n,nk',fr',M')=>(match Nat.beq n id with|true=>some (.norm,nk',fr',M')|false=>some (.exit n,nk',fr',M'))
   | r=>r):=rfl
  rw[h1] at hu;rcases h with ⟨rfl,h⟩|⟨hne,h⟩
  ·exact⟨.norm,nk',fr',M',hu,.inl ⟨rfl,h⟩⟩
  cases ex with
  |norm=>exact absurd rfl hne
  |exit n=>
   have h:Bool.rec (motive:=λ_=>RR) (Ko (.exit n) nk' fr' M') (Kn nk' fr' M') (Nat.beq n id)=some r:=h;dsimp only at hu;rcases bofs h with ⟨hb,h⟩|⟨hb,h⟩
   ·rw[hb] at hu;exact⟨.norm,nk',fr',M',hu,.inl ⟨rfl,h⟩⟩
   rw[hb] at hu;exact⟨.exit n,nk',fr',M',hu,.inr ⟨by simp,h⟩⟩
  |ret=>exact⟨.ret,nk',fr',M',hu,.inr ⟨by simp,h⟩⟩
  |goto l=>exact⟨.goto l,nk',fr',M',hu,.inr ⟨by simp,h⟩⟩
 |loop c ih=>
  intro ro nk fr M Kn Ko r h;exact lpF_ok (xb:=xC X xi e.lf e.N Y c ro) (λnk fr M Kn Ko r h=>ih h) (show lpF (cdF c X e ro) Kn Ko e.lf nk fr M=some r from h)
 |rangeFunc g ps a b iha ihb=>
  intro ro nk fr M Kn Ko r h;have h:rgF (cdF a) (cdF b) ps.toList X e ro nk fr M Kn Ko (ov g fr)=some r:=h;show ViaC (xrange xi e.N Y (xC X xi e.lf e.N Y a) (xC X xi e.lf e.N Y b) g ps ro nk fr M) Kn Ko r;rw[zQ] at h;unfold rgF at h;unfold xrange;split at h
  ·rename_i it cs hg;rw[hg];dsimp only
   cases ro with
   |none=>
    obtain⟨M1,h1,h⟩:=yg h;dsimp only;rw[h1];exact goF_ok he (va:=cdF a) (vb:=cdF b) (λro nk fr M Kn Ko r h=>iha h) (λro nk fr M Kn Ko r h=>ihb h) h
   |some l0=>
    obtain⟨h1,h⟩:=bon h;rw[y9] at h1;obtain⟨x,y,h1⟩:=isLoop_ok h1;dsimp only;rw[h1];exact goF_ok he (va:=cdF a) (vb:=cdF b) (λro nk fr M Kn Ko r h=>iha h) (λro nk fr M Kn Ko r h=>ihb h) h
  cases h
 |exit id=>intro ro nk fr M Kn Ko r h;exact⟨.exit id,nk,fr,M,rfl,.inr ⟨by simp,h⟩⟩
 |scope c ih=>
  intro ro nk fr M Kn Ko r h;obtain⟨ex,nk',fr',M',h1,h⟩:=ih (show cdF c X e ro nk fr M Kn (scF Ko)=some r from h)
  have hu:xC X xi e.lf e.N Y (.scope c) ro nk fr M=(match xC X xi e.lf e.N Y c ro nk fr M with
   |some (.goto _,_,_,_)=>none
   | r=>r):=rfl
  rw[h1] at hu;rcases h with ⟨rfl,h⟩|⟨hne,h⟩
  ·exact⟨.norm,nk',fr',M',hu,.inl ⟨rfl,h⟩⟩
  cases ex with
  |norm=>exact absurd rfl hne
  |exit n=>exact⟨.exit n,nk',fr',M',hu,.inr ⟨by simp,h⟩⟩
  |ret=>exact⟨.ret,nk',fr',M',hu,.inr ⟨by simp,h⟩⟩
  |goto l=>cases h
 |label l=>intro ro nk fr M Kn Ko r h;exact⟨.norm,nk,fr,M,rfl,.inl ⟨rfl,h⟩⟩
 |goto l=>intro ro nk fr M Kn Ko r h;exact⟨.goto l,nk,fr,M,rfl,.inr ⟨by simp,h⟩⟩
 |ret=>intro ro nk fr M Kn Ko r h;exact⟨.ret,nk,fr,M,rfl,.inr ⟨by simp,h⟩⟩
 |refuse why=>intro ro nk fr M Kn Ko r h;cases h
theorem endF_ok{rs:List ResultVar}(h:endF X rs K nk fr M=some r):∃l,xres X.E.T rs fr M=some l∧K (oneOr l) nk M=some r:=by
 obtain⟨l,h1,h⟩:=oon h;refine⟨l,h1,?_⟩;rw[frLS_eq] at h;split at h
 ·rename_i x;rcases bofs h with ⟨_,h⟩|⟨hb,h⟩
  ·cases h
  obtain⟨_,h⟩:=mv_ok h
  cases x<;>first
   |exact h
   |cases hb
 rename_i hne
 cases l with
 |nil=>exact h
 |cons x l=>
  cases l with
  |nil=>exact(hne x rfl).elim
  |cons y l=>exact h
theorem xF_ok{lf:Nat}:∀d,XR2 (xF X lf d) (xN X lf d)
 |0=>by intro Z Y hY f args nk M K r h;cases h
 |d+1=>by
  intro Z Y hY f args nk M K r h;have h:Option.rec (motive:=λ_=>RR) (Option.rec (motive:=λ_=>RR) none (bdF X lf (xF X lf d) Z args nk M K) (X.E.FT.get f)) (λp=>obR (p args nk M) K) (X.prim.get f)=some r:=h
  have hu:xN X lf (d+1) Y f args nk M=(match X.prim.get f with
   |some p=>p args nk M
   | none=>(match X.E.FT.get f with
    |none=>none
    | some fn=>(match fn.body with
     |none=>none
     | some c=>(match Nat.ble args.length fn.ntmps with
      |false=>none
      | true=>(match xC X (xN X lf d) lf fn.ntmps Y c none nk (argF args 0) M with
       | some (ex,nk',fr',M')=>(match (match ex with | .norm=>true | .ret=>true | _=>false) with
        | true=>(match xres X.E.T fn.results.toList fr' M' with
         |some l=>some (oneOr l,nk',M')
         | none=>none)
        | false=>none)
       | none=>none))))):=rfl
  cases hp:X.prim.get f with
  |some p=>
   rw[hp] at h hu;rw[hu];exact obR_ok h
  |none=>
   rw[hp] at h hu;dsimp only at hu h;obtain⟨fn,hf,h⟩:=oon h;rw[hf] at hu;dsimp only at hu;unfold bdF at h;obtain⟨c,hc,h⟩:=oon h;rw[hc] at hu;dsimp only at hu;obtain⟨hb,h⟩:=bon h;rw[hb] at hu;dsimp only at hu;obtain⟨ex,nk',fr',M',h1,h⟩:=cdF_ok (e:=⟨xF X lf d,Z,lf,fn.ntmps⟩) ⟨xF_ok d,hY⟩ h;dsimp only at h1;rw[h1] at hu;dsimp only at hu;rcases h with ⟨rfl,h⟩|⟨hne,h⟩
   ·obtain⟨l,h2,h⟩:=endF_ok h;rw[h2] at hu;exact⟨oneOr l,nk',M',hu,h⟩
   unfold endO at h;split at h
   ·obtain⟨l,h2,h⟩:=endF_ok h;rw[h2] at hu;exact⟨oneOr l,nk',M',hu,h⟩
   cases h
def run1(X:XE)(lf d f:Nat)(args:List SV)(nk:Nat)(M:Mm):RR:=xF X lf d [] f args nk M λy nk M=>some (y,nk,M)
theorem run1_ok{lf d f:Nat}{args:List SV}{nk:Nat}{M:Mm}{r}(h:run1 X lf d f args nk M=some r):xN X lf d [] f args nk M=some r:=by
 obtain⟨y,n,m,h1,h2⟩:=xF_ok d [] [] (λk g hg=>by cases hg) _ _ _ _ _ _ h;cases h2;exact h1
theorem fast_true{lf d f:Nat}{args:List SV}{nk:Nat}{M:Mm}(h:isTrue (run1 X lf d f args nk M)=true):isTrue (xN X lf d [] f args nk M)=true:=by
 cases hr:run1 X lf d f args nk M with
 |none=>rw[hr] at h;cases h
 |some r=>rw[run1_ok hr,←hr];exact h
end
end Exe
end Go.Eng
end
section
namespace Go.Eng
open Go Go.RowKit
namespace Exe
noncomputable section
def pureS(x:SV):Bool:=
 SV.rec (motive_1:=λ_=>Bool) (motive_2:=λ_=>Bool)
  (λ_=>true) (λ_=>true) (λ_ _=>false) (λ_ _=>false) (λ_=>false) (λ_ _=>false)
  (λ_ ih=>ih) (λ_ ih=>ih) (λ_ _ _=>false) (λ_=>false) (λ_ _ _ _ _=>false) (λ_=>false) (λ_ _=>false) (λ_=>false) false
  true (λ_ _ hx hr=>Bool.rec false hr hx) x
def pureL(l:List SV):Bool:=List.rec (motive:=λ_=>Bool) true (λx _ ih=>Bool.rec (motive:=λ_=>Bool) false ih (pureS x)) l
theorem pureL_c{x:SV}{l:List SV}:pureL (x::l)=true↔pureS x=true∧pureL l=true:=by
 show Bool.rec (motive:=λ_=>Bool) false (pureL l) (pureS x)=true↔_;cases pureS x<;>simp
theorem pure_agg:∀l,pureS (.agg l)=pureL l
 |[]=>rfl
 |x::r=>by
  show Bool.rec (motive:=λ_=>Bool) false (pureS (.agg r)) (pureS x)=_;rw[pure_agg r];rfl
theorem pure_tup:∀l,pureS (.tup l)=pureL l
 |[]=>rfl
 |x::r=>by
  show Bool.rec (motive:=λ_=>Bool) false (pureS (.tup r)) (pureS x)=_;rw[pure_tup r];rfl
mutual
theorem pure_uniq{S S':Pl}:∀(y:SV) {v v':Value},pureS y=true→okv S y v→okv S' y v'→v=v'
 |.v x,v,v',_,h,h'=>(show v=x from h).trans (show v'=x from h').symm
 |.bb b,v,v',_,h,h'=>(show v=.bool b from h).trans (show v'=.bool b from h').symm
 |.agg l,v,v',hp,h,h'=>by
  obtain⟨vs,rfl,h⟩:=h;obtain⟨vs',rfl,h'⟩:=h';rw[pure_agg] at hp;rw[pure_uniqL l hp h h']
 |.tup l,v,v',hp,h,h'=>by
  obtain⟨vs,rfl,h⟩:=h;obtain⟨vs',rfl,h'⟩:=h';rw[pure_tup] at hp;rw[pure_uniqL l hp h h']
 |.b _ _,v,v',hp,h,h'=>by cases hp
 |.lp _ _,v,v',hp,h,h'=>by cases hp
 |.own _,v,v',hp,h,h'=>by cases hp
 |.el _ _,v,v',hp,h,h'=>by cases hp
 |.fn _ _,v,v',hp,h,h'=>by cases hp
 |.yl _,v,v',hp,h,h'=>by cases hp
 |.vw _ _ _ _ _,v,v',hp,h,h'=>by cases hp
 |.lq _,v,v',hp,h,h'=>by cases hp
 |.ls _ _,v,v',hp,h,h'=>by cases hp
 |.mr _,v,v',hp,h,h'=>by cases hp
 |.bad,v,v',hp,h,h'=>by cases hp
theorem pure_uniqL{S S':Pl}:∀(l:List SV) {vs vs':List Value},pureL l=true→okL S l vs→okL S' l vs'→vs=vs'
 |[],[],[],_,_,_=>rfl
 |x::l,v::vs,v'::vs',hp,h,h'=>by
  obtain⟨h1,h2⟩:=pureL_c.1 hp;rw[pure_uniq x h1 h.1 h'.1,pure_uniqL l h2 h.2 h'.2]
 |[],_::_,_,_,h,_=>by cases h
 |[],[],_::_,_,_,h=>by cases h
 |_::_,[],_,_,h,_=>by cases h
 |_::_,_::_,[],_,_,h=>by cases h
end
mutual
theorem pure_has{k:Nat}:∀(y:SV),pureS y=true→y.has k=false
 |.v x,_=>rfl
 |.bb b,_=>rfl
 |.agg l,hp=>by rw[pure_agg] at hp;simpa[SV.has] using pure_hasL l hp
 |.tup l,hp=>by rw[pure_tup] at hp;simpa[SV.has] using pure_hasL l hp
 |.b _ _,hp=>by cases hp
 |.lp _ _,hp=>by cases hp
 |.own _,hp=>by cases hp
 |.el _ _,hp=>by cases hp
 |.fn _ _,hp=>by cases hp
 |.yl _,hp=>by cases hp
 |.vw _ _ _ _ _,hp=>by cases hp
 |.lq _,hp=>by cases hp
 |.ls _ _,hp=>by cases hp
 |.mr _,hp=>by cases hp
 |.bad,hp=>by cases hp
theorem pure_hasL{k:Nat}:∀(l:List SV),pureL l=true→hasL k l=false
 |[],_=>rfl
 |x::l,hp=>by
  obtain⟨h1,h2⟩:=pureL_c.1 hp;unfold hasL;rw[pure_has x h1,pure_hasL l h2]
end
theorem pure_move{S S':Pl}{y:SV}{v:Value}(hp:pureS y=true)(h:okv S y v):okv S' y v:=okv_congr y (λk hk=>by rw[pure_has y hp] at hk;cases hk) h
def apart(X:XE)(f:Nat)(args:List SV):Option SV:=Bool.rec (motive:=λ_=>Option SV) none
 (Option.rec (motive:=λ_=>Option SV) none (λp=>Bool.rec (motive:=λ_=>Option SV) none (some p.1) (pureS p.1)) (run1 X 1000 40 f args 0 .lf)) (pureL args)
theorem apart_ok{P:Program}{X:XE}(hX:XOk P X)(hPr:PrimsOk P X)(hC:bodiesOk X.E.FT=true){f:Nat}{args:List SV}{y:SV}{S:Pl}{vs:List Value}(h:apart X f args=some y)(hvs:okL S args vs):
  ∃v,okv S y v∧(∀args w,(callFunc f args).run P w=.ok (.enter f args) w)∧∀w,Calls P f vs.toArray w λe w'=>e=.returned v∧Below w.heap.size w w':=by
 unfold apart at h
 cases hp:pureL args with
 |false=>rw[hp] at h;cases h
 |true=>
  rw[hp] at h;dsimp only at h
  cases hr:run1 X 1000 40 f args 0 .lf with
  |none=>rw[hr] at h;cases h
  |some p=>
   rw[hr] at h;dsimp only at h
   cases hpy:pureS p.1 with
   |false=>rw[hpy] at h;cases h
   |true=>
    rw[hpy] at h;cases h;obtain⟨y,nk',M'⟩:=p;have hx:=run1_ok hr
    have main:∀w,(∀args w,(callFunc f args).run P w=.ok (.enter f args) w)∧CallsIn (FF none) 0 P f vs.toArray w λe w'=>∃v,e=.returned v∧okv S y v∧Below w.heap.size w w':=by
     intro w;have:=xN_ok hX hPr hC (lf:=1000) 40 (.all w) [] f args 0 (phOf w) [] (λx _ _ _=>x=y) vs w S none 0 ⟨[],.lf,y,nk',M',λk hx hk=>vH,λk=>rfl,λk hk=>vH,λk hk=>(by rw[pure_hasL args hp] at hk;cases hk),hx,λ_ _ _ _=>rfl⟩ (λk hd hk=>by simp[yGet] at hk) hvs (Mem.start w S);refine⟨this.1,this.2.mono ?_⟩;rintro e w' ⟨v,x,S',q',L',nk',rfl,hxv,_,hm,_,rfl⟩;exact⟨v,rfl,pure_move hpy hxv,hm.be.below⟩
    have m2:∀w,Calls P f vs.toArray w λe w'=>∃v,e=.returned v∧okv S y v∧Below w.heap.size w w':=λw=>by
     have h3:CallsIn Fence.wide 0 P f vs.toArray w _:=(main w).2;exact callsIn_wide.1 h3
    obtain⟨v,hv⟩:∃v,okv S y v:=by
     obtain⟨_,_,_,⟨v,_,hv,_⟩,_⟩:=m2 default [];exact⟨v,hv⟩
    refine⟨v,hv,(main default).1,λw=>(m2 w).mono ?_⟩;rintro e w' ⟨v',rfl,hv',hb⟩;exact⟨by rw[pure_uniq y hpy hv' hv],hb⟩
def apartT(X:XE)(l:Tr Unit):Tr (List SV→Option SV):=Tr.rec (motive:=λ_=>Tr (List SV→Option SV)) .nil (λ_ k _ _ gl gr=>.node gl k (apart X k) gr) l
theorem apartT_get{X:XE}:∀{l:Tr Unit}{f:Nat}{g:List SV→Option SV},(apartT X l).get f=some g→g=apart X f
 |.nil,f,g,h=>by cases h
 |.node a k v b,f,g,h=>by
  have h:(Tr.node (apartT X a) k (apart X k) (apartT X b)).get f=some g:=h;rw[Tr.get_c] at h;split at h
  ·rename_i e;cases h;rw[Nat.eq_of_beq_eq_true e]
  split at h
  ·exact apartT_get h
  exact apartT_get h
end
end Exe
end Go.Eng
end
section
namespace Go.Proofs.YticmemgehllacaaGreatDoor
open Go Go.Eng Go.RowKit Go.Eng.Exe
noncomputable section
def pk0:Tr Unit:=(.node (.node (.node (.node (.node (.node .nil 3 () .nil) 10 () .nil) 26 () (.node (.node .nil 27 () .nil) 29 () .nil)) 31 () (.node (.node (.node .nil 32 () .nil) 34 () .nil) 36 () (.node .nil 38 () .nil))) 39 () (.node (.node (.node (.node .nil 40 () .nil) 52 () .nil) 55 () (.node .nil 57 () .nil)) 58 () (.node (.node (.node .nil 59 () .nil) 60 () .nil) 61 () (.node .nil 62 () .nil)))) 63 () (.node (.node (.node (.node (.node .nil 64 () .nil) 65 () .nil) 66 () (.node (.node .nil 68 () .nil) 70 () .nil)) 71 () (.node (.node (.node .nil 72 () .nil) 73 () .nil) 74 () (.node .nil 75 () .nil))) 76 () (.node (.node (.node (.node .nil 77 () .nil) 78 () .nil) 79 () (.node .nil 80 () .nil)) 81 () (.node (.node (.node .nil 91 () .nil) 99 () .nil) 103 () (.node .nil 117 () .nil)))))
def pk1:Tr Unit:=(.node (.node (.node (.node (.node (.node (.node (.node .nil 120 () .nil) 121 () .nil) 122 () (.node (.node .nil 125 () .nil) 126 () .nil)) 127 () (.node (.node (.node .nil 128 () .nil) 131 () .nil) 134 () (.node .nil 135 () .nil))) 136 () (.node (.node (.node (.node .nil 137 () .nil) 140 () .nil) 141 () (.node .nil 145 () .nil)) 150 () (.node (.node (.node .nil 152 () .nil) 153 () .nil) 157 () (.node .nil 166 () .nil)))) 167 () (.node (.node (.node (.node (.node .nil 170 () .nil) 171 () .nil) 175 () (.node .nil 179 () .nil)) 183 () (.node (.node (.node .nil 201 () .nil) 203 () .nil) 204 () (.node .nil 205 () .nil))) 206 () (.node (.node (.node (.node .nil 207 () .nil) 208 () .nil) 211 () (.node .nil 212 () .nil)) 214 () (.node (.node (.node .nil 215 () .nil) 216 () .nil) 217 () (.node .nil 218 () .nil))))) 225 () (.node (.node (.node (.node (.node (.node .nil 230 () .nil) 233 () .nil) 236 () (.node .nil 242 () .nil)) 244 () (.node (.node (.node .nil 246 () .nil) 247 () .nil) 249 () (.node .nil 251 () .nil))) 254 () (.node (.node (.node (.node .nil 259 () .nil) 263 () .nil) 266 () (.node .nil 270 () .nil)) 274 () (.node (.node (.node .nil 276 () .nil) 277 () .nil) 280 () (.node .nil 281 () .nil)))) 286 () (.node (.node (.node (.node (.node .nil 287 () .nil) 288 () .nil) 289 () (.node .nil 291 () .nil)) 292 () (.node (.node (.node .nil 295 () .nil) 298 () .nil) 306 () (.node .nil 311 () .nil))) 312 () (.node (.node (.node (.node .nil 313 () .nil) 318 () .nil) 319 () (.node .nil 322 () .nil)) 325 () (.node (.node (.node .nil 326 () .nil) 328 () .nil) 329 () (.node .nil 330 () .nil)))))) 337 () (.node (.node (.node (.node (.node (.node (.node .nil 341 () .nil) 343 () .nil) 348 () (.node .nil 352 () .nil)) 363 () (.node (.node (.node .nil 364 () .nil) 365 () .nil) 366 () (.node .nil 369 () .nil))) 370 () (.node (.node (.node (.node .nil 371 () .nil) 372 () .nil) 373 () (.node .nil 377 () .nil)) 379 () (.node (.node (.node .nil 384 () .nil) 385 () .nil) 387 () (.node .nil 388 () .nil)))) 389 () (.node (.node (.node (.node (.node .nil 390 () .nil) 391 () .nil) 392 () (.node .nil 404 () .nil)) 405 () (.node (.node (.node .nil 406 () .nil) 409 () .nil) 414 () (.node .nil 415 () .nil))) 416 () (.node (.node (.node (.node .nil 417 () .nil) 418 () .nil) 419 () (.node .nil 423 () .nil)) 426 () (.node (.node (.node .nil 427 () .nil) 433 () .nil) 434 () (.node .nil 435 () .nil))))) 436 () (.node (.node (.node (.node (.node (.node .nil 437 () .nil) 438 () .nil) 439 () (.node .nil 443 () .nil)) 444 () (.node (.node (.node .nil 458 () .nil) 461 () .nil) 462 () (.node .nil 464 () .nil))) 466 () (.node (.node (.node (.node .nil 470 () .nil) 471 () .nil) 472 () (.node .nil 476 () .nil)) 477 () (.node (.node (.node .nil 480 () .nil) 482 () .nil) 483 () (.node .nil 484 () .nil)))) 485 () (.node (.node (.node (.node (.node .nil 486 () .nil) 487 () .nil) 488 () (.node .nil 491 () .nil)) 492 () (.node (.node (.node .nil 496 () .nil) 499 () .nil) 503 () (.node .nil 505 () .nil))) 506 () (.node (.node (.node (.node .nil 507 () .nil) 508 () .nil) 509 () (.node .nil 512 () .nil)) 513 () (.node (.node (.node .nil 514 () .nil) 515 () .nil) 523 () (.node .nil 530 () .nil)))))))
theorem tr_ap{X:XE}(hX:XOk Tryz.prog X)(hP:PrimsOk Tryz.prog X)(hB:bodiesOk X.E.FT=true){l:Tr Unit}:TrAll (apartT X l) (λf g=>∀(S:Pl) args vs y,okL S args vs→g args=some y→∃v,okv S y v∧((∀w,(callFunc f vs.toArray).run Tryz.prog w=.ok (.value v) w)∨((∀args w,(callFunc f args).run Tryz.prog w=.ok (.enter f args) w)∧∀w,Calls Tryz.prog f vs.toArray w λe w'=>e=.returned v∧Below w.heap.size w w'))):=by
 intro k g hg S args vs y hvs h;rw[apartT_get hg] at h;obtain⟨v,h1,h2,h3⟩:=apart_ok hX hP hB h hvs;exact⟨v,h1,.inr ⟨h2,h3⟩⟩
def extX(X:XE):Tr (List SV→Option SV):=(.node (apartT X pk0) 119 eIdx (apartT X pk1))
theorem extX_ok{X:XE}(hX:XOk Tryz.prog X)(hP:PrimsOk Tryz.prog X)(hB:bodiesOk X.E.FT=true):ExtOk Tryz.prog (extX X):=λf g hg=>(show TrAll (extX X) (λf g=>∀(S:Pl) args vs y,okL S args vs→g args=some y→∃v,okv S y v∧((∀w,(callFunc f vs.toArray).run Tryz.prog w=.ok (.value v) w)∨((∀args w,(callFunc f args).run Tryz.prog w=.ok (.enter f args) w)∧∀w,Calls Tryz.prog f vs.toArray w λe w'=>e=.returned v∧Below w.heap.size w w'))) from(tr_node (tr_ap hX hP hB) (eIdx_ok 119 Tryz.func119 (nq9 Tryz.func119) rfl wz wz) (tr_ap hX hP hB))) f g hg
def XX1:XE:={ XX with ext:=extX XX }
theorem xx1_ok:XOk Tryz.prog XX1:=⟨xx_ok.e,xx_ok.z,extX_ok xx_ok wm xn⟩
def XX2:XE:={ XX with ext:=extX XX1 }
theorem xx2_ok:XOk Tryz.prog XX2:=⟨xx_ok.e,xx_ok.z,extX_ok xx1_ok wm xn⟩
def XX3:XE:={ XX with ext:=extX XX2 }
theorem xx3_ok:XOk Tryz.prog XX3:=⟨xx_ok.e,xx_ok.z,extX_ok xx2_ok wm xn⟩
def XX4:XE:={ XX with ext:=extX XX3 }
theorem xx4_ok:XOk Tryz.prog XX4:=⟨xx_ok.e,xx_ok.z,extX_ok xx3_ok wm xn⟩
def XX5:XE:={ XX with ext:=extX XX4 }
theorem xx5_ok:XOk Tryz.prog XX5:=⟨xx_ok.e,xx_ok.z,extX_ok xx4_ok wm xn⟩
def XX6:XE:={ XX with ext:=extX XX5 }
theorem xx6_ok:XOk Tryz.prog XX6:=⟨xx_ok.e,xx_ok.z,extX_ok xx5_ok wm xn⟩
end
end Go.Proofs.YticmemgehllacaaGreatDoor
end
section
namespace Go.Proofs.YticmemgehllacaaGreatDoor
open Go Go.Eng Go.RowKit Go.Eng.Exe
noncomputable section
theorem run10:isTrue (run1 XX6 1000 40 10 [] 0 .lf)=true:=by kernel_rfl
theorem aw10:(∀args w,(callFunc 10 args).run Tryz.prog w=.ok (.enter 10 args) w)∧∀w,Calls Tryz.prog 10 #[] w λe w'=>e=.returned (.bool true)∧Below w.heap.size w w':=
 closed_true xx6_ok wm xn (fast_true run10)
end
end Go.Proofs.YticmemgehllacaaGreatDoor
end
namespace Go.Proofs.YticmemgehllacaaGreatDoor
open Go Go.Eng Go.RowKit Go.Eng.Exe
noncomputable def g10:Option Bool:=some true
noncomputable def k10:Eng.CS:={ f:=10,calm:=true,more:=0,ι:=Bool,ok:=λi=>g10=some i,rds:=λ_=>[],args:=λi=>[],res:=λi=>bS i }
theorem k10_ok:zp Tryz.prog k10:=by
 refine⟨λargs w=>aw10.1 args w,?_⟩;rintro w q S r vs hok _ hm hargs;have hr:true=r:=Option.some.inj (show some true=some r from hok);subst hr
 match vs,hargs with
 |[],_=>exact aw10.2 w
end Go.Proofs.YticmemgehllacaaGreatDoor
namespace Go.Proofs.YticmemgehllacaaGreatDoor
open Go Go.Eng
def c49(p:(Int×ByteArray)):List Value:=[.int .i64 p.1,.string p.2]
theorem c49_len:∀a,(c49 a).length=2:=λ_=>rfl
theorem c49_one:∀a,∀y∈c49 a,y.oneCell'=true:=by intro a y hy;simp only[c49,List.mem_cons,List.not_mem_nil,or_false] at hy;rcases hy with rfl|rfl<;>rfl
theorem zU{p q:Prop}(k:q)(h:p:=by first|exact rfl|exact Iff.rfl|exact⟨rfl,rfl⟩|exact decide_eq_true_iff|(constructor<;>first|exact rfl|(simp only[ei,eb,es,ec,c37,c49,gmin,gmax,List.map_append,List.flatMap_append,List.nil_append,List.append_nil,List.append_assoc];done)|omega|(simp only[List.nil_append,List.length_append,List.length_cons,List.length_nil];omega)|(simp[ei,eb,es,ec,c37,c49,gmin,gmax];done))|exact rfl|(simp only[ei,eb,es,ec,c37,c49,gmin,gmax,List.map_append,List.flatMap_append,List.nil_append,List.append_nil,List.append_assoc];done)|omega|(simp only[List.nil_append,List.length_append,List.length_cons,List.length_nil];omega)|(simp[ei,eb,es,ec,c37,c49,gmin,gmax];done)|simp[ei,eb,es,ec,c37,c49,gmin,gmax]):Ob p∧q:=⟨⟨h⟩,k⟩
theorem mf1SR2{p q:Prop}(k:q)(h:p:=by first|(rw[←hfin]<;>first|exact rfl|exact Iff.rfl|exact⟨rfl,rfl⟩|exact decide_eq_true_iff|(constructor<;>first|exact rfl|(simp only[ei,eb,es,ec,c37,c49,gmin,gmax,List.map_append,List.flatMap_append,List.nil_append,List.append_nil,List.append_assoc];done)|omega|(simp only[List.nil_append,List.length_append,List.length_cons,List.length_nil];omega)|(simp[ei,eb,es,ec,c37,c49,gmin,gmax];done))|exact rfl|(simp only[ei,eb,es,ec,c37,c49,gmin,gmax,List.map_append,List.flatMap_append,List.nil_append,List.append_nil,List.append_assoc];done)|omega|(simp only[List.nil_append,List.length_append,List.length_cons,List.length_nil];omega)|(simp[ei,eb,es,ec,c37,c49,gmin,gmax];done)|simp[ei,eb,es,ec,c37,c49,gmin,gmax])|first|exact rfl|exact Iff.rfl|exact⟨rfl,rfl⟩|exact decide_eq_true_iff|(constructor<;>first|exact rfl|(simp only[ei,eb,es,ec,c37,c49,gmin,gmax,List.map_append,List.flatMap_append,List.nil_append,List.append_nil,List.append_assoc];done)|omega|(simp only[List.nil_append,List.length_append,List.length_cons,List.length_nil];omega)|(simp[ei,eb,es,ec,c37,c49,gmin,gmax];done))|exact rfl|(simp only[ei,eb,es,ec,c37,c49,gmin,gmax,List.map_append,List.flatMap_append,List.nil_append,List.append_nil,List.append_assoc];done)|omega|(simp only[List.nil_append,List.length_append,List.length_cons,List.length_nil];omega)|(simp[ei,eb,es,ec,c37,c49,gmin,gmax];done)|simp[ei,eb,es,ec,c37,c49,gmin,gmax]):Ob p∧q:=⟨⟨h⟩,k⟩
noncomputable def g7(b:ByteArray):Option (List (Int×ByteArray)):= jn (α:=_) (β:=List (Int×ByteArray)) (λd=>(y7 (σ:=List (Int×ByteArray)×Int×Int×Int) (ρ:=List (Int×ByteArray)) (λa=>if a.2.2.2≤(b.size:Int) then(jn (α:=_) (β:=Unit) (λc=>if a.2.2.2<(b.size:Int) then(ck (0≤a.2.2.2∧a.2.2.2<(b.size:Int))<|if ¬((b.data.toList[a.2.2.2.toNat]?.getD 0).toNat:Int)=10 then(ck (inR .i64 (a.2.2.2+1))<|some (.go (a.1,a.2.1,a.2.2.1,a.2.2.2+1)))else c ())else c ()) (λg=>if a.2.2.1<a.2.2.2 then(ck (0≤a.2.2.1∧a.2.2.1<(b.size:Int))<|if ¬((b.data.toList[a.2.2.1.toNat]?.getD 0).toNat:Int)=35 then(ck (0≤a.2.2.1∧a.2.2.1≤a.2.2.2∧a.2.2.2≤(b.size:Int))<|ck ((a.1.length+1)*24≤140737488355328)<|ck (inR .i64 (a.2.1+1))<|ck (inR .i64 (a.2.2.2+1))<|ck (inR .i64 (a.2.2.2+1))<|some (.go ((a.1++[(a.2.1,b.extract a.2.2.1.toNat a.2.2.2.toNat)]),a.2.1+1,a.2.2.2+1,a.2.2.2+1)))else(ck (inR .i64 (a.2.1+1))<|ck (inR .i64 (a.2.2.2+1))<|ck (inR .i64 (a.2.2.2+1))<|some (.go (a.1,a.2.1+1,a.2.2.2+1,a.2.2.2+1))))else(ck (inR .i64 (a.2.1+1))<|ck (inR .i64 (a.2.2.2+1))<|ck (inR .i64 (a.2.2.2+1))<|some (.go (a.1,a.2.1+1,a.2.2.2+1,a.2.2.2+1)))))else some (.out a.1)) ([],1,0,0)).bind λe=>d e) (λf=>some f)
noncomputable def k7:Eng.CS:={ f:=7,calm:=false,more:=1,ι:=ByteArray×List (Int×ByteArray),ok:=λi=>g7 i.1=some i.2,rds:=λ_=>[],args:=λi=>[.w (.v (.string (i.1)))],res:=λi=>.own 0,L':=λi=>[(0,.arr 49 2 i.2.length (ec c49 i.2))],rn:=[(0,0,49,2)] }
theorem zdSR2_{p:Prop}(h:p:=by repeat' first|refine zb H ?_ ?_<;>intro _ H|refine zr H λ_ H=>?_|(obtain⟨_,hv,H⟩:=za H;first|refine⟨(_,_),⟨hv⟩,⟨trivial⟩,?_⟩|refine⟨(_,_,_),⟨hv⟩,⟨trivial⟩,?_⟩|refine⟨(_,_,_,_),⟨hv⟩,⟨trivial⟩,?_⟩)|refine⟨⟨rfl⟩,?_⟩|(have hfin:=zo H;(first|subst hfin|rw[←hfin]);refine⟨(none,_),⟨Nat.le_refl _⟩,⟨⟨Reads.nil,trivial⟩⟩,?_⟩;(repeat refine zU ?_);trivial)|((first|refine⟨(),⟨H⟩,⟨rfl⟩,?_⟩|refine⟨_,⟨H⟩,⟨rfl⟩,?_⟩);(repeat refine zU ?_);trivial)|(replace H:=zw H;refine⟨(_,_),⟨H,Nat.lt_succ_self _⟩,⟨trivial⟩,?_⟩;(repeat refine zU ?_);trivial)|(replace H:=zw H;dsimp only[stp,sm] at H)|refine zU ?_):p:=h
theorem zd_SR2{p:Prop}(h:p:=by repeat' first|refine zb H ?_ ?_<;>intro _ H|refine zr H λ_ H=>?_|(obtain⟨_,hv,H⟩:=za H;first|refine⟨(_,_),⟨hv⟩,⟨trivial⟩,?_⟩|refine⟨(_,_,_),⟨hv⟩,⟨trivial⟩,?_⟩|refine⟨(_,_,_,_),⟨hv⟩,⟨trivial⟩,?_⟩)|refine⟨⟨rfl⟩,?_⟩|(have hfin:=zo H;(repeat refine mf1SR2 ?_);trivial)|(have hfin:=zo H;(first|subst hfin|rw[←hfin]);refine⟨(none,_),⟨Nat.le_refl _⟩,⟨⟨Reads.nil,trivial⟩⟩,?_⟩;trivial)|((first|refine⟨(),⟨H⟩,⟨rfl⟩,?_⟩|refine⟨_,⟨H⟩,⟨rfl⟩,?_⟩);trivial)|(replace H:=zw H;refine⟨(_,_),⟨H,Nat.lt_succ_self _⟩,⟨trivial⟩,?_⟩;trivial)|(replace H:=zw H;dsimp only[stp,sm] at H)):p:=h
theorem k7_ok:CSOk Tryz.prog k7:=by
 refine R.cspec Tryz.func7 (nq9 Tryz.func7) rfl ?_;rintro⟨c,r⟩ hok q _ args hargs
 match args,hargs with
 |[_],hargs=>
 obtain⟨rfl,_⟩:=hargs;refine⟨envC [] false [(7,7),(7,10)],6,zi (zj),?_⟩;have H:zf (g7 c) (λa=>a=r):=⟨r,hok,rfl⟩;unfold g7 at H;clear hok;refine R.cut_fam H 14 [] [] (λd=>[(3,.own 14)]) (λd=>[(14,.arr 49 2 (d.length) (ec c49 (d)))]) [] 1 (λH=>?_);refine And.intro ?_ ?_
 ·refine R.loop_fam (zN H) [0] [(3,0,49,2)] (λ_ b=>[(3,.own 6),(4,.v (.int .i64 (b.2.1))),(5,.v (.int .i64 (b.2.2.1))),(6,.v (.int .i64 (b.2.2.2)))]) (λ_ b=>[(6,.arr 49 2 (b.1.length) (ec c49 (b.1)))]) 1 (λg H=>?_);refine⟨(g,_),⟨H⟩,⟨trivial⟩,?_⟩
  repeat refine zU ?_
  rintro⟨m0,b⟩ H _;obtain⟨l,hm0,H⟩:=zO H;dsimp only at hm0;subst hm0
  try dsimp only at H
  refine zb H ?_ ?_<;>intro m H
  ·refine R.cut_fam H 22 [0,3,4,5,6] [] (λf=>[]) (λf=>[]) [(6,.arr 49 2 (b.1.length) (ec c49 (b.1)))] 0 (λH=>?_);refine And.intro ?_ ?_
   ·exact zdSR2_
   intro f H;refine zb H ?_ ?_<;>intro n H
   ·refine zr H λo H=>?_;refine zb H ?_ ?_<;>intro p H
    ·refine zr H λs H=>?_;refine xq ww (by first|exact(ec_one c49_one)|((repeat (refine List.forall_mem_cons.2 ⟨rfl,?_⟩));intro y hy;cases hy;done)|(intro y hy;simp[ei,eb,es,ec,c37,c49] at hy;(first|(rcases hy with rfl|hy)|subst hy|skip);all_goals first|rfl|simp_all[Value.oneCell'])) H λt H=>?_;intro h i j e;obtain rfl:h=(b.1++[(b.2.1,c.extract b.2.2.1.toNat b.2.2.2.toNat)]).length:=j.trans wy;obtain rfl:i=ec c49 (b.1++[(b.2.1,c.extract b.2.2.1.toNat b.2.2.2.toNat)]):=by first|exact e.trans (ec_app (xs:=b.1) (ys:=([(b.2.1,c.extract b.2.2.1.toNat b.2.2.2.toNat)]))).symm|(rw[e,(ec_vw c49_len)];first|exact ec_app.symm|exact(ec_app (xs:=b.1)).symm)|(rw[e];simp[ei,eb,es,ec,c37,c49])
     exact zdSR2_
    exact zdSR2_
   exact zdSR2_
  exact zdSR2_
 intro d H;exact zd_SR2
noncomputable def g6(d:ByteArray):Option (List (Int×(List Int)×Int×Int)×Int×Int):= if 65536<(d.size:Int) then some (([]:List (Int×(List Int)×Int×Int)),0,2)else((g7 d).bind λb=>if 4096<((b.length:Nat):Int) then some (([]:List (Int×(List Int)×Int×Int)),0,3)else(jn (α:=_) (β:=List (Int×(List Int)×Int×Int)) (λe=>(y7 (σ:=List (Int×(List Int)×Int×Int)×Int) (ρ:=(Int) ⊕ (List (Int×(List Int)×Int×Int))) (λa=>if a.2<((b.length:Nat):Int) then(ck (0≤a.2∧a.2<((b.length:Nat):Int))<|(g15 ((b.getD a.2.toNat default).2)).bind λc=>if ¬(c.2=true) then(ck (0≤a.2∧a.2<((b.length:Nat):Int))<|some (.out (.inl ((b.getD a.2.toNat default).1))))else(ck ((a.1.length+1)*48≤140737488355328)<|ck (inR .i64 (a.2+1))<|some (.go ((a.1++([(c.1.1,c.1.2.1,c.1.2.2.1,c.1.2.2.2)]:List (Int×(List Int)×Int×Int))),a.2+1))))else some (.out (.inr (a.1)))) ([],0)).bind λf=>sm f (λg=>some (([]:List (Int×(List Int)×Int×Int)),g,290)) (λh=>e h)) (λi=>some (i,0,0))))
noncomputable def k6:Eng.CS:={ f:=6,calm:=false,more:=0,ι:=ByteArray×(List (Int×(List Int)×Int×Int)×Int×Int),ok:=λi=>g6 i.1=some i.2,rds:=λ_=>[],args:=λi=>[.w (.v (.string (i.1)))],res:=λ_=>.bad,rn:=[],gr:=true,γ:=(Option Addr×Nat)×(List (Int×((Option Addr×Nat)×List Int)×Int×Int)),resG:=λi g=>.tup [.v (.slice g.1.1 i.2.1.length g.1.2),.v (.int .i64 (i.2.2.1)),.v (.int .i64 (i.2.2.2))],LG:=λi g=>[],okG:=λi g=>i.2.1.length≤g.1.2∧g.2.map e37=i.2.1∧(∀p∈g.2,cap37 p),rdsG:=λi g=>[(g.1.1,ec c37 g.2)]++(g.2).flatMap R37,fzr:=[(0,0)] }
theorem k6_ok:CSOk Tryz.prog k6:=by
 refine R.cspecG Tryz.func6 (nq9 Tryz.func6) rfl rfl (λ_=>rfl) ?_;rintro⟨E,r⟩ hok q hrds args hargs;dsimp only[k6] at hargs ⊢
 match args,hargs with
 |[_],hargs=>
 obtain⟨rfl,_⟩:=hargs;refine⟨envC [k7,k15] false [(6,14)],6,zi (z8 ⟨nofun,λ_=>k7_ok⟩ (z8 ⟨nofun,λ_=>k15_ok⟩ (zj))),?_⟩;have H:zf (g6 E) (λa=>a=r):=⟨r,hok,rfl⟩;unfold g6 at H;clear hok;refine zb H ?_ ?_<;>intro a8 H
 ·have hfin:=zo H
  first|subst hfin|rw[←hfin]
  refine⟨((none,0),([]:List (Int×((Option Addr×Nat)×List Int)×Int×Int))),⟨⟨Nat.le_refl _,(show List.map e37 []=[] from rfl),yF⟩⟩,⟨(y6.2 ⟨⟨Reads.nil,trivial⟩,P37.rds yF⟩)⟩,?_⟩
  repeat refine zU ?_
  trivial
 obtain⟨j,Q,H⟩:=za H;refine⟨(E,j),⟨Q⟩,⟨trivial⟩,?_⟩;refine⟨⟨rfl⟩,?_⟩;refine zb H ?_ ?_<;>intro a9 H
 ·have hfin:=zo H
  first|subst hfin|rw[←hfin]
  refine⟨((none,0),([]:List (Int×((Option Addr×Nat)×List Int)×Int×Int))),⟨⟨Nat.le_refl _,(show List.map e37 []=[] from rfl),yF⟩⟩,⟨(y6.2 ⟨⟨Reads.nil,trivial⟩,P37.rds yF⟩)⟩,?_⟩
  repeat refine zU ?_
  trivial
 refine R.cut_famXG H 24 [] [] [] (λ(l:List (Int×(List Int)×Int×Int)) (g:(List (Int×((Option Addr×Nat)×List Int)×Int×Int)))=>[(6,.own 24)]) (λ(l:List (Int×(List Int)×Int×Int)) (g:(List (Int×((Option Addr×Nat)×List Int)×Int×Int)))=>[(24,.arr 37 4 (l.length) (ec c37 ((g))))]) [(9,.arr 49 2 (j.length) (ec c49 (j)))] 1 (λq (l:List (Int×(List Int)×Int×Int)) (g:(List (Int×((Option Addr×Nat)×List Int)×Int×Int)))=>g.map e37=l∧(∀p∈g,P37 q p)) (λH=>?_);refine And.intro ?_ ?_
 ·refine R.loop_famXG (zN H) [5] [(6,0,37,4)] [] (λ_=>λ(d:List (Int×(List Int)×Int×Int)×Int) (g:(List (Int×((Option Addr×Nat)×List Int)×Int×Int)))=>[(6,.own 16),(7,.v (.int .i64 (d.2)))]) (λ_=>λ(d:List (Int×(List Int)×Int×Int)×Int) (g:(List (Int×((Option Addr×Nat)×List Int)×Int×Int)))=>[(16,.arr 37 4 (d.1.length) (ec c37 ((g))))]) 1 (λq (d:List (Int×(List Int)×Int×Int)×Int) (g:(List (Int×((Option Addr×Nat)×List Int)×Int×Int)))=>g.map e37=d.1∧(∀p∈g,P37 q p)) (λT H=>?_);refine⟨(T,_,([]:List (Int×((Option Addr×Nat)×List Int)×Int×Int))),⟨H⟩,⟨(show List.map e37 []=[] from rfl),yF⟩,?_⟩
  repeat refine zU ?_
  rintro aa F ⟨m0,d,m⟩ H hrd;obtain⟨t,u⟩:=hrd;obtain⟨U,hm0,H⟩:=zO H;dsimp only at hm0 u t;subst hm0
  try dsimp only at H
  refine zb H ?_ ?_<;>intro ab H
  ·refine zr H λw H=>?_;refine ld_str (e:=(j.getD d.2.toNat default).2) (own_get (ys:=ec c49 j) vv ((w6 (i:=d.2.toNat) (o:=1) c49_len (by first|exact tn w|(have:=tn w;simp at this ⊢;omega)|(have:=tn w;simp;omega)) ww).trans rfl)) ?_;obtain⟨b,V,H⟩:=za H;refine⟨((j.getD d.2.toNat default).2,b),⟨V⟩,⟨trivial⟩,?_⟩;refine⟨⟨rfl⟩,?_⟩;intro ac W G X Y;obtain⟨n,s⟩:=W;have I:=X;obtain⟨J,_⟩:=Y
   try dsimp only at I J
   refine zb H ?_ ?_<;>intro ad H
   ·refine And.intro ⟨by kernel_rfl⟩ ?_;refine zr H λx H=>?_;refine yu (e:=(j.getD d.2.toNat default).1) (own_get (ys:=ec c49 j) vv ((w6 (i:=d.2.toNat) (o:=0) c49_len wQ ww).trans rfl)) ?_;replace H:=zw H;dsimp only[stp,sm] at H;have hfin:=zo H
    first|subst hfin|rw[←hfin]
    refine⟨((none,0),([]:List (Int×((Option Addr×Nat)×List Int)×Int×Int))),⟨⟨Nat.le_refl _,(show List.map e37 []=[] from rfl),yF⟩⟩,⟨(y6.2 ⟨⟨Reads.nil,trivial⟩,P37.rds yF⟩)⟩,?_⟩
    repeat refine zU ?_
    trivial
   refine xq ww (by first|exact(ec_one c37_one)|((repeat (refine List.forall_mem_cons.2 ⟨rfl,?_⟩));intro y hy;cases hy;done)|(intro y hy;simp[ei,eb,es,ec,c37,c49] at hy;(first|(rcases hy with rfl|hy)|subst hy|skip);all_goals first|rfl|simp_all[Value.oneCell'])) H λae H=>?_;intro Z a1 a2 z;obtain rfl:Z=(d.1++([(b.1.1,b.1.2.1,b.1.2.2.1,b.1.2.2.2)]:List (Int×(List Int)×Int×Int))).length:=a2.trans wy;obtain⟨a3,a4,a5,af,rfl⟩:=nx (f:=e37) (C:=c37) (P:=P37 _) (zs:=a1) (er_app t (show List.map e37 ([(b.1.1,((n,s),b.1.2.1),b.1.2.2.1,b.1.2.2.2)]:List (Int×((Option Addr×Nat)×List Int)×Int×Int))=([(b.1.1,b.1.2.1,b.1.2.2.1,b.1.2.2.2)]:List (Int×(List Int)×Int×Int)) from rfl)) (pin_app (λp hp=>P37.mono G (u p hp)) (pin_one ⟨J,I⟩)) (by first|exact z.trans (ec_app (c:=c37) (xs:=m) (ys:=([(b.1.1,((n,s),b.1.2.1),b.1.2.2.1,b.1.2.2.2)]:List (Int×((Option Addr×Nat)×List Int)×Int×Int)))).symm|(rw[z,(ec_vw x5)];exact(ec_app (c:=c37) (xs:=m) (ys:=([(b.1.1,((n,s),b.1.2.1),b.1.2.2.1,b.1.2.2.2)]:List (Int×((Option Addr×Nat)×List Int)×Int×Int)))).symm)|(refine z.trans (Eq.trans ?_ (ec_app (c:=c37) (xs:=m) (ys:=([(b.1.1,((n,s),b.1.2.1),b.1.2.2.1,b.1.2.2.2)]:List (Int×((Option Addr×Nat)×List Int)×Int×Int)))).symm);refine congrArg (_ ++ ·) ?_;simp[ec,c37];done));refine zr H λag H=>?_;replace H:=zw H;refine⟨(U,((d.1++([(b.1.1,b.1.2.1,b.1.2.2.1,b.1.2.2.2)]:List (Int×(List Int)×Int×Int))),d.2+1),a3),⟨H,Nat.lt_succ_self _⟩,⟨a4,a5⟩,⟨λ_ _ _ h=>(G _ _ _ (F _ _ _ h))⟩,?_⟩
   repeat refine zU ?_
   trivial
  replace H:=zw H;dsimp only[stp,sm] at H;refine⟨(d.1,m),⟨H,t,u⟩,⟨λ_ _ _ h=>(F _ _ _ h)⟩,?_⟩
  repeat refine zU ?_
  trivial
 rintro ah ai ⟨l,L⟩ ⟨H,M,A⟩;dsimp only at H A M;intro N B a6 O a7 D;replace D:Reads N B (ec c37 L):=Eq.mp (congrArg (Reads N B) (by first|exact rfl|(simp only[ei,eb,es,ec,c37,c49,gmin,gmax,List.map_append,List.flatMap_append,List.nil_append,List.append_nil,List.append_assoc];done))) D;have hfin:=zo H
 first|subst hfin|rw[←hfin]
 refine⟨((B,a6),L),⟨⟨a7,M,P37.cap (λp hp=>P37.mono O (A p hp))⟩⟩,⟨(y6.2 ⟨⟨D,trivial⟩,P37.rds (λp hp=>P37.mono O (A p hp))⟩)⟩,?_⟩
 repeat refine zU ?_
 trivial
noncomputable def g16(a:(Int×List Int×Int×Int))(b:(Int×List Int×Int×Int)):Option (Bool):= if ¬a.1=b.1 then some false else(if a.1=3 then(if a.2.2.1=b.2.2.1 then some (decide (a.2.2.2=b.2.2.2))else some false)else(if ¬a.1=1 then some true else(ck (zx a.2.1)<|ck (zx b.2.1)<|some (decide ((zW a.2.1).data.toList=(zW b.2.1).data.toList)))))
noncomputable def k16:Eng.CS:={ f:=16,calm:=false,more:=0,ι:=(Int×List Int×Int×Int)×(Int×List Int×Int×Int)×Bool×((Option Addr×Nat)×(Option Addr×Nat)),ok:=λi=>g16 i.1 i.2.1=some i.2.2.1∧i.1.2.1.length≤i.2.2.2.1.2∧i.2.1.2.1.length≤i.2.2.2.2.2,rds:=λi=>[(i.2.2.2.1.1,ei .u8 i.1.2.1),(i.2.2.2.2.1,ei .u8 i.2.1.2.1)],args:=λi=>[.w (.agg [.v (.int .i64 (i.1.1)),.v (.slice i.2.2.2.1.1 i.1.2.1.length i.2.2.2.1.2),.v (.int .i64 (i.1.2.2.1)),.v (.int .i64 (i.1.2.2.2))]),.w (.agg [.v (.int .i64 (i.2.1.1)),.v (.slice i.2.2.2.2.1 i.2.1.2.1.length i.2.2.2.2.2),.v (.int .i64 (i.2.1.2.2.1)),.v (.int .i64 (i.2.1.2.2.2))])],res:=λ_=>.bad,rn:=[],gr:=true,γ:=Unit,resG:=λi _=>bS i.2.2.1,LG:=λi _=>[],okG:=λi _=>True,rdsG:=λi _=>[],fzr:=[] }
theorem k16_ok:CSOk Tryz.prog k16:=by
 refine R.cspecG Tryz.func16 (nq9 Tryz.func16) rfl rfl (λ_=>rfl) ?_;rintro⟨b,c,r,⟨⟨h,i⟩,⟨j,m⟩⟩⟩ ⟨hok,f,g⟩ q hrds args hargs;obtain⟨d,e,_⟩:=hrds;dsimp only at d f e g;dsimp only[k16] at hargs ⊢
 match args,hargs with
 |[_,_],hargs=>
 obtain⟨rfl,rfl,_⟩:=hargs;refine⟨envC [] false [],6,zi (zj),?_⟩;have H:zf (g16 b c) (λa=>a=r):=⟨r,hok,rfl⟩;unfold g16 at H;clear hok;refine zb H ?_ ?_<;>intro n H
 ·have hfin:=zo H
  first|subst hfin|rw[←hfin]
  refine⟨(),⟨trivial⟩,⟨trivial⟩,?_⟩
  repeat refine zU ?_
  trivial
 refine zb H ?_ ?_<;>intro o H
 ·refine zb H ?_ ?_<;>intro p H
  ·have hfin:=zo H
   first|subst hfin|rw[←hfin]
   refine⟨(),⟨trivial⟩,⟨trivial⟩,?_⟩
   repeat refine zU ?_
   trivial
  have hfin:=zo H
  first|subst hfin|rw[←hfin]
  refine⟨(),⟨trivial⟩,⟨trivial⟩,?_⟩
  repeat refine zU ?_
  trivial
 refine zb H ?_ ?_<;>intro s H
 ·have hfin:=zo H
  first|subst hfin|rw[←hfin]
  refine⟨(),⟨trivial⟩,⟨trivial⟩,?_⟩
  repeat refine zU ?_
  trivial
 refine rs_st d (by rw[ei_len,Nat.mul_one]) ?_;refine yI (l:=b.2.1) H λt H=>?_;refine rs_st e (by rw[ei_len,Nat.mul_one]) ?_;refine yI (l:=c.2.1) H λu H=>?_;have hfin:=zo H
 first|subst hfin|rw[←hfin]
 refine⟨(),⟨trivial⟩,⟨trivial⟩,?_⟩
 repeat refine zU ?_
 trivial
noncomputable def g8(b:List (Int×(List Int)×Int×Int))(c:List (Int×(List Int)×Int×Int)):Option (Bool):= if ¬((b.length:Nat):Int)=((c.length:Nat):Int) then some false else(jn (α:=_) (β:=Unit) (λd=>(y7 (σ:=Int) (ρ:=(Unit) ⊕ (Unit)) (λa=>if a<((b.length:Nat):Int) then(ck (0≤a∧a<((b.length:Nat):Int))<|ck (0≤a∧a<((c.length:Nat):Int))<|(g16 ((b.getD a.toNat default).1,(b.getD a.toNat default).2.1,(b.getD a.toNat default).2.2.1,(b.getD a.toNat default).2.2.2) ((c.getD a.toNat default).1,(c.getD a.toNat default).2.1,(c.getD a.toNat default).2.2.1,(c.getD a.toNat default).2.2.2)).bind λe=>if ¬(e=true) then some (.out (.inl (())))else(ck (inR .i64 (a+1))<|some (.go (a+1))))else some (.out (.inr (())))) 0).bind λf=>sm f (λg=>some false) (λh=>d ())) (λi=>some true))
noncomputable def k8:Eng.CS:={ f:=8,calm:=false,more:=0,ι:=(List (Int×(List Int)×Int×Int))×(List (Int×(List Int)×Int×Int))×Bool×((Option Addr×Nat)×(Option Addr×Nat))×(List (Int×((Option Addr×Nat)×List Int)×Int×Int)×List (Int×((Option Addr×Nat)×List Int)×Int×Int)),ok:=λi=>g8 i.1 i.2.1=some i.2.2.1∧i.1.length≤i.2.2.2.1.1.2∧i.2.1.length≤i.2.2.2.1.2.2∧i.2.2.2.2.1.map e37=i.1∧(∀p∈i.2.2.2.2.1,cap37 p)∧i.2.2.2.2.2.map e37=i.2.1∧(∀p∈i.2.2.2.2.2,cap37 p),rds:=λi=>[(i.2.2.2.1.1.1,ec c37 i.2.2.2.2.1),(i.2.2.2.1.2.1,ec c37 i.2.2.2.2.2)]++(i.2.2.2.2.1).flatMap R37++(i.2.2.2.2.2).flatMap R37,args:=λi=>[.w (.v (.slice i.2.2.2.1.1.1 i.1.length i.2.2.2.1.1.2)),.w (.v (.slice i.2.2.2.1.2.1 i.2.1.length i.2.2.2.1.2.2))],res:=λ_=>.bad,rn:=[],gr:=true,γ:=Unit,resG:=λi _=>bS i.2.2.1,LG:=λi _=>[],okG:=λi _=>True,rdsG:=λi _=>[],fzr:=[] }
theorem k8_ok:CSOk Tryz.prog k8:=by
 refine R.cspecG Tryz.func8 (nq9 Tryz.func8) rfl rfl (λ_=>rfl) ?_;rintro⟨g,j,r,⟨⟨ad,ae⟩,⟨af,ag⟩⟩,⟨l,m⟩⟩ ⟨hok,X,Y,s,F,t,G⟩ q hrds args hargs;obtain⟨hrds,I⟩:=y6.1 hrds;obtain⟨hrds,J⟩:=y6.1 hrds;obtain⟨x,y,_⟩:=hrds;dsimp only at x X y Y F J s G I t;dsimp only[k8] at hargs ⊢
 match args,hargs with
 |[_,_],hargs=>
 obtain⟨rfl,rfl,_⟩:=hargs;refine⟨envC [k16] false [(8,8)],6,zi (z8 ⟨nofun,λ_=>k16_ok⟩ (zj)),?_⟩;have H:zf (g8 g j) (λa=>a=r):=⟨r,hok,rfl⟩;unfold g8 at H;clear hok;refine zb H ?_ ?_<;>intro ah H
 ·have hfin:=zo H
  first|subst hfin|rw[←hfin]
  refine⟨(),⟨trivial⟩,⟨trivial⟩,?_⟩
  repeat refine zU ?_
  trivial
 refine R.cut_famG H 13 [] [] [] (λP=>[]) (λP=>[]) [] 0 (λH=>?_);refine And.intro ?_ ?_
 ·refine R.loop_famG (zN H) [0,1] [] [] (λ_ b=>[(5,.v (.int .i64 (b)))]) (λ_ b=>[]) 0 (λZ H=>?_);refine⟨(Z,_),⟨H⟩,⟨trivial⟩,?_⟩
  repeat refine zU ?_
  rintro ai d ⟨m0,b⟩ H _;obtain⟨a2,hm0,H⟩:=zO H;dsimp only at hm0;subst hm0
  try dsimp only at H
  refine zb H ?_ ?_<;>intro aj H
  ·refine And.intro ⟨by kernel_rfl⟩ ?_;refine⟨(Pn.calm 0 (Pn.calm 1 (Pn.calm 2 (Pn.calm 3 (Pn.calm 4 (Pn.calm 5 (Pn.calm 6 (Pn.calm 7 (Pn.eff 8 [3,7,2,6,0,1,4,5] (Pn.calm 9 Pn.done) Pn.no))))))))),⟨by kernel_rfl⟩,?_⟩;refine ob_ix (Reads.mono d x) (λh=>(xA s).symm.trans (ec0 x5 ww h)) H λu H=>?_;have B:e37 (l.getD b.toNat default)=g.getD b.toNat default:=er_get s (tn u);have a3:(l.getD b.toNat default).1=(g.getD b.toNat default).1:=congrArg (λz=>z.1) B;refine yu (e:=(g.getD b.toNat default).1) ((yr (Reads.mono d x) ((w6 (i:=b.toNat) (o:=0) x5 (Nat.lt_of_lt_of_eq (tn u) (xA s).symm) ww).trans rfl)).trans (congrArg (λz=>some (Value.int .i64 z)) a3)) ?_;have L:(l.getD b.toNat default).2.1.2=(g.getD b.toNat default).2.1:=congrArg (λz=>z.2.1) B;obtain⟨Q,M,C⟩:∃A c,(A=(l.getD b.toNat default).2.1.1.1∧c=(l.getD b.toNat default).2.1.1.2):=⟨_,_,rfl,rfl⟩;have T:=rd_eq (f:=ei .u8) L ((λp hp=>P37.mono d ((P37.of J F) p hp)) _ (getD_mem (Nat.lt_of_lt_of_eq (tn u) (xA s).symm))).1;rw[←C.1] at T;have a4:((g.getD b.toNat default).2.1).length≤M:=by rw[C.2];exact Nat.le_trans (Nat.le_of_eq (congrArg List.length L.symm)) ((λp hp=>P37.mono d ((P37.of J F) p hp)) _ (getD_mem (Nat.lt_of_lt_of_eq (tn u) (xA s).symm))).2
   refine ld_sl (A:=Q) (n:=((g.getD b.toNat default).2.1).length) (c:=M) (by rw[C.1,C.2];exact(yr (Reads.mono d x) ((w6 (i:=b.toNat) (o:=1) x5 (Nat.lt_of_lt_of_eq (tn u) (xA s).symm) ww).trans rfl)).trans (congrArg (λz=>some (Value.slice (l.getD b.toNat default).2.1.1.1 z (l.getD b.toNat default).2.1.1.2)) (congrArg List.length L))) ?_;have a5:(l.getD b.toNat default).2.2.1=(g.getD b.toNat default).2.2.1:=congrArg (λz=>z.2.2.1) B;refine yu (e:=(g.getD b.toNat default).2.2.1) ((yr (Reads.mono d x) ((w6 (i:=b.toNat) (o:=2) x5 (Nat.lt_of_lt_of_eq (tn u) (xA s).symm) ww).trans rfl)).trans (congrArg (λz=>some (Value.int .i64 z)) a5)) ?_;have a6:(l.getD b.toNat default).2.2.2=(g.getD b.toNat default).2.2.2:=congrArg (λz=>z.2.2.2) B;refine yu (e:=(g.getD b.toNat default).2.2.2) ((yr (Reads.mono d x) ((w6 (i:=b.toNat) (o:=3) x5 (Nat.lt_of_lt_of_eq (tn u) (xA s).symm) ww).trans rfl)).trans (congrArg (λz=>some (Value.int .i64 z)) a6)) ?_;refine ob_ix (Reads.mono d y) (λh=>(xA t).symm.trans (ec0 x5 ww h)) H λw H=>?_;have D:e37 (m.getD b.toNat default)=j.getD b.toNat default:=er_get t (tn w);have a7:(m.getD b.toNat default).1=(j.getD b.toNat default).1:=congrArg (λz=>z.1) D;refine yu (e:=(j.getD b.toNat default).1) ((yr (Reads.mono d y) ((w6 (i:=b.toNat) (o:=0) x5 (Nat.lt_of_lt_of_eq (tn w) (xA t).symm) ww).trans rfl)).trans (congrArg (λz=>some (Value.int .i64 z)) a7)) ?_;have N:(m.getD b.toNat default).2.1.2=(j.getD b.toNat default).2.1:=congrArg (λz=>z.2.1) D;obtain⟨U,O,E⟩:∃A c,(A=(m.getD b.toNat default).2.1.1.1∧c=(m.getD b.toNat default).2.1.1.2):=⟨_,_,rfl,rfl⟩;have V:=rd_eq (f:=ei .u8) N ((λp hp=>P37.mono d ((P37.of I G) p hp)) _ (getD_mem (Nat.lt_of_lt_of_eq (tn w) (xA t).symm))).1;rw[←E.1] at V;have a8:((j.getD b.toNat default).2.1).length≤O:=by rw[E.2];exact Nat.le_trans (Nat.le_of_eq (congrArg List.length N.symm)) ((λp hp=>P37.mono d ((P37.of I G) p hp)) _ (getD_mem (Nat.lt_of_lt_of_eq (tn w) (xA t).symm))).2
   refine ld_sl (A:=U) (n:=((j.getD b.toNat default).2.1).length) (c:=O) (by rw[E.1,E.2];exact(yr (Reads.mono d y) ((w6 (i:=b.toNat) (o:=1) x5 (Nat.lt_of_lt_of_eq (tn w) (xA t).symm) ww).trans rfl)).trans (congrArg (λz=>some (Value.slice (m.getD b.toNat default).2.1.1.1 z (m.getD b.toNat default).2.1.1.2)) (congrArg List.length N))) ?_;have a9:(m.getD b.toNat default).2.2.1=(j.getD b.toNat default).2.2.1:=congrArg (λz=>z.2.2.1) D;refine yu (e:=(j.getD b.toNat default).2.2.1) ((yr (Reads.mono d y) ((w6 (i:=b.toNat) (o:=2) x5 (Nat.lt_of_lt_of_eq (tn w) (xA t).symm) ww).trans rfl)).trans (congrArg (λz=>some (Value.int .i64 z)) a9)) ?_;have aa:(m.getD b.toNat default).2.2.2=(j.getD b.toNat default).2.2.2:=congrArg (λz=>z.2.2.2) D;refine yu (e:=(j.getD b.toNat default).2.2.2) ((yr (Reads.mono d y) ((w6 (i:=b.toNat) (o:=3) x5 (Nat.lt_of_lt_of_eq (tn w) (xA t).symm) ww).trans rfl)).trans (congrArg (λz=>some (Value.int .i64 z)) aa)) ?_;refine And.intro ?_ trivial;obtain⟨ab,ac,H⟩:=za H;refine⟨(((g.getD b.toNat default).1,(g.getD b.toNat default).2.1,(g.getD b.toNat default).2.2.1,(g.getD b.toNat default).2.2.2),((j.getD b.toNat default).1,(j.getD b.toNat default).2.1,(j.getD b.toNat default).2.2.1,(j.getD b.toNat default).2.2.2),ab,((Q,M),(U,O))),⟨ac,a4,a8⟩,⟨⟨T,V,trivial⟩⟩,?_⟩
   iterate 8 refine⟨⟨rfl⟩,?_⟩
   intro al am W an ao;refine And.intro ⟨λ_ _ _ h=>(W _ _ _ h)⟩ ?_;refine zb H ?_ ?_<;>intro ap H
   ·replace H:=zw H;dsimp only[stp,sm] at H;have hfin:=zo H
    first|subst hfin|rw[←hfin]
    refine⟨(),⟨trivial⟩,⟨trivial⟩,?_⟩
    repeat refine zU ?_
    trivial
   refine zr H λaq H=>?_;replace H:=zw H;refine⟨(a2,b+1),⟨H,Nat.lt_succ_self _⟩,⟨trivial⟩,⟨λ_ _ _ h=>(W _ _ _ (d _ _ _ h))⟩,?_⟩
   repeat refine zU ?_
   trivial
  replace H:=zw H;dsimp only[stp,sm] at H;refine⟨(),⟨H⟩,⟨λ_ _ _ h=>(d _ _ _ h)⟩,?_⟩
  repeat refine zU ?_
  trivial
 intro ar au P H;have hfin:=zo H
 first|subst hfin|rw[←hfin]
 refine⟨(),⟨trivial⟩,⟨trivial⟩,?_⟩
 repeat refine zU ?_
 trivial
noncomputable def g9(h:ByteArray)(d:List (Int×ByteArray))(e:Int):Option (Bool):= jn (α:=_) (β:=Int) (λf=>(y7 (σ:=Int×Int×ByteArray) (ρ:=(Int) ⊕ ((Int) ⊕ (Int))) (λa=>if 0<(a.2.2.size:Int) then(jn (α:=_) (β:=ByteArray×ByteArray) (λg=>(g26 a.2.2 10).bind λb=>if 0≤b then(ck (0≤(0:Int)∧(0:Int)≤b∧b≤(a.2.2.size:Int))<|ck (inR .i64 (b+1))<|ck (0≤b+1∧b+1≤(a.2.2.size:Int)∧(a.2.2.size:Int)≤(a.2.2.size:Int))<|g (a.2.2.extract (b+1).toNat (a.2.2.size:Int).toNat,a.2.2.extract (0:Int).toNat b.toNat))else g ((lit []),a.2.2)) (λc=>ck (inR .i64 (a.2.1+1))<|if c.2.data.toList=(lit []).data.toList then some (.go (a.1,a.2.1+1,c.1))else(ck (0≤(0:Int)∧0<(c.2.size:Int))<|if ((c.2.data.toList[(0:Int).toNat]?.getD 0).toNat:Int)=35 then some (.go (a.1,a.2.1+1,c.1))else(if e≤a.1 then some (.out (.inl (a.1)))else(if ((d.length:Nat):Int)≤a.1 then some (.out (.inr (.inl (a.1))))else(ck (0≤a.1∧a.1<((d.length:Nat):Int))<|if ¬(a.2.1+1)=((d.getD a.1.toNat default).1) then some (.out (.inr (.inl (a.1))))else(ck (0≤a.1∧a.1<((d.length:Nat):Int))<|if ¬(c.2.data.toList=((d.getD a.1.toNat default).2).data.toList) then some (.out (.inr (.inl (a.1))))else(ck (inR .i64 (a.1+1))<|some (.go (a.1+1,a.2.1+1,c.1))))))))))else some (.out (.inr (.inr (a.1))))) (0,0,h)).bind λi=>sm i (λj=>f j) (λl=>sm l (λo=>some false) (λm=>f m))) (λn=>some (decide (n=(gmin e ((d.length:Nat):Int)))))
noncomputable def k9:Eng.CS:={ f:=9,calm:=true,more:=0,ι:=ByteArray×(List (Int×ByteArray))×Int×Bool,ok:=λi=>g9 i.1 i.2.1 i.2.2.1=some i.2.2.2,rds:=λ_=>[],args:=λi=>[.w (.v (.string (i.1))),.sl 2 i.2.1.length (ec c49 i.2.1),.w (.v (.int .i64 (i.2.2.1)))],res:=λi=>bS i.2.2.2 }
theorem zdSR2_SR2{p:Prop}(h:p:=by repeat' first|refine zb H ?_ ?_<;>intro _ H|refine zr H λ_ H=>?_|(obtain⟨_,hv,H⟩:=za H;first|refine⟨(_,_),⟨hv⟩,⟨trivial⟩,?_⟩|refine⟨(_,_,_),⟨hv⟩,⟨trivial⟩,?_⟩|refine⟨(_,_,_,_),⟨hv⟩,⟨trivial⟩,?_⟩)|refine⟨⟨rfl⟩,?_⟩|(have hfin:=zo H;(repeat refine mf1SR2 ?_);trivial)|(have hfin:=zo H;(first|subst hfin|rw[←hfin]);refine⟨(none,_),⟨Nat.le_refl _⟩,⟨⟨Reads.nil,trivial⟩⟩,?_⟩;(repeat refine zU ?_);trivial)|((first|refine⟨(),⟨H⟩,⟨rfl⟩,?_⟩|refine⟨_,⟨H⟩,⟨rfl⟩,?_⟩);(repeat refine zU ?_);trivial)|(replace H:=zw H;refine⟨(_,_),⟨H,Nat.lt_succ_self _⟩,⟨trivial⟩,?_⟩;(repeat refine zU ?_);trivial)|(replace H:=zw H;dsimp only[stp,sm] at H)|refine zU ?_):p:=h
theorem k9_ok:zp Tryz.prog k9:=by
 refine R.calmspec Tryz.func9 (nq9 Tryz.func9) rfl ?_;rintro⟨g,c,j,r⟩ hok q _ args hargs
 match args,hargs with
 |[_,_,_],hargs=>
 obtain⟨rfl,⟨m,n,rfl,u,_,d⟩,rfl,_⟩:=hargs;refine⟨envC [k26] false [(9,12),(25,9)],6,zi (z8 ⟨λ_=>k26_ok,nofun⟩ (zj)),rfl,(nM3 rfl rfl rfl),?_⟩;have H:zf (g9 g c j) (λa=>a=r):=⟨r,hok,rfl⟩;unfold g9 at H;clear hok;refine R.cut_fam H 62 [4,5,6,8] [] (λl=>[]) (λl=>[(12,.cells 3 [.v (.int .i64 (l))])]) [(0,.cells 28 [.v (.slice (m) (c.length) (n))]),(1,.cells 3 [.v (.int .i64 (j))]),(2,.cells 4 [.bb false]),(6,.cells 9 [.v (.string (g))])] 0 (λH=>?_);refine And.intro ?_ ?_
 ·refine R.loop_fam (zN H) [0] [] (λ_ b=>[(3,.v (.int .i64 (b.2.1))),(4,.v (.string (b.2.2)))]) (λ_ b=>[(12,.cells 3 [.v (.int .i64 (b.1))])]) 0 (λp H=>?_);refine⟨(p,_),⟨H⟩,⟨trivial⟩,?_⟩
  repeat refine zU ?_
  rintro⟨m0,b⟩ H _;obtain⟨w,hm0,H⟩:=zO H;dsimp only at hm0;subst hm0
  try dsimp only at H
  refine zb H ?_ ?_<;>intro x H
  ·refine R.cut_fam H 40 [0,3] [] (λf=>[(4,.v (.string (f.1))),(5,.v (.string (f.2)))]) (λf=>[]) [(12,.cells 3 [.v (.int .i64 (b.1))]),(0,.cells 28 [.v (.slice (m) (c.length) (n))]),(1,.cells 3 [.v (.int .i64 (j))]),(2,.cells 4 [.bb false]),(6,.cells 9 [.v (.string (g))]),(15,.loop .ready none),(16,.dfr)] 0 (λH=>?_);refine And.intro ?_ ?_
   ·exact zdSR2_
   intro f H;refine zr H λy H=>?_;refine zb H ?_ ?_<;>intro z H
   ·exact zdSR2_
   refine zr H λA H=>?_;refine zb H ?_ ?_<;>intro B H
   ·exact zdSR2_
   refine zb H ?_ ?_<;>intro C H
   ·exact zdSR2_
   refine zb H ?_ ?_<;>intro D H
   ·exact zd_SR2
   refine ob_ix d (λh=>ec0 c49_len ww h) H λs H=>?_;refine yu (e:=(c.getD b.1.toNat default).1) (yr d ((w6 (i:=b.1.toNat) (o:=0) c49_len (tn s) ww).trans rfl)) ?_;refine zb H ?_ ?_<;>intro E H
   ·exact zd_SR2
   refine ob_ix d (λh=>ec0 c49_len ww h) H λt H=>?_;refine ld_str (e:=(c.getD b.1.toNat default).2) (yr d ((w6 (i:=b.1.toNat) (o:=1) c49_len (tn t) ww).trans rfl)) ?_;exact zdSR2_SR2
  exact zdSR2_
 intro l H;exact zd_SR2
noncomputable def g3(a:ByteArray)(e:Int):Option (Bool):= ck (0≤(0:Int)∧(0:Int)≤gmin (a.size:Int) 70000∧gmin (a.size:Int) 70000≤(a.size:Int))<|(g5 (a.extract (0:Int).toNat (gmin (a.size:Int) 70000).toNat)).bind λc=>(g6 (a.extract (0:Int).toNat (gmin (a.size:Int) 70000).toNat)).bind λd=>(g7 (a.extract (0:Int).toNat (gmin (a.size:Int) 70000).toNat)).bind λb=>(g8 c.1 d.1).bind λf=>if f=true then(if c.2.1=d.2.1 then(if c.2.2=d.2.2 then(ck (inR .i64 e)<|(g9 (a.extract (0:Int).toNat (gmin (a.size:Int) 70000).toNat) b e).bind λg=>if g=true then(ck (inR .i64 (((b.length:Nat):Int)+1))<|(g9 (a.extract (0:Int).toNat (gmin (a.size:Int) 70000).toNat) b (((b.length:Nat):Int)+1)).bind λh=>if h=true then((g10).bind λi=>some i)else some false)else some false)else some false)else some false)else some false
noncomputable def k3:Eng.CS:={ f:=3,calm:=false,more:=0,ι:=ByteArray×Int×Bool×Int,ok:=λi=>g3 i.1 i.2.1=some i.2.2.1,rds:=λi=>[(some ⟨0,0,none⟩,[.int .i64 i.2.2.2])],args:=λi=>[.w (.v (.string (i.1))),.w (.v (.int .u8 (i.2.1)))],res:=λ_=>.bad,rn:=[],gr:=true,γ:=Unit,resG:=λi _=>bS i.2.2.1,LG:=λi _=>[],okG:=λi _=>True,rdsG:=λi _=>[],fzr:=[] }
theorem k3_ok:CSOk Tryz.prog k3:=by
 refine R.cspecG Tryz.func3 (nq9 Tryz.func3) rfl rfl (λ_=>rfl) ?_;rintro⟨b,l,r,mM⟩ hok q hrds args hargs;obtain⟨hM,_⟩:=hrds;dsimp only[k3] at hargs ⊢
 match args,hargs with
 |[_,_],hargs=>
 obtain⟨rfl,rfl,_⟩:=hargs;refine⟨envC [k5,k6,k7,k8,k9,k10] false [],6,zi (z8 ⟨nofun,λ_=>k5_ok⟩ (z8 ⟨nofun,λ_=>k6_ok⟩ (z8 ⟨nofun,λ_=>k7_ok⟩ (z8 ⟨nofun,λ_=>k8_ok⟩ (z8 ⟨λ_=>k9_ok,nofun⟩ (z8 ⟨λ_=>k10_ok,nofun⟩ (zj))))))),?_⟩;have H:zf (g3 b l) (λa=>a=r):=⟨r,hok,rfl⟩;unfold g3 at H;clear hok;refine zr H λW H=>?_;obtain⟨m,x,H⟩:=za H;refine⟨(b.extract (0:Int).toNat (gmin (b.size:Int) 70000).toNat,m,mM),⟨x⟩,⟨⟨hM,trivial⟩⟩,?_⟩;refine⟨⟨rfl⟩,?_⟩;intro X y Y z d;obtain⟨⟨A,B⟩,C⟩:=y;obtain⟨n,o,e⟩:=z;obtain⟨d,f⟩:=y6.1 d;obtain⟨s,_⟩:=d
 try dsimp only at n s e f o
 obtain⟨t,D,H⟩:=za H;refine⟨(b.extract (0:Int).toNat (gmin (b.size:Int) 70000).toNat,t),⟨D⟩,⟨trivial⟩,?_⟩;refine⟨⟨rfl⟩,?_⟩;intro Z E g F h;obtain⟨⟨G,I⟩,J⟩:=E;obtain⟨u,v,i⟩:=F;obtain⟨h,j⟩:=y6.1 h;obtain⟨w,_⟩:=h
 try dsimp only at u w i j v
 obtain⟨c,L,H⟩:=za H;refine⟨(b.extract (0:Int).toNat (gmin (b.size:Int) 70000).toNat,c),⟨L⟩,⟨trivial⟩,?_⟩;refine⟨⟨rfl⟩,?_⟩;obtain⟨M,N,H⟩:=za H;refine⟨(m.1,t.1,M,((A,B),(G,I)),(C,J)),⟨N,n,u,o,P37.cap (λp hp=>P37.mono g ((P37.of f e) p hp)),v,P37.cap (P37.of j i)⟩,⟨(y6.2 ⟨(y6.2 ⟨⟨(Reads.mono g s),w,trivial⟩,P37.rds (λp hp=>P37.mono g ((P37.of f e) p hp))⟩),P37.rds (P37.of j i)⟩)⟩,?_⟩
 iterate 2 refine⟨⟨rfl⟩,?_⟩
 intro a2 a3 a4 a5 a6;refine zb H ?_ ?_<;>intro a7 H
 ·refine zb H ?_ ?_<;>intro a8 H
  ·refine zb H ?_ ?_<;>intro a9 H
   ·refine zr H λaa H=>?_;obtain⟨O,P,H⟩:=za H;refine⟨(b.extract (0:Int).toNat (gmin (b.size:Int) 70000).toNat,c,l,O),⟨P⟩,⟨trivial⟩,?_⟩;refine⟨⟨rfl⟩,?_⟩;refine And.intro ⟨by first|rfl|(simp;done),by first|rfl|(simp[ei,eb,es,ec,c37,c49];done)|(simp only[ei,eb,es,ec,c37,c49,List.map_append,List.nil_append,List.append_assoc];rfl)⟩ ?_;refine⟨⟨rfl⟩,?_⟩;refine zb H ?_ ?_<;>intro ab H
    ·refine zr H λac H=>?_;obtain⟨Q,T,H⟩:=za H;refine⟨(b.extract (0:Int).toNat (gmin (b.size:Int) 70000).toNat,c,((c.length:Nat):Int)+1,Q),⟨T⟩,⟨trivial⟩,?_⟩;refine⟨⟨rfl⟩,?_⟩;refine And.intro ⟨by first|rfl|(simp;done),by first|rfl|(simp[ei,eb,es,ec,c37,c49];done)|(simp only[ei,eb,es,ec,c37,c49,List.map_append,List.nil_append,List.append_assoc];rfl)⟩ ?_;refine⟨⟨rfl⟩,?_⟩;refine zb H ?_ ?_<;>intro ad H
     ·obtain⟨U,V,H⟩:=za H;refine⟨U,⟨V⟩,⟨trivial⟩,?_⟩;have hfin:=zo H
      first|subst hfin|rw[←hfin]
      refine⟨(),⟨trivial⟩,⟨trivial⟩,?_⟩
      repeat refine zU ?_
      trivial
     have hfin:=zo H
     first|subst hfin|rw[←hfin]
     refine⟨(),⟨trivial⟩,⟨trivial⟩,?_⟩
     repeat refine zU ?_
     trivial
    have hfin:=zo H
    first|subst hfin|rw[←hfin]
    refine⟨(),⟨trivial⟩,⟨trivial⟩,?_⟩
    repeat refine zU ?_
    trivial
   have hfin:=zo H
   first|subst hfin|rw[←hfin]
   refine⟨(),⟨trivial⟩,⟨trivial⟩,?_⟩
   repeat refine zU ?_
   trivial
  have hfin:=zo H
  first|subst hfin|rw[←hfin]
  refine⟨(),⟨trivial⟩,⟨trivial⟩,?_⟩
  repeat refine zU ?_
  trivial
 have hfin:=zo H
 first|subst hfin|rw[←hfin]
 refine⟨(),⟨trivial⟩,⟨trivial⟩,?_⟩
 repeat refine zU ?_
 trivial
namespace KM
abbrev Ky:=Int×ByteArray×Int×Bool×Bool×Bool
def bl(l:List UInt8):ByteArray:=⟨l.toArray⟩
theorem bl_of(s:ByteArray):bl s.data.toList=s:=by cases s;rfl
theorem bl_tl(l:List UInt8):(bl l).data.toList=l:=by simp[bl]
theorem bl_size(l:List UInt8):(bl l).size=l.length:=by simp[bl,ByteArray.size]
theorem tl_size(s:ByteArray):s.data.toList.length=s.size:=Array.length_toList
theorem bl_app(a b:List UInt8):bl (a++b)=bl a++bl b:=by apply ByteArray.ext;apply Array.ext';simp[bl]
def sgn:List UInt8→Bool
 |[c]=>decide ((97≤c.toNat∧c.toNat≤122)∨c.toNat=64∨(91≤c.toNat∧c.toNat≤95))
 |_=>false
theorem sign_eq(s:ByteArray):g206 s=some (sgn s.data.toList):=by
 have hz:=tl_size s;generalize hl:s.data.toList=l at hz;refine g_eq ?_;unfold g206;rw[hl];refine g_if (λh=>?_) λh=>?_
 ·refine z7 ?_
  match l,hz with
  |[],_=>rfl
  |[c],hz=>exact absurd (by simp at hz;omega) h
  |_::_::_,_=>rfl
 obtain⟨c,rfl⟩:∃c,l=[c]:=by
  match l,hz with
  |[],hz=>simp at hz;omega
  |[c],hz=>exact⟨c,rfl⟩
  |_::_::_,hz=>simp at hz;omega
 have e:((([c]:List UInt8)[(0:Int).toNat]?.getD 0).toNat:Int)=c.toNat:=rfl;rw[e];unfold sgn;refine g_ck ws (g_if (λh1=>?_) λh1=>?_)
 ·refine g_if (λh2=>z7 (decide_eq_true ws).symm) λh2=>?_;refine g_if (λh3=>z7 (decide_eq_true ws).symm) λh3=>?_;exact g_if (λh4=>z7 (decide_eq_decide.2 ws)) λh4=>z7 (decide_eq_false ws).symm
 refine g_if (λh3=>z7 (decide_eq_true ws).symm) λh3=>?_;exact g_if (λh4=>z7 (decide_eq_decide.2 ws)) λh4=>z7 (decide_eq_false ws).symm
def ckK(c:Int)(S:List UInt8)(N:Int):Bool:=
 decide (1≤c∧c≤18)&&(if c=1∨c=16 then decide (S.length≤65536∧N=0) else if c=17 then sgn S&&decide (N=0) else if c=18 then decide (S=[]∧1≤N∧N≤12) else decide (S=[]∧N=0))
theorem check_eq(k:Ky):g125 k=some (if ckK k.1 k.2.1.data.toList k.2.2.1=true then 0 else 80):=by
 obtain⟨c,S,N,al,sh,ct⟩:=k;have hz:=tl_size S;refine g_eq ?_;unfold g125 ckK;dsimp only;have e0:(lit []).data.toList=([]:List UInt8):=rfl;generalize hl:S.data.toList=l at hz ⊢;refine g_jn (λv=>v=decide (l=[]∧N=0)) (λk hk=>?_) λv hv=>?_
 ·refine g_if (λh=>hk _ (decide_eq_decide.2 ⟨λe=>⟨h,e⟩,λe=>e.2⟩)) λh=>hk _ (decide_eq_false λe=>h e.1).symm
 subst hv;refine g_jn (λv=>v=(if c=1∨c=16 then decide (l.length≤65536∧N=0) else if c=17 then sgn l&&decide (N=0) else if c=18 then decide (l=[]∧1≤N∧N≤12) else decide (l=[]∧N=0))) (λk hk=>?_) λv hv=>?_
 ·refine g_jn (λv=>v=decide (c=1∨c=16)) (λk2 hk2=>?_) λv hv=>?_
  ·exact g_if (λh=>hk2 _ (decide_eq_decide.2 ⟨λe=>.inl e,λ_=>h⟩)) λh=>hk2 _ (decide_eq_decide.2 ⟨λe=>.inr e,λe=>e.resolve_left h⟩)
  subst hv;refine g_if (λh=>?_) λh=>?_
  ·have h:=of_decide_eq_true h;refine g_if (λh2=>hk _ ?_) λh2=>hk _ ?_
   ·rw[if_pos h];exact decide_eq_decide.2 ⟨λe=>⟨by omega,e⟩,λe=>e.2⟩
   rw[if_pos h,decide_eq_false ws]
  have h:¬(c=1∨c=16):=λe=>h (decide_eq_true e);refine g_if (λh7=>?_) λh7=>?_
  ·refine zh (sign_eq S) ?_;have hS:sgn S.data.toList=sgn l:=by rw[hl]
   rw[hS];refine g_if (λh2=>hk _ ?_) λh2=>hk _ ?_
   ·rw[if_neg h,if_pos h7,h2,Bool.true_and]
   rw[if_neg h,if_pos h7,Bool.eq_false_iff.2 h2,Bool.false_and]
  refine g_if (λh8=>?_) λh8=>hk _ (by rw[if_neg h,if_neg h7,if_neg h8]);refine g_if (λh2=>?_) λh2=>hk _ (by rw[if_neg h,if_neg h7,if_pos h8,decide_eq_false λe=>h2 e.1]);refine g_if (λh3=>hk _ ?_) λh3=>hk _ (by rw[if_neg h,if_neg h7,if_pos h8,decide_eq_false λe=>h3 e.2.1]);rw[if_neg h,if_neg h7,if_pos h8];exact decide_eq_decide.2 ⟨λe=>⟨h2,h3,e⟩,λe=>e.2.2⟩
 rw[←hv];refine g_if (λh=>z7 ?_) λh=>?_
 ·rw[Bool.eq_false_iff.2 h,Bool.and_false];rfl
 have h:v=true:=by cases v<;>simp_all
 rw[h,Bool.and_true];refine g_if (λh1=>z7 (by rw[if_neg];simp;omega)) λh1=>?_;refine g_if (λh2=>z7 (by rw[if_neg];simp;omega)) λh2=>z7 (by rw[if_pos];simp;omega)
def twl(n:Nat):List UInt8:=if n<10 then[UInt8.ofNat (48+n)] else[49,UInt8.ofNat (38+n)]
theorem str_one(n:Nat)(h:n<256):zW [(n:Int)]=bl [UInt8.ofNat n]:=by
 apply ByteArray.ext;apply Array.ext';simp[zW,bl]
theorem twelve_eq{n:Nat}(h1:1≤n)(h2:n≤12):g122 (n:Int)=some (bl (twl n)):=by
 refine g_eq ?_;unfold g122 twl;refine g_if (λh=>?_) λh=>?_
 ·rw[if_neg ws];have hw:IntKind.wrap .u8 (48+(n:Int)-10)=((38+n:Nat):Int):=by rw[IntKind.wrap_u8];omega
  rw[hw,str_one _ ws];refine zJ ws (zJ ws (g_ck (λc hc=>?_) (g_ck ?_ (z7 ?_))))
  ·rcases List.mem_cons.1 hc with rfl|hc
   ·omega
   cases hc
  ·rw[bl_size];simp[lit,ByteArray.size]
  exact(bl_app [49] _).symm
 rw[if_pos ws];have hw:IntKind.wrap .u8 (48+(n:Int))=((48+n:Nat):Int):=by rw[IntKind.wrap_u8];omega
 rw[hw,str_one _ ws];refine zJ ws (g_ck (λc hc=>?_) (z7 rfl));rcases List.mem_cons.1 hc with rfl|hc
 ·omega
 cases hc
def wds:List (List UInt8):=[[116,101,120,116],[101,110,116,101,114],[116,97,98],[98,97,99,107,116,97,98],[101,115,99,97,112,101],[98,97,99,107,115,112,97,99,101],[100,101,108,101,116,101],[117,112],[100,111,119,110],[108,101,102,116],[114,105,103,104,116],[104,111,109,101],[101,110,100],[112,97,103,101,117,112],[112,97,103,101,100,111,119,110],[112,97,115,116,101],[99,116,114,108,45],[102]]
theorem codes_eq:g124=some (wds.map lit):=rfl
def idx(l:List UInt8):List (List UInt8)→Int→Int
 |[],_=>-1
 |w::t,i=>if l=w then i else idx l t (i+1)
theorem index_eq(s:ByteArray):g123 (wds.map lit) s=some (idx s.data.toList wds 0):=by
 refine g_eq ?_;generalize hl:s.data.toList=l;unfold g123;rw[hl];have hw:(wds.map lit).length=18:=rfl;refine g_jo ?_;refine y3 (Ω:=λo=>idx l wds 0=sm o (λi=>i) (λ_=>-1)) (yf (λt:Int=>∃i:Nat,t=i∧i≤18∧idx l wds 0=idx l (wds.drop i) i) (λt=>18-t.toNat) ?_ ⟨0,rfl,Nat.zero_le _,rfl⟩) ?_
 ·rintro _ ⟨i,rfl,hi,hv⟩;refine g_if (λhr=>?_) λhr=>?_
  ·have hi':i<wds.length:=by show i<18;omega
   have hd:wds.drop i=wds[i]::wds.drop (i+1):=List.drop_eq_getElem_cons hi';rw[hd,idx] at hv
   have he:((wds.map lit).getD ((i:Int)).toNat default).data.toList=wds[i]:=by
    rw[Int.toNat_natCast,List.getD_eq_getElem?_getD,List.getElem?_map,List.getElem?_eq_getElem hi'];simp[lit]
   rw[he];refine g_ck ws (g_if (λh=>?_) λh=>?_)
   ·rw[if_pos h] at hv;exact zP hv
   rw[if_neg h] at hv;exact zJ ws (g_go ⟨i+1,by omega,by omega,by rw[hv];rfl⟩ (by show 18-((i:Int)+1).toNat<18-((i:Int)).toNat;omega))
  have:wds.drop i=[]:=by rw[List.drop_eq_nil_iff];show 18≤i;omega
  rw[this] at hv;exact zP hv
 intro o ho;rw[ho];refine g_sm (λb hb=>?_) λc hc=>?_
 ·subst hb;exact z7 rfl
 subst hc;exact z7 rfl
def fnum(l:List UInt8):Nat→Option Nat
 |0=>none
 |k+1=>if l=102::twl (12-k) then some (12-k) else fnum l k
def codeP(l:List UInt8):Int×Int:=match fnum l 12 with|some n=>(18,n)|none=>(idx l wds 0+1,0)
theorem idx_rng(l:List UInt8):∀(w:List (List UInt8)) (i:Int),0≤i→-1≤idx l w i∧idx l w i<i+w.length
 |[],i,h=>by simp[idx];omega
 |w::t,i,h=>by
  unfold idx;have:=idx_rng l t (i+1) ws;split<;>simp<;>omega
theorem code_eq(s:ByteArray):g61 s=some (codeP s.data.toList):=by
 refine g_eq ?_;unfold g61;refine g_jo ?_;refine y3 (Ω:=λo=>fnum s.data.toList 12=sm o (λi=>some i.toNat) (λ_=>none)∧∀i,o=.inl i→0≤i) (yf (λt:Int=>∃i:Nat,t=i∧1≤i∧i≤13∧fnum s.data.toList 12=fnum s.data.toList (13-i)) (λt=>13-t.toNat) ?_ ⟨1,rfl,by omega,by omega,rfl⟩) ?_
 ·rintro _ ⟨i,rfl,h1,hi,hv⟩;refine g_if (λhr=>?_) λhr=>?_
  ·refine zh (twelve_eq h1 ws) (g_ck ?_ ?_)
   ·rw[bl_size];unfold twl;split<;>simp[lit,ByteArray.size]
   have he:((lit [102])++bl (twl i)).data.toList=102::twl i:=by
    rw[show lit [102]=bl [102] from rfl,←bl_app,bl_tl];rfl
   have hf:fnum s.data.toList (13-i)=if s.data.toList=102::twl i then some i else fnum s.data.toList (12-i):=by
    rw[show 13-i=(12-i)+1 by omega,fnum,show 12-(12-i)=i by omega]
   rw[he];rw[hf] at hv;refine g_if (λh=>?_) λh=>?_
   ·rw[if_pos h] at hv;exact zP ⟨by rw[hv];rfl,λj e=>by cases e;omega⟩
   rw[if_neg h] at hv;exact zJ ws (g_go ⟨i+1,by omega,by omega,by omega,by rw[hv,show 13-(i+1)=12-i by omega]⟩ (by show 13-((i:Int)+1).toNat<13-((i:Int)).toNat;omega))
  have:i=13:=by omega
  subst this;exact zP ⟨hv,λj e=>by cases e⟩
 rintro o ⟨ho,hn⟩;unfold codeP;rw[ho];refine g_sm (λb hb=>?_) λc hc=>?_
 ·subst hb;refine z7 ?_;show(18,b)=(18,((b.toNat:Nat):Int));rw[Int.toNat_of_nonneg (hn b rfl)]
 subst hc;have:=idx_rng s.data.toList wds 0 ws;have hw:wds.length=18:=rfl;exact zh codes_eq (zh (index_eq s) (zJ ws (z7 rfl)))
def cp(s p:List UInt8):List UInt8×Bool:=if s.take p.length=p then(s.drop p.length,true) else(s,false)
theorem wg(s:ByteArray)(p:List UInt8):g60 s (lit p)=some (bl (cp s.data.toList p).1,(cp s.data.toList p).2):=by
 have hz:=tl_size s;have hp:(lit p).size=p.length:=by simp[lit,ByteArray.size]
 have h158:g205 s (lit p)=some (decide (s.data.toList.take p.length=p)):=by
  refine g_eq ?_;unfold g205;rw[hp];refine g_if (λh=>g_ck ws (z7 ?_)) λh=>z7 ?_
  ·have e:(s.extract (0:Int).toNat ((p.length:Int)).toNat).data.toList=s.data.toList.take p.length:=by
    rw[ByteArray.data_extract,Array.toList_extract];simp[List.extract]
   rw[e];rfl
  refine(decide_eq_false λe=>h ?_).symm;have:=congrArg List.length e;rw[List.length_take] at this;omega
 refine g_eq ?_;unfold g60 g121 cp;refine y3 (Ω:=λv=>v=(if s.data.toList.take p.length=p then(bl (s.data.toList.drop p.length),true) else(s,false))) ?_ ?_
 ·refine zh h158 ?_;refine g_if (λh=>?_) λh=>?_
  ·rw[if_neg (λe=>h (decide_eq_true e))];exact z7 rfl
  have h:s.data.toList.take p.length=p:=by
   by_cases q:s.data.toList.take p.length=p
   ·exact q
   exact absurd (by rw[decide_eq_false q];simp) h
  have hl:=congrArg List.length h;rw[List.length_take] at hl;rw[if_pos h,hp];refine g_ck ws (z7 ?_);congr 1;rw[←bl_of (s.extract _ _)];congr 1;rw[ByteArray.data_extract,Array.toList_extract,Int.toNat_natCast,Int.toNat_natCast,List.extract];refine List.take_of_length_le ?_;rw[List.length_drop,hz];exact Nat.le_refl _
 rintro v rfl;refine z7 ?_;split<;>simp[bl_of]
end KM
namespace KM
def bI(l:List UInt8):List Int:=l.map λc=>(c.toNat:Int)
theorem bI_app(a b:List UInt8):bI (a++b)=bI a++bI b:=by simp[bI]
theorem bI_of(s:ByteArray):z6 s=bI s.data.toList:=rfl
theorem bI_lit(l:List UInt8):z6 (lit l)=bI l:=by simp[z6,bI,lit]
theorem bI_len(l:List UInt8):(bI l).length=l.length:=by simp[bI]
theorem lit_sz(l:List UInt8):(lit l).size=l.length:=by simp[lit,ByteArray.size]
theorem str_eq(l:List UInt8):g23 (bI l)=some (bl l):=by
 refine g_eq ?_;unfold g23;refine g_ck (λc hc=>?_) (z7 ?_)
 ·obtain⟨x,_,rfl⟩:=List.mem_map.1 hc;have:=x.toNat_lt;omega
 apply ByteArray.ext;apply Array.ext';simp[bI,bl];refine(List.map_congr_left (g:=id) (λc _=>?_)).trans (List.map_id _);show UInt8.ofNat ((c.toNat:Int)).toNat=c;rw[Int.toNat_natCast];exact UInt8.toNat_inj.1 wv
theorem cc_eq(l:List Int):g54 l=some l:=rfl
def flg(al sh ct:Bool):List UInt8:=(if al=true then[97,108,116,45] else[])++(if ct=true then[99,116,108,45] else[])++(if sh=true then[115,104,105,102,116,45] else[])
def wrd(c:Int):List UInt8:=wds.getD (c-1).toNat []
def xf(c:Int)(S:List UInt8)(N:Int)(al:Bool):List UInt8:=if c=1∧al=true then 46::S else if c=17 then S else if c=18 then twl N.toNat else[]
def nameP(c:Int)(S:List UInt8)(N:Int)(al sh ct:Bool):List UInt8:=if ckK c S N=true then flg al sh ct++wrd c++xf c S N al else[]
theorem wds_len:∀w∈wds,w.length≤9:=by decide
theorem flg_len(al sh ct:Bool):(flg al sh ct).length≤14:=by cases al<;>cases sh<;>cases ct<;>decide
theorem name_eq(k:Ky)(hs:k.2.1.size≤100000):g62 k=some (bl (nameP k.1 k.2.1.data.toList k.2.2.1 k.2.2.2.1 k.2.2.2.2.1 k.2.2.2.2.2)):=by
 obtain⟨c,S,N,al,sh,ct⟩:=k;dsimp only at hs ⊢;have hz:=tl_size S;refine g_eq ?_;unfold g62 nameP;dsimp only;refine zh (check_eq _) ?_;dsimp only;by_cases hk:ckK c S.data.toList N=true
 case neg=>rw[if_neg hk,if_neg hk];exact g_t ww (z7 rfl)
 rw[if_pos hk,if_pos hk];refine g_f ww ?_;have hc:1≤c∧c≤18:=of_decide_eq_true (Bool.and_eq_true_iff.1 hk).1
 have hn18:c=18→1≤N∧N≤12:=λe=>by
  subst e;have:=(Bool.and_eq_true_iff.1 hk).2;simp at this;exact this.2
 refine g_jn (λv=>v=bI (if al=true then[97,108,116,45] else[])) (λk hk=>?_) λv hv=>?_
 ·refine g_if (λh=>?_) λh=>hk _ (by rw[if_neg h];rfl);exact zh (cc_eq _) (g_ck (by rw[lit_sz];decide) (hk _ (by rw[if_pos h,bI_lit];rfl)))
 subst hv;refine g_jn (λv=>v=bI ((if al=true then[97,108,116,45] else[])++(if ct=true then[99,116,108,45] else[]))) (λk hk=>?_) λv hv=>?_
 ·refine g_if (λh=>?_) λh=>hk _ (by rw[if_neg h,List.append_nil]);exact zh (cc_eq _) (g_ck (by rw[lit_sz,bI_len];split<;>decide) (hk _ (by rw[if_pos h,bI_lit,bI_app])))
 subst hv;refine g_jn (λv=>v=bI (flg al sh ct)) (λk hk=>?_) λv hv=>?_
 ·refine g_if (λh=>?_) λh=>hk _ (by unfold flg;rw[if_neg h,List.append_nil]);exact zh (cc_eq _) (g_ck (by rw[lit_sz,bI_len];cases al<;>cases ct<;>decide) (hk _ (by unfold flg;rw[if_pos h,bI_lit,bI_app _ [115,104,105,102,116,45]])))
 subst hv;have hfl:=flg_len al sh ct;have hi:(c-1).toNat<wds.length:=by show _<18;omega
 have hw:((wds.map lit).getD (c-1).toNat default)=lit (wrd c):=by
  unfold wrd;rw[List.getD_eq_getElem?_getD,List.getElem?_map,List.getElem?_eq_getElem hi,List.getD_eq_getElem?_getD,List.getElem?_eq_getElem hi];rfl
 have hwl:(wrd c).length≤9:=by
  unfold wrd;rw[List.getD_eq_getElem?_getD,List.getElem?_eq_getElem hi];exact wds_len _ (List.getElem_mem hi)
 refine zJ ws (zh codes_eq (g_ck (by rw[List.length_map];show 0≤c-1∧c-1<((18:Nat):Int);omega) (zh (cc_eq _) ?_)));rw[hw];have hb:bI (flg al sh ct)++z6 (lit (wrd c))=bI (flg al sh ct++wrd c):=by rw[bI_lit,bI_app]
 rw[hb];refine g_ck (by rw[lit_sz,bI_len];omega) ?_;have hfw:(flg al sh ct++wrd c).length≤23:=by rw[List.length_append];omega
 generalize flg al sh ct++wrd c=F at hfw;refine g_jn (λv=>v=decide (c=1∧al=true)) (λk hk=>?_) λv hv=>?_
 ·refine g_if (λh=>hk _ ?_) λh=>hk _ ?_
  ·cases al<;>simp[h]
  exact(decide_eq_false λe=>h e.1).symm
 subst hv;unfold xf;refine g_if (λh=>?_) λh=>?_
 ·have h:=of_decide_eq_true h;rw[if_pos h];have e1:bI F++z6 (lit [46])=bI (F++[46]):=by rw[bI_lit,bI_app]
  have e2:bI (F++[46])++z6 S=bI (F++46::S.data.toList):=by rw[bI_of,←bI_app,List.append_assoc];rfl
  refine zh (cc_eq _) (g_ck (by rw[lit_sz,bI_len];simp;omega) ?_);rw[e1];refine zh (cc_eq _) (g_ck (by rw[bI_len];simp;omega) ?_);rw[e2];exact zh (str_eq _) (z7 rfl)
 have h:¬(c=1∧al=true):=λe=>h (decide_eq_true e);rw[if_neg h];refine g_if (λh7=>?_) λh7=>?_
 ·rw[if_pos h7];have e2:bI F++z6 S=bI (F++S.data.toList):=by rw[bI_of,←bI_app]
  refine zh (cc_eq _) (g_ck (by rw[bI_len];omega) ?_);rw[e2];exact zh (str_eq _) (z7 rfl)
 rw[if_neg h7];refine g_if (λh8=>?_) λh8=>?_
 ·rw[if_pos h8];obtain⟨n1,n2⟩:=hn18 h8;obtain⟨n,rfl⟩:=Int.eq_ofNat_of_zero_le (show 0≤N by omega);have htw:(twl n).length≤2:=by unfold twl;split<;>simp
  refine zh (twelve_eq ws ws) (zh (cc_eq _) (g_ck (by rw[bI_len,bl_size];omega) ?_));have e2:bI F++z6 (bl (twl n))=bI (F++twl n):=by rw[bI_of,bl_tl,←bI_app]
  rw[e2];exact zh (str_eq _) (z7 rfl)
 rw[if_neg h8,List.append_nil];exact zh (str_eq _) (z7 rfl)
def gsK(s:List UInt8)(al:Bool):Int×List UInt8×Int:=
 if (cp s [116,101,120,116,46]).2=true∧al=true then(1,(cp s [116,101,120,116,46]).1,0) else if (cp s [99,116,114,108,45]).2=true then(17,(cp s [99,116,114,108,45]).1,0) else((codeP s).1,[],(codeP s).2)
def kal(n:List UInt8):=cp n [97,108,116,45]
def kct(n:List UInt8):=cp (kal n).1 [99,116,108,45]
def ksh(n:List UInt8):=cp (kct n).1 [115,104,105,102,116,45]
def keyP(n:List UInt8):Ky×Int:=
 let g:=gsK (ksh n).1 (kal n).2
 if nameP g.1 g.2.1 g.2.2 (kal n).2 (ksh n).2 (kct n).2=n∧n≠[] then((g.1,bl g.2.1,g.2.2,(kal n).2,(ksh n).2,(kct n).2),0) else((0,bl [],0,false,false,false),80)
theorem cp_len(s p:List UInt8):(cp s p).1.length≤s.length:=by unfold cp;split<;>simp
theorem key_eq(s:ByteArray)(hs:s.size≤100000):g31 s=some (keyP s.data.toList):=by
 have hz:=tl_size s;refine g_eq ?_;unfold g31;refine zh (wg _ _) ?_;dsimp only;refine zh (wg _ _) ?_;dsimp only;refine zh (wg _ _) ?_;dsimp only;rw[bl_tl,bl_tl];refine zh (wg _ _) (zh (wg _ _) ?_);dsimp only;rw[bl_tl];show zf _ λb=>b=keyP s.data.toList;have hA:cp s.data.toList [97,108,116,45]=kal s.data.toList:=rfl;rw[hA];have hC:cp (kal s.data.toList).1 [99,116,108,45]=kct s.data.toList:=rfl;rw[hC];have hS:cp (kct s.data.toList).1 [115,104,105,102,116,45]=ksh s.data.toList:=rfl;rw[hS];have hl1:=cp_len s.data.toList [97,108,116,45];have hl2:=cp_len (kal s.data.toList).1 [99,116,108,45];have hl3:=cp_len (kct s.data.toList).1 [115,104,105,102,116,45];rw[hA] at hl1;rw[hC] at hl2;rw[hS] at hl3;have hlt:=cp_len (ksh s.data.toList).1 [116,101,120,116,46];have hlc:=cp_len (ksh s.data.toList).1 [99,116,114,108,45];refine g_jn (λv=>v=((gsK (ksh s.data.toList).1 (kal s.data.toList).2).1,bl (gsK (ksh s.data.toList).1 (kal s.data.toList).2).2.1,(gsK (ksh s.data.toList).1 (kal s.data.toList).2).2.2)) (λk hk=>?_) λv hv=>?_
 ·refine g_jn (λv=>v=decide ((cp (ksh s.data.toList).1 [116,101,120,116,46]).2=true∧(kal s.data.toList).2=true)) (λk2 hk2=>?_) λv hv=>?_
  ·refine g_if (λh=>hk2 _ ?_) λh=>hk2 _ (decide_eq_false λe=>h e.1).symm;rw[h];cases(kal s.data.toList).2<;>rfl
  subst hv;refine g_if (λh=>hk _ ?_) λh=>?_
  ·unfold gsK;rw[if_pos (of_decide_eq_true h)]
  have h:¬((cp (ksh s.data.toList).1 [116,101,120,116,46]).2=true∧(kal s.data.toList).2=true):=λe=>h (decide_eq_true e);refine g_if (λh2=>hk _ ?_) λh2=>?_
  ·unfold gsK;rw[if_neg h,if_pos h2]
  refine zh (code_eq _) (hk _ ?_);rw[bl_tl];unfold gsK;rw[if_neg h,if_neg h2];rfl
 subst hv
 have hgl:(gsK (ksh s.data.toList).1 (kal s.data.toList).2).2.1.length≤100000:=by
  unfold gsK;split
  ·show(cp _ _).1.length≤_;omega
  split
  ·show(cp _ _).1.length≤_;omega
  exact Nat.zero_le _
 refine zh (name_eq _ (by dsimp only;rw[bl_size];exact hgl)) ?_;dsimp only;rw[bl_tl,bl_tl];unfold keyP;dsimp only;refine g_if (λh=>z7 (by rw[if_neg λe=>h e.1];rfl)) λh=>?_;have h:nameP (gsK (ksh s.data.toList).1 (kal s.data.toList).2).1 (gsK (ksh s.data.toList).1 (kal s.data.toList).2).2.1 (gsK (ksh s.data.toList).1 (kal s.data.toList).2).2.2 (kal s.data.toList).2 (ksh s.data.toList).2 (kct s.data.toList).2=s.data.toList:=Classical.byContradiction h;refine g_if (λh2=>z7 (by rw[if_neg λe=>e.2 h2];rfl)) λh2=>z7 (by rw[if_pos ⟨h,h2⟩])
end KM
namespace KM
def Spl(s:List UInt8)(al:Bool)(c:Int)(S:List UInt8)(N:Int):Prop:=ckK c S N=true∧(¬(c=1∧al=true)→¬c=17→S=[])∧s=wrd c++xf c S N al
theorem cp_app(p r:List UInt8):cp (p++r) p=(r,true):=by unfold cp;rw[List.take_left,if_pos rfl,List.drop_left]
theorem cp_back{s p:List UInt8}(h:(cp s p).2=true):s=p++(cp s p).1:=by
 unfold cp at h ⊢;by_cases q:s.take p.length=p
 ·rw[if_pos q];exact(List.take_append_drop p.length s).symm.trans (by rw[q])
 rw[if_neg q] at h;cases h
theorem cp_no{s p:List UInt8}(h:(cp s p).2=false):(cp s p).1=s:=by
 unfold cp at h ⊢;by_cases q:s.take p.length=p
 ·rw[if_pos q] at h;cases h
 rw[if_neg q]
theorem cp_all(s p:List UInt8):s=(if (cp s p).2=true then p else[])++(cp s p).1:=by
 cases h:(cp s p).2 with
 |true=>rw[if_pos rfl];exact cp_back h
 |false=>rw[if_neg wv,cp_no h];rfl
theorem name_split(n:List UInt8):n=flg (kal n).2 (ksh n).2 (kct n).2++(ksh n).1:=by
 have h1:=cp_all n [97,108,116,45];have h2:=cp_all (kal n).1 [99,116,108,45];have h3:=cp_all (kct n).1 [115,104,105,102,116,45];unfold flg;rw[List.append_assoc,List.append_assoc];exact h1.trans (congrArg _ (h2.trans (congrArg _ h3)))
theorem fnum_of:∀n:Fin 13,1≤n.val→fnum (102::twl n.val) 12=some n.val:=by decide
theorem plain_words:∀c:Fin 16,codeP (wds.getD c.val [])=((c.val:Int)+1,0):=by decide
theorem plain_heads:∀c:Fin 16,(cp (wds.getD c.val []) [116,101,120,116,46]).2=false∧(cp (wds.getD c.val []) [99,116,114,108,45]).2=false:=by decide
theorem cp_head{a b:UInt8}{s p:List UInt8}(h:a≠b):(cp (a::s) (b::p)).2=false:=by
 unfold cp;rw[if_neg];intro e;rw[List.length_cons,List.take_succ_cons] at e;exact h (List.cons.inj e).1
theorem guess{s:List UInt8}{al:Bool}{c:Int}{S:List UInt8}{N:Int}(h:Spl s al c S N):gsK s al=(c,S,N):=by
 obtain⟨hk,hS,rfl⟩:=h;obtain⟨h1,h2⟩:=Bool.and_eq_true_iff.1 hk;have hc:=of_decide_eq_true h1;unfold gsK;by_cases q1:c=1∧al=true
 ·obtain⟨rfl,rfl⟩:=q1;rw[if_pos (.inl rfl)] at h2;obtain⟨_,rfl⟩:=of_decide_eq_true h2;have e:wrd 1++xf 1 S 0 true=[116,101,120,116,46]++S:=by unfold xf;rw[if_pos ⟨rfl,rfl⟩];rfl
  rw[e,cp_app,if_pos ⟨rfl,rfl⟩]
 by_cases q17:c=17
 ·subst q17;rw[if_neg ws,if_pos rfl,Bool.and_eq_true_iff] at h2;obtain⟨_,h3⟩:=h2;have h3:=of_decide_eq_true h3;subst h3;have e:wrd 17++xf 17 S 0 al=[99,116,114,108,45]++S:=by unfold xf;rw[if_neg ws,if_pos rfl];rfl
  rw[e];have hh:(cp ([99,116,114,108,45]++S) [116,101,120,116,46]).2=false:=cp_head ww;rw[hh,cp_app,if_neg (λe=>by cases e.1),if_pos rfl]
 by_cases q18:c=18
 ·subst q18;rw[if_neg ws,if_neg ws,if_pos rfl] at h2;obtain⟨rfl,n1,n2⟩:=of_decide_eq_true h2;obtain⟨n,rfl⟩:=Int.eq_ofNat_of_zero_le (show 0≤N by omega);have e:wrd 18++xf 18 [] (n:Int) al=102::twl n:=by unfold xf;rw[if_neg ws,if_neg ws,if_pos rfl];rfl
  rw[e];have hh:(cp (102::twl n) [116,101,120,116,46]).2=false:=cp_head ww;have hg:(cp (102::twl n) [99,116,114,108,45]).2=false:=cp_head ww;rw[hh,hg,if_neg (λe=>by cases e.1),if_neg wv];have:=fnum_of ⟨n,by omega⟩ wM;dsimp only at this;unfold codeP;rw[this]
 obtain⟨m,hm⟩:=Int.eq_ofNat_of_zero_le (show 0≤c-1 by omega);have hcm:c=(m:Int)+1:=by omega
 subst hcm
 have e:wrd ((m:Int)+1)++xf ((m:Int)+1) S N al=wds.getD m []:=by
  unfold xf wrd;rw[if_neg q1,if_neg q17,if_neg q18,List.append_nil,show((m:Int)+1-1).toNat=m by omega]
 have hm16:m<16:=by omega
 obtain rfl:=hS q1 q17
 have hN:N=0:=by
  by_cases q:(m:Int)+1=1∨(m:Int)+1=16
  ·rw[if_pos q] at h2;exact(of_decide_eq_true h2).2
  rw[if_neg q,if_neg q17,if_neg q18] at h2;exact(of_decide_eq_true h2).2
 subst hN;have hh:=plain_heads ⟨m,hm16⟩;have hw:=plain_words ⟨m,hm16⟩;dsimp only at hh hw;rw[e,hh.1,hh.2,if_neg (λe=>by cases e.1),if_neg wv,hw]
theorem wrd_ne{c:Int}(h:1≤c∧c≤18):wrd c≠[]:=by
 have:∀m:Fin 18,wds.getD m.val []≠[]:=by decide
 have:=this ⟨(c-1).toNat,by omega⟩;exact this
theorem key_some{n:List UInt8}{c:Int}{S:List UInt8}{N:Int}(h:Spl (ksh n).1 (kal n).2 c S N):keyP n=((c,bl S,N,(kal n).2,(ksh n).2,(kct n).2),0):=by
 unfold keyP;rw[guess h];dsimp only;obtain⟨hk,_,hs⟩:=h;have hc:=of_decide_eq_true (Bool.and_eq_true_iff.1 hk).1
 have hn:nameP c S N (kal n).2 (ksh n).2 (kct n).2=n:=by
  unfold nameP;rw[if_pos hk,List.append_assoc,←hs];exact(name_split n).symm
 have h0:n≠[]:=λe=>by
  have:=name_split n;rw[hs] at this;rw[e] at this;have hl:=congrArg List.length this;simp only[List.length_append,List.length_nil] at hl;exact wrd_ne hc (List.eq_nil_of_length_eq_zero ws)
 rw[if_pos ⟨hn,h0⟩]
theorem key_none{n:List UInt8}(h:∀c S N,¬Spl (ksh n).1 (kal n).2 c S N):keyP n=((0,bl [],0,false,false,false),80):=by
 unfold keyP;dsimp only;rw[if_neg];rintro⟨hn,h0⟩;generalize hg:gsK (ksh n).1 (kal n).2=g at hn;obtain⟨c,S,N⟩:=g;dsimp only at hn;unfold nameP at hn;by_cases hk:ckK c S N=true
 case neg=>rw[if_neg hk] at hn;exact h0 hn.symm
 rw[if_pos hk,List.append_assoc] at hn;have hs:(ksh n).1=wrd c++xf c S N (kal n).2:=List.append_cancel_left ((name_split n).symm.trans hn.symm);refine h c S N ⟨hk,λq1 q17=>?_,hs⟩;unfold gsK at hg;by_cases a1:(cp (ksh n).1 [116,101,120,116,46]).2=true∧(kal n).2=true
 ·rw[if_pos a1] at hg;exact absurd ⟨(congrArg Prod.fst hg).symm,a1.2⟩ q1
 rw[if_neg a1] at hg;by_cases a2:(cp (ksh n).1 [99,116,114,108,45]).2=true
 ·rw[if_pos a2] at hg;exact absurd (congrArg Prod.fst hg).symm q17
 rw[if_neg a2] at hg;exact(congrArg (λx=>x.2.1) hg).symm
end KM
namespace KM
theorem begins_eq(s:ByteArray)(p:List UInt8):g65 s (lit p)=some (bl (cp s.data.toList p).1,(cp s.data.toList p).2):=by
 have hz:=tl_size s;have hp:(lit p).size=p.length:=by simp[lit,ByteArray.size]
 refine g_eq ?_;unfold g65 cp;rw[hp]
 have e:∀h:(p.length:Int)≤s.size,(s.extract (0:Int).toNat ((p.length:Int)).toNat).data.toList=s.data.toList.take p.length:=λ_=>by
  rw[ByteArray.data_extract,Array.toList_extract];simp[List.extract]
 refine g_if (λh=>?_) λh=>?_
 ·rw[if_neg]
  ·exact z7 (by rw[bl_of])
  intro e;have:=congrArg List.length e;rw[List.length_take] at this;omega
 rw[e ws];refine g_ck ws (g_if (λh=>?_) λh=>?_)
 ·rw[if_neg (show ¬s.data.toList.take p.length=p from h)];exact z7 (by rw[bl_of])
 have h:s.data.toList.take p.length=p:=Classical.byContradiction h;rw[if_pos h];refine g_ck ws (z7 ?_);congr 1;rw[←bl_of (s.extract _ _)];congr 1;rw[ByteArray.data_extract,Array.toList_extract,Int.toNat_natCast,Int.toNat_natCast,List.extract];refine List.take_of_length_le ?_;rw[List.length_drop,hz];exact Nat.le_refl _
theorem rsign_eq(s:ByteArray):g207 s=some (sgn s.data.toList):=by
 have hz:=tl_size s;generalize hl:s.data.toList=l at hz;refine g_eq ?_;unfold g207;rw[hl];refine g_if (λh=>?_) λh=>?_
 ·obtain⟨c,rfl⟩:∃c,l=[c]:=by
   match l,hz with
   |[],hz=>simp at hz;omega
   |[c],hz=>exact⟨c,rfl⟩
   |_::_::_,hz=>simp at hz;omega
  have e:((([c]:List UInt8)[(0:Int).toNat]?.getD 0).toNat:Int)=c.toNat:=rfl;rw[e];unfold sgn;refine g_ck ws (g_if (λh1=>?_) λh1=>?_)
  ·refine g_ck ws (g_if (λh2=>z7 (decide_eq_true ws).symm) λh2=>?_);refine g_ck ws (g_if (λh3=>z7 (decide_eq_true ws).symm) λh3=>?_);exact g_ck ws (g_if (λh4=>g_ck ws (z7 (decide_eq_decide.2 ws))) λh4=>z7 (decide_eq_false ws).symm)
  refine g_ck ws (g_if (λh3=>z7 (decide_eq_true ws).symm) λh3=>?_);exact g_ck ws (g_if (λh4=>g_ck ws (z7 (decide_eq_decide.2 ws))) λh4=>z7 (decide_eq_false ws).symm)
 refine z7 ?_
 match l,hz with
 |[],_=>rfl
 |[c],hz=>exact absurd (by simp at hz;omega) h
 |_::_::_,_=>rfl
theorem rcheck_eq(k:Ky):g128 k=some (if ckK k.1 k.2.1.data.toList k.2.2.1=true then 0 else 80):=by
 obtain⟨c,S,N,al,sh,ct⟩:=k;have hz:=tl_size S;refine g_eq ?_;unfold g128 ckK;dsimp only;have hs:=rsign_eq S;generalize S.data.toList=l at *;refine g_if (λh=>z7 wU) λh1=>?_;refine g_if (λh=>z7 wU) λh2=>?_;rw[decide_eq_true (show 1≤c∧c≤18 by omega),Bool.true_and];refine g_jn (λv=>v=(if c=1∨c=16 then decide (l.length≤65536) else if c=17 then sgn l else decide (l=[]))) (λk hk=>?_) λv hv=>?_
 ·have e1:decide ((S.size:Int)≤65536)=decide (l.length≤65536):=decide_eq_decide.2 ws;refine g_if (λq=>g_t q (hk _ (by rw[if_pos (.inl q),e1]))) λq=>?_;refine g_if (λq2=>hk _ (by rw[if_pos (.inr q2),e1])) λq2=>?_;refine g_if (λq3=>zh hs (hk _ (by rw[if_neg ws,if_pos q3]))) λq3=>hk _ (by rw[if_neg ws,if_neg q3];rfl)
 refine g_jn (λw=>w=(if c=18 then decide (1≤N∧N≤12) else decide (N=0))) (λk hk=>?_) λw hw=>?_
 ·refine g_if (λq=>g_if (λq2=>hk _ (by rw[if_pos q];exact decide_eq_decide.2 ⟨λe=>⟨q2,e⟩,λe=>e.2⟩)) λq2=>hk _ (by rw[if_pos q,decide_eq_false λe=>q2 e.1])) λq=>hk _ (by rw[if_neg q])
 have key:(if c=1∨c=16 then decide (l.length≤65536∧N=0) else if c=17 then sgn l&&decide (N=0) else if c=18 then decide (l=[]∧1≤N∧N≤12) else decide (l=[]∧N=0))=(v&&w):=by
  rw[hv,hw];by_cases q:c=1∨c=16
  ·rw[if_pos q,if_pos q,if_neg ws];simp
  rw[if_neg q,if_neg q];by_cases q2:c=17
  ·rw[if_pos q2,if_pos q2,if_neg ws]
  rw[if_neg q2,if_neg q2];by_cases q3:c=18
  ·rw[if_pos q3,if_pos q3];simp
  rw[if_neg q3,if_neg q3];simp
 rw[key];cases v<;>cases w<;>first|exact g_t ww (z7 rfl)|exact g_f ww (g_t ww (z7 rfl))|exact g_f ww (g_f ww (z7 rfl))
theorem word_eq{c:Nat}(h1:1≤c)(h2:c≤18):g126 (c:Int)=some (lit (wrd c)):=by
 have hall:∀m:Fin 18,(([(lit []),(lit [116,101,120,116]),(lit [101,110,116,101,114]),(lit [116,97,98]),(lit [98,97,99,107,116,97,98]),(lit [101,115,99,97,112,101]),(lit [98,97,99,107,115,112,97,99,101]),(lit [100,101,108,101,116,101]),(lit [117,112]),(lit [100,111,119,110]),(lit [108,101,102,116]),(lit [114,105,103,104,116]),(lit [104,111,109,101]),(lit [101,110,100]),(lit [112,97,103,101,117,112]),(lit [112,97,103,101,100,111,119,110]),(lit [112,97,115,116,101]),(lit [99,116,114,108,45]),(lit [102])]:List ByteArray).getD (m.val+1) default).data.toList=wds.getD m.val []:=by decide
 have h:=hall ⟨c-1,by omega⟩;dsimp only at h;rw[show c-1+1=c by omega] at h;refine g_eq ?_;unfold g126;refine g_f ws (g_f ws (g_ck ws (z7 ?_)));rw[Int.toNat_natCast,←bl_of (List.getD _ _ _),h];unfold wrd;rw[show((c:Int)-1).toNat=c-1 by omega];rfl
theorem rtwelve_eq{n:Nat}(h1:1≤n)(h2:n≤12):g127 (n:Int)=some (bl (twl n)):=by
 refine g_eq ?_;unfold g127 twl;refine g_if (λh=>?_) λh=>?_
 ·rw[if_pos ws];have hw:IntKind.wrap .u8 (48+(n:Int))=((48+n:Nat):Int):=by rw[IntKind.wrap_u8];omega
  rw[hw,str_one _ ws];refine zJ ws (g_ck (λc hc=>?_) (z7 rfl));rcases List.mem_cons.1 hc with rfl|hc
  ·omega
  cases hc
 rw[if_neg ws];have hw:IntKind.wrap .u8 (48+(n:Int)-10)=((38+n:Nat):Int):=by rw[IntKind.wrap_u8];omega
 rw[hw];refine zJ ws (zJ ws (g_ck (λc hc=>?_) (z7 ?_)))
 ·rcases List.mem_cons.1 hc with rfl|hc
  ·omega
  rcases List.mem_cons.1 hc with rfl|hc
  ·omega
  cases hc
 show zW [49,((38+n:Nat):Int)]=bl [49,UInt8.ofNat (38+n)];unfold zW bl;simp only[List.map,Int.toNat_natCast];rfl
def nmR(t:List UInt8):Nat→Nat
 |0=>0
 |k+1=>if twl (k+1)=t then k+1 else nmR t k
theorem nmR_spec(t:List UInt8):∀k,nmR t k=0∨(1≤nmR t k∧nmR t k≤k∧twl (nmR t k)=t)
 |0=>.inl rfl
 |k+1=>by
  unfold nmR;by_cases h:twl (k+1)=t
  ·rw[if_pos h];exact .inr ⟨by omega,Nat.le_refl _,h⟩
  rw[if_neg h];rcases nmR_spec t k with q|⟨a,b,c⟩
  ·exact .inl q
  exact .inr ⟨a,by omega,c⟩
theorem nmR_of:∀n:Fin 13,1≤n.val→nmR (twl n.val) 12=n.val:=by decide
theorem num_gives{t:ByteArray}:(y7 (σ:=Int×Int) (ρ:=Int) (λs=>if s.2≤12 then(g127 s.2).bind λv=>if v.data.toList=t.data.toList then ck (inR .i64 (s.2+1)) <| some (.go (s.2,s.2+1)) else ck (inR .i64 (s.2+1)) <| some (.go (s.1,s.2+1)) else some (.out s.1)) (0,1))=some ((nmR t.data.toList 12:Nat):Int):=by
 refine g_eq (yf (λs:Int×Int=>∃n:Nat,s.2=n∧1≤n∧n≤13∧s.1=((nmR t.data.toList (n-1):Nat):Int)) (λs=>13-s.2.toNat) ?_ ⟨1,rfl,by omega,by omega,rfl⟩);rintro⟨_,_⟩ ⟨n,rfl,h1,h2,rfl⟩;dsimp only;refine g_if (λhr=>?_) λhr=>?_
 ·refine zh (rtwelve_eq h1 ws) ?_;rw[bl_tl]
  have e:nmR t.data.toList (n+1-1)=if twl n=t.data.toList then n else nmR t.data.toList (n-1):=by
   rw[show n+1-1=(n-1)+1 by omega,nmR,show n-1+1=n by omega]
  refine g_if (λh=>?_) λh=>?_
  ·rw[if_pos h] at e;exact zJ ws (g_go ⟨n+1,by show(n:Int)+1=_;omega,by omega,by omega,by rw[e]⟩ v6)
  rw[if_neg h] at e;exact zJ ws (g_go ⟨n+1,by show(n:Int)+1=_;omega,by omega,by omega,by rw[e]⟩ v6)
 have:n=13:=by omega
 subst this;exact zP rfl
def cand(al:Bool)(s:List UInt8)(c:Int):Option (List UInt8×Int):=
 if (cp s (wrd c)).2=true then
  (if c=1∧al=true then (if (cp (cp s (wrd c)).1 [46]).2=true then some ((cp (cp s (wrd c)).1 [46]).1,0) else none)
  else if c=17 then some ((cp s (wrd c)).1,0)
  else if c=18 then some ([],((nmR (cp s (wrd c)).1 12:Nat):Int))
  else if (cp s (wrd c)).1=[] then some ([],0) else none)
 else none
theorem cand_spl{al:Bool}{s:List UInt8}{c:Int}{S:List UInt8}{N:Int}(h:cand al s c=some (S,N))(hk:ckK c S N=true):Spl s al c S N:=by
 unfold cand at h;by_cases h0:(cp s (wrd c)).2=true
 case neg=>rw[if_neg h0] at h;cases h
 rw[if_pos h0] at h;have hs:=cp_back h0;by_cases q1:c=1∧al=true
 ·rw[if_pos q1] at h;by_cases h2:(cp (cp s (wrd c)).1 [46]).2=true
  ·rw[if_pos h2] at h;have hd:=cp_back h2;have h:=Option.some.inj h;have e1:(cp (cp s (wrd c)).1 [46]).1=S:=congrArg Prod.fst h;refine⟨hk,λq=>absurd q1 q,?_⟩;unfold xf;rw[if_pos q1];rw[e1] at hd;rw[hd] at hs;exact hs
  rw[if_neg h2] at h;cases h
 rw[if_neg q1] at h;by_cases q17:c=17
 ·rw[if_pos q17] at h;have h:=Option.some.inj h;have e1:(cp s (wrd c)).1=S:=congrArg Prod.fst h;refine⟨hk,λ_ q=>absurd q17 q,?_⟩;unfold xf;rw[if_neg q1,if_pos q17];rw[e1] at hs;exact hs
 rw[if_neg q17] at h;by_cases q18:c=18
 ·rw[if_pos q18] at h;have h:=Option.some.inj h;have e1:[]=S:=congrArg Prod.fst h;have e2:((nmR (cp s (wrd c)).1 12:Nat):Int)=N:=congrArg Prod.snd h;subst e1;refine⟨hk,λ_ _=>rfl,?_⟩;unfold xf;rw[if_neg q1,if_neg q17,if_pos q18];have hk2:=(Bool.and_eq_true_iff.1 hk).2;rw[if_neg ws,if_neg q17,if_pos q18] at hk2;obtain⟨_,n1,n2⟩:=of_decide_eq_true hk2;rcases nmR_spec (cp s (wrd c)).1 12 with z|⟨_,_,z⟩
  ·omega
  rw[←e2,Int.toNat_natCast,z];exact hs
 rw[if_neg q18] at h;by_cases h3:(cp s (wrd c)).1=[]
 ·rw[if_pos h3] at h;have h:=Option.some.inj h;have e1:[]=S:=congrArg Prod.fst h;subst e1;refine⟨hk,λ_ _=>rfl,?_⟩;unfold xf;rw[if_neg q1,if_neg q17,if_neg q18];rw[h3] at hs;exact hs
 rw[if_neg h3] at h;cases h
theorem spl_cand{al:Bool}{s:List UInt8}{c:Int}{S:List UInt8}{N:Int}(h:Spl s al c S N):cand al s c=some (S,N):=by
 obtain⟨hk,hS,rfl⟩:=h;obtain⟨h1,h2⟩:=Bool.and_eq_true_iff.1 hk;have hc:=of_decide_eq_true h1;unfold cand;rw[cp_app,if_pos rfl];dsimp only;by_cases q1:c=1∧al=true
 ·rw[if_pos q1];rw[if_pos (.inl q1.1)] at h2;obtain⟨_,rfl⟩:=of_decide_eq_true h2;have e:xf c S 0 al=[46]++S:=by unfold xf;rw[if_pos q1];rfl
  rw[e,cp_app,if_pos rfl]
 rw[if_neg q1];by_cases q17:c=17
 ·rw[if_pos q17];rw[if_neg ws,if_pos q17,Bool.and_eq_true_iff] at h2;have h3:=of_decide_eq_true h2.2;subst h3;have e:xf c S 0 al=S:=by unfold xf;rw[if_neg q1,if_pos q17]
  rw[e]
 rw[if_neg q17];obtain rfl:=hS q1 q17;by_cases q18:c=18
 ·rw[if_pos q18];rw[if_neg ws,if_neg q17,if_pos q18] at h2;obtain⟨_,n1,n2⟩:=of_decide_eq_true h2;obtain⟨n,rfl⟩:=Int.eq_ofNat_of_zero_le (show 0≤N by omega);have e:xf c [] (n:Int) al=twl n:=by unfold xf;rw[if_neg q1,if_neg q17,if_pos q18,Int.toNat_natCast]
  rw[e];have:=nmR_of ⟨n,by omega⟩ wM;dsimp only at this;rw[this]
 rw[if_neg q18];have e:xf c [] N al=[]:=by unfold xf;rw[if_neg q1,if_neg q17,if_neg q18]
 rw[e,if_pos rfl]
 have hN:N=0:=by
  by_cases q:c=1∨c=16
  ·rw[if_pos q] at h2;exact(of_decide_eq_true h2).2
  rw[if_neg q,if_neg q17,if_neg q18] at h2;exact(of_decide_eq_true h2).2
 rw[hN]
end KM
end Go.Proofs.YticmemgehllacaaGreatDoor
