/- Texts that the law leans on. -/
import Derived.RangeFuncLeaves
import Derived.Deep.Quiet
import Derived.Laws.BitsLemmas
import Derived.Below
import Derived.Laws.StructEq
import Derived.Laws.AppendOwn
import Derived.Laws.Slices
import Derived.Laws.Strings
import Derived.WalkLawsBesides
import Derived.WalkKit
import Derived.Laws.BytesString
import Derived.Deep.AppendLies
import Derived.Laws.MakeOwn
import Derived.TacticsIn
import Derived.Maps.AppendAt
import Derived.Laws.IdiomStrings
import Derived.Lib.AppendStr
set_option linter.unusedVariables false
set_option linter.unusedSimpArgs false
theorem wt{p:Prop}(h:p:=by first|exact ei_one|((repeat (refine List.forall_mem_cons.2 ⟨rfl,?_⟩));intro y hy;cases hy;done)|(intro y hy;simp[ei,eb,es,ec] at hy;(first|(rcases hy with rfl|hy)|subst hy|skip);all_goals first|rfl|simp_all[Value.oneCell'])):p:=h
theorem wu{p:Prop}(h:p:=by first|exact rfl|(simp only[ei,eb,es,ec,gmin,gmax,List.map_append,List.flatMap_append,List.nil_append,List.append_nil,List.append_assoc];done)):p:=h
theorem wA{p:Prop}(h:p:=by first|exact congrArg (λm=>Value.slice _ m _) (show _=_ from(show([b-64]).length=1 from by first|rfl|(simp;done)|(simp;omega)))):p:=h
theorem wC{p:Prop}(h:p:=by have hg':w.drew.heap[g]?=some (.cells cur 5 (0,0)):=hg;simp[World.shape?,hg']):p:=h
theorem wP{p:Prop}(h:p:=by first|exact tn g|(have:=tn g;simp at this ⊢;omega)|(have:=tn g;simp;omega)):p:=h
theorem wQ{p:Prop}(h:p:=by first|exact tn x|(have:=tn x;simp at this ⊢;omega)|(have:=tn x;simp;omega)):p:=h
theorem wU{p:Prop}(h:p:=by rw[decide_eq_false (show ¬(1≤c∧c≤18) by omega),Bool.false_and];rfl):p:=h
theorem wV{p:Prop}(h:p:=by show l.length+1-((i:Int)+1).toNat<l.length+1-((i:Int)).toNat;omega):p:=h
theorem wB{p:Prop}(h:p:=by show l.length-((i:Int)+1).toNat<l.length-((i:Int)).toNat;omega):p:=h
theorem wW{p:Prop}(h:p:=by show l.length-((i:Int)+2).toNat<l.length-((i:Int)).toNat;omega):p:=h
theorem wy{p:Prop}(h:p:=by first|exact List.length_append.symm|(simp;done)|(simp;omega)):p:=h
theorem wY{p:Prop}(h:p:=by rw[List.length_take];simp only[Int.toNat_zero];omega):p:=h
theorem wZ{p:Prop}(h:p:=by have:=Nat.le_of_ble_eq_true hb;show(m:Int)≤_;omega):p:=h
theorem v6{p:Prop}(h:p:=by show 13-((n:Int)+1).toNat<13-((n:Int)).toNat;omega):p:=h
theorem v7{p:Prop}(h:p:=by simp[Op.operands];exact⟨p.1,by simpa using hp⟩):p:=h
theorem ve{p:Prop}(h:p:=by unfold norm;rw[if_neg (by simpa using h)]):p:=h
theorem vf{p:Prop}(h:p:=by unfold norm;rw[if_pos (by simpa using h)]):p:=h
theorem vj{p:Prop}(h:p:=by rw[notB_eq,ltI_eq,Bool.eq_iff_iff];simp):p:=h
theorem vq{p:Prop}(h:p:=by rw[show a.eval c=_ from hc];simp[hq]):p:=h
theorem vu{p:Prop}(h:p:=by rw[yi,hk,Bool.or_true,Bool.or_true]):p:=h
theorem vv{p:Prop}(h:p:=by first|rfl|simp[ei,eb,es,ec,c37,c49]):p:=h
theorem vB{p:Prop}(h:p:=by simp only[List.length_cons];omega):p:=h
theorem wS{p:Prop}(h:p:=by subst e;exact List.mem_cons_self):p:=h
theorem wE{p:Prop}(h:p:=by show(cutl r).1.size<_;omega):p:=h
theorem wO{p:Prop}(h:p:=by first|rfl|simp[ei,eb,es,ec]):p:=h
theorem wR{p:Prop}(h:p:=by rw[List.length_drop];omega):p:=h
theorem vh{p:Prop}(h:p:=by rw[hc,Nat.succ_mul];omega):p:=h
theorem wJ{p:Prop}(h:p:=by simp[Value.ownBlock,hA]):p:=h
theorem vn{p:Prop}(h:p:=by simpa[SV.has] using hk'):p:=h
theorem vo{p:Prop}(h:p:=by rw[size_madeCells,hisz]):p:=h
theorem wF{p:Prop}(h:p:=by simpa[SV.has] using hk):p:=h
theorem vr{p:Prop}(h:p:=by simpa[closed] using hc):p:=h
theorem wG{p:Prop}(h:p:=by simp only[execOp,hop]):p:=h
theorem vC{p:Prop}(h:p:=by rw[hu2,hv2];exact h'):p:=h
theorem wK{p:Prop}(h:p:=by rw[hown.1,hn0];simp):p:=h
theorem vD{p:Prop}(h:p:=by simpa[svEq] using h):p:=h
theorem vF{p:Prop}(h:p:=by simpa[ltK] using h):p:=h
theorem wx{p:Prop}(h:p:=by simp[Op.operands]):p:=h
theorem vi{p:Prop}(h:p:=by rw[hte];exact hdo):p:=h
theorem wM{p:Prop}(h:p:=by dsimp only;omega):p:=h
theorem vp{p:Prop}(h:p:=by rw[hxv];exact hr):p:=h
theorem vL{p:Prop}(h:p:=by simpa using hdj):p:=h
theorem wI{p:Prop}(h:p:=by simpa using ho):p:=h
theorem vd{p:Prop}(h:p:=by simpa using hk):p:=h
theorem vz{p:Prop}(h:p:=by simpa using he):p:=h
theorem vA{p:Prop}(h:p:=by simpa using hl):p:=h
theorem wT{p:Prop}(h:p:=by simp[blk,hAb]):p:=h
theorem wX{p:Prop}(h:p:=by simpa using h):p:=h
theorem wH{p:Prop}(h:p:=by simp[SV.has]):p:=h
theorem vk{p:Prop}(h:p:=by simp[okv,zc]):p:=h
theorem vG{p:Prop}(h:p:=by rw[xt];omega):p:=h
theorem wD{p:Prop}(h:p:=by rw[hd];simp):p:=h
theorem v8{p:Prop}(h:p:=by rw[hx];simp):p:=h
theorem vI{p:Prop}(h:p:=by injection e):p:=h
theorem vJ{p:Prop}(h:p:=by rw[h2];simp):p:=h
theorem vK{p:Prop}(h:p:=by rw[h3];simp):p:=h
theorem wz{p:Prop}(h:p:=by kernel_rfl):p:=h
theorem wN{p:Prop}(h:p:=by simp;omega):p:=h
theorem vg{p:Prop}(h:p:=by rw[hv];rfl):p:=h
theorem vm{p:Prop}(h:p:=by simp[okv]):p:=h
theorem vE{p:Prop}(h:p:=by rw[e];rfl):p:=h
theorem vH{p:Prop}(h:p:=by cases hk):p:=h
theorem wL{p:Prop}(h:p:=by cases h):p:=h
theorem ww{p:Prop}(h:p:=by decide):p:=h
theorem ws{p:Prop}(h:p:=by omega):p:=h
theorem vt{p:Prop}(h:p:=by rw[e]):p:=h
theorem wv{p:Prop}(h:p:=by simp):p:=h
namespace Go.Eng
theorem nM1{α:Type}{p:α→Prop}{a0:α}(h0:p a0):∀x∈[a0],p x:=by simp_all
theorem nM2{α:Type}{p:α→Prop}{a0 a1:α}(h0:p a0)(h1:p a1):∀x∈[a0,a1],p x:=by simp_all
theorem nM3{α:Type}{p:α→Prop}{a0 a1 a2:α}(h0:p a0)(h1:p a1)(h2:p a2):∀x∈[a0,a1,a2],p x:=by simp_all
end Go.Eng
section
namespace Go.Eng
open Go
noncomputable section
abbrev PH:=Nat→Nat→Option Value
def PH.le(p q:PH):Prop:=∀b o v,p b o=some v→q b o=some v
def PH.on(p:PH)(w:World):Prop:=∀b o v,p b o=some v→w.cell? ⟨b,o,none⟩=some v
def rd(q:PH)(A:Option Addr)(j:Nat):Option Value:=
 match A with
 |some ⟨b,o,none⟩=>q b (o+j)
 |_=>none
def Reads(q:PH)(A:Option Addr)(xs:List Value):Prop:=∀j,j<xs.length→rd q A j=xs[j]?
inductive Ex where
 |norm|ret|exit (n:Nat)|goto (n:Nat)
inductive SV where
 |v (x:Value)
 |bb (b:Bool)
 |b (p:Prop) (d:Decidable p)
 |lp (k o:Nat)
 |own (k:Nat)
 |el (A:Option Addr) (j:Nat)
 |agg (cs:List SV)
 |tup (cs:List SV)
 |fn (f:FuncId) (cs:List SV)
 |yl (k:Nat)
 |vw (k lo sz n:Nat) (ex:Bool)
 |lq (k:Nat)
 |ls (k n:Nat)
 |mr (k:Nat)
 |bad
inductive LB where
 |cells (T:TypeId) (cs:List SV)
 |arr (E:TypeId) (sz n:Nat) (xs:List Value)
 |row (E:TypeId) (sz n:Nat) (cs:List SV)
 |dfr
 |loop (st:LoopState) (pend:Option Ex)
 |mp (es:List MapEntry) (clk:Nat)
 |sb (E n:Nat) (xs:List Value)
abbrev Fr:=List (Nat×SV)
abbrev LL:=List (Nat×LB)
structure Loc where
 b:Nat
 A:Option Addr
 n:Nat
 c:Nat
 r:Loop
abbrev Pl:=Nat→Loc
mutual
def den(S:Pl):SV→Value
 |.v x=>x
 |.bb b=>.bool b
 |.b p d=>.bool (@decide p d)
 |.lp k o=>.pointer (some ⟨(S k).b,o,none⟩)
 |.own k=>.slice (S k).A (S k).n (S k).c
 |.el A j=>.pointer (A.map (·.add j))
 |.agg cs=>.agg (denL S cs).toArray
 |.tup cs=>.tuple (denL S cs).toArray
 |.fn f cs=>.func (.func f) #[] (denL S cs).toArray
 |.yl k=>.func (.yield (S k).b) #[] #[]
 |.vw _ _ _ n _=>.slice none n n
 |.lq _=>.pointer none
 |.ls k n=>.slice (some ⟨(S k).b,0,none⟩) n n
 |.mr k=>.map (some (S k).b)
 |.bad=>undef
def denL(S:Pl):List SV→List Value
 |[]=>[]
 |x::r=>den S x::denL S r
end
mutual
def SV.has(k:Nat):SV→Bool
 |.lp j _=>Nat.beq j k
 |.own j=>Nat.beq j k
 |.agg cs=>hasL k cs
 |.tup cs=>hasL k cs
 |.fn _ cs=>hasL k cs
 |.yl j=>Nat.beq j k
 |.vw j _ _ _ _=>Nat.beq j k
 |.lq j=>Nat.beq j k
 |.ls j _=>Nat.beq j k
 |.mr j=>Nat.beq j k
 |_=>false
def hasL(k:Nat):List SV→Bool
 |[]=>false
 |x::r=>match x.has k with|true=>true|false=>hasL k r
end
def hasF(k:Nat)(l:Fr):Bool:=List.rec (motive:=λ_=>Bool) false (λp _ ih=>match p with|(u,x)=>match x.has k with|true=>true|false=>ih) l
theorem hasF_n{k:Nat}:hasF k []=false:=rfl
theorem hasF_c{k u:Nat}{x:SV}{r:Fr}:hasF k ((u,x)::r)=match x.has k with|true=>true|false=>hasF k r:=rfl
def LB.has(k:Nat):LB→Bool
 |.cells _ cs=>hasL k cs
 |.row _ _ _ cs=>hasL k cs
 |_=>false
def hasLL(k:Nat)(l:LL):Bool:=List.rec (motive:=λ_=>Bool) false (λp _ ih=>match p with|(u,x)=>match Nat.beq u k with|true=>true|false=>match x.has k with|true=>true|false=>ih) l
theorem hasLL_n{k:Nat}:hasLL k []=false:=rfl
theorem hasLL_c{k j:Nat}{x:LB}{r:LL}:hasLL k ((j,x)::r)=match Nat.beq j k with|true=>true|false=>match x.has k with|true=>true|false=>hasLL k r:=rfl
def get(fr:Fr)(t:Nat):SV:=List.rec (motive:=λ_=>SV) .bad (λp _ ih=>match p with|(u,x)=>match Nat.beq u t with|true=>x|false=>ih) fr
theorem get_n{t:Nat}:get [] t=.bad:=rfl
theorem get_c{u t:Nat}{x:SV}{r:Fr}:get ((u,x)::r) t=match Nat.beq u t with|true=>x|false=>get r t:=rfl
def getL(L:LL)(k:Nat):Option LB:=List.rec (motive:=λ_=>Option LB) none (λp _ ih=>match p with|(u,x)=>match Nat.beq u k with|true=>some x|false=>ih) L
theorem getL_n{k:Nat}:getL [] k=none:=rfl
theorem getL_c{u k:Nat}{x:LB}{r:LL}:getL ((u,x)::r) k=match Nat.beq u k with|true=>some x|false=>getL r k:=rfl
def setL(L:LL)(k:Nat)(z:LB):LL:=List.rec (motive:=λ_=>LL) [] (λp r ih=>match p with|(u,y)=>match Nat.beq u k with|true=>(u,z)::r|false=>(u,y)::ih) L
theorem setL_n{k:Nat}{x:LB}:setL [] k x=[]:=rfl
theorem setL_c{u k:Nat}{x y:LB}{r:LL}:setL ((u,y)::r) k x=match Nat.beq u k with|true=>(u,x)::r|false=>(u,y)::setL r k x:=rfl
def remL(L:LL)(k:Nat):LL:=List.rec (motive:=λ_=>LL) [] (λp _ ih=>match p with|(u,x)=>match Nat.beq u k with|true=>ih|false=>(u,x)::ih) L
theorem remL_n{k:Nat}:remL [] k=[]:=rfl
theorem remL_c{u k:Nat}{y:LB}{r:LL}:remL ((u,y)::r) k=match Nat.beq u k with|true=>remL r k|false=>(u,y)::remL r k:=rfl
def nth{α:Type}(l:List α):Nat→Option α:=List.rec (motive:=λ_=>Nat→Option α) (λ_=>none) (λx _ ih n=>match n with|0=>some x|n+1=>ih n) l
theorem nth_n{α:Type}{n:Nat}:nth ([]:List α) n=none:=rfl
theorem nth_0{α:Type}{x:α}{r:List α}:nth (x::r) 0=some x:=rfl
theorem nth_s{α:Type}{x:α}{r:List α}{n:Nat}:nth (x::r) (n+1)=nth r n:=rfl
def setN{α:Type}:List α→Nat→α→List α
 |[],_,_=>[]
 |_::r,0,y=>y::r
 |x::r,n+1,y=>x::setN r n y
def takeN{α:Type}:List α→Nat→List α
 |_,0=>[]
 |[],_=>[]
 |x::r,n+1=>x::takeN r n
def dropN{α:Type}:List α→Nat→List α
 |l,0=>l
 |[],_=>[]
 |_::r,n+1=>dropN r n
def fVal(x:Value)(K:Value→Prop):Prop:=
 match x with
 |.bool b=>K (.bool b)|.int k n=>K (.int k n)|.float k n=>K (.float k n)|.complex k a b=>K (.complex k a b)|.string s=>K (.string s)
 |.pointer a=>K (.pointer a)|.slice a n c=>K (.slice a n c)|.map r=>K (.map r)|.chan r=>K (.chan r)|.func f a c=>K (.func f a c)
 |.nilFunc=>K .nilFunc|.iface t v=>K (.iface t v)|.nilIface=>K .nilIface|.agg c=>K (.agg c)|.tuple c=>K (.tuple c)
def fSV0(x:SV)(K:SV→Prop):Prop:=
 match x with
 |.v x=>fVal x λy=>K (.v y)
 |.bb b=>(match b with|true=>K (.bb true)|false=>K (.bb false))
 |.b p d=>K (.b p d)|.lp k o=>K (.lp k o)|.own k=>K (.own k)|.el A j=>K (.el A j)
 |.agg cs=>K (.agg cs)
 |.tup cs=>K (.tup cs)
 |.fn f cs=>K (.fn f cs)
 |.yl k=>K (.yl k)
 |.vw k lo sz n ex=>K (.vw k lo sz n ex)
 |.lq k=>K (.lq k)
 |.ls k n=>K (.ls k n)
 |.mr k=>K (.mr k)
 |.bad=>K .bad
def fSVL(l:List SV):(List SV→Prop)→Prop:=List.rec (motive:=λ_=>(List SV→Prop)→Prop) (λK=>K []) (λx _ ih K=>fSV0 x λy=>ih λs=>K (y::s)) l
theorem fSVL_c{x:SV}{r:List SV}{K:List SV→Prop}:fSVL (x::r) K=fSV0 x λy=>fSVL r λs=>K (y::s):=rfl
def fSV(x:SV)(K:SV→Prop):Prop:=
 match x with
 |.v x=>fVal x λy=>K (.v y)
 |.bb b=>(match b with|true=>K (.bb true)|false=>K (.bb false))
 |.b p d=>K (.b p d)|.lp k o=>K (.lp k o)|.own k=>K (.own k)|.el A j=>K (.el A j)
 |.agg cs=>fSVL cs λl=>K (.agg l)
 |.tup cs=>fSVL cs λl=>K (.tup l)
 |.fn f cs=>fSVL cs λl=>K (.fn f l)
 |.yl k=>K (.yl k)
 |.vw k lo sz n ex=>K (.vw k lo sz n ex)
 |.lq k=>K (.lq k)
 |.ls k n=>K (.ls k n)
 |.mr k=>K (.mr k)
 |.bad=>K .bad
def fLB(x:LB)(K:LB→Prop):Prop:=
 match x with
 |.cells T cs=>fSVL cs λl=>K (.cells T l)
 |.row E sz n cs=>fSVL cs λl=>K (.row E sz n l)
 |.arr E sz n xs=>K (.arr E sz n xs)
 |.dfr=>K .dfr
 |.mp es c=>K (.mp es c)
 |.sb E n xs=>K (.sb E n xs)
 | .loop st pe=>(match st,pe with
  |.ready,none=>K (.loop .ready none)
  |.busy,none=>K (.loop .busy none)
  |.done,none=>K (.loop .done none)
  |.done,some .ret=>K (.loop .done (some .ret))
  |.done,some (.exit n)=>K (.loop .done (some (.exit n)))
  |.done,some (.goto n)=>K (.loop .done (some (.goto n)))
  | st,pe=>K (.loop st pe))
def fLL(l:LL):(LL→Prop)→Prop:=List.rec (motive:=λ_=>(LL→Prop)→Prop) (λK=>K []) (λp _ ih K=>match p with|(u,x)=>fLB x λy=>ih λs=>K ((u,y)::s)) l
theorem fLL_c{k:Nat}{x:LB}{r:LL}{K:LL→Prop}:fLL ((k,x)::r) K=fLB x λy=>fLL r λs=>K ((k,y)::s):=rfl
def fFr(l:Fr):(Fr→Prop)→Prop:=List.rec (motive:=λ_=>(Fr→Prop)→Prop) (λK=>K []) (λp _ ih K=>match p with|(u,x)=>fSV x λy=>ih λs=>K ((u,y)::s)) l
theorem fFr_c{k:Nat}{x:SV}{r:Fr}{K:Fr→Prop}:fFr ((k,x)::r) K=fSV x λy=>fFr r λs=>K ((k,y)::s):=rfl
structure Ob (p:Prop):Prop where
 out:p
inductive Ty where
 |int (k:IntKind)|bool|str|flt (k:FloatKind)|ptr (e:Nat)|slice (e:Nat)|struct (fs:List (Nat×Nat))|arr (n e:Nat)|func|map (k e:Nat)|other
structure TI where
 d:Ty
 sz:Nat
 byt:Nat
 zero:List Value
 flat:List Ty
 cmp:List Ty
inductive Tr (α:Type) where
 |nil
 |node (l:Tr α) (k:Nat) (v:α) (r:Tr α)
def Tr.get{α:Type}(T:Tr α)(t:Nat):Option α:=Tr.rec (motive:=λ_=>Option α) none (λ_ k v _ gl gr=>match Nat.beq t k with|true=>some v|false=>match Nat.blt t k with|true=>gl|false=>gr) T
theorem Tr.get_n{α:Type}{t:Nat}:(Tr.nil:Tr α).get t=none:=rfl
theorem Tr.get_c{α:Type}{t k:Nat}{v:α}{l r:Tr α}:(Tr.node l k v r).get t=match Nat.beq t k with|true=>some v|false=>match Nat.blt t k with|true=>l.get t|false=>r.get t:=rfl
def Tr.all{α:Type}(T:Tr α)(f:Nat→α→Bool):Bool:=
 match T with
 |.nil=>true
 |.node l k v r=>match f k v with|true=>(match l.all f with|true=>r.all f|false=>false)|false=>false
abbrev Tab:=Tr TI
def tyD:TI:=⟨.other,0,0,[],[],[]⟩
def ty(T:Tab)(t:Nat):TI:=
 match T.get t with
 |some x=>x
 |none=>tyD
def inR:IntKind→Int→Prop
 |.i8,n=>-128≤n∧n≤127
 |.i16,n=>-32768≤n∧n≤32767
 |.i32,n=>-2147483648≤n∧n≤2147483647
 |.i64,n=>-9223372036854775808≤n∧n≤9223372036854775807
 |.u8,n=>0≤n∧n≤255
 |.u16,n=>0≤n∧n≤65535
 |.u32,n=>0≤n∧n≤4294967295
 |.u64,n=>0≤n∧n≤18446744073709551615
def kc:IntKind→Nat
 |.i8=>0|.i16=>1|.i32=>2|.i64=>3|.u8=>4|.u16=>5|.u32=>6|.u64=>7
def widens(a b:IntKind):Bool:=
 match a,b with
 |.u8,.i16|.u8,.i32|.u8,.i64|.u8,.u16|.u8,.u32|.u8,.u64|.u8,.u8|.i32,.i64|.u16,.i32|.u16,.i64|.u32,.i64|.i64,.i64|.i32,.i32|.u64,.u64|.u32,.u32|.u32,.u64|.u16,.u64|.u16,.u32|.u16,.u16=>true
 |_,_=>false
def opv(fr:Fr):Operand→SV
 |.tmp t=>get fr t
 |.const (.bool b)=>.bb b
 |.const v=>.v v
 |.global _=>.bad
 |.func f=>.fn f []
def opvs(fr:Fr):List Operand→List SV
 |[]=>[]
 |x::r=>opv fr x::opvs fr r
def arK(wr:Bool)(k:IntKind)(n:Int)(K:SV→Prop):Prop:=
 match wr with
 |true=>K (.v (.int k (k.wrap n)))
 |false=>Ob (inR k n)∧K (.v (.int k n))
def intK(op:BinOp)(wr:Bool)(k:IntKind)(a:Int)(b:Int)(K:SV→Prop):Prop:=
 match op with
 |.add=>arK wr k (a+b) K
 |.sub=>arK wr k (a-b) K
 |.mul=>arK wr k (a*b) K
 |.quo=>Ob (b≠0)∧arK wr k (a.tdiv b) K
 |.rem=>Ob (b≠0)∧K (.v (.int k (a.tmod b)))
 |.and=>K (.v (.int k (bits .and k a b)))
 |.or=>K (.v (.int k (bits .or k a b)))
 |.xor=>K (.v (.int k (bits .xor k a b)))
 |.eql=>K (.b (a=b) (Int.instDecidableEq a b))
 |.neq=>K (.b (¬a=b) (@instDecidableNot _ (Int.instDecidableEq a b)))
 |.lss=>K (.b (a<b) (Int.decLt a b))
 |.leq=>K (.b (a≤b) (Int.decLe a b))
 |.gtr=>K (.b (b<a) (Int.decLt b a))
 |.geq=>K (.b (b≤a) (Int.decLe b a))
 |_=>False
def shK(op:BinOp)(k:IntKind)(a b:Int)(K:SV→Prop):Prop:=
 match op with
 |.shl=>Ob (0≤b∧b≤k.bits)∧K (.v (.int k (k.wrap (a*2^b.toNat))))
 |.shr=>Ob (0≤b∧b≤k.bits)∧K (.v (.int k (a/2^b.toNat)))
 |_=>False
def decStr(a b:ByteArray):Decidable (a.data.toList=b.data.toList):=inferInstance
def strK(op:BinOp)(a b:ByteArray)(K:SV→Prop):Prop:=
 match op with
 |.add=>Ob (a.size+b.size≤9223372036854775807)∧K (.v (.string (a++b)))
 |.eql=>K (.b (a.data.toList=b.data.toList) (decStr a b))
 |.neq=>K (.b (¬a.data.toList=b.data.toList) (@instDecidableNot _ (decStr a b)))
 |_=>False
def fkc:FloatKind→FloatKind→Bool
 |.f32,.f32=>true
 |.f64,.f64=>true
 |_,_=>false
def xc(o x:Option Ordering):Decidable (o=x):=inferInstance
def flrK(k:FloatKind)(x:Option Nat)(K:SV→Prop):Prop:=Ob (∃r,x=some r)∧∀r,x=some r→K (.v (.float k r))
def fltK(op:BinOp)(k:FloatKind)(a b:Nat)(K:SV→Prop):Prop:=
 match op with
 |.add=>flrK k (k.format.add a b) K
 |.sub=>flrK k (k.format.sub a b) K
 |.mul=>flrK k (k.format.mul a b) K
 |.quo=>flrK k (k.format.div a b) K
 |.eql=>K (.b (k.format.order a b=some .eq) (xc _ _))
 |.neq=>K (.b (¬k.format.order a b=some .eq) (@instDecidableNot _ (xc _ _)))
 |.lss=>K (.b (k.format.order a b=some .lt) (xc _ _))
 |.leq=>K (.b (k.format.order a b=some .lt∨k.format.order a b=some .eq) (@instDecidableOr _ _ (xc _ _) (xc _ _)))
 |.gtr=>K (.b (k.format.order a b=some .gt) (xc _ _))
 |.geq=>K (.b (k.format.order a b=some .gt∨k.format.order a b=some .eq) (@instDecidableOr _ _ (xc _ _) (xc _ _)))
 |_=>False
def decNone(A:Option Addr):Decidable (A=none):=inferInstance
def eqK(d:Ty)(x y:SV)(K:SV→Prop):Prop:=
 match d with
 | .bool=>(match x,y with
  |.bb true,.bb true=>K (.bb true)|.bb false,.bb false=>K (.bb true)|.bb true,.bb false=>K (.bb false)|.bb false,.bb true=>K (.bb false)
  |.b p d,.bb true=>K (.b p d)
  |.b p d,.bb false=>K (.b (¬p) (@instDecidableNot _ d))
  |.bb true,.b p d=>K (.b p d)
  |.bb false,.b p d=>K (.b (¬p) (@instDecidableNot _ d))
  |.b p d,.b p' d'=>K (.b (p↔p') (@instDecidableIff _ _ d d'))
  | _,_=>False)
 | .ptr _=>(match x,y with
  |.lp _ _,.v (.pointer none)=>K (.bb false)
  |.v (.pointer none),.lp _ _=>K (.bb false)
  |.v (.pointer (some _)),.v (.pointer none)=>K (.bb false)
  |.v (.pointer none),.v (.pointer none)=>K (.bb true)
  | _,_=>False)
 | .func=>(match x,y with
  |.fn _ _,.v .nilFunc=>K (.bb false)
  |.v (.func _ _ _),.v .nilFunc=>K (.bb false)
  |.v .nilFunc,.v .nilFunc=>K (.bb true)
  | _,_=>False)
 | .map _ _=>(match x,y with
  |.mr _,.v (.map none)=>K (.bb false)
  |.v (.map none),.v (.map none)=>K (.bb true)
  | _,_=>False)
 | .slice _=>(match x,y with
  |.v (.slice A _ _),.v (.slice none _ _)=>K (.b (A=none) (decNone A))
  | _,_=>False)
 |_=>False
def notK(x:SV)(K:SV→Prop):Prop:=
 match x with
 |.bb true=>K (.bb false)
 |.bb false=>K (.bb true)
 |.b p d=>K (.b (¬p) (@instDecidableNot _ d))
 |_=>False
def bqK(a b:SV)(K:(p:Prop)→Decidable p→Prop):Prop:=
 match a,b with
 |.bb true,.bb true=>K True instDecidableTrue
 |.bb false,.bb false=>K True instDecidableTrue
 |.bb true,.bb false=>K False instDecidableFalse
 |.bb false,.bb true=>K False instDecidableFalse
 |.b p d,.bb true=>K p d
 |.b p d,.bb false=>K (¬p) (@instDecidableNot _ d)
 |.bb true,.b p d=>K p d
 |.bb false,.b p d=>K (¬p) (@instDecidableNot _ d)
 |.b p d,.b p' d'=>K (p↔p') (@instDecidableIff _ _ d d')
 |_,_=>False
def eqsL(c:List Ty):List SV→List SV→((p:Prop)→Decidable p→Prop)→Prop:=
 List.rec (motive:=λ_=>List SV→List SV→((p:Prop)→Decidable p→Prop)→Prop)
  (λx y K=>match x,y with|[],[]=>K True instDecidableTrue|_,_=>False)
  (fun t _ ih x y K=>match t,x,y with
   |.int _,.v (.int k m)::s,.v (.int k' n)::r=>(match Nat.beq (kc k) (kc k') with|true=>ih s r λp i=>K (m=n∧p) (@instDecidableAnd _ _ (Int.instDecidableEq m n) i)|false=>False)
   |.str,.v (.string a)::s,.v (.string b)::r=>ih s r λp i=>K (a.data.toList=b.data.toList∧p) (@instDecidableAnd _ _ (decStr a b) i)
   |.bool,a::s,b::r=>bqK a b λq d=>ih s r λp i=>K (q∧p) (@instDecidableAnd _ _ d i)
   | _,_,_=>False) c
def eqsK(c:List Ty)(d:Ty)(x y:SV)(K:SV→Prop):Prop:=
 match x,y with
 | .agg xs,.agg ys=>(match c with
  |[]=>False
  | t::c=>(match d with
   |.struct _=>eqsL (t::c) xs ys λp i=>K (.b p i)
   | _=>False))
 |x,y=>eqK d x y K
def binK(c:List Ty)(d:Ty)(op:BinOp)(wr:Bool)(x y:SV)(K:SV→Prop):Prop:=
 match x,y with
 |.v (.int k a),.v (.int k' b)=>
  match op with
  |.shl=>shK .shl k a b K
  |.shr=>shK .shr k a b K
  |op=>match Nat.beq (kc k) (kc k') with|true=>intK op wr k a b K|false=>False
 |.v (.string a),.v (.string b)=>strK op a b K
 |.v (.float k a),.v (.float k' b)=>match fkc k k' with|true=>fltK op k a b K|false=>False
 |x,y=>
  match op with
  |.eql=>eqsK c d x y K
  |.neq=>eqsK c d x y λr=>notK r K
  |_=>False
def unK(op:UnOp)(wr:Bool)(x:SV)(K:SV→Prop):Prop:=
 match op,x with
 |.not,x=>notK x K
 |.neg,.v (.int k n)=>arK wr k (0-n) K
 |_,_=>False
def ldK(g:Nat→Option Value)(j:Nat)(ts:List Ty)(K:List SV→Prop):Prop:=
 match ts with
 |[]=>K []
 |.int k::r=>Ob (∃x,g j=some (.int k x))∧∀x,g j=some (.int k x)→ldK g (j+1) r λl=>K (.v (.int k x)::l)
 |.bool::r=>Ob (∃b,g j=some (.bool b))∧∀b,g j=some (.bool b)→ldK g (j+1) r λl=>K (.b (b=true) (instDecidableEqBool b true)::l)
 |.flt k::r=>Ob (∃x,g j=some (.float k x))∧∀x,g j=some (.float k x)→ldK g (j+1) r λl=>K (.v (.float k x)::l)
 |.str::r=>Ob (∃s,g j=some (.string s))∧∀s,g j=some (.string s)→ldK g (j+1) r λl=>K (.v (.string s)::l)
 |.ptr _::r=>Ob (∃A,g j=some (.pointer A))∧∀A,g j=some (.pointer A)→ldK g (j+1) r λl=>K (.v (.pointer A)::l)
 |.slice _::r=>Ob (∃A n c,g j=some (.slice A n c))∧∀A n c,g j=some (.slice A n c)→ldK g (j+1) r λl=>K (.v (.slice A n c)::l)
 |_::_=>False
def zF(t:Ty)(l:List SV):SV:=
 match t with
 |.struct _=>.agg l
 |.arr _ _=>.agg l
 |_=>match l with|x::_=>x|[]=>.bad
def xR(T:Tab)(t f:Nat):Option (Nat×Nat):=
 match (ty T t).d with
 |.struct fs=>nth fs f
 |_=>none
def loadK1(d:Ty)(sz:Nat)(flat:List Ty)(q:PH)(L:LL)(x:SV)(K:SV→Prop):Prop:=
 match x with
 |.lp k o=>
  match getL L k with
  |some (.cells _ cs)=>match Nat.ble (o+sz) cs.length with|true=>fSV (zF d (takeN (dropN cs o) sz)) K|false=>False
  |some (.arr _ _ _ xs)=>ldK (λj=>xs[j]?) o flat λl=>fSV (zF d l) K
  |some (.row _ _ _ cs)=>match Nat.ble (o+sz) cs.length with|true=>fSV (zF d (takeN (dropN cs o) sz)) K|false=>False
  |_=>False
 |.el A j=>ldK (rd q A) j flat λl=>fSV (zF d l) K
 |.v (.pointer (some a))=>ldK (rd q (some a)) 0 flat λl=>fSV (zF d l) K
 |_=>False
def loadK(T:Tab)(q:PH)(L:LL)(t:Nat)(x:SV)(K:SV→Prop):Prop:=
 match ty T t with
 |⟨.other,_,_,_,_,_⟩=>False
 |⟨d,sz,_,_,flat,_⟩=>loadK1 d sz flat q L x K
def bv(c:UInt8):Value:=.int .u8 c.toNat
def vwC(xs:List Value)(lo sz n:Nat):List Value:=(xs.drop (lo*sz)).take (n*sz)
def rowVL(l:List SV):Option (List Value):=List.rec (motive:=λ_=>Option (List Value)) (some [])
 (fun x _ ih=>match x with
  |.v y=>(match ih with|some s=>some (y::s)|none=>none)
  |.bb b=>(match ih with|some s=>some (.bool b::s)|none=>none)
  |.b p d=>(match ih with|some s=>some (.bool (@decide p d)::s)|none=>none)
  | _=>none) l
def vwS(cs:List SV)(lo sz n:Nat):List SV:=takeN (dropN cs (lo*sz)) (n*sz)
def sliceK(q:PH)(L:LL)(sz:Nat)(x:SV)(K:List Value→Prop):Prop:=
 match x with
 |.v (.slice A n _)=>Ob (∃xs,xs.length=n*sz∧Reads q A xs)∧∀xs,xs.length=n*sz→Reads q A xs→K xs
 |.own k=>match getL L k with|some (.arr _ sz' _ xs)=>(match Nat.beq sz' sz with|true=>K xs|false=>False)|some (.row _ sz' _ cs)=>(match Nat.beq sz' sz,rowVL cs with|true,some xs=>K xs|_,_=>False)|_=>False
 |.vw k lo sz' m _=>match getL L k with|some (.arr _ sz'' n xs)=>(match Nat.beq sz' sz,Nat.beq sz'' sz with|true,true=>Ob (lo+m≤n)∧K (vwC xs lo sz m)|_,_=>False)|some (.row _ sz'' n cs)=>(match Nat.beq sz' sz,Nat.beq sz'' sz,rowVL (vwS cs lo sz m) with|true,true,some xs=>Ob (lo+m≤n)∧K xs|_,_,_=>False)|_=>False
 |_=>False
def lenK(d:Ty)(L:LL)(x:SV)(K:SV→Prop):Prop:=
 match d,x with
 |.slice _,.v (.slice _ n _)=>K (.v (.int .i64 n))
 |.str,.v (.string s)=>K (.v (.int .i64 s.size))
 |.slice _,.own k=>match getL L k with|some (.arr _ _ n _)=>K (.v (.int .i64 n))|some (.row _ _ n _)=>K (.v (.int .i64 n))|_=>False
 |.slice _,.vw _ _ _ n _=>K (.v (.int .i64 n))
 |.slice _,.ls _ n=>K (.v (.int .i64 n))
 |_,_=>False
def minK(mx:Bool)(x y:SV)(K:SV→Prop):Prop:=
 match x,y with
 |.v (.int k a),.v (.int k' b)=>match Nat.beq (kc k) (kc k') with
  |true=>(match mx with|true=>K (.v (.int k (if b>a then b else a)))|false=>K (.v (.int k (if b<a then b else a))))
  |false=>False
 |_,_=>False
def partsK(T:Tab)(fs:List (Nat×Nat))(fr:Fr)(ps:List (Nat×Operand))(cs:List SV)(K:List SV→Prop):Prop:=
 match ps with
 |[]=>K cs
 |(i,x)::r=>
  match nth fs i with
  |some (off,t)=>fSV (opv fr x) λy=>
   match y with
   |.agg l=>(match Nat.beq l.length (ty T t).sz with|true=>(match Nat.ble (off+l.length) cs.length with|true=>fSVL (takeN cs off++l++dropN cs (off+l.length)) λc=>partsK T fs fr r c K|false=>False)|false=>False)
   |.tup _=>False
   |.bad=>False
   |.v (.agg _)=>False
   |.v (.tuple _)=>False
   |y=>(match Nat.beq (ty T t).sz 1 with|true=>(match Nat.blt off cs.length with|true=>fSVL (setN cs off y) λc=>partsK T fs fr r c K|false=>False)|false=>False)
  |none=>False
def valL:List Value→List SV
 |[]=>[]
 |(.bool b)::r=>.bb b::valL r
 |x::r=>.v x::valL r
def pickK(c a b:SV)(K:SV→Prop):Prop:=
 match c with
 |.bb true=>fSV a K
 |.bb false=>fSV b K
 |.b p _=>(p→fSV a K)∧(¬p→fSV b K)
 |_=>False
def elK(s i:Nat)(K:Nat→Prop):Prop:=
 match s with
 |1=>K i
 |2=>K (i*2)
 |3=>K (i*3)
 |4=>K (i*4)
 |5=>K (i*5)
 |6=>K (i*6)
 |7=>K (i*7)
 |8=>K (i*8)
 |9=>K (i*9)
 |10=>K (i*10)
 |11=>K (i*11)
 |12=>K (i*12)
 |s=>K (i*s)
theorem elK_eq(s i:Nat)(K:Nat→Prop):elK s i K=K (i*s):=by unfold elK;split<;>simp
def arrK(sz k o:Nat)(i:Int)(K:SV→Prop)(n:Nat):Nat→Prop:=Nat.rec (motive:=λ_=>Nat→Prop) (λ_=>True)
 (λ_ ih j=>(i=(j:Int)→match o+j*sz with|0=>K (.lp k 0)|m+1=>K (.lp k (m+1)))∧ih (j+1)) n
def idxK(T:Tab)(L:LL)(t:Nat)(x i:SV)(K:SV→Prop):Prop:=
 match (ty T t).d,x,i with
 |.slice e,.v (.slice A n _),.v (.int _ i)=>Ob (0≤i∧i<n∧A≠none)∧elK (ty T e).sz i.toNat λj=>K (.el A j)
 |.slice e,.own k,.v (.int _ i)=>match getL L k with|some (.arr _ _ n _)=>Ob (0≤i∧i<n)∧elK (ty T e).sz i.toNat λj=>K (.lp k j)|some (.row _ _ n _)=>Ob (0≤i∧i<n)∧elK (ty T e).sz i.toNat λj=>K (.lp k j)|_=>False
 |.slice e,.vw k lo sz m _,.v (.int _ i)=>match getL L k with
  |some (.arr _ _ n _)=>(match Nat.beq sz (ty T e).sz with|true=>Ob (0≤i∧i<m∧lo+m≤n)∧elK (ty T e).sz (lo+i.toNat) λj=>K (.lp k j)|false=>False)
  |some (.row _ _ n _)=>(match Nat.beq sz (ty T e).sz with|true=>Ob (0≤i∧i<m∧lo+m≤n)∧elK (ty T e).sz (lo+i.toNat) λj=>K (.lp k j)|false=>False)
  |_=>False
 |.slice e,.ls k n,.v (.int _ i)=>Ob (0≤i∧i<(n:Int))∧arrK (ty T e).sz k 0 i K n 0
 |.arr n e,.lp k o,.v (.int _ i)=>Ob (0≤i∧i<(n:Int))∧arrK (ty T e).sz k o i K n 0
 |_,_,_=>False
def strIdxK(T:Tab)(t:Nat)(x i:SV)(K:SV→Prop):Prop:=
 match (ty T t).d,x,i with
 |.str,.v (.string s),.v (.int _ i)=>Ob (0≤i∧i<s.size)∧K (.v (.int .u8 ((s.data.toList[i.toNat]?.getD 0).toNat:Int)))
 |_,_,_=>False
def bndK(x:Option SV)(d:Int)(K:Int→Prop):Prop:=
 match x with
 |none=>K d
 |some (.v (.int _ i))=>K i
 |_=>False
def slcK(T:Tab)(L:LL)(t:Nat)(x:SV)(lo hi:Option SV)(K:SV→Prop):Prop:=
 match (ty T t).d,x with
 |.str,.v (.string s)=>bndK lo 0 λl=>bndK hi s.size λh=>Ob (0≤l∧l≤h∧h≤s.size)∧K (.v (.string (s.extract l.toNat h.toNat)))
 |.slice e,.v (.slice A n c)=>bndK lo 0 λl=>bndK hi n λh=>Ob (0≤l∧l≤h∧h≤c)∧elK (ty T e).sz l.toNat λj=>∀m,m=h.toNat-l.toNat→K (.v (.slice (if c=l.toNat then A else A.map (·.add j)) m (c-l.toNat)))
 | .slice e,.own k=>(match getL L k with
  |some (.arr _ sz n _)=>(match Nat.beq sz (ty T e).sz with|true=>bndK lo 0 λl=>bndK hi n λh=>Ob (0≤l∧l≤h∧h≤n)∧∀m,m=h.toNat-l.toNat→K (.vw k l.toNat sz m true)|false=>False)
  |some (.row _ sz n _)=>(match Nat.beq sz (ty T e).sz with|true=>bndK lo 0 λl=>bndK hi n λh=>Ob (0≤l∧l≤h∧h≤n)∧∀m,m=h.toNat-l.toNat→K (.vw k l.toNat sz m true)|false=>False)
  | _=>False)
 |.slice e,.vw k lo0 sz n _=>(match Nat.beq sz (ty T e).sz with|true=>bndK lo 0 λl=>bndK hi n λh=>Ob (0≤l∧l≤h∧h≤n)∧∀m,m=h.toNat-l.toNat→K (.vw k (lo0+l.toNat) sz m false)|false=>False)
 |_,_=>False
def optv(fr:Fr):Option Operand→Option SV
 |none=>none
 |some x=>some (opv fr x)
inductive Dat where
 |v (x:Value)
 |sl (n:Nat) (xs:List Value)
inductive AK where
 |v
 |sl (sz:Nat)
structure Spec where
 f:FuncId
 ks:List AK
 dom:List Dat→Prop
 val:List Dat→SV
mutual
def toV:SV→Option Value
 |.v x=>some x
 |.bb b=>some (.bool b)
 |.b p d=>some (.bool (@decide p d))
 |.agg cs=>match toVL cs with|some l=>some (.agg l.toArray)|none=>none
 |_=>none
def toVL:List SV→Option (List Value)
 |[]=>some []
 |x::r=>match toV x with
  |some y=>match toVL r with|some s=>some (y::s)|none=>none
  |none=>none
end
def datK(q:PH)(L:LL)(ks:List AK)(xs:List SV)(K:List Dat→Prop):Prop:=
 match ks,xs with
 |[],[]=>K []
 | .v::ks,x::xs=>(match toV x with
  |some y=>datK q L ks xs λl=>K (.v y::l)
  | none=>False)
 | .sl sz::ks,x::xs=>(match x with
  |.v (.slice A n c)=>Ob (n≤c)∧Ob (∃ys,ys.length=n*sz∧Reads q A ys)∧∀ys,ys.length=n*sz→Reads q A ys→datK q L ks xs λl=>K (.sl n ys::l)
  |.own k=>(match getL L k with|some (.arr _ sz' n ys)=>(match Nat.beq sz' sz with|true=>datK q L ks xs λl=>K (.sl n ys::l)|false=>False)|_=>False)
  | _=>False)
 |_,_=>False
def findS(Γ:List Spec)(f:FuncId):Option Spec:=
 match Γ with
 |[]=>none
 |s::r=>match Nat.beq s.f f with|true=>some s|false=>findS r f
def convK(T:Tab)(q:PH)(L:LL)(src dst:Nat)(x:SV)(K:SV→Prop):Prop:=
 match (ty T src).d,(ty T dst).d,x with
 |.int _,.int k',.v (.int k n)=>(match widens k k' with|true=>Ob (inR k' n)∧K (.v (.int k' n))|false=>K (.v (.int k' (k'.wrap n))))
 |.str,.str,.v (.string s)=>K (.v (.string s))
 |.int _,.flt k',.v (.int _ n)=>K (.v (.float k' (k'.nearest n)))
 | .slice e,.str,x=>(match (ty T e).d with
  |.int .u8=>sliceK q L 1 x λxs=>Ob (∃bs:List UInt8,xs=bs.map bv)∧∀bs:List UInt8,xs=bs.map bv→K (.v (.string ⟨bs.toArray⟩))
  | _=>False)
 |_,_,_=>False
def extrK(x:SV)(i:Nat)(K:SV→Prop):Prop:=
 match x with
 |.tup cs=>(match nth cs i with|some y=>fSV y K|none=>False)
 |_=>False
def fieldK(T:Tab)(t f:Nat)(x:SV)(K:SV→Prop):Prop:=
 match xR T t f,x with
 | some (off,ft),.agg cs=>(match ty T ft with
  |⟨.other,_,_,_,_,_⟩=>False
  | ⟨d,sz,_,_,_,_⟩=>(match Nat.ble (off+sz) cs.length with | true=>fSV (zF d (takeN (dropN cs off) sz)) K | false=>False))
 |_,_=>False
def faddrK(T:Tab)(t f:Nat)(x:SV)(K:SV→Prop):Prop:=
 match xR T t f,x with
 |some (off,_),.lp k o=>K (.lp k (o+off))
 |some (off,_),.el A j=>K (.el A (j+off))
 |some (off,_),.v (.pointer (some a))=>K (.el (some a) off)
 |_,_=>False
def nilcK(x:SV)(K:SV→Prop):Prop:=
 match x with
 |.lp k o=>K (.lp k o)
 |.fn f cs=>K (.fn f cs)
 |.yl k=>K (.yl k)
 |.v (.pointer A)=>Ob (∃a,A=some a)∧∀a,A=some a→K (.v (.pointer (some a)))
 |_=>False
def buildK(T:Tab)(t:Nat)(fr:Fr)(ps:List (Nat×Operand))(K:SV→Prop):Prop:=
 match (ty T t).d with
 |.struct fs=>partsK T fs fr ps (valL (ty T t).zero) λcs=>K (.agg cs)
 |_=>False
def mkfK(fn:Fn)(first cs:List SV)(K:SV→Prop):Prop:=
 match fn,first with
 |.func f,[]=>fSVL cs λl=>K (.fn f l)
 |_,_=>False
def builtK(T:Tab)(b:Builtin)(xs:List SV)(ts:List Nat)(L:LL)(K:SV→Prop):Prop:=
 match b,xs,ts with
 |.len,[x],[t]=>lenK (ty T t).d L x K
 |.min,[x,y],_=>minK false x y K
 |.max,[x,y],_=>minK true x y K
 |_,_,_=>False
mutual
def closed:SV→Bool
 |.v _=>true
 |.bb _=>true
 |.b _ _=>true
 |.agg cs=>closedL cs
 |.tup cs=>closedL cs
 |.fn _ cs=>closedL cs
 |_=>false
def closedL:List SV→Bool
 |[]=>true
 |x::r=>match closed x with|true=>closedL r|false=>false
end
inductive PC where
 |w (v:Value)
 |row (sz n:Nat) (xs:List Value)
inductive CA where
 |w (x:SV)
 |sl (sz n:Nat) (xs:List Value)
 |pt (cs:List PC)
structure CS where
 f:FuncId
 calm:Bool:=false
 ι:Type
 keys:Nat:=0
 more:Nat:=0
 ok:ι→Prop
 rds:ι→List (Option Addr×List Value)
 args:ι→List CA
 L:ι→LL:=λ_=>[]
 res:ι→SV
 L':ι→LL:=λ_=>[]
 rn:List (Nat×Nat×Nat×Nat):=[]
 gr:Bool:=false
 γ:Type:=Unit
 resG:ι→γ→SV:=λi _=>res i
 LG:ι→γ→LL:=λi _=>L' i
 okG:ι→γ→Prop:=λ_ _=>True
 rdsG:ι→γ→List (Option Addr×List Value):=λ_ _=>[]
 fzr:List (Nat×Nat):=[]
def RdsOk(q:PH)(l:List (Option Addr×List Value)):Prop:=
 match l with
 |[]=>True
 |(A,xs)::r=>Reads q A xs∧RdsOk q r
def findC(Δ:List CS)(f:FuncId):Option CS:=
 match Δ with
 |[]=>none
 |s::r=>match Nat.beq s.f f with|true=>some s|false=>findC r f
abbrev As:=List (Nat×Nat)
def asGet(ags:As)(k:Nat):Option Nat:=
 match ags with
 |[]=>none
 |(u,x)::r=>match Nat.beq u k with|true=>some x|false=>asGet r k
def asHas(ags:As)(k:Nat):Bool:=
 match ags with
 |[]=>false
 |(_,x)::r=>match Nat.beq x k with|true=>true|false=>asHas r k
def asK(b:Nat)(ags:As)(k j:Nat)(K:As→Prop):Prop:=
 match Nat.ble b k with
 | true=>(match asGet ags k with
  |some i=>(match Nat.beq i j with|true=>K ags|false=>False)
  | none=>(match asHas ags j with | true=>False | false=>K ((k,j)::ags)))
 | false=>(match Nat.beq k j with
  | true=>(match asGet ags k with
   |some _=>K ags
   | none=>(match asHas ags j with | true=>False | false=>K ags))
  | false=>False)
mutual
def mSV(b:Nat)(tm ac:SV)(ags:As)(K:As→Prop):Prop:=
 match tm,ac with
 |.bad,_=>K ags
 |.v x,.v y=>Ob (x=y)∧K ags
 |.v (.bool x),.bb y=>Ob (x=y)∧K ags
 |.v (.bool x),.b p _=>Ob (x=true↔p)∧K ags
 |.bb x,.bb y=>Ob (x=y)∧K ags
 |.bb x,.b p _=>Ob (x=true↔p)∧K ags
 |.b p _,.b p' _=>Ob (p↔p')∧K ags
 |.b p _,.bb y=>Ob (p↔y=true)∧K ags
 |.b p _,.v (.bool y)=>Ob (p↔y=true)∧K ags
 |.lp k o,.lp j o'=>Ob (o=o')∧asK b ags k j K
 |.own k,.own j=>asK b ags k j K
 |.yl k,.yl j=>asK b ags k j K
 |.vw k lo sz n ex,.vw j lo' sz' n' ex'=>Ob (lo=lo'∧sz=sz'∧n=n'∧ex=ex')∧asK b ags k j K
 |.lq _,.v (.pointer none)=>K ags
 |.lq k,.lp j 0=>asK b ags k j K
 |.lq k,.lq j=>asK b ags k j K
 |.ls k n,.ls j n'=>Ob (n=n')∧asK b ags k j K
 |.mr k,.mr j=>asK b ags k j K
 |.el A i,.el A' i'=>Ob (A=A'∧i=i')∧K ags
 |.agg l,.agg l'=>mL b l l' ags K
 |.tup l,.tup l'=>mL b l l' ags K
 |.fn f l,.fn f' l'=>(match Nat.beq f f' with|true=>mL b l l' ags K|false=>False)
 |.v (.agg x),.agg l'=>mVL x.toList l' (K ags)
 |.v (.tuple x),.tup l'=>mVL x.toList l' (K ags)
 |_,_=>False
def mL(b:Nat)(tm ac:List SV)(ags:As)(K:As→Prop):Prop:=
 match tm,ac with
 |[],[]=>K ags
 |x::r,y::s=>mSV b x y ags λags=>mL b r s ags K
 |_,_=>False
def mVL(tm:List Value)(ac:List SV)(K:Prop):Prop:=
 match tm,ac with
 |[],[]=>K
 |x::r,y::s=>mSV 0 (.v x) y [] λ_=>mVL r s K
 |_,_=>False
end
def pcArgs(q:PH)(cs:List PC):List Value→Prop:=
 List.rec (motive:=λ_=>List Value→Prop) (λus=>match us with|[]=>True|_::_=>False)
  (fun c _ ih us=>match us with
   |[]=>False
   | u::s=>(match c with
    |.w v=>u=v∧ih s
    | .row sz n xs=>(∃A c,u=.slice A n c∧n≤c∧xs.length=n * sz∧Reads q A xs)∧ih s)) cs
def pcG(m:SV→SV→Prop→Prop)(q:PH)(L:LL)(cs:List PC):List SV→List Nat→(List Nat→Prop)→Prop:=
 List.rec (motive:=λ_=>List SV→List Nat→(List Nat→Prop)→Prop) (λac ro K=>match ac with|[]=>K ro|_::_=>False)
  (fun c _ ih ac ro K=>match ac with
   |[]=>False
   | y::s=>(match c with
    |.w v=>m (.v v) y (ih s ro K)
    | .row sz n xs=>(match y with
     |.v (.slice A m c)=>Ob (m=n∧m≤c∧xs.length=m*sz∧Reads q A xs)∧ih s ro K
     | .own j=>(match getL L j with
      |some (.arr _ sz' m ys)=>(match Nat.beq sz' sz with|true=>Ob (m=n∧ys=xs)∧ih s (j::ro) K|false=>False)
      | _=>False)
     | .vw j lo sz' m _=>(match getL L j with
      |some (.arr _ sz'' n0 ys)=>(match Nat.beq sz' sz,Nat.beq sz'' sz with|true,true=>Ob (m=n∧lo+m≤n0∧vwC ys lo sz m=xs)∧ih s (j::ro) K|_,_=>False)
      | _=>False)
     | _=>False))) cs
def mA(q:PH)(L:LL)(tm:List CA)(ac:List SV)(ags:As)(ro:List Nat)(K:As→List Nat→Prop):Prop:=
 match tm,ac with
 |[],[]=>K ags ro
 |.w x::r,y::s=>mSV 0 x y ags λags=>mA q L r s ags ro K
 | .sl sz n xs::r,y::s=>(match y with
  |.v (.slice A m c)=>Ob (m=n∧m≤c∧xs.length=m*sz∧Reads q A xs)∧mA q L r s ags ro K
  | .own k=>(match getL L k with
   |some (.arr _ sz' m ys)=>(match Nat.beq sz' sz with|true=>Ob (m=n∧ys=xs)∧mA q L r s ags (k::ro) K|false=>False)
   | _=>False)
  | .vw k lo sz' m _=>(match getL L k with
   |some (.arr _ sz'' n0 ys)=>(match Nat.beq sz' sz,Nat.beq sz'' sz with|true,true=>Ob (m=n∧lo+m≤n0∧vwC ys lo sz m=xs)∧mA q L r s ags (k::ro) K|_,_=>False)
   | _=>False)
  | _=>False)
 | .pt cs::r,y::s=>(match y with
  | .lp k 0=>(match getL L k with
   |some (.cells _ acs)=>pcG (λt y K=>mSV 0 t y [] λ_=>K) q L cs acs (k::ro) λro=>mA q L r s ags ro K
   | _=>False)
  |.v (.pointer (some a))=>Ob (a.spot=none∧∃us,us.length=cs.length∧Reads q (some a) us∧pcArgs q cs us)∧mA q L r s ags ro K
  | _=>False)
 |_,_=>False
def callK(T:Tab)(Γ:List Spec)(Δ:List CS)(q:PH)(c:Call)(fr:Fr)(L:LL)(K:SV→Prop):Prop:=
 match c with
 |⟨.builtin b,xs,ts⟩=>builtK T b (opvs fr xs.toList) ts.toList L K
 | ⟨.value (.func f),xs,_⟩=>(match findS Γ f with
  |some s=>datK q L s.ks (opvs fr xs.toList) λds=>Ob (s.dom ds)∧fSV (s.val ds) λr=>match closed r with|true=>K r|false=>False
  | none=>(match findC Δ f with
   | some s=>(match s.calm with
    |true=>∃i,Ob (s.ok i)∧Ob (RdsOk q (s.rds i))∧mA q L (s.args i) (opvs fr xs.toList) [] [] λags _=>fSV (s.res i) λr=>(match ags,closed r with|[],true=>K r|_,_=>False)
    | false=>False)
   | none=>False))
 |_=>False
def slc3K(T:Tab)(L:LL)(t:Nat)(x:SV)(lo hi:Option SV)(mx:SV)(K:SV→Prop):Prop:=
 match (ty T t).d,x,hi with
 | .slice e,.own k,some hi=>(match getL L k with
  |some (.arr _ sz n _)=>(match Nat.beq sz (ty T e).sz with|true=>bndK lo 0 λl=>bndK (some hi) 0 λh=>bndK (some mx) 0 λx=>Ob (0≤l∧l≤h∧h≤x∧x≤n)∧∀m,m=h.toNat-l.toNat→K (.vw k l.toNat sz m false)|false=>False)
  |some (.row _ sz n _)=>(match Nat.beq sz (ty T e).sz with|true=>bndK lo 0 λl=>bndK (some hi) 0 λh=>bndK (some mx) 0 λx=>Ob (0≤l∧l≤h∧h≤x∧x≤n)∧∀m,m=h.toNat-l.toNat→K (.vw k l.toNat sz m false)|false=>False)
  | _=>False)
 |_,_,_=>False
def sliceOpK(T:Tab)(L:LL)(t:Nat)(x:SV)(lo hi mx:Option SV)(K:SV→Prop):Prop:=
 match mx with
 |none=>slcK T L t x lo hi K
 |some mx=>slc3K T L t x lo hi mx K
def calmK(T:Tab)(Γ:List Spec)(Δ:List CS)(wr:Bool)(q:PH)(op:Op)(fr:Fr)(L:LL)(K:SV→Prop):Prop:=
 match op with
 |.move x=>fSV (opv fr x) K
 |.assign x=>fSV (opv fr x) K
 |.pick c a b=>pickK (opv fr c) (opv fr a) (opv fr b) K
 |.binOp op t x y _=>binK (ty T t).cmp (ty T t).d op wr (opv fr x) (opv fr y) K
 |.unOp op _ x=>unK op wr (opv fr x) K
 |.convert src dst x=>convK T q L src dst (opv fr x) K
 |.extract x i=>extrK (opv fr x) i K
 |.field t x f=>fieldK T t f (opv fr x) K
 |.fieldAddr t x f=>faddrK T t f (opv fr x) K
 |.nilCheck x=>nilcK (opv fr x) K
 |.indexAddr t x i=>idxK T L t (opv fr x) (opv fr i) K
 |.index t x i=>strIdxK T t (opv fr x) (opv fr i) K
 |.load t x=>loadK T q L t (opv fr x) K
 |.slice t x lo hi mx=>sliceOpK T L t (opv fr x) (optv fr lo) (optv fr hi) (optv fr mx) K
 |.build t ps=>buildK T t fr ps.toList K
 |.makeFunc fn first cs=>mkfK fn (opvs fr first.toList) (opvs fr cs.toList) K
 |.call c=>callK T Γ Δ q c fr L K
 |_=>False
end
end Go.Eng
end
namespace Go.Eng
open Go Go.RowKit
theorem fVal_eq(x:Value)(K:Value→Prop):fVal x K=K x:=by cases x<;>rfl
theorem fSV0_eq(x:SV)(K:SV→Prop):fSV0 x K=K x:=by
 cases x with
 |v x=>exact fVal_eq x λy=>K (.v y)
 |bb b=>cases b<;>rfl
 |_=>rfl
theorem xl:∀(l:List SV) (K:List SV→Prop),fSVL l K=K l
 |[],K=>rfl
 |x::r,K=>by rw[fSVL_c,fSV0_eq,xl]
theorem yn(x:SV)(K:SV→Prop):fSV x K=K x:=by
 cases x with
 |v x=>exact fVal_eq x λy=>K (.v y)
 |bb b=>cases b<;>rfl
 |agg cs=>exact xl cs λl=>K (.agg l)
 |tup cs=>exact xl cs λl=>K (.tup l)
 |fn f cs=>exact xl cs λl=>K (.fn f l)
 |_=>rfl
theorem fLB_eq(x:LB)(K:LB→Prop):fLB x K=K x:=by
 cases x with
 |cells T cs=>simp[fLB,xl]
 |arr E sz n xs=>rfl
 |row E sz n cs=>simp[fLB,xl]
 |dfr=>rfl
 |mp es c=>rfl
 |sb E n xs=>rfl
 |loop st pe=>
  unfold fLB;dsimp only;split<;>rfl
theorem zY:∀(l:LL) (K:LL→Prop),fLL l K=K l
 |[],K=>rfl
 |(k,x)::r,K=>by rw[fLL_c,fLB_eq,zY]
theorem fFr_eq:∀(l:Fr) (K:Fr→Prop),fFr l K=K l
 |[],K=>rfl
 |(k,x)::r,K=>by rw[fFr_c,yn,fFr_eq]
mutual
def okv(S:Pl):SV→Value→Prop
 |.bad,_=>True
 |.agg cs,x=>∃vs,x=.agg vs.toArray∧okL S cs vs
 |.tup cs,x=>∃vs,x=.tuple vs.toArray∧okL S cs vs
 |.fn f cs,x=>∃vs,x=.func (.func f) #[] vs.toArray∧okL S cs vs
 |.v y,x=>x=y
 |.bb b,x=>x=.bool b
 |.b p d,x=>x=.bool (@decide p d)
 |.lp k o,x=>x=.pointer (some ⟨(S k).b,o,none⟩)
 |.own k,x=>x=.slice (S k).A (S k).n (S k).c
 |.el A j,x=>∃a,A=some a∧x=.pointer (some (a.add j))
 |.yl k,x=>x=.func (.yield (S k).b) #[] #[]
 |.vw k lo sz n ex,x=>∃A c,x=.slice A n c∧n≤c∧(n=0∨A=(S k).A.map (·.add (lo*sz)))∧(ex=true→lo=0→A=(S k).A∧c=(S k).c)
 |.lq k,x=>x=.pointer none∨x=.pointer (some ⟨(S k).b,0,none⟩)
 |.ls k n,x=>x=.slice (some ⟨(S k).b,0,none⟩) n n
 |.mr k,x=>x=.map (some (S k).b)
def okL(S:Pl):List SV→List Value→Prop
 |[],[]=>True
 |x::r,y::s=>okv S x y∧okL S r s
 |_,_=>False
end
theorem zC{S:Pl}:∀{cs:List SV}{vs:List Value},okL S cs vs→cs.length=vs.length
 |[],[],_=>rfl
 |x::r,y::s,h=>by simp[zC h.2]
 |[],_::_,h=>by cases h
 |_::_,[],h=>by cases h
theorem okL_nth{S:Pl}:∀{cs:List SV}{vs:List Value},okL S cs vs→∀{i:Nat}{x:SV},nth cs i=some x→∃v,vs[i]?=some v∧okv S x v
 |[],[],_,i,x,hi=>by simp[nth_n] at hi
 |x::r,y::s,h,0,z,hi=>by simp[nth_0] at hi;subst hi;exact⟨y,rfl,h.1⟩
 |x::r,y::s,h,i+1,z,hi=>by simp only[nth_s] at hi;simpa using okL_nth h.2 hi
 |[],_::_,h,_,_,_=>by cases h
 |_::_,[],h,_,_,_=>by cases h
theorem zV{S:Pl}:∀{a b:List SV}{x y:List Value},okL S a x→okL S b y→okL S (a++b) (x++y)
 |[],_,[],_,_,h=>h
 |_::_,_,_::_,_,h,h'=>⟨h.1,zV h.2 h'⟩
 |[],_,_::_,_,h,_=>by cases h
 |_::_,_,[],_,h,_=>by cases h
theorem yG{S:Pl}:∀{cs:List SV}{vs:List Value}(n:Nat),okL S cs vs→okL S (takeN cs n) (vs.take n)
 |[],[],n,_=>by cases n<;>simp[takeN,okL]
 |_::_,_::_,0,_=>by simp[takeN,okL]
 |_::_,_::_,n+1,h=>by simp only[takeN,List.take_succ_cons];exact⟨h.1,yG n h.2⟩
 |[],_::_,_,h=>by cases h
 |_::_,[],_,h=>by cases h
theorem xg{S:Pl}:∀{cs:List SV}{vs:List Value}(n:Nat),okL S cs vs→okL S (dropN cs n) (vs.drop n)
 |[],[],n,_=>by cases n<;>simp[dropN,okL]
 |_::_,_::_,0,h=>h
 |_::_,_::_,n+1,h=>by simp only[dropN,List.drop_succ_cons];exact xg n h.2
 |[],_::_,_,h=>by cases h
 |_::_,[],_,h=>by cases h
theorem okL_set{S:Pl}:∀{cs:List SV}{vs:List Value}(n:Nat) {x:SV}{v:Value},okL S cs vs→okv S x v→okL S (setN cs n x) (vs.set n v)
 |[],[],n,_,_,_,_=>by simp[setN,okL]
 |_::_,_::_,0,_,_,h,hx=>⟨hx,h.2⟩
 |_::_,_::_,n+1,_,_,h,hx=>⟨h.1,okL_set n h.2 hx⟩
 |[],_::_,_,_,_,h,_=>by cases h
 |_::_,[],_,_,_,h,_=>by cases h
theorem length_takeN{α:Type}:∀(l:List α) (n:Nat),(takeN l n).length=min n l.length
 |_,0=>by simp[takeN]
 |[],n+1=>by simp[takeN]
 |x::r,n+1=>by simp[takeN,length_takeN r n]
theorem length_dropN{α:Type}:∀(l:List α) (n:Nat),(dropN l n).length=l.length-n
 |_,0=>by simp[dropN]
 |[],n+1=>by simp[dropN]
 |x::r,n+1=>by simp[dropN,length_dropN r n]
def jumpOf:Ex→Option Code
 |.norm=>none
 |.ret=>some .ret
 |.exit n=>some (.exit n)
 |.goto n=>some (.goto n)
def zD(N0:Nat)(S:Pl)(k:Nat)(lb:LB)(w:World):Prop:=
 match lb with
 |.cells T cs=>N0≤(S k).b∧∃vs,w.heap[(S k).b]?=some (.cells vs.toArray T (0,0))∧okL S cs vs
 |.arr E sz n xs=>w.ownsRow N0 E sz (.slice (S k).A (S k).n (S k).c) n xs∧(S k).n=n∧0<sz∧(∀x∈xs,x.oneCell'=true)∧((S k).A=none∨(S k).A=some ⟨(S k).b,0,none⟩)
 |.row E sz n cs=>∃xs,(w.ownsRow N0 E sz (.slice (S k).A (S k).n (S k).c) n xs∧(S k).n=n∧0<sz∧(∀x∈xs,x.oneCell'=true)∧((S k).A=none∨(S k).A=some ⟨(S k).b,0,none⟩))∧okL S cs xs
 |.dfr=>N0≤(S k).b∧w.heap[(S k).b]?=some (.deferred (some []))
 |.sb E n xs=>N0≤(S k).b∧(S k).A=some ⟨(S k).b,0,none⟩∧(S k).n=n∧n≤(S k).c∧xs.length=n∧∃cur fz,w.heap[(S k).b]?=some (.cells cur E fz)∧cur.toList.take n=xs
 |.mp es c=>N0≤(S k).b∧w.heap[(S k).b]?=some (.map es.toArray c)
 |.loop st pe=>N0≤(S k).b∧w.heap[(S k).b]?=some (.loop { (S k).r with state:=st,pending:=pe.bind jumpOf })
def blk(S:Pl)(k:Nat):LB→Option Nat
 |.cells _ _=>some (S k).b
 |.arr _ _ _ _=>(S k).A.map (·.block)
 |.row _ _ _ _=>(S k).A.map (·.block)
 |.dfr=>some (S k).b
 |.loop _ _=>some (S k).b
 |.mp _ _=>some (S k).b
 |.sb _ _ _=>some (S k).b
theorem zI{N0:Nat}{S:Pl}{k:Nat}{lb:LB}{w w':World}(h:zD N0 S k lb w)(hs:∀b,blk S k lb=some b→w'.heap[b]?=w.heap[b]?):zD N0 S k lb w':=by
 cases lb with
 |cells T cs=>obtain⟨h1,vs,h2,h3⟩:=h;exact⟨h1,vs,(hs _ rfl).trans h2,h3⟩
 |dfr=>exact⟨h.1,(hs _ rfl).trans h.2⟩
 |mp es c=>exact⟨h.1,(hs _ rfl).trans h.2⟩
 |sb E n xs=>obtain⟨h1,h2,h3,h4,h5,cur,fz,h6,h7⟩:=h;exact⟨h1,h2,h3,h4,h5,cur,fz,(hs _ rfl).trans h6,h7⟩
 |loop st pe=>exact⟨h.1,(hs _ rfl).trans h.2⟩
 |arr E sz n xs=>
  obtain⟨⟨h1,h2⟩,h3,h4⟩:=h;refine⟨⟨h1,?_⟩,h3,h4⟩;rcases h2 with h2|⟨g,cap,cur,hv,hg,hh,r⟩
  ·exact .inl h2
  refine .inr ⟨g,cap,cur,hv,hg,?_,r⟩;rw[hs g ?_]
  ·exact hh
  injection hv with h _ _;simp[blk,h]
 |row E sz n cs=>
  obtain⟨xs,⟨⟨h1,h2⟩,h3,h4⟩,h5⟩:=h;refine⟨xs,⟨⟨h1,?_⟩,h3,h4⟩,h5⟩;rcases h2 with h2|⟨g,cap,cur,hv,hg,hh,r⟩
  ·exact .inl h2
  refine .inr ⟨g,cap,cur,hv,hg,?_,r⟩;rw[hs g ?_]
  ·exact hh
  injection hv with h _ _;simp[blk,h]
structure W0 where
 w:World
 F:Nat→Prop
 lt:∀b,F b→b<w.heap.size
 F0:Nat→Prop
 sub:∀b,F0 b→F b
 q:PH
structure Bel (w0:W0) (w:World):Prop where
 os:w.os=w0.w.os
 tape:w.tape=w0.w.tape
 output:w.output=w0.w.output
 size:w0.w.heap.size≤w.heap.size
 block:∀b,w0.F b→w.heap[b]?=w0.w.heap[b]?
theorem Bel.refl(w0:W0):Bel w0 w0.w:=⟨rfl,rfl,rfl,Nat.le_refl _,λ_ _=>rfl⟩
theorem Bel.trans{w0:W0}{w w':World}(h:Bel w0 w)(hb:Below w.heap.size w w'):Bel w0 w':=
 ⟨hb.os.trans h.os,hb.tape.trans h.tape,hb.output.trans h.output,Nat.le_trans h.size hb.size,λb hF=>(hb.block b (Nat.lt_of_lt_of_le (w0.lt b hF) h.size)).trans (h.block b hF)⟩
theorem Bel.grown{w0:W0}{w w':World}{row:Option Nat}(h:Bel w0 w)(hg:w.grownBy w' row)(hr:∀k,row=some k→¬w0.F k):Bel w0 w':=
 ⟨hg.os.trans h.os,hg.tape.trans h.tape,hg.output.trans h.output,Nat.le_trans h.size hg.size,λb hF=>(hg.block b (Nat.lt_of_lt_of_le (w0.lt b hF) h.size) (λe=>hr b e.symm hF)).trans (h.block b hF)⟩
theorem Bel.drew{w0:W0}{w:World}(h:Bel w0 w):Bel w0 w.drew:=h.trans (Below.refl _ w).drew
def W0.all(w:World):W0:=⟨w,λb=>b<w.heap.size,λ_ h=>h,λb=>b<w.heap.size,λ_ h=>h,λb o=>w.cell? ⟨b,o,none⟩⟩
theorem Bel.below{w w':World}(h:Bel (W0.all w) w'):Below w.heap.size w w':=⟨h.os,h.tape,h.output,h.size,h.block⟩
structure Cl (w0:W0) (p:PH) (S:Pl) (L:LL) (w1 w:World):Prop where
 ch:∀k lb,getL L k=some lb→∀b,blk S k lb=some b→w.heap[b]?=w1.heap[b]?
 on:PH.on p w
 be:Bel w0 w
def okF(S:Pl)(fr:Fr)(tm:Array Value):Prop:=∀t,okv S (get fr t) (tm.getD t undef)
theorem zu{S:Pl}{fr:Fr}{a:Act}(h:okF S fr a.tmps)(x:Operand):okv S (opv fr x) (a.eval x):=by
 cases x with
 |tmp t=>exact h t
 |const v=>cases v<;>simp[opv,okv,Act.eval]
 |global g=>simp[opv,okv]
 |func f=>exact⟨[],rfl,trivial⟩
theorem opvs_ok{S:Pl}{fr:Fr}{a:Act}(h:okF S fr a.tmps):∀(l:List Operand),okL S (opvs fr l) (l.map a.eval)
 |[]=>trivial
 |x::r=>⟨zu h x,opvs_ok h r⟩
def sizeOk(P:Program)(T:Tab)(e:Nat):Prop:=0<(ty T e).sz∧∃i,P.info? e=some i∧i.size=(ty T e).sz∧i.bytes=(ty T e).byt
def yz(P:Program)(T:Tab)(t:Nat):Ty→Prop
 |.int k=>P.underlying t=some (.int k)
 |.bool=>P.underlying t=some .bool
 |.str=>P.underlying t=some .string
 |.flt k=>P.underlying t=some (.float k)
 |.ptr e=>P.underlying t=some (.pointer e)
 |.slice e=>P.underlying t=some (.slice e)∧sizeOk P T e
 |.struct fs=>∃F:Array Field,P.underlying t=some (.struct F)∧F.toList.map (λf=>(f.offset,f.type))=fs∧∀x∈fs,sizeOk P T x.2
 |.arr n e=>P.underlying t=some (.array n e)∧sizeOk P T e
 |.func=>∃a b c,P.underlying t=some (.func a b c)
 |.map k e=>P.underlying t=some (.map k e)
 |.other=>True
def kindOk(P:Program)(t:Nat):Ty→Prop
 |.int _=>∃k,P.underlying t=some (.int k)
 |.str=>P.underlying t=some .string
 |.bool=>P.underlying t=some .bool
 |_=>False
inductive CmpF (P:Program):Nat→List Field→Nat→List Ty→Prop
 |nil {n j}:CmpF P n [] j []
 | word {n f fs j t c} : f.offset = j → f.name ≠ "_" → kindOk P f.type t → CmpF P n fs (j + 1) c → CmpF P (n + 1) (f :: fs) j (t :: c)
 | sub {n f fs j c1 c2 i} : f.offset = j → f.name ≠ "_" → P.underlying f.type = some (.struct (P.fieldsOf f.type)) → P.stoodInHeld f.type = false → P.info? f.type = some i → i.size = c1.length →
   CmpF P n (P.fieldsOf f.type).toList 0 c1→CmpF P n fs (j+c1.length) c2→CmpF P (n+1) (f::fs) j (c1++c2)
def CmpOk(P:Program)(t:Nat)(c:List Ty):Prop:=
 P.underlying t=some (.struct (P.fieldsOf t))∧P.stoodInHeld t=false∧P.eqGuardType P.depth t=false∧CmpF P 64 (P.fieldsOf t).toList 0 c
structure TOk (P:Program) (T:Tab) (t:Nat) (ti:TI):Prop where
 d:yz P T t ti.d
 i:∃i z,P.info? t=some i∧i.size=ti.sz∧i.bytes=ti.byt∧i.zero=some z∧z.cells.toList=ti.zero
 fl:ti.flat.length=ti.sz
 pos:0<ti.sz
 zl:ti.zero.length=ti.sz
 one:(∀fs,ti.d≠.struct fs)→(∀n e,ti.d≠.arr n e)→ti.sz=1
 cm:ti.cmp≠[]→CmpOk P t ti.cmp
def zG(P:Program)(T:Tab):Prop:=∀t,(ty T t).d≠.other→TOk P T t (ty T t)
section
variable {P:Program}{T:Tab}{Γ:List Spec}{S:Pl}{fr:Fr}{L:LL}{p:PH}{N0:Nat}{w0:W0}{a:Act}{C:World→Prop}
def Yl(P:Program)(C:World→Prop)(ρ:Operand→Value)(o:Oper)(x:Value):Prop:=∀w,C w→Oper.quietUpon P (λw'=>Below w.heap.size w w') w x ((execOp ρ o).run P w)
theorem wrap_inR{k:IntKind}{n:Int}(h:inR k n):k.wrap n=n:=by
 cases k<;>simp only[inR] at h<;>simp[IntKind.wrap,IntKind.bits,IntKind.signed]<;>omega
theorem kc_inj{k k':IntKind}(h:Nat.beq (kc k) (kc k')=true):k=k':=by
 cases k<;>cases k'<;>first|rfl|(simp[kc] at h)
theorem bin_run{op:BinOp}{t:TypeId}{x y:Operand}{u v r:Value}{w:World}(hg:eqGuard op t x y u v=pure ())(h:(binOp op t u v).run P w=.ok r w):
  (do eqGuard op t x y u v;binOp op t u v:Sem Value).run P w=.ok r w:=by
 rw[hg];simpa using h
theorem arK_ok{wr:Bool}{k:IntKind}{n:Int}{K:SV→Prop}(h:arK wr k n K):∃sv,K sv∧okv S sv (.int k (k.wrap n)):=by
 cases wr with
 |true=>exact⟨_,h,rfl⟩
 |false=>exact⟨_,h.2,by rw[wrap_inR h.1.out];rfl⟩
theorem beqD(m n:Int):(m==n)=decide (m=n):=by rw[Bool.eq_iff_iff];simp
theorem intK_ok{op:BinOp}{wr:Bool}{k:IntKind}{m n:Int}{K:SV→Prop}(h:intK op wr k m n K)(t:TypeId):
  ∃x sv,K sv∧okv S sv x∧∀w,(binOp op t (.int k m) (.int k n)).run P w=.ok x w:=by
 cases op<;>simp only[intK] at h
 case add=>obtain⟨sv,h1,h2⟩:=arK_ok (S:=S) h;exact⟨_,sv,h1,h2,λw=>by simp[binOp_add,Op.intArith]⟩
 case sub=>obtain⟨sv,h1,h2⟩:=arK_ok (S:=S) h;exact⟨_,sv,h1,h2,λw=>by simp[binOp_sub,Op.intArith]⟩
 case mul=>obtain⟨sv,h1,h2⟩:=arK_ok (S:=S) h;exact⟨_,sv,h1,h2,λw=>by simp[binOp_mul,Op.intArith]⟩
 case quo=>
  obtain⟨hb,h⟩:=h;obtain⟨sv,h1,h2⟩:=arK_ok (S:=S) h;exact⟨_,sv,h1,h2,λw=>by simp[binOp_quo,Op.intDiv,hb.out]⟩
 case rem=>
  obtain⟨hb,h⟩:=h;exact⟨_,_,h,rfl,λw=>by simp[binOp_rem,Op.intDiv,hb.out]⟩
 case and=>exact⟨_,_,h,rfl,λw=>by simp[binOp_and,intBits_and]⟩
 case or=>exact⟨_,_,h,rfl,λw=>by simp[binOp_or,intBits_or]⟩
 case xor=>exact⟨_,_,h,rfl,λw=>by simp[binOp_xor,intBits_xor]⟩
 case eql=>exact⟨_,_,h,rfl,λw=>by simp[binOp_eql,beqD]⟩
 case neq=>exact⟨_,_,h,rfl,λw=>by simp[binOp_neq,bne,beqD]⟩
 case lss=>exact⟨_,_,h,rfl,λw=>by simp[binOp_lss]⟩
 case leq=>exact⟨_,_,h,rfl,λw=>by simp[binOp_leq]⟩
 case gtr=>exact⟨_,_,h,rfl,λw=>by simp[binOp_gtr]⟩
 case geq=>exact⟨_,_,h,rfl,λw=>by simp[binOp_geq]⟩
 all_goals exact h.elim
theorem shK_ok{op:BinOp}{k k':IntKind}{m n:Int}{K:SV→Prop}(h:shK op k m n K)(t:TypeId):
  ∃x sv,K sv∧okv S sv x∧∀w,(binOp op t (.int k m) (.int k' n)).run P w=.ok x w:=by
 cases op<;>simp only[shK] at h
 case shl=>exact⟨_,_,h.2,rfl,λw=>by rw[binOp_shl,shift_shl k k' m n h.1.out.1 h.1.out.2];simp⟩
 case shr=>exact⟨_,_,h.2,rfl,λw=>by rw[binOp_shr,shift_shr k k' m n h.1.out.1 h.1.out.2];simp⟩
 all_goals exact h.elim
theorem strK_ok{op:BinOp}{s u:ByteArray}{K:SV→Prop}(h:strK op s u K)(t:TypeId):
  ∃x sv,K sv∧okv S sv x∧∀w,(binOp op t (.string s) (.string u)).run P w=.ok x w:=by
 have e:(s.toList==u.toList)=decide (s.data.toList=u.data.toList):=by
  rw[ByteArray.toList_eq,ByteArray.toList_eq];exact Bool.eq_iff_iff.2 wv
 cases op<;>simp only[strK] at h
 case add=>
  refine⟨_,_,h.2,rfl,λw=>?_⟩;have:=h.1.out;simp only[binOp,Op.stringOp];rw[if_neg wN];simp
 case eql=>exact⟨_,_,h,rfl,λw=>by simp only[binOp,Op.stringOp,e];simp⟩
 case neq=>exact⟨_,_,h,rfl,λw=>by simp only[binOp,Op.stringOp,e];simp⟩
 all_goals exact h.elim
theorem fkc_eq:∀{k k':FloatKind},fkc k k'=true→k=k'
 |.f32,.f32,_=>rfl
 |.f64,.f64,_=>rfl
 |.f32,.f64,h=>by cases h
 |.f64,.f32,h=>by cases h
theorem fltK_ok{op:BinOp}{k:FloatKind}{m n:Nat}{K:SV→Prop}(h:fltK op k m n K)(t:TypeId):
  ∃x sv,K sv∧okv S sv x∧∀w,(binOp op t (.float k m) (.float k n)).run P w=.ok x w:=by
 have e:∀(x:Option Ordering) (y:Ordering),(x==some y)=decide (x=some y):=λx y=>by
  rw[Bool.eq_iff_iff];simp
 cases op<;>simp only[fltK,flrK] at h
 case add=>obtain⟨⟨r,hr⟩,h⟩:=h;exact⟨_,_,h r hr,rfl,λw=>by simp[binOp,Op.floatArith,hr]⟩
 case sub=>obtain⟨⟨r,hr⟩,h⟩:=h;exact⟨_,_,h r hr,rfl,λw=>by simp[binOp,Op.floatArith,hr]⟩
 case mul=>obtain⟨⟨r,hr⟩,h⟩:=h;exact⟨_,_,h r hr,rfl,λw=>by simp[binOp,Op.floatArith,hr]⟩
 case quo=>obtain⟨⟨r,hr⟩,h⟩:=h;exact⟨_,_,h r hr,rfl,λw=>by simp[binOp,Op.floatArith,hr]⟩
 case eql=>exact⟨_,_,h,rfl,λw=>by simp only[binOp,ne_eq,not_true,if_false,Op.floatCmp,e];simp⟩
 case neq=>exact⟨_,_,h,rfl,λw=>by simp only[binOp,ne_eq,not_true,if_false,Op.floatCmp,bne,e];simp⟩
 case lss=>exact⟨_,_,h,rfl,λw=>by simp only[binOp,ne_eq,not_true,if_false,Op.floatCmp,e];simp⟩
 case leq=>exact⟨_,_,h,rfl,λw=>by simp only[binOp,ne_eq,not_true,if_false,Op.floatCmp,e];simp⟩
 case gtr=>exact⟨_,_,h,rfl,λw=>by simp only[binOp,ne_eq,not_true,if_false,Op.floatCmp,e];simp⟩
 case geq=>exact⟨_,_,h,rfl,λw=>by simp only[binOp,ne_eq,not_true,if_false,Op.floatCmp,e];simp⟩
 all_goals exact h.elim
theorem notK_ok{x:SV}{u:Value}{K:SV→Prop}(h:notK x K)(hx:okv S x u):
  ∃b sv,u=.bool b∧K sv∧okv S sv (.bool (!b)):=by
 cases x with
 |bb b=>cases hx;cases b<;>exact⟨_,_,rfl,h,rfl⟩
 |b q d=>cases hx;exact⟨_,_,rfl,h,by simp[okv]⟩
 |_=>exact h.elim
section
variable (d:Nat) (w:World)
theorem eqI_bool{t:TypeId}(ht:P.underlying t=some .bool)(m n:Bool):(Op.equalIn (d+1) t (.bool m) (.bool n)).run P w=.ok (m==n) w:=by
 simp[Op.equalIn,run_underlying ht]
theorem eqI_ptr{t el:TypeId}(ht:P.underlying t=some (.pointer el))(A:Option Addr):(Op.equalIn (d+1) t (.pointer A) (.pointer none)).run P w=.ok (decide (A=none)) w:=by
 cases A<;>simp[Op.equalIn,run_underlying ht]
theorem eqI_ptr'{t el:TypeId}(ht:P.underlying t=some (.pointer el))(A:Option Addr):(Op.equalIn (d+1) t (.pointer none) (.pointer A)).run P w=.ok (decide (A=none)) w:=by
 cases A<;>simp[Op.equalIn,run_underlying ht]
theorem eqI_func{t:TypeId}{fa fb:Array TypeId}{fc:Bool}(ht:P.underlying t=some (.func fa fb fc))(f:Fn)(x y:Array Value):(Op.equalIn (d+1) t (.func f x y) .nilFunc).run P w=.ok false w:=by
 simp[Op.equalIn,run_underlying ht]
theorem eqI_nilf{t:TypeId}{fa fb:Array TypeId}{fc:Bool}(ht:P.underlying t=some (.func fa fb fc)):(Op.equalIn (d+1) t .nilFunc .nilFunc).run P w=.ok true w:=by
 simp[Op.equalIn,run_underlying ht]
theorem eqI_slice{t el:TypeId}(ht:P.underlying t=some (.slice el))(A:Option Addr)(n c n' c':Nat):(Op.equalIn (d+1) t (.slice A n c) (.slice none n' c')).run P w=.ok (decide (A=none)) w:=by
 cases A<;>simp[Op.equalIn,run_underlying ht]
theorem eqI_map{t k e:TypeId}(ht:P.underlying t=some (.map k e))(m:Option Nat):(Op.equalIn (d+1) t (.map m) (.map none)).run P w=.ok (decide (m=none)) w:=by
 cases m<;>simp[Op.equalIn,run_underlying ht]
end
theorem eqK_ok(hT:zG P T){t:TypeId}{x y:SV}{u v:Value}{K:SV→Prop}(h:eqK (ty T t).d x y K)(hx:okv S x u)(hy:okv S y v):
  ∃b sv,K sv∧okv S sv (.bool b)∧(∀w,(Op.equal t u v).run P w=.ok b w)∧(∀op X Y,eqGuard op t X Y u v=pure ())∧(∀w,(binOp .eql t u v).run P w=.ok (.bool b) w)∧(∀w,(binOp .neq t u v).run P w=.ok (.bool (!b)) w):=by
 have key:∀(b:Bool),(∀w,(Op.equal t u v).run P w=.ok b w)→(∀op X Y,eqGuard op t X Y u v=pure ()) →
   (∀w,(binOp .eql t u v).run P w=(do pure (.bool (←Op.equal t u v)):Sem Value).run P w)→(∀w,(binOp .neq t u v).run P w=(do pure (.bool (!(←Op.equal t u v))):Sem Value).run P w) →
   (∀w,(Op.equal t u v).run P w=.ok b w)∧(∀op X Y,eqGuard op t X Y u v=pure ())∧(∀w,(binOp .eql t u v).run P w=.ok (.bool b) w)∧(∀w,(binOp .neq t u v).run P w=.ok (.bool (!b)) w):=by
  intro b h1 h2 h3 h4;exact⟨h1,h2,λw=>by rw[h3];simp[h1],λw=>by rw[h4];simp[h1]⟩
 have hd:=λh0=>(hT t h0).d;cases e:(ty T t).d<;>rw[e] at h hd<;>simp only[eqK] at h
 case bool=>
  have ht:P.underlying t=some .bool:=hd wv;have hb:∀(m n:Bool) w,(Op.equal t (.bool m) (.bool n)).run P w=.ok (m==n) w:=λm n w=>eqI_bool 9999 w ht m n
  have fin:∀(m n:Bool) (sv:SV),u=.bool m→v=.bool n→K sv→okv S sv (.bool (m==n))→∃b sv,K sv∧okv S sv (.bool b)∧(∀w,(Op.equal t u v).run P w=.ok b w)∧(∀op X Y,eqGuard op t X Y u v=pure ())∧(∀w,(binOp .eql t u v).run P w=.ok (.bool b) w)∧(∀w,(binOp .neq t u v).run P w=.ok (.bool (!b)) w):=by
   rintro m n sv rfl rfl hK hs;exact⟨_,sv,hK,hs,key _ (hb m n) (λop X Y=>eqGuard_at_bool ..) (λw=>rfl) (λw=>rfl)⟩
  split at h
  ·cases hx;cases hy;exact fin _ _ _ rfl rfl h rfl
  ·cases hx;cases hy;exact fin _ _ _ rfl rfl h rfl
  ·cases hx;cases hy;exact fin _ _ _ rfl rfl h rfl
  ·cases hx;cases hy;exact fin _ _ _ rfl rfl h rfl
  ·cases hx;cases hy;exact fin _ _ _ rfl rfl h vm
  ·cases hx;cases hy;exact fin _ _ _ rfl rfl h vm
  ·cases hx;cases hy;exact fin _ _ _ rfl rfl h vm
  ·cases hx;cases hy;exact fin _ _ _ rfl rfl h vm
  ·rename_i q dq q' dq';cases hx;cases hy;refine fin _ _ _ rfl rfl h ?_;simp only[okv,Value.bool.injEq];by_cases h1:q<;>by_cases h2:q'<;>simp[h1,h2]
  exact h.elim
 case ptr el=>
  have ht:P.underlying t=some (.pointer el):=hd wv;split at h
  ·cases hx;cases hy;exact⟨false,_,h,rfl,key _ (λw=>eqI_ptr 9999 w ht _) (λop X Y=>eqGuard_at_pointer ..) (λw=>rfl) (λw=>rfl)⟩
  ·cases hx;cases hy;exact⟨false,_,h,rfl,key _ (λw=>eqI_ptr' 9999 w ht _) (λop X Y=>eqGuard_at_pointer ..) (λw=>rfl) (λw=>rfl)⟩
  ·cases hx;cases hy;exact⟨false,_,h,rfl,key _ (λw=>eqI_ptr 9999 w ht _) (λop X Y=>eqGuard_at_pointer ..) (λw=>rfl) (λw=>rfl)⟩
  ·cases hx;cases hy;exact⟨true,_,h,rfl,key _ (λw=>eqI_ptr 9999 w ht _) (λop X Y=>eqGuard_at_pointer ..) (λw=>rfl) (λw=>rfl)⟩
  exact h.elim
 case func=>
  obtain⟨fa,fb,fc,ht⟩:∃a b c,P.underlying t=some (.func a b c):=hd wv;split at h
  ·obtain⟨vs,rfl,_⟩:=hx;cases hy;exact⟨false,_,h,rfl,key _ (λw=>eqI_func 9999 w ht _ _ _) (λop X Y=>eqGuard_at_func ..) (λw=>rfl) (λw=>rfl)⟩
  ·cases hx;cases hy;exact⟨false,_,h,rfl,key _ (λw=>eqI_func 9999 w ht _ _ _) (λop X Y=>eqGuard_at_func ..) (λw=>rfl) (λw=>rfl)⟩
  ·cases hx;cases hy;exact⟨true,_,h,rfl,key _ (λw=>eqI_nilf 9999 w ht) (λop X Y=>eqGuard_at_nilFunc ..) (λw=>rfl) (λw=>rfl)⟩
  exact h.elim
 case map kt et=>
  have ht:P.underlying t=some (.map kt et):=hd wv;split at h
  ·cases hx;cases hy;exact⟨false,_,h,rfl,key _ (λw=>eqI_map 9999 w ht _) (λop X Y=>eqGuard_at_map ..) (λw=>rfl) (λw=>rfl)⟩
  ·cases hx;cases hy;exact⟨true,_,h,rfl,key _ (λw=>eqI_map 9999 w ht _) (λop X Y=>eqGuard_at_map ..) (λw=>rfl) (λw=>rfl)⟩
  exact h.elim
 case slice el=>
  have ht:P.underlying t=some (.slice el):=(hd wv).1;split at h
  ·rename_i A _ _ _ _;cases hx;cases hy;exact⟨decide (A=none),_,h,rfl,key _ (λw=>eqI_slice 9999 w ht _ _ _ _ _) (λop X Y=>eqGuard_at_slice ..) (λw=>rfl) (λw=>rfl)⟩
  exact h.elim
 all_goals exact h.elim
inductive CmpL:List Ty→List Value→List Value→Prop→Prop
 |nil:CmpL [] [] [] True
 |int {k0 k m n c us vs p}:CmpL c us vs p→CmpL (.int k0::c) (.int k m::us) (.int k n::vs) (m=n∧p)
 |str {a b c us vs p}:CmpL c us vs p→CmpL (.str::c) (.string a::us) (.string b::vs) (a.data.toList=b.data.toList∧p)
 |bool {a b:Bool}{q:Prop}{c us vs p}:(q↔a=b)→CmpL c us vs p→CmpL (.bool::c) (.bool a::us) (.bool b::vs) (q∧p)
theorem toList_beq(s u:ByteArray):(s.toList==u.toList)=decide (s.data.toList=u.data.toList):=by
 rw[ByteArray.toList_eq,ByteArray.toList_eq];exact Bool.eq_iff_iff.2 wv
theorem cmpL_app:∀{c1 c2:List Ty}{us vs:List Value}{p:Prop},CmpL (c1++c2) us vs p →
  ∃p1 p2,(p↔p1∧p2)∧CmpL c1 (us.take c1.length) (vs.take c1.length) p1∧CmpL c2 (us.drop c1.length) (vs.drop c1.length) p2
 |[],c2,us,vs,p,h=>⟨True,p,by simp,by simpa using CmpL.nil,by simpa using h⟩
 |t::c1,c2,us,vs,p,h=>by
  generalize hc:(t::c1)++c2=c at h
  cases h with
  |nil=>simp at hc
  |int h'=>
   simp only[List.cons_append,List.cons.injEq] at hc;obtain⟨rfl,rfl⟩:=hc;obtain⟨p1,p2,e,h1,h2⟩:=cmpL_app h';exact⟨_,p2,by rw[e,and_assoc],.int h1,h2⟩
  |str h'=>
   simp only[List.cons_append,List.cons.injEq] at hc;obtain⟨rfl,rfl⟩:=hc;obtain⟨p1,p2,e,h1,h2⟩:=cmpL_app h';exact⟨_,p2,by rw[e,and_assoc],.str h1,h2⟩
  |bool hq h'=>
   simp only[List.cons_append,List.cons.injEq] at hc;obtain⟨rfl,rfl⟩:=hc;obtain⟨p1,p2,e,h1,h2⟩:=cmpL_app h';exact⟨_,p2,by rw[e,and_assoc],.bool hq h1,h2⟩
theorem eqFields_f:∀{n:Nat}{fs:List Field}{j:Nat}{c:List Ty},CmpF P n fs j c→∀(m:Nat) {us vs:List Value}{p:Prop}[Decidable p],CmpL c (us.drop j) (vs.drop j) p →
  ∀w,(Op.eqFields (n+m+1) us.toArray vs.toArray fs).run P w=.ok (decide p) w:=by
 intro n fs j c hF
 induction hF with
 |@nil n j=>
  intro m us vs p _ h w;generalize us.drop j=u at h;generalize vs.drop j=v at h;cases h;simp[Op.eqFields]
 |@word n f fs j t c h1 h2 h4 hc ih=>
  intro m us vs p inst h w
  have dropN:∀{l:List Value}{x:Value}{r:List Value},l.drop j=x::r→l[j]?=some x∧l.drop (j+1)=r:=λ{l x r} e=>by
   constructor
   ·have:=congrArg (λz=>z[0]?) e;simpa using this
   rw[←List.drop_drop,e];rfl
  generalize hu:us.drop j=u at h;generalize hv:vs.drop j=v at h
  cases h with
  |int h'=>
   obtain⟨kk,h4⟩:=h4;obtain⟨hu1,hu2⟩:=dropN hu;obtain⟨hv1,hv2⟩:=dropN hv;rename_i k0 k a b us' vs' p'
   haveI:Decidable p':=Classical.propDecidable _
   have ih:=ih (m+1) (us:=us) (vs:=vs) (p:=p') vC w
   have p1:(part f.type us.toArray f.offset).run P w=.ok (.int k a) w:=by
    rw[h1];simp[part,isAgg,run_underlying h4,hu1]
   have p2:(part f.type vs.toArray f.offset).run P w=.ok (.int k b) w:=by
    rw[h1];simp[part,isAgg,run_underlying h4,hv1]
   rw[show n+1+m+1=n+(m+1)+1 by omega];simp only[Op.eqFields,if_pos h2,Sem.run_bind,p1,p2,Result.andThen_ok,run_equalIn_int w (n+(m+1)) f.type _ kk _ _ h4,beqD];by_cases he:a=b
   ·simp only[he,decide_true,Bool.not_true,Bool.false_eq_true,if_false,ih,true_and]
   simp[he]
  |str h'=>
   replace h4:P.underlying f.type=some .string:=h4;obtain⟨hu1,hu2⟩:=dropN hu;obtain⟨hv1,hv2⟩:=dropN hv;rename_i a b us' vs' p'
   haveI:Decidable p':=Classical.propDecidable _
   have ih:=ih (m+1) (us:=us) (vs:=vs) (p:=p') vC w
   have p1:(part f.type us.toArray f.offset).run P w=.ok (.string a) w:=by
    rw[h1];simp[part,isAgg,run_underlying h4,hu1]
   have p2:(part f.type vs.toArray f.offset).run P w=.ok (.string b) w:=by
    rw[h1];simp[part,isAgg,run_underlying h4,hv1]
   rw[show n+1+m+1=n+(m+1)+1 by omega];simp only[Op.eqFields,if_pos h2,Sem.run_bind,p1,p2,Result.andThen_ok,run_equalIn_string w (n+(m+1)) f.type _ _ h4,toList_beq];by_cases he:a.data.toList=b.data.toList
   ·simp only[he,decide_true,Bool.not_true,Bool.false_eq_true,if_false,ih,true_and]
   simp[he]
  |bool hq h'=>
   replace h4:P.underlying f.type=some .bool:=h4;obtain⟨hu1,hu2⟩:=dropN hu;obtain⟨hv1,hv2⟩:=dropN hv;rename_i a b q us' vs' p'
   haveI:Decidable p':=Classical.propDecidable _
   have ih:=ih (m+1) (us:=us) (vs:=vs) (p:=p') vC w
   have p1:(part f.type us.toArray f.offset).run P w=.ok (.bool a) w:=by
    rw[h1];simp[part,isAgg,run_underlying h4,hu1]
   have p2:(part f.type vs.toArray f.offset).run P w=.ok (.bool b) w:=by
    rw[h1];simp[part,isAgg,run_underlying h4,hv1]
   rw[show n+1+m+1=n+(m+1)+1 by omega];simp only[Op.eqFields,if_pos h2,Sem.run_bind,p1,p2,Result.andThen_ok,run_equalIn_bool' w (n+(m+1)) f.type _ _ h4,beqD];by_cases he:a=b
   ·have hq':=hq.2 he;simp[he,ih,hq']
   have hq':¬q:=λz=>he (hq.1 z);simp[he,hq']
 |@sub n f fs j c1 c2 i h1 h2 h4 h5 h6 h7 hc1 hc2 ih1 ih2=>
  intro m us vs p inst h w;obtain⟨q1,q2,e,k1,k2⟩:=cmpL_app h
  haveI:Decidable q1:=Classical.propDecidable _
  haveI:Decidable q2:=Classical.propDecidable _
  have ex:∀l:List Value,(l.toArray.extract j (j+c1.length))=((l.drop j).take c1.length).toArray:=λl=>by
   apply Array.toList_inj.1;rw[Array.toList_extract];simp[List.extract]
  have pp:∀l:List Value,(part f.type l.toArray f.offset).run P w=.ok (.agg ((l.drop j).take c1.length).toArray) w:=λl=>by
   rw[h1,←ex];have hz:P.cellsOf f.type=c1.length:=by simp[Program.cellsOf,h6,h7]
   simp[part,isAgg,run_underlying h4,run_sizeOf w h6,h7,hz]
  have ih1:=ih1 m (us:=(us.drop j).take c1.length) (vs:=(vs.drop j).take c1.length) (p:=q1) (by simpa using k1) w;have ih2:=ih2 (m+1) (us:=us) (vs:=vs) (p:=q2) (by simpa[List.drop_drop] using k2) w;have hp:decide p=(decide q1&&decide q2):=by rw[←Bool.decide_and];exact decide_eq_decide.2 e
  rw[show n+1+m+1=n+(m+1)+1 by omega,hp];simp only[Op.eqFields,if_pos h2,Sem.run_bind,pp,Result.andThen_ok];rw[show n+(m+1)+1=(n+m+1)+1 by omega,run_equalIn_agg w (n+m+1) f.type _ _ h4 h5,ih1];rw[show n+m+1+1=n+(m+1)+1 by omega];by_cases he:q1
  ·simp only[he,decide_true,Bool.not_true,Bool.false_eq_true,if_false,Result.andThen_ok,ih2,Bool.true_and]
  simp[he]
theorem bqK_ok{S:Pl}{a b:SV}{u v:Value}{K:(p:Prop)→Decidable p→Prop}(h:bqK a b K)(ha:okv S a u)(hb:okv S b v):
  ∃(m n:Bool) (q:Prop) (d:Decidable q),K q d∧u=.bool m∧v=.bool n∧(q↔m=n):=by
 unfold bqK at h;split at h<;>first|exact h.elim|(cases ha;cases hb;exact⟨_,_,_,_,h,rfl,rfl,by simp⟩)
theorem eqsL_n{x y:List SV}{K:(p:Prop)→Decidable p→Prop}:eqsL [] x y K=(match x,y with|[],[]=>K True instDecidableTrue|_,_=>False):=rfl
theorem eqsL_c{t:Ty}{c:List Ty}{x y:List SV}{K:(p:Prop)→Decidable p→Prop}:eqsL (t::c) x y K=(match t,x,y with
   |.int _,.v (.int k m)::s,.v (.int k' n)::r=>(match Nat.beq (kc k) (kc k') with|true=>eqsL c s r λp i=>K (m=n∧p) (@instDecidableAnd _ _ (Int.instDecidableEq m n) i)|false=>False)
   |.str,.v (.string a)::s,.v (.string b)::r=>eqsL c s r λp i=>K (a.data.toList=b.data.toList∧p) (@instDecidableAnd _ _ (decStr a b) i)
   |.bool,a::s,b::r=>bqK a b λq d=>eqsL c s r λp i=>K (q∧p) (@instDecidableAnd _ _ d i)
   | _,_,_=>False):=rfl
theorem okL_cons{S:Pl}{a:SV}{s:List SV}{us:List Value}(h:okL S (a::s) us):∃u r,us=u::r∧okv S a u∧okL S s r:=by
 cases us with
 |nil=>exact h.elim
 |cons u r=>exact⟨u,r,rfl,h.1,h.2⟩
theorem eqsL_ok{S:Pl}:∀{c:List Ty}{xs ys:List SV}{us vs:List Value}{K:(p:Prop)→Decidable p→Prop},eqsL c xs ys K→okL S xs us→okL S ys vs →
  ∃(p:Prop) (i:Decidable p),K p i∧CmpL c us vs p
 |[],xs,ys,us,vs,K,h,hx,hy=>by
  rw[eqsL_n] at h;split at h
  ·cases us with
   |cons _ _=>exact hx.elim
   |nil=>
    cases vs with
    |cons _ _=>exact hy.elim
    |nil=>exact⟨_,_,h,.nil⟩
  exact h.elim
 |t::c,xs,ys,us,vs,K,h,hx,hy=>by
  rw[eqsL_c] at h;split at h
  ·split at h
   ·rename_i hk;cases kc_inj hk;obtain⟨u,us,rfl,hu,hw⟩:=okL_cons hx;obtain⟨v,vs,rfl,hv,hz⟩:=okL_cons hy;cases hu;cases hv;obtain⟨p,i,hK,hp⟩:=eqsL_ok h hw hz;exact⟨_,_,hK,.int hp⟩
   exact h.elim
  ·obtain⟨u,us,rfl,hu,hw⟩:=okL_cons hx;obtain⟨v,vs,rfl,hv,hz⟩:=okL_cons hy;cases hu;cases hv;obtain⟨p,i,hK,hp⟩:=eqsL_ok h hw hz;exact⟨_,_,hK,.str hp⟩
  ·obtain⟨u,us,rfl,hu,hw⟩:=okL_cons hx;obtain⟨v,vs,rfl,hv,hz⟩:=okL_cons hy;obtain⟨m,n,q,d,h,rfl,rfl,hq⟩:=bqK_ok h hu hv;obtain⟨p,i,hK,hp⟩:=eqsL_ok h hw hz;exact⟨_,_,hK,.bool hq hp⟩
  exact h.elim
theorem binK_ok(hT:zG P T){op:BinOp}{wr:Bool}{t:TypeId}{x y:SV}{u v:Value}{K:SV→Prop}(h:binK (ty T t).cmp (ty T t).d op wr x y K)(hx:okv S x u)(hy:okv S y v)(X Y:Operand):
  ∃r sv,K sv∧okv S sv r∧∀w,(do eqGuard op t X Y u v;binOp op t u v:Sem Value).run P w=.ok r w:=by
 have eqs:∀K,eqsK (ty T t).cmp (ty T t).d x y K→∃b sv,K sv∧okv S sv (.bool b)∧(∀w,(do eqGuard .eql t X Y u v;binOp .eql t u v:Sem Value).run P w=.ok (.bool b) w)∧(∀w,(do eqGuard .neq t X Y u v;binOp .neq t u v:Sem Value).run P w=.ok (.bool (!b)) w):=by
  intro K h;unfold eqsK at h;split at h
  ·split at h
   ·exact h.elim
   rename_i t0 c0 hc;split at h;rotate_left
   ·exact h.elim
   rename_i fs hd;obtain⟨us,rfl,hx⟩:=hx;obtain⟨vs,rfl,hy⟩:=hy;obtain⟨p,i,hK,hp⟩:=eqsL_ok h hx hy;obtain⟨c1,c2,c3,c4⟩:=(hT t wD).cm (by rw[hc];simp);rw[hc] at c4
   have hr:∀w,(Op.equalIn 10000 t (.agg us.toArray) (.agg vs.toArray)).run P w=.ok (decide p) w:=λw=>by
    rw[show(10000:Nat)=9999+1 from rfl,run_equalIn_agg w 9999 t _ _ c1 c2];exact eqFields_f c4 9934 hp w
   refine⟨decide p,_,hK,rfl,λw=>?_,λw=>?_⟩
   ·simp only[Sem.run_bind,run_eqGuard_agg w .eql t X Y _ _ c3,Result.andThen_ok,run_eql_struct,hr]
   simp only[Sem.run_bind,run_eqGuard_agg w .neq t X Y _ _ c3,Result.andThen_ok,run_neq_struct,hr]
  obtain⟨b,sv,h1,h2,_,h4,h5,h6⟩:=eqK_ok hT h hx hy;exact⟨b,sv,h1,h2,λw=>bin_run (h4 _ _ _) (h5 w),λw=>bin_run (h4 _ _ _) (h6 w)⟩
 unfold binK at h;split at h
 ·rename_i k m k' n;cases hx;cases hy;split at h
  ·obtain⟨r,sv,h1,h2,h3⟩:=shK_ok (P:=P) (S:=S) (k':=k') h t;exact⟨r,sv,h1,h2,λw=>bin_run (eqGuard_at_int ..) (h3 w)⟩
  ·obtain⟨r,sv,h1,h2,h3⟩:=shK_ok (P:=P) (S:=S) (k':=k') h t;exact⟨r,sv,h1,h2,λw=>bin_run (eqGuard_at_int ..) (h3 w)⟩
  split at h
  ·rename_i hk;cases kc_inj hk;obtain⟨r,sv,h1,h2,h3⟩:=intK_ok (P:=P) (S:=S) h t;exact⟨r,sv,h1,h2,λw=>bin_run (eqGuard_at_int ..) (h3 w)⟩
  exact h.elim
 ·cases hx;cases hy;obtain⟨r,sv,h1,h2,h3⟩:=strK_ok (P:=P) (S:=S) h t;exact⟨r,sv,h1,h2,λw=>bin_run (eqGuard_at_string ..) (h3 w)⟩
 ·cases hx;cases hy;split at h
  ·rename_i hk;cases fkc_eq hk;obtain⟨r,sv,h1,h2,h3⟩:=fltK_ok (P:=P) (S:=S) h t;exact⟨r,sv,h1,h2,λw=>bin_run (by cases op<;>rfl) (h3 w)⟩
  exact h.elim
 split at h
 ·obtain⟨b,sv,h1,h2,h3,_⟩:=eqs _ h;exact⟨_,sv,h1,h2,h3⟩
 ·obtain⟨b,sv,h1,h2,_,h4⟩:=eqs _ h;obtain⟨b',sv',e,h5,h6⟩:=notK_ok h1 h2;cases e;exact⟨_,sv',h5,h6,h4⟩
 exact h.elim
end
section
variable {P:Program}{T:Tab}{Γ:List Spec}{S:Pl}{fr:Fr}{L:LL}{p:PH}{N0:Nat}{w0:W0}{a:Act}{C:World→Prop}
theorem ldK_ok{g:Nat→Option Value}:∀(ts:List Ty) (j:Nat) (K:List SV→Prop),ldK g j ts K →
  ∃l vs,K l∧okL S l vs∧vs.length=ts.length∧(∀i v,vs[i]?=some v→g (j+i)=some v)∧∀v∈vs,v.oneCell'=true:=by
 have step:∀(j:Nat) (r:List Ty) (K:List SV→Prop) (sv:SV) (v:Value),(ldK g (j+1) r λl=>K (sv::l))→g j=some v→okv S sv v→v.oneCell'=true →
   (∀K,ldK g (j+1) r K→∃l vs,K l∧okL S l vs∧vs.length=r.length∧(∀i v,vs[i]?=some v→g (j+1+i)=some v)∧∀v∈vs,v.oneCell'=true) →
   ∃l vs,K l∧okL S l vs∧vs.length=r.length+1∧(∀i v,vs[i]?=some v→g (j+i)=some v)∧∀v∈vs,v.oneCell'=true:=by
  intro j r K sv v h hv hs h1 ih;obtain⟨l,vs,hK,hok,hlen,hg,hone⟩:=ih _ h;refine⟨sv::l,v::vs,hK,⟨hs,hok⟩,by simp[hlen],λi u hu=>?_,λu hu=>?_⟩
  ·cases i with
   |zero=>simp at hu;subst hu;exact hv
   |succ i=>simp at hu;have:=hg i u hu;rwa [show j+(i+1)=j+1+i from by omega]
  rcases List.mem_cons.1 hu with rfl|hu
  ·exact h1
  exact hone u hu
 intro ts
 induction ts with
 |nil=>intro j K h;exact⟨[],[],h,trivial,rfl,λi v hv=>by simp at hv,λv hv=>by cases hv⟩
 |cons t r ih=>
  intro j K h;cases t<;>simp only[ldK] at h
  case int k=>obtain⟨⟨x,hx⟩,h⟩:=h;exact step j r K _ _ (h x hx) hx rfl rfl (ih (j+1))
  case bool=>obtain⟨⟨x,hx⟩,h⟩:=h;exact step j r K _ _ (h x hx) hx vm rfl (ih (j+1))
  case flt=>obtain⟨⟨x,hx⟩,h⟩:=h;exact step j r K _ _ (h x hx) hx rfl rfl (ih (j+1))
  case str=>obtain⟨⟨x,hx⟩,h⟩:=h;exact step j r K _ _ (h x hx) hx rfl rfl (ih (j+1))
  case ptr=>obtain⟨⟨x,hx⟩,h⟩:=h;exact step j r K _ _ (h x hx) hx rfl rfl (ih (j+1))
  case slice=>obtain⟨⟨A,n,c,hx⟩,h⟩:=h;exact step j r K _ _ (h A n c hx) hx rfl rfl (ih (j+1))
  all_goals exact h.elim
def aggB:TypeDesc→Bool
 |.struct _|.array _ _=>true
 |_=>false
theorem run_isAgg{t:TypeId}{d:TypeDesc}(h:P.underlying t=some d)(w:World):(isAgg t).run P w=.ok (aggB d) w:=by
 simp only[isAgg,Sem.run_bind,run_underlying h,Result.andThen_ok];cases d<;>rfl
theorem load_ok(hT:zG P T){t:TypeId}(h0:(ty T t).d≠.other){vs:List Value}(hl:vs.length=(ty T t).sz):
  ∃r,(∀l,okL S l vs→okv S (zF (ty T t).d l) r)∧∀(w:World) (ad:Addr),(∀i v,vs[i]?=some v→w.cell? (ad.add i)=some v)→(Instr.loadAt t (.pointer (some ad))).run P w=.ok r w:=by
 obtain⟨hd,⟨i,z,hi,hsz,_,_,_⟩,_,_,_,one⟩:=hT t h0
 have agg:∀d,P.underlying t=some d→aggB d=true→∀(w:World) (ad:Addr),(∀i v,vs[i]?=some v→w.cell? (ad.add i)=some v)→(Instr.loadAt t (.pointer (some ad))).run P w=.ok (.agg vs.toArray) w:=by
  intro d hu hb w ad hc;have hr:=run_loadCells_list (P:=P) (w:=w) ad vs hc;have hn:i.size=vs.length:=hsz.trans hl.symm;simp[Instr.loadAt,Instr.sureAddr,loadVar,run_isAgg hu,hb,sizeOf,typeInfo,hi,hn,hr]
 have scal:∀d,P.underlying t=some d→aggB d=false→(ty T t).sz=1→∃v,vs=[v]∧∀(w:World) (ad:Addr),(∀i v,vs[i]?=some v→w.cell? (ad.add i)=some v)→(Instr.loadAt t (.pointer (some ad))).run P w=.ok v w:=by
  intro d hu hb h1;rw[h1] at hl;obtain⟨v,rfl⟩:=List.length_eq_one_iff.1 hl;refine⟨v,rfl,λw ad hc=>?_⟩;have h:=hc 0 v rfl;simp only[Addr.add_zero'] at h;simp[Instr.loadAt,Instr.sureAddr,loadVar,run_isAgg hu,hb,h]
 have fin1:∀d,P.underlying t=some d→aggB d=false→(∀fs,(ty T t).d≠.struct fs)→(∀n e,(ty T t).d≠.arr n e) →
   (∀l,zF (ty T t).d l=match l with|x::_=>x|[]=>.bad) →
   ∃r,(∀l,okL S l vs→okv S (zF (ty T t).d l) r)∧∀(w:World) (ad:Addr),(∀i v,vs[i]?=some v→w.cell? (ad.add i)=some v)→(Instr.loadAt t (.pointer (some ad))).run P w=.ok r w:=by
  intro d hu hb n1 n2 hof;obtain⟨v,rfl,hv⟩:=scal d hu hb (one n1 n2);refine⟨v,λl hl'=>?_,hv⟩;rw[hof]
  cases l with
  |nil=>simp[okL] at hl'
  |cons x r=>exact hl'.1
 generalize he:(ty T t).d=d at *
 cases d with
 |int k=>exact fin1 _ hd rfl wv wv (λl=>rfl)
 |bool=>exact fin1 _ hd rfl wv wv (λl=>rfl)
 |str=>exact fin1 _ hd rfl wv wv (λl=>rfl)
 |flt k=>exact fin1 _ hd rfl wv wv (λl=>rfl)
 |ptr e=>exact fin1 _ hd rfl wv wv (λl=>rfl)
 |slice e=>exact fin1 _ hd.1 rfl wv wv (λl=>rfl)
 |func=>obtain⟨x,y,z,hd⟩:=hd;exact fin1 _ hd rfl wv wv (λl=>rfl)
 |map k e=>exact fin1 _ hd rfl wv wv (λl=>rfl)
 |struct fs=>obtain⟨F,hd,_⟩:=hd;exact⟨_,λl hl'=>⟨vs,rfl,hl'⟩,agg _ hd rfl⟩
 |arr n e=>exact⟨_,λl hl'=>⟨vs,rfl,hl'⟩,agg _ hd.1 rfl⟩
 |other=>exact absurd rfl h0
theorem rd_cell{p:PH}{w:World}(hon:PH.on p w){A:Option Addr}{j:Nat}{v:Value}(h:rd p A j=some v):∃a,A=some a∧a.spot=none∧w.cell? ⟨a.block,a.off+j,none⟩=some v:=by
 unfold rd at h;split at h
 ·rename_i b o;exact⟨⟨b,o,none⟩,rfl,rfl,hon _ _ _ h⟩
 cases h
theorem add_none{a:Addr}(h:a.spot=none)(j:Nat):a.add j=⟨a.block,a.off+j,none⟩:=by
 obtain⟨b,o,s⟩:=a;cases h;exact Addr.add_lit b o j
theorem drop_take_get{vs:List Value}{o sz i:Nat}{v:Value}(h:((vs.drop o).take sz)[i]?=some v):vs[o+i]?=some v:=by
 rw[List.getElem?_take] at h;split at h
 ·rwa [List.getElem?_drop] at h
 cases h
theorem loadK_ok(hT:zG P T){w1:World}(hch:∀k lb,getL L k=some lb→zD N0 S k lb w1)(hC:∀w,C w→Cl w0 p S L w1 w){t:TypeId}{x:SV}{u:Value}{K:SV→Prop}(h:loadK T p L t x K)(hx:okv S x u):
  ∃r sv,K sv∧okv S sv r∧∀w,C w→(Instr.loadAt t u).run P w=.ok r w:=by
 unfold loadK at h
 have h0:(ty T t).d≠.other:=by
  intro e
  revert h
  generalize ty T t=ti at e;obtain⟨d,_,_,_,_⟩:=ti;cases e;exact λh=>h
 have hfl:=(hT t h0).fl;have hpos:=(hT t h0).pos;have hload:=λvs hl=>load_ok (P:=P) (S:=S) hT h0 (vs:=vs) hl
 revert h hload hfl hpos h0
 generalize ty T t=ti;obtain⟨d,sz,byt,zero,flat,cm⟩:=ti;intro h h0 hfl hpos hload;simp only at hfl hpos hload h0
 have h':loadK1 d sz flat p L x K:=by
  cases d<;>first|exact h|exact absurd rfl h0
 clear h;unfold loadK1 at h'
 have mem:∀(A:Option Addr) (j:Nat),(ldK (rd p A) j flat λl=>fSV (zF d l) K)→(∀a,A=some a→u=.pointer (some (a.add j))) →
   ∃r sv,K sv∧okv S sv r∧∀w,C w→(Instr.loadAt t u).run P w=.ok r w:=by
  intro A j h hu;obtain⟨l,vs,hK,hok,hlen,hg,_⟩:=ldK_ok (S:=S) _ _ _ h;rw[yn] at hK;obtain⟨r,hr1,hr2⟩:=hload vs (hlen.trans hfl);refine⟨r,_,hK,hr1 _ hok,λw hw=>?_⟩
  cases hvs:vs with
  |nil=>
   subst hvs;have hz:0=sz:=by simpa using hlen.trans hfl
   omega
  |cons v0 _=>
   obtain⟨a,rfl,hs,_⟩:=rd_cell (hC w hw).on (hg 0 v0 (by rw[hvs];rfl));rw[hu a rfl,add_none hs];refine hr2 w _ λi v hv=>?_;obtain⟨a',ha',_,hc⟩:=rd_cell (hC w hw).on (hg i v hv);cases ha';rw[Addr.add_lit,Nat.add_assoc];exact hc
 split at h'
 ·rename_i k o;cases hx;split at h'
  ·rename_i TT cs hk;split at h'
   ·rename_i hle;rw[yn] at h';have hle:=Nat.le_of_ble_eq_true hle;obtain⟨_,vs,hheap,hok⟩:=hch k _ hk;have hlen:=zC hok;obtain⟨r,hr1,hr2⟩:=hload ((vs.drop o).take sz) wN;refine⟨r,_,h',hr1 _ (yG sz (xg o hok)),λw hw=>hr2 w _ λi v hv=>?_⟩;rw[Addr.add_lit,cell_of_row w _ _ _ _ _ (((hC w hw).ch k _ hk _ rfl).trans hheap)];simpa using drop_take_get hv
   exact h'.elim
  ·rename_i E sz' n xs hk;obtain⟨l,vs,hK,hok,hlen,hg,_⟩:=ldK_ok (S:=S) _ _ _ h';rw[yn] at hK;obtain⟨r,hr1,hr2⟩:=hload vs (hlen.trans hfl);refine⟨r,_,hK,hr1 _ hok,λw hw=>?_⟩;obtain⟨hown,hn,hsz,_,hA⟩:=zI (hch k _ hk) ((hC w hw).ch k _ hk);refine hr2 w _ λi v hv=>?_;have hx:=hg i v hv;rcases hA with hA|hA
   ·have hxs:xs=[]:=by
     rcases hown.2 with ⟨_,hn0⟩|⟨g,cap,cur,hv,_⟩
     ·exact List.eq_nil_of_length_eq_zero wK
     rw[hA] at hv;cases hv
    subst hxs;simp at hx
   have:=hown.cells (g:=(S k).b) wJ (o+i) v hx;rw[Addr.add_lit] at this ⊢;simpa using this
  ·rename_i E sz' n cs hk;split at h'
   ·rename_i hle;rw[yn] at h';have hle:=Nat.le_of_ble_eq_true hle;obtain⟨xs,hxs,hok⟩:=hch k _ hk;have hlen:=zC hok;obtain⟨r,hr1,hr2⟩:=hload ((xs.drop o).take sz) wN;refine⟨r,_,h',hr1 _ (yG sz (xg o hok)),λw hw=>?_⟩;obtain⟨hown,hn,hsz,_,hA⟩:=zI (lb:=.arr E sz' n xs) hxs (λb hb=>(hC w hw).ch k _ hk b hb);refine hr2 w _ λi v hv=>?_;have hx:=drop_take_get hv;rcases hA with hA|hA
    ·have hxs:xs=[]:=by
      rcases hown.2 with ⟨_,hn0⟩|⟨g,cap,cur,hv,_⟩
      ·exact List.eq_nil_of_length_eq_zero wK
      rw[hA] at hv;cases hv
     subst hxs;simp at hx
    have:=hown.cells (g:=(S k).b) wJ (o+i) v hx;rw[Addr.add_lit] at this ⊢;simpa using this
   exact h'.elim
  exact h'.elim
 ·rename_i A j;refine mem A j h' λa ha=>?_;obtain⟨a',ha',e⟩:=hx;rw[ha] at ha';cases ha';exact e
 ·rename_i ad;cases hx;refine mem (some ad) 0 h' λa ha=>?_;cases ha;rw[Addr.add_zero']
 exact h'.elim
theorem add_add'(a:Addr)(m n:Nat):(a.add m).add n=a.add (m+n):=by
 obtain⟨b,o,s⟩:=a;unfold Addr.add;by_cases hm:m=0
 ·subst hm;simp
 by_cases hn:n=0
 ·subst hn;simp
 simp[hm,hn,Nat.add_assoc]
theorem wi{w:World}{k lo sz m e n:Nat}{ex:Bool}{xs:List Value}{u:Value}(hx:okv S (.vw k lo sz m ex) u)(hch:zD N0 S k (.arr e sz n xs) w)(hb:lo+m≤n):
  ∃A c,u=.slice A m c∧m≤c∧(vwC xs lo sz m).length=m*sz∧∀j v,(vwC xs lo sz m)[j]?=some v→∃a,A=some a∧a.spot=none∧(S k).A=some ⟨(S k).b,0,none⟩∧a.block=(S k).b∧a.off=lo*sz∧w.cell? ⟨a.block,a.off+j,none⟩=some v:=by
 obtain⟨A,c,rfl,hmc,hA,_⟩:=hx;obtain⟨hown,hn,hsz,_,hAk⟩:=hch
 have hl:(vwC xs lo sz m).length=m*sz:=by
  unfold vwC;rw[List.length_take,List.length_drop,hown.1];have:(lo+m)*sz≤n*sz:=Nat.mul_le_mul_right _ hb;rw[Nat.add_mul] at this;omega
 refine⟨A,c,rfl,hmc,hl,λj v hv=>?_⟩;have hj:=(List.getElem?_eq_some_iff.1 hv).1;rw[hl] at hj;have hm:m≠0:=by rintro rfl;simp at hj
 have hx:xs[lo*sz+j]?=some v:=by
  unfold vwC at hv;rw[List.getElem?_take_of_lt hj] at hv
  rwa [List.getElem?_drop] at hv
 rcases hAk with hk|hk
 ·rcases hown.2 with ⟨_,hn0⟩|⟨g,cap,cur,hv',_⟩
  ·omega
  rw[hk] at hv';cases hv'
 have hA:=hA.resolve_left hm;rw[hk] at hA;have hcell:=hown.cells (g:=(S k).b) (by simp[Value.ownBlock,hk]) _ _ hx;rw[Addr.add_lit] at hcell;refine⟨⟨(S k).b,0+lo*sz,none⟩,by rw[hA];simp[Addr.add_lit],rfl,hk,rfl,by simp,?_⟩;simpa[Nat.add_assoc] using hcell
theorem own_cap{w:World}{k e sz n:Nat}{xs:List Value}(hch:zD N0 S k (.arr e sz n xs) w):n≤(S k).c:=by
 obtain⟨hown,hn,_⟩:=hch;rcases hown.2 with ⟨e,hn0⟩|⟨g,cap,cur,e,_,_,hcap,_⟩
 ·omega
 injection e with _ e2 e3;omega
theorem lenK_ok(hT:zG P T){w1:World}(hch:∀k lb,getL L k=some lb→zD N0 S k lb w1){t ty':TypeId}{x:SV}{u:Value}{K:SV→Prop}(h:lenK (ty T t).d L x K)(hx:okv S x u):
  ∃r sv,K sv∧okv S sv r∧∀w,(Builtin.len_ #[t] ty' #[u]).run P w=.ok r w:=by
 have hd:=λh0=>(hT t h0).d;unfold lenK at h;split at h
 ·rename_i e A n c he;rw[he] at hd;cases hx;exact⟨_,_,h,rfl,λw=>by simp[Builtin.len_,run_underlying (hd wv).1,goInt]⟩
 ·rename_i s he;rw[he] at hd;cases hx;exact⟨_,_,h,rfl,λw=>by simp[Builtin.len_,run_underlying (hd wv),goInt]⟩
 ·rename_i e k he;rw[he] at hd;split at h
  ·rename_i n xs hk;obtain⟨_,hn,_⟩:=hch k _ hk;cases hx;exact⟨_,_,h,by rw[←hn];rfl,λw=>by simp[Builtin.len_,run_underlying (hd wv).1,goInt]⟩
  ·rename_i n xs hk;obtain⟨_,⟨_,hn,_⟩,_⟩:=hch k _ hk;cases hx;exact⟨_,_,h,by rw[←hn];rfl,λw=>by simp[Builtin.len_,run_underlying (hd wv).1,goInt]⟩
  exact h.elim
 ·rename_i e k lo sz m _ he;rw[he] at hd;obtain⟨A,c,rfl,_⟩:=hx;exact⟨_,_,h,rfl,λw=>by simp[Builtin.len_,run_underlying (hd wv).1,goInt]⟩
 ·rename_i e k m he;rw[he] at hd;cases hx;exact⟨_,_,h,rfl,λw=>by simp[Builtin.len_,run_underlying (hd wv).1,goInt]⟩
 exact h.elim
theorem minK_ok{mx:Bool}{x y:SV}{u v:Value}{ts:Array TypeId}{t:TypeId}{K:SV→Prop}(h:minK mx x y K)(hx:okv S x u)(hy:okv S y v):
  ∃r sv,K sv∧okv S sv r∧∀w,((if mx then Builtin.max_ else Builtin.min_) ts t #[u,v]).run P w=.ok r w:=by
 unfold minK at h;split at h
 ·rename_i k m k' n;cases hx;cases hy;split at h
  ·rename_i hk;cases kc_inj hk
   cases mx with
   |true=>exact⟨_,_,h,rfl,λw=>by simp[Builtin.max_,Builtin.max2]⟩
   |false=>exact⟨_,_,h,rfl,λw=>by simp[Builtin.min_,Builtin.min2]⟩
  exact h.elim
 exact h.elim
theorem rowVL_c{x:SV}{r:List SV}:rowVL (x::r)=(match x with
  |.v y=>(match rowVL r with|some s=>some (y::s)|none=>none)
  |.bb b=>(match rowVL r with|some s=>some (.bool b::s)|none=>none)
  |.b p d=>(match rowVL r with|some s=>some (.bool (@decide p d)::s)|none=>none)
  | _=>none):=rfl
theorem xH{S:Pl}:∀{l:List SV}{ys vs:List Value},rowVL l=some ys→okL S l vs→vs=ys
 |[],ys,[],h,_=>by cases h;rfl
 |x::r,ys,v::vs,h,hv=>by
  rw[rowVL_c] at h;obtain⟨h1,h2⟩:=hv;split at h
  ·split at h
   ·rename_i e;cases h;cases xH e h2;rw[show v=_ from h1]
   cases h
  ·split at h
   ·rename_i e;cases h;cases xH e h2;rw[show v=_ from h1]
   cases h
  ·split at h
   ·rename_i e;cases h;cases xH e h2;rw[show v=_ from h1]
   cases h
  cases h
 |[],_,_::_,_,h=>by cases h
 |_::_,_,[],_,h=>by cases h
theorem vwS_ok{cs:List SV}{xs:List Value}{lo sz n:Nat}(h:okL S cs xs):okL S (vwS cs lo sz n) (vwC xs lo sz n):=yG _ (xg _ h)
theorem sliceK_ok{w1:World}(hch:∀k lb,getL L k=some lb→zD N0 S k lb w1)(hC:∀w,C w→Cl w0 p S L w1 w){sz:Nat}{x:SV}{u:Value}{K:List Value→Prop}(h:sliceK p L sz x K)(hx:okv S x u):
  ∃A n c xs,u=.slice A n c∧K xs∧xs.length=n*sz∧∀w,C w→∀j v,xs[j]?=some v→∃a,A=some a∧a.spot=none∧w.cell? ⟨a.block,a.off+j,none⟩=some v:=by
 unfold sliceK at h;split at h
 ·rename_i A n c;cases hx;obtain⟨⟨xs,hl,hr⟩,h⟩:=h;exact⟨A,n,c,xs,rfl,h xs hl hr,hl,λw hw j v hv=>rd_cell (hC w hw).on ((hr j (List.getElem?_eq_some_iff.1 hv).1).trans hv)⟩
 ·rename_i k;split at h
  ·rename_i E sz' n xs hk;split at h
   ·rename_i hs;have hs:=Nat.eq_of_beq_eq_true hs;subst hs;cases hx;obtain⟨hown,hn,_⟩:=hch k _ hk;refine⟨_,_,_,xs,rfl,h,by rw[hn];exact hown.1,λw hw j v hv=>?_⟩;obtain⟨hown,hn,hsz,_,hA⟩:=zI (hch k _ hk) ((hC w hw).ch k _ hk);rcases hA with hA|hA
    ·have:xs=[]:=by
      rcases hown.2 with ⟨_,hn0⟩|⟨g,cap,cur,hv,_⟩
      ·exact List.eq_nil_of_length_eq_zero wK
      rw[hA] at hv;cases hv
     subst this;simp at hv
    have:=hown.cells (g:=(S k).b) wJ j v hv;rw[Addr.add_lit] at this;exact⟨_,hA,rfl,this⟩
   exact h.elim
  ·rename_i E sz' n cs hk;split at h
   ·rename_i xs hs hcs;have hs:=Nat.eq_of_beq_eq_true hs;subst hs;cases hx;obtain⟨xs',hxs,hok⟩:=hch k _ hk;cases xH hcs hok;replace hxs:zD N0 S k (.arr E sz' n _) w1:=hxs;have hxs0:=hxs;obtain⟨hown,hn,_⟩:=hxs0;refine⟨_,_,_,xs,rfl,h,by rw[hn];exact hown.1,λw hw j v hv=>?_⟩;obtain⟨hown,hn,hsz,_,hA⟩:=zI hxs (λb hb=>(hC w hw).ch k _ hk b hb);rcases hA with hA|hA
    ·have:xs=[]:=by
      rcases hown.2 with ⟨_,hn0⟩|⟨g,cap,cur,hv,_⟩
      ·exact List.eq_nil_of_length_eq_zero wK
      rw[hA] at hv;cases hv
     subst this;simp at hv
    have:=hown.cells (g:=(S k).b) wJ j v hv;rw[Addr.add_lit] at this;exact⟨_,hA,rfl,this⟩
   exact h.elim
  exact h.elim
 ·rename_i k lo sz' m _;split at h
  ·rename_i E sz'' n xs hk;split at h
   ·rename_i hs hs';have hs:=Nat.eq_of_beq_eq_true hs;have hs':=Nat.eq_of_beq_eq_true hs';subst hs hs';obtain⟨⟨hb⟩,h⟩:=h;obtain⟨A,c,rfl,_,hl,_⟩:=wi hx (hch k _ hk) hb;refine⟨A,m,c,_,rfl,h,hl,λw hw j v hv=>?_⟩;obtain⟨A',c',e,_,_,hcell⟩:=wi hx (zI (hch k _ hk) ((hC w hw).ch k _ hk)) hb;injection e with e1 e2 e3;subst e1;obtain⟨a,g1,g2,_,_,_,g3⟩:=hcell j v hv;exact⟨a,g1,g2,g3⟩
   exact h.elim
  ·rename_i E sz'' n cs hk;split at h
   ·rename_i xs hs hs' hcs;have hs:=Nat.eq_of_beq_eq_true hs;have hs':=Nat.eq_of_beq_eq_true hs';subst hs hs';obtain⟨⟨hb⟩,h⟩:=h;obtain⟨xs',hxs,hok⟩:=hch k _ hk;cases xH hcs (vwS_ok hok);replace hxs:zD N0 S k (.arr E sz'' n xs') w1:=hxs;obtain⟨A,c,rfl,_,hl,_⟩:=wi hx hxs hb;refine⟨A,m,c,_,rfl,h,hl,λw hw j v hv=>?_⟩;obtain⟨A',c',e,_,_,hcell⟩:=wi hx (zI hxs (λb hb=>(hC w hw).ch k _ hk b hb)) hb;injection e with e1 e2 e3;subst e1;obtain⟨a,g1,g2,_,_,_,g3⟩:=hcell j v hv;exact⟨a,g1,g2,g3⟩
   exact h.elim
  exact h.elim
 exact h.elim
theorem arrK_get{sz k o:Nat}{i:Int}{K:SV→Prop}:∀{n j0:Nat},arrK sz k o i K n j0→∀j:Nat,j0≤j→j<j0+n→i=(j:Int)→K (.lp k (o+j*sz))
 |0,j0,_,j,h1,h2,_=>by omega
 |n+1,j0,h,j,h1,h2,e=>by
  have h:(i=(j0:Int)→match o+j0*sz with|0=>K (.lp k 0)|m+1=>K (.lp k (m+1)))∧arrK sz k o i K n (j0+1):=h;by_cases hj:j=j0
  ·subst hj;have:=h.1 e;split at this<;>simp_all
  exact arrK_get h.2 j ws ws e
theorem idxK_ok(hT:zG P T){w1:World}(hch:∀k lb,getL L k=some lb→zD N0 S k lb w1){t:TypeId}{x i:SV}{u v:Value}{K:SV→Prop}(h:idxK T L t x i K)(hx:okv S x u)(hi:okv S i v):
  ∃r sv,K sv∧okv S sv r∧∀w,(Instr.indexAt t u v).run P w=.ok r w:=by
 have key:∀e,(ty T t).d=.slice e→∀(a:Addr) (n c:Nat) (k:IntKind) (i:Int),0≤i→i<n→∀w,(Instr.indexAt t (.slice (some a) n c) (.int k i)).run P w=.ok (.pointer (some (a.add (i.toNat*(ty T e).sz)))) w:=by
  intro e he a n c k i h0 h1 w;obtain⟨ht,_,j,hj,hsz,_⟩:yz P T t (.slice e):=by rw[←he];exact(hT t (by rw[he];simp)).d
  have hb:((decide (n≤1))&&(false:Bool))=false:=by simp
  simp[Instr.indexAt,asIntOf,run_underlying ht,h0,h1,sizeOf,typeInfo,hj,hsz]
 unfold idxK at h;split at h
 ·rename_i e A n c k i he;cases hx;cases hi;obtain⟨⟨h0,h1,hA⟩,h⟩:=h;rw[elK_eq] at h;obtain⟨a,rfl⟩:=Option.ne_none_iff_exists'.1 hA;exact⟨_,_,h,⟨a,rfl,rfl⟩,λw=>key e he a n c k i h0 h1 w⟩
 ·rename_i e k kk i he;split at h
  ·rename_i E sz n xs hk;obtain⟨⟨h0,h1⟩,h⟩:=h;rw[elK_eq] at h;obtain⟨hown,hn,_,_,hA⟩:=hch k _ hk;cases hx;cases hi;rcases hA with hA|hA
   ·rcases hown.2 with ⟨_,hn0⟩|⟨g,cap,cur,hv,_⟩
    ·omega
    rw[hA] at hv;cases hv
   refine⟨.pointer (some ⟨(S k).b,i.toNat*(ty T e).sz,none⟩),_,h,rfl,λw=>?_⟩;rw[hA];have:=key e he ⟨(S k).b,0,none⟩ (S k).n (S k).c kk i h0 (by rw[hn];exact h1) w;rw[Addr.add_lit,Nat.zero_add] at this;exact this
  ·rename_i E sz n cs hk;obtain⟨⟨h0,h1⟩,h⟩:=h;rw[elK_eq] at h;obtain⟨xs,⟨hown,hn,_,_,hA⟩,_⟩:=hch k _ hk;cases hx;cases hi;rcases hA with hA|hA
   ·rcases hown.2 with ⟨_,hn0⟩|⟨g,cap,cur,hv,_⟩
    ·omega
    rw[hA] at hv;cases hv
   refine⟨.pointer (some ⟨(S k).b,i.toNat*(ty T e).sz,none⟩),_,h,rfl,λw=>?_⟩;rw[hA];have:=key e he ⟨(S k).b,0,none⟩ (S k).n (S k).c kk i h0 (by rw[hn];exact h1) w;rw[Addr.add_lit,Nat.zero_add] at this;exact this
  exact h.elim
 ·rename_i e k lo sz m _ kk i he;split at h
  ·rename_i E sz' n xs hk;split at h
   ·rename_i hs;have hs:=Nat.eq_of_beq_eq_true hs;obtain⟨⟨h0,h1,h2⟩,h⟩:=h;rw[elK_eq] at h;obtain⟨hown,hn,_,_,hA⟩:=hch k _ hk;obtain⟨A,c,rfl,_,hA',_⟩:=hx;cases hi;have hA':=hA'.resolve_left ws;rcases hA with hA|hA
    ·rcases hown.2 with ⟨_,hn0⟩|⟨g,cap,cur,hv,_⟩
     ·omega
     rw[hA] at hv;cases hv
    refine⟨.pointer (some ⟨(S k).b,(lo+i.toNat)*(ty T e).sz,none⟩),_,h,rfl,λw=>?_⟩;rw[hA',hA];have:=key e he ⟨(S k).b,lo*sz,none⟩ m c kk i h0 h1 w;rw[Addr.add_lit,hs,←Nat.add_mul] at this;simp only[Option.map_some,Addr.add_lit,Nat.zero_add];rw[hs];exact this
   exact h.elim
  ·rename_i E sz' n cs hk;split at h
   ·rename_i hs;have hs:=Nat.eq_of_beq_eq_true hs;obtain⟨⟨h0,h1,h2⟩,h⟩:=h;rw[elK_eq] at h;obtain⟨xs,⟨hown,hn,_,_,hA⟩,_⟩:=hch k _ hk;obtain⟨A,c,rfl,_,hA',_⟩:=hx;cases hi;have hA':=hA'.resolve_left ws;rcases hA with hA|hA
    ·rcases hown.2 with ⟨_,hn0⟩|⟨g,cap,cur,hv,_⟩
     ·omega
     rw[hA] at hv;cases hv
    refine⟨.pointer (some ⟨(S k).b,(lo+i.toNat)*(ty T e).sz,none⟩),_,h,rfl,λw=>?_⟩;rw[hA',hA];have:=key e he ⟨(S k).b,lo*sz,none⟩ m c kk i h0 h1 w;rw[Addr.add_lit,hs,←Nat.add_mul] at this;simp only[Option.map_some,Addr.add_lit,Nat.zero_add];rw[hs];exact this
   exact h.elim
  exact h.elim
 ·rename_i e k n kk i he;obtain⟨⟨h0,h1⟩,h⟩:=h;cases hx;cases hi;have hK:=arrK_get h i.toNat (Nat.zero_le _) ws ws;refine⟨.pointer (some ⟨(S k).b,0+i.toNat*(ty T e).sz,none⟩),_,hK,rfl,λw=>?_⟩;have:=key e he ⟨(S k).b,0,none⟩ n n kk i h0 h1 w;rw[Addr.add_lit] at this;exact this
 ·rename_i n e k o kk i he;obtain⟨⟨h0,h1⟩,h⟩:=h;cases hx;cases hi;obtain⟨ht,_,j,hj,hsz,_⟩:yz P T t (.arr n e):=by rw[←he];exact(hT t (by rw[he];simp)).d
  have hK:=arrK_get h i.toNat (Nat.zero_le _) ws ws;refine⟨.pointer (some ⟨(S k).b,o+i.toNat*(ty T e).sz,none⟩),_,hK,rfl,λw=>?_⟩;have e1:(⟨(S k).b,o,none⟩:Addr).add (i.toNat*(ty T e).sz)=⟨(S k).b,o+i.toNat*(ty T e).sz,none⟩:=Addr.add_lit _ _ _;rw[←e1];simp[Instr.indexAt,Instr.sureAddr,asIntOf,run_underlying ht,h0,h1,sizeOf,typeInfo,hj,hsz]
 exact h.elim
theorem strIdxK_ok(hT:zG P T){t:TypeId}{x i:SV}{u v:Value}{K:SV→Prop}(h:strIdxK T t x i K)(hx:okv S x u)(hi:okv S i v):
  ∃r sv,K sv∧okv S sv r∧∀w,(Instr.index t u v).run P w=.ok r w:=by
 unfold strIdxK at h;split at h
 ·rename_i s k i hd;cases hx;cases hi;obtain⟨⟨h0,h1⟩,h⟩:=h;have ht:P.underlying t=some .string:=by have:=(hT t wD).d;rwa [hd] at this
  obtain⟨m,rfl⟩:=Int.eq_ofNat_of_zero_le h0;have hm:m<s.size:=by omega
  refine⟨_,_,h,rfl,λw=>?_⟩;have e:s[m]?=some s[m]:=ByteArray.getElem?_lt' s m hm
  have e2:s.data.toList[m]?=some s[m]:=by
   rw[Array.getElem?_toList];exact Array.getElem?_eq_getElem (by simpa using hm)
  simp[Instr.index,asIntOf,run_underlying ht,e,e2]
 exact h.elim
theorem xz{x:Option SV}{d:Int}{K:Int→Prop}{u:Option Value}(h:bndK x d K)(hx:(x=none∧u=none)∨∃y v,x=some y∧u=some v∧okv S y v):
  ∃i,K i∧((u=none∧i=d)∨∃k,u=some (.int k i)):=by
 unfold bndK at h;split at h
 ·rcases hx with ⟨_,rfl⟩|⟨y,v,e,_⟩
  ·exact⟨d,h,.inl ⟨rfl,rfl⟩⟩
  cases e
 ·rename_i k i;rcases hx with ⟨e,_⟩|⟨y,v,e,rfl,hok⟩
  ·cases e
  cases e;cases hok;exact⟨i,h,.inr ⟨k,rfl⟩⟩
 exact h.elim
theorem run_bnd(k:IntKind)(i:Int)(y:Nat)(code:BoundsCode)(h0:0≤i)(h1:i≤y)(w:World):(Instr.sliceBound (.int k i) y code).run P w=.ok i.toNat w:=by
 simp[Instr.sliceBound,asIntOf,h0,h1]
theorem slcK_ok(hT:zG P T){w1:World}(hch:∀k lb,getL L k=some lb→zD N0 S k lb w1){t:TypeId}{x:SV}{lo hi:Option SV}{u:Value}{ul uh:Option Value}{K:SV→Prop}(h:slcK T L t x lo hi K)(hx:okv S x u)
  (hl:(lo=none∧ul=none)∨∃y v,lo=some y∧ul=some v∧okv S y v) (hh:(hi=none∧uh=none)∨∃y v,hi=some y∧uh=some v∧okv S y v) :
  ∃r sv,K sv∧okv S sv r∧∀w,(Instr.sliceAt t u ul uh none).run P w=.ok r w:=by
 have bnds:∀(isS:Bool) (len cap:Nat) (l h:Int),((ul=none∧l=0)∨∃k,ul=some (.int k l))→((uh=none∧h=len)∨∃k,uh=some (.int k h))→0≤l→l≤h→h≤cap→len≤cap∨uh≠none→∀w,(Instr.sliceBounds isS len cap ul uh none).run P w=.ok (l.toNat,h.toNat,cap) w:=by
  intro isS len cap l h hl hh h0 h1 h2 _ w;have e1:(h.toNat:Int)=h:=Int.toNat_of_nonneg ws;have b1:=λk (y:Nat) code (hy:l≤(y:Int))=>run_bnd (P:=P) k l y code h0 hy w;have b2:=λk (y:Nat) code (hy:h≤(y:Int))=>run_bnd (P:=P) k h y code ws hy w;rcases hl with ⟨rfl,rfl⟩|⟨k,rfl⟩<;>rcases hh with ⟨rfl,rfl⟩|⟨k',rfl⟩
  ·simp[Instr.sliceBounds]
  ·simp[Instr.sliceBounds,b2 k' cap _ h2]
  ·simp[Instr.sliceBounds,b1 k len _ h1]
  simp[Instr.sliceBounds,b2 k' cap _ h2,b1 k h.toNat _ ws]
 unfold slcK at h;split at h
 ·rename_i s hd;cases hx;obtain⟨l,h,h1⟩:=xz h hl;obtain⟨hh',h,h2⟩:=xz h hh;obtain⟨⟨b0,b1,b2⟩,h⟩:=h;have ht:P.underlying t=some .string:=by have:=(hT t wD).d;rwa [hd] at this
  refine⟨_,_,h,rfl,λw=>?_⟩;simp[Instr.sliceAt,Instr.slice,run_underlying ht,bnds false s.size s.size l hh' h1 h2 b0 b1 b2 (.inl (Nat.le_refl _)) w]
 ·rename_i e A n c hd;cases hx;obtain⟨l,h,h1⟩:=xz h hl;obtain⟨hh',h,h2⟩:=xz h hh;obtain⟨⟨b0,b1,b2⟩,h⟩:=h;obtain⟨ht,_,j,hj,hsz,_⟩:yz P T t (.slice e):=by rw[←hd];exact(hT t wD).d
  rw[elK_eq] at h;refine⟨_,_,h _ rfl,rfl,λw=>?_⟩
  have hc:n≤c∨uh≠none:=by
   rcases h2 with ⟨_,e⟩|⟨k,e⟩
   ·left;omega
   right;rw[e];simp
  simp[Instr.sliceAt,Instr.slice,run_underlying ht,bnds true n c l hh' h1 h2 b0 b1 b2 hc w,sizeOf,typeInfo,hj,hsz]
 ·rename_i e k hd
  have own:∀{E sz n:Nat}{xs:List Value},zD N0 S k (.arr E sz n xs) w1→(match Nat.beq sz (ty T e).sz with|true=>bndK lo 0 λl=>bndK hi n λh=>Ob (0≤l∧l≤h∧h≤n)∧∀m,m=h.toNat-l.toNat→K (.vw k l.toNat sz m true)|false=>False)→∃r sv,K sv∧okv S sv r∧∀w,(Instr.sliceAt t u ul uh none).run P w=.ok r w:=by
   intro E sz n xs hk h;split at h;rotate_left
   ·exact h.elim
   rename_i hs;have hs:=Nat.eq_of_beq_eq_true hs;have hcap:=own_cap (hk);obtain⟨hown,hn,_,_,hA⟩:=hk;cases hx;obtain⟨l,h,h1⟩:=xz h hl;obtain⟨hh',h,h2⟩:=xz h hh;obtain⟨⟨b0,b1,b2⟩,h⟩:=h;obtain⟨ht,_,j,hj,hsz,_⟩:yz P T t (.slice e):=by rw[←hd];exact(hT t wD).d
   refine⟨.slice (if (S k).c=l.toNat then(S k).A else(S k).A.map (·.add (l.toNat*(ty T e).sz))) (hh'.toNat-l.toNat) ((S k).c-l.toNat),_,h _ rfl,⟨_,_,rfl,by omega,?_,λ_ hl0=>?_⟩,λw=>?_⟩;rotate_left
   ·rw[hl0];refine⟨?_,by omega⟩;split
    ·rfl
    cases(S k).A with
    |none=>rfl
    |some a=>simp[Addr.add]
   rotate_left
   ·by_cases e0:hh'.toNat-l.toNat=0
    ·exact .inl e0
    rw[if_neg ws,hs];exact .inr rfl
   rw[hn];simp[Instr.sliceAt,Instr.slice,run_underlying ht,bnds true n (S k).c l hh' h1 h2 b0 b1 ws (.inl hcap) w,sizeOf,typeInfo,hj,hsz]
  split at h
  ·rename_i hk;exact own (hch k _ hk) h
  ·rename_i hk;obtain⟨xs,h1,_⟩:=hch k _ hk;exact own h1 h
  exact h.elim
 ·rename_i e k lo0 sz n _ hd;split at h;rotate_left
  ·exact h.elim
  rename_i hs;have hs:=Nat.eq_of_beq_eq_true hs;obtain⟨A,c,rfl,hcap,hA,_⟩:=hx;obtain⟨l,h,h1⟩:=xz h hl;obtain⟨hh',h,h2⟩:=xz h hh;obtain⟨⟨b0,b1,b2⟩,h⟩:=h;obtain⟨ht,_,j,hj,hsz,_⟩:yz P T t (.slice e):=by rw[←hd];exact(hT t wD).d
  refine⟨.slice (if c=l.toNat then A else A.map (·.add (l.toNat*(ty T e).sz))) (hh'.toNat-l.toNat) (c-l.toNat),_,h _ rfl,⟨_,_,rfl,by omega,?_,λh=>by cases h⟩,λw=>?_⟩
  ·by_cases e0:hh'.toNat-l.toNat=0
   ·exact .inl e0
   rw[if_neg ws,hA.resolve_left ws,hs];right
   cases(S k).A with
   |none=>rfl
   |some a=>simp only[Option.map_some];rw[add_add',←Nat.add_mul]
  simp[Instr.sliceAt,Instr.slice,run_underlying ht,bnds true n c l hh' h1 h2 b0 b1 ws (.inl hcap) w,sizeOf,typeInfo,hj,hsz]
 exact h.elim
theorem slc3K_ok(hT:zG P T){w1:World}(hch:∀k lb,getL L k=some lb→zD N0 S k lb w1){t:TypeId}{x mx:SV}{lo hi:Option SV}{u um:Value}{ul uh:Option Value}{K:SV→Prop}(h:slc3K T L t x lo hi mx K)(hx:okv S x u)(hm:okv S mx um)
  (hl:(lo=none∧ul=none)∨∃y v,lo=some y∧ul=some v∧okv S y v) (hh:(hi=none∧uh=none)∨∃y v,hi=some y∧uh=some v∧okv S y v) :
  ∃r sv,K sv∧okv S sv r∧∀w,(Instr.sliceAt t u ul uh (some um)).run P w=.ok r w:=by
 unfold slc3K at h;split at h;rotate_left
 ·exact h.elim
 rename_i e k y hd
 have own:∀{E sz n:Nat}{xs:List Value},zD N0 S k (.arr E sz n xs) w1→(match Nat.beq sz (ty T e).sz with|true=>bndK lo 0 λl=>bndK (some y) 0 λh=>bndK (some mx) 0 λx=>Ob (0≤l∧l≤h∧h≤x∧x≤n)∧∀m,m=h.toNat-l.toNat→K (.vw k l.toNat sz m false)|false=>False)→∃r sv,K sv∧okv S sv r∧∀w,(Instr.sliceAt t u ul uh (some um)).run P w=.ok r w:=by
  intro E sz n xs hk h;split at h;rotate_left
  ·exact h.elim
  rename_i hs;have hs:=Nat.eq_of_beq_eq_true hs;have hcap:=own_cap (hk);obtain⟨hown,hn,_,_,hA⟩:=hk;cases hx;rcases hh with ⟨e0,_⟩|⟨y',v',e0,rfl,hy⟩
  ·cases e0
  cases e0;obtain⟨l,h,h1⟩:=xz h hl;obtain⟨hh',h,h2⟩:=xz h (.inr ⟨_,_,rfl,rfl,hy⟩);obtain⟨m,h,h3⟩:=xz h (.inr ⟨_,_,rfl,rfl,hm⟩);obtain⟨⟨b0,b1,b2,b3⟩,h⟩:=h;obtain⟨ht,_,j,hj,hsz,_⟩:yz P T t (.slice e):=by rw[←hd];exact(hT t wD).d
  rcases h2 with ⟨e1,_⟩|⟨k2,e1⟩
  ·cases e1
  rcases h3 with ⟨e3,_⟩|⟨k3,e3⟩
  ·cases e3
  cases e1;cases e3;have r3:=λcode w=>run_bnd (P:=P) k3 m (S k).c code ws ws w;have r2:=λcode w=>run_bnd (P:=P) k2 hh' m.toNat code ws ws w;have r1:=λk code w=>run_bnd (P:=P) k l hh'.toNat code b0 ws w;refine⟨.slice (if m.toNat=l.toNat then(S k).A else(S k).A.map (·.add (l.toNat*(ty T e).sz))) (hh'.toNat-l.toNat) (m.toNat-l.toNat),_,h _ rfl,⟨_,_,rfl,by omega,?_,λh=>by cases h⟩,λw=>?_⟩
  ·by_cases e0:hh'.toNat-l.toNat=0
   ·exact .inl e0
   rw[if_neg ws,hs];exact .inr rfl
  rcases h1 with ⟨rfl,rfl⟩|⟨k1,rfl⟩
  ·simp[Instr.sliceAt,Instr.slice,Instr.sliceBounds,run_underlying ht,r3,r2,sizeOf,typeInfo,hj,hsz]
  simp[Instr.sliceAt,Instr.slice,Instr.sliceBounds,run_underlying ht,r3,r2,r1,sizeOf,typeInfo,hj,hsz]
 split at h
 ·rename_i hk;exact own (hch k _ hk) h
 ·rename_i hk;obtain⟨xs,h1,_⟩:=hch k _ hk;exact own h1 h
 exact h.elim
end
section
variable {P:Program}{S S' Sb:Pl}{fr:Fr}{L L':LL}{q q':PH}{w w':World}{a:Act}{n0 N:Nat}{B:Nat→Prop}
def sub(ags:As)(S:Pl):Pl:=λk=>match asGet ags k with|some j=>S j|none=>S k
def AsExt(ags ags':As):Prop:=∀k j,asGet ags k=some j→asGet ags' k=some j
structure AsOk (b:Nat) (ags:As):Prop where
 abs:∀k j,asGet ags k=some j→k<b→j=k
 inj:∀k k' j,asGet ags k=some j→asGet ags k'=some j→k=k'
theorem AsExt.refl(ags:As):AsExt ags ags:=λ_ _ h=>h
theorem AsExt.trans{a b c:As}(h:AsExt a b)(h':AsExt b c):AsExt a c:=λk j hk=>h' k j (h k j hk)
theorem yQ{ags:As}{k j u:Nat}:asGet ((k,j)::ags) u=if k=u then some j else asGet ags u:=by
 simp only[asGet];by_cases h:k=u
 ·subst h;simp
 have:Nat.beq k u=false:=by rw[Bool.eq_false_iff];exact λe=>h (Nat.eq_of_beq_eq_true e)
 simp[this,h]
theorem yZ:∀{ags:As}{k j:Nat},asGet ags k=some j→asHas ags j=true
 |[],_,_,h=>by cases h
 |(u,x)::r,k,j,h=>by
  rw[yQ] at h;unfold asHas;split at h
  ·cases h;simp
  split
  ·rfl
  exact yZ h
theorem AsOk.nil(b:Nat):AsOk b []:=⟨λ_ _ h=>wL,λ_ _ _ h=>wL⟩
theorem AsOk.cons{b:Nat}{ags:As}{k j:Nat}(h:AsOk b ags)(hn:asGet ags k=none)(hj:asHas ags j=false)(hb:k<b→j=k):AsExt ags ((k,j)::ags)∧AsOk b ((k,j)::ags):=by
 refine⟨λu x hu=>?_,λu x hu hub=>?_,λu u' x hu hu'=>?_⟩
 ·rw[yQ,if_neg]
  ·exact hu
  intro e;subst e;rw[hn] at hu;cases hu
 ·rw[yQ] at hu;split at hu
  ·rename_i e;subst e;cases hu;exact hb hub
  exact h.abs u x hu hub
 rw[yQ] at hu hu';split at hu<;>split at hu'
 ·rename_i e e';exact e.symm.trans e'
 ·cases hu;rw[yZ hu'] at hj;cases hj
 ·cases hu';rw[yZ hu] at hj;cases hj
 exact h.inj u u' x hu hu'
theorem sub_get{ags:As}{k j:Nat}(h:asGet ags k=some j):sub ags S k=S j:=by simp[sub,h]
theorem x6{b:Nat}{ags:As}{k:Nat}(h:AsOk b ags)(hk:k<b):sub ags S k=S k:=by
 unfold sub;split
 ·rename_i j hj;rw[h.abs k j hj hk]
 rfl
def Got(b:Nat)(ags:As)(K:As→Prop)(R:As→Prop):Prop:=∃ags',AsExt ags ags'∧AsOk b ags'∧K ags'∧∀ags'',AsExt ags' ags''→AsOk b ags''→R ags''
theorem Got.here{b:Nat}{ags:As}{K:As→Prop}{R:As→Prop}(ho:AsOk b ags)(hK:K ags)(hR:∀ags'',AsOk b ags''→R ags''):Got b ags K R:=⟨ags,.refl _,ho,hK,λags'' _ h=>hR ags'' h⟩
theorem asK_ok{b:Nat}{ags:As}{k j:Nat}{K:As→Prop}(ho:AsOk b ags)(h:asK b ags k j K):Got b ags K λags=>∀S:Pl,sub ags S k=S j:=by
 unfold asK at h;split at h
 ·rename_i hb;have hb:=Nat.le_of_ble_eq_true hb;split at h
  ·rename_i i hi;split at h
   ·rename_i e;have e:=Nat.eq_of_beq_eq_true e;subst e;exact⟨ags,.refl _,ho,h,λags'' he _ S=>sub_get (he _ _ hi)⟩
   exact h.elim
  rename_i hn;split at h
  ·exact h.elim
  rename_i hj;obtain⟨h1,h2⟩:=ho.cons hn hj (λhb'=>by omega);exact⟨_,h1,h2,h,λags'' he _ S=>sub_get (he _ _ (by rw[yQ,if_pos rfl]))⟩
 rename_i hb
 have hb:k<b:=by
  rcases Nat.lt_or_ge k b with h|h
  ·exact h
  rw[Nat.ble_eq_true_of_le h] at hb;cases hb
 split at h
 ·rename_i e;have e:=Nat.eq_of_beq_eq_true e;subst e;split at h
  ·exact .here ho h λags'' ho' S=>x6 ho' hb
  split at h
  ·exact h.elim
  exact .here ho h λags'' ho' S=>x6 ho' hb
 exact h.elim
theorem dec_iff{p p':Prop}(d:Decidable p)(d':Decidable p')(h:p↔p'):@decide p d=@decide p' d':=by
 by_cases hp:p
 ·have:=h.1 hp;simp[hp,this]
 have:¬p':=λh'=>hp (h.2 h');simp[hp,this]
mutual
theorem mSV_ok:∀{ac tm:SV}{b:Nat}{ags:As}{K:As→Prop},AsOk b ags→mSV b tm ac ags K→Got b ags K λags=>∀(S:Pl) v,okv S ac v→okv (sub ags S) tm v:=by
 intro ac tm b ags K ho h;unfold mSV at h;split at h
 ·exact .here ho h λ_ _ _ _ _=>trivial
 ·obtain⟨⟨rfl⟩,h⟩:=h;exact .here ho h λ_ _ _ _ hv=>hv
 ·obtain⟨⟨rfl⟩,h⟩:=h;exact .here ho h λ_ _ _ _ hv=>hv
 ·rename_i x p d;obtain⟨⟨e⟩,h⟩:=h;refine .here ho h λ_ _ _ v hv=>?_;have hv:v=.bool (@decide p d):=hv;show v=.bool x;rw[hv];cases x
  ·have:¬p:=λhp=>by simpa using e.2 hp
   simp[this]
  have:p:=e.1 rfl;simp[this]
 ·obtain⟨⟨rfl⟩,h⟩:=h;exact .here ho h λ_ _ _ _ hv=>hv
 ·rename_i x p d;obtain⟨⟨e⟩,h⟩:=h;refine .here ho h λ_ _ _ v hv=>?_;have hv:v=.bool (@decide p d):=hv;show v=.bool x;rw[hv];cases x
  ·have:¬p:=λhp=>by simpa using e.2 hp
   simp[this]
  have:p:=e.1 rfl;simp[this]
 ·rename_i p d p' d';obtain⟨⟨e⟩,h⟩:=h;refine .here ho h λ_ _ _ v hv=>?_;have hv:v=.bool (@decide p' d'):=hv;show v=.bool (@decide p d);rw[hv,dec_iff d' d e.symm]
 ·rename_i p d y;obtain⟨⟨e⟩,h⟩:=h;refine .here ho h λ_ _ _ v hv=>?_;have hv:v=.bool y:=hv;show v=.bool (@decide p d);rw[hv];cases y
  ·have:¬p:=λhp=>by simpa using e.1 hp
   simp[this]
  have:p:=e.2 rfl;simp[this]
 ·rename_i p d y;obtain⟨⟨e⟩,h⟩:=h;refine .here ho h λ_ _ _ v hv=>?_;have hv:v=.bool y:=hv;show v=.bool (@decide p d);rw[hv];cases y
  ·have:¬p:=λhp=>by simpa using e.1 hp
   simp[this]
  have:p:=e.2 rfl;simp[this]
 ·obtain⟨⟨rfl⟩,h⟩:=h;obtain⟨ags',h1,h2,h3,h4⟩:=asK_ok ho h;refine⟨ags',h1,h2,h3,λags'' e o S v hv=>?_⟩;simp only[okv] at hv ⊢;rw[h4 ags'' e o S];exact hv
 ·obtain⟨ags',h1,h2,h3,h4⟩:=asK_ok ho h;refine⟨ags',h1,h2,h3,λags'' e o S v hv=>?_⟩;simp only[okv] at hv ⊢;rw[h4 ags'' e o S];exact hv
 ·obtain⟨ags',h1,h2,h3,h4⟩:=asK_ok ho h;refine⟨ags',h1,h2,h3,λags'' e o S v hv=>?_⟩;simp only[okv] at hv ⊢;rw[h4 ags'' e o S];exact hv
 ·obtain⟨⟨rfl,rfl,rfl,rfl⟩,h⟩:=h;obtain⟨ags',h1,h2,h3,h4⟩:=asK_ok ho h;refine⟨ags',h1,h2,h3,λags'' e o S v hv=>?_⟩;simp only[okv] at hv ⊢;rw[h4 ags'' e o S];exact hv
 ·exact .here ho h λ_ _ _ _ hv=>.inl hv
 ·obtain⟨ags',h1,h2,h3,h4⟩:=asK_ok ho h;refine⟨ags',h1,h2,h3,λags'' e o S v hv=>?_⟩;simp only[okv] at hv ⊢;rw[h4 ags'' e o S];exact .inr hv
 ·obtain⟨ags',h1,h2,h3,h4⟩:=asK_ok ho h;refine⟨ags',h1,h2,h3,λags'' e o S v hv=>?_⟩;simp only[okv] at hv ⊢;rw[h4 ags'' e o S];exact hv
 ·obtain⟨⟨rfl⟩,h⟩:=h;obtain⟨ags',h1,h2,h3,h4⟩:=asK_ok ho h;refine⟨ags',h1,h2,h3,λags'' e o S v hv=>?_⟩;simp only[okv] at hv ⊢;rw[h4 ags'' e o S];exact hv
 ·obtain⟨ags',h1,h2,h3,h4⟩:=asK_ok ho h;refine⟨ags',h1,h2,h3,λags'' e o S v hv=>?_⟩;simp only[okv] at hv ⊢;rw[h4 ags'' e o S];exact hv
 ·obtain⟨⟨rfl,rfl⟩,h⟩:=h;exact .here ho h λ_ _ _ _ hv=>hv
 ·obtain⟨ags',h1,h2,h3,h4⟩:=mL_ok ho h;exact⟨ags',h1,h2,h3,λags'' e o S v ⟨vs,hv,hl⟩=>⟨vs,hv,h4 ags'' e o S vs hl⟩⟩
 ·obtain⟨ags',h1,h2,h3,h4⟩:=mL_ok ho h;exact⟨ags',h1,h2,h3,λags'' e o S v ⟨vs,hv,hl⟩=>⟨vs,hv,h4 ags'' e o S vs hl⟩⟩
 ·split at h
  ·rename_i e;have e:=Nat.eq_of_beq_eq_true e;subst e;obtain⟨ags',h1,h2,h3,h4⟩:=mL_ok ho h;exact⟨ags',h1,h2,h3,λags'' e o S v ⟨vs,hv,hl⟩=>⟨vs,hv,h4 ags'' e o S vs hl⟩⟩
  exact h.elim
 ·obtain⟨hK,hv'⟩:=mVL_ok h;refine .here ho hK λ_ _ S v ⟨vs,hv,hl⟩=>?_;have:=hv' S vs hl;subst this;rw[hv];simp[okv]
 ·obtain⟨hK,hv'⟩:=mVL_ok h;refine .here ho hK λ_ _ S v ⟨vs,hv,hl⟩=>?_;have:=hv' S vs hl;subst this;rw[hv];simp[okv]
 exact h.elim
theorem mL_ok:∀{ac tm:List SV}{b:Nat}{ags:As}{K:As→Prop},AsOk b ags→mL b tm ac ags K→Got b ags K λags=>∀(S:Pl) vs,okL S ac vs→okL (sub ags S) tm vs:=by
 intro ac tm b ags K ho h;unfold mL at h;split at h
 ·exact .here ho h λ_ _ _ vs hv=>by cases vs<;>first|trivial|cases hv
 ·obtain⟨as1,e1,o1,h1,r1⟩:=mSV_ok ho h;obtain⟨as2,e2,o2,h2,r2⟩:=mL_ok o1 h1;refine⟨as2,e1.trans e2,o2,h2,λags'' e o S vs hv=>?_⟩
  cases vs with
  |nil=>cases hv
  |cons v vs=>exact⟨r1 ags'' (e2.trans e) o S v hv.1,r2 ags'' e o S vs hv.2⟩
 exact h.elim
theorem mVL_ok:∀{ac:List SV}{tm:List Value}{K:Prop},mVL tm ac K→K∧∀(S:Pl) vs,okL S ac vs→vs=tm:=by
 intro ac tm K h;unfold mVL at h;split at h
 ·exact⟨h,λ_ vs hv=>by cases vs<;>first|rfl|cases hv⟩
 ·obtain⟨as1,e1,o1,h1,r1⟩:=mSV_ok (AsOk.nil 0) h;obtain⟨hK,r2⟩:=mVL_ok h1;refine⟨hK,λS vs hv=>?_⟩
  cases vs with
  |nil=>cases hv
  |cons v vs=>
   have e1:v=_:=r1 as1 (.refl _) o1 S v hv.1;rw[e1,r2 S vs hv.2]
 exact h.elim
end
def pcOk(w:World)(F:Nat→Prop):List PC→List Value→Prop
 |[],[]=>True
 |.w v::r,u::s=>u=v∧pcOk w F r s
 |.row sz n xs::r,u::s=>(∃A c,u=.slice A n c∧n≤c∧xs.length=n*sz∧∀j y,xs[j]?=some y→∃a,A=some a∧a.spot=none∧F a.block∧w.cell? ⟨a.block,a.off+j,none⟩=some y)∧pcOk w F r s
 |_,_=>False
def caOk(w:World)(F:Nat→Prop)(S:Pl):List CA→List Value→Prop
 |[],[]=>True
 |.w x::r,v::vs=>okv S x v∧caOk w F S r vs
 |.sl sz n xs::r,v::vs=>(∃A c,v=.slice A n c∧n≤c∧xs.length=n*sz∧∀j u,xs[j]?=some u→∃a,A=some a∧a.spot=none∧F a.block∧w.cell? ⟨a.block,a.off+j,none⟩=some u)∧caOk w F S r vs
 |.pt cs::r,v::vs=>(∃a us,v=.pointer (some a)∧a.spot=none∧us.length=cs.length∧(∀(j:Nat) u,us[j]?=some u→F a.block∧w.cell? ⟨a.block,a.off+j,none⟩=some u)∧pcOk w F cs us)∧caOk w F S r vs
 |_,_=>False
def roFree(ags:As):List Nat→Bool
 |[]=>true
 |k::r=>match asHas ags k with|true=>false|false=>roFree ags r
theorem yT{ags:As}:∀{ro:List Nat}{k:Nat},roFree ags ro=true→k∈ro→asHas ags k=false
 |[],_,_,h=>by cases h
 |u::r,k,h,hk=>by
  unfold roFree at h;split at h
  ·cases h
  rename_i hu;rcases List.mem_cons.1 hk with rfl|hk
  ·exact hu
  exact yT h hk
theorem roFree_sub{ags:As}{ro ro':List Nat}(h:roFree ags ro'=true)(hs:∀k,k∈ro→k∈ro'):roFree ags ro=true:=by
 induction ro with
 |nil=>rfl
 |cons k r ih=>
  unfold roFree;rw[yT h (hs k wv)];exact ih λj hj=>hs j (by simp[hj])
theorem own_row_in{k e sz m:Nat}{ys:List Value}(hch:zD 0 S k (.arr e sz m ys) w){F:Nat→Prop}(hF:∀b,blk S k (.arr e sz m ys)=some b→F b):
  m≤(S k).c∧ys.length=m*sz∧(S k).n=m∧∀j u,ys[j]?=some u→∃a,(S k).A=some a∧a.spot=none∧F a.block∧w.cell? ⟨a.block,a.off+j,none⟩=some u:=by
 have hnc:=own_cap hch;obtain⟨hown,hn,hsz,h1,hA⟩:=hch;refine⟨hnc,hown.1,hn,λj u hu=>?_⟩;rcases hA with hA|hA
 ·have:ys=[]:=by
   rcases hown.2 with ⟨_,hn0⟩|⟨g,cap,cur,hv,_⟩
   ·exact List.eq_nil_of_length_eq_zero wK
   rw[hA] at hv;cases hv
  subst this;simp at hu
 have hcell:=hown.cells (g:=(S k).b) wJ j u hu;rw[Addr.add_lit] at hcell;exact⟨_,hA,rfl,hF _ (by simp[blk,hA]),hcell⟩
theorem ro_row_in{A:Option Addr}{xs:List Value}(hon:PH.on q w)(hR:Reads q A xs){F:Nat→Prop}(f1:∀b o v,q b o=some v→F b):
  ∀j u,xs[j]?=some u→∃a,A=some a∧a.spot=none∧F a.block∧w.cell? ⟨a.block,a.off+j,none⟩=some u:=λj u hu=>by
 have hrd:=(hR j (List.getElem?_eq_some_iff.1 hu).1).trans hu;obtain⟨ad,rfl,hs,hcell⟩:=rd_cell hon hrd;refine⟨ad,rfl,hs,?_,hcell⟩;obtain⟨b,o,s⟩:=ad;cases hs;exact f1 b (o+j) u hrd
theorem pcG_ok:∀{cs:List PC}{ac:List SV}{ro:List Nat}{K:List Nat→Prop},pcG (λt y K=>mSV 0 t y [] λ_=>K) q L cs ac ro K →
  ∃ro',(∀k,k∈ro→k∈ro')∧K ro'∧∀(ags'':As) us,roFree ags'' ro'=true→okL S ac us→PH.on q w→(∀k lb,getL L k=some lb→zD 0 S k lb w) →
   ∀F:Nat→Prop,(∀b o v,q b o=some v→F b)→(∀k lb b,getL L k=some lb→asHas ags'' k=false→blk S k lb=some b→F b)→us.length=cs.length∧pcOk w F cs us
 |[],[],ro,K,h=>⟨ro,λ_ h=>h,h,λags'' us _ hu _ _ F _ _=>by cases us with|nil=>exact⟨rfl,trivial⟩|cons _ _=>cases hu⟩
 |[],_::_,_,_,h=>by exact h.elim
 |_::_,[],_,_,h=>by exact h.elim
 |.w v::r,y::s,ro,K,h=>by
  obtain⟨as1,e1,o1,h1,r1⟩:=mSV_ok (AsOk.nil 0) (show mSV 0 (.v v) y [] λ_=>pcG (λt y K=>mSV 0 t y [] λ_=>K) q L r s ro K from h);obtain⟨ro',i2,h2,r2⟩:=pcG_ok h1;refine⟨ro',i2,h2,λags'' us hr hu hon hch F f1 f2=>?_⟩
  cases us with
  |nil=>cases hu
  |cons u us=>
   obtain⟨g1,g2⟩:=r2 ags'' us hr hu.2 hon hch F f1 f2;exact⟨by simp[g1],r1 as1 (.refl _) o1 S u hu.1,g2⟩
 |.row sz n xs::r,y::s,ro,K,h=>by
  replace h:(match (generalizing:=false) y with
     |.v (.slice A m c)=>Ob (m=n∧m≤c∧xs.length=m*sz∧Reads q A xs)∧pcG (λt y K=>mSV 0 t y [] λ_=>K) q L r s ro K
     | .own j=>(match getL L j with
      |some (.arr _ sz' m ys)=>(match Nat.beq sz' sz with|true=>Ob (m=n∧ys=xs)∧pcG (λt y K=>mSV 0 t y [] λ_=>K) q L r s (j::ro) K|false=>False)
      | _=>False)
     | .vw j lo sz' m _=>(match getL L j with
      |some (.arr _ sz'' n0 ys)=>(match Nat.beq sz' sz,Nat.beq sz'' sz with|true,true=>Ob (m=n∧lo+m≤n0∧vwC ys lo sz m=xs)∧pcG (λt y K=>mSV 0 t y [] λ_=>K) q L r s (j::ro) K|_,_=>False)
      | _=>False)
     | _=>False):=h
  split at h
  ·rename_i A m c;obtain⟨⟨rfl,hmc,hl,hR⟩,h⟩:=h;obtain⟨ro',i2,h2,r2⟩:=pcG_ok h;refine⟨ro',i2,h2,λags'' us hr hu hon hch F f1 f2=>?_⟩
   cases us with
   |nil=>cases hu
   |cons u us=>
    obtain⟨g1,g2⟩:=r2 ags'' us hr hu.2 hon hch F f1 f2;exact⟨by simp[g1],⟨A,c,hu.1,hmc,hl,ro_row_in hon hR f1⟩,g2⟩
  ·rename_i j;split at h;rotate_left
   ·exact h.elim
   rename_i E' sz' m ys hk;split at h;rotate_left
   ·exact h.elim
   rename_i hsz;have hsz:=Nat.eq_of_beq_eq_true hsz;subst hsz;obtain⟨⟨rfl,rfl⟩,h⟩:=h;obtain⟨ro',i2,h2,r2⟩:=pcG_ok h;refine⟨ro',λk hk=>i2 k (by simp[hk]),h2,λags'' us hr hu hon hch F f1 f2=>?_⟩
   cases us with
   |nil=>cases hu
   |cons u us=>
    obtain⟨g1,g2⟩:=r2 ags'' us hr hu.2 hon hch F f1 f2;have hu1:u=.slice (S j).A (S j).n (S j).c:=hu.1;obtain⟨p1,p2,p3,p4⟩:=own_row_in (hch j _ hk) (F:=F) (λb hb=>f2 j _ b hk (yT hr (i2 j wv)) hb);exact⟨by simp[g1],⟨(S j).A,(S j).c,by rw[hu1,p3],p1,p2,p4⟩,g2⟩
  ·rename_i j lo sz' m _;split at h;rotate_left
   ·exact h.elim
   rename_i E' sz'' n0 ys hk;split at h;rotate_left
   ·exact h.elim
   rename_i hsz hsz';have hsz:=Nat.eq_of_beq_eq_true hsz;have hsz':=Nat.eq_of_beq_eq_true hsz';subst hsz hsz';obtain⟨⟨rfl,hb,rfl⟩,h⟩:=h;obtain⟨ro',i2,h2,r2⟩:=pcG_ok h;refine⟨ro',λk hk=>i2 k (by simp[hk]),h2,λags'' us hr hu hon hch F f1 f2=>?_⟩
   cases us with
   |nil=>cases hu
   |cons u us=>
    obtain⟨g1,g2⟩:=r2 ags'' us hr hu.2 hon hch F f1 f2;obtain⟨A,c,rfl,hmc,hl,hcell⟩:=wi hu.1 (hch j _ hk) hb;refine⟨by simp[g1],⟨A,c,rfl,hmc,hl,λi u hi=>?_⟩,g2⟩;obtain⟨a,p1,p2,p3,p4,_,p5⟩:=hcell i u hi;exact⟨a,p1,p2,f2 j _ _ hk (yT hr (i2 j wv)) (by simp[blk,p3,p4]),p5⟩
  exact h.elim
theorem pcArgs_ok{F:Nat→Prop}(hon:PH.on q w)(f1:∀b o v,q b o=some v→F b):∀{cs:List PC}{us:List Value},pcArgs q cs us→pcOk w F cs us
 |[],[],_=>trivial
 |[],_::_,h=>h.elim
 |_::_,[],h=>h.elim
 |.w _::_,_::_,h=>⟨h.1,pcArgs_ok hon f1 h.2⟩
 |.row _ _ _::_,_::_,h=>by
  obtain⟨⟨A,c,e,h1,h2,h3⟩,h⟩:=h;exact⟨⟨A,c,e,h1,h2,ro_row_in hon h3 f1⟩,pcArgs_ok hon f1 h⟩
theorem mA_ok:∀{ac:List SV}{tm:List CA}{ags:As}{ro:List Nat}{K:As→List Nat→Prop},AsOk 0 ags→mA q L tm ac ags ro K →
  ∃ags' ro',AsExt ags ags'∧AsOk 0 ags'∧(∀k,k∈ro→k∈ro')∧K ags' ro'∧∀ags'' vs,AsExt ags' ags''→AsOk 0 ags''→roFree ags'' ro'=true→okL S ac vs→PH.on q w→(∀k lb,getL L k=some lb→zD 0 S k lb w) →
   ∀F:Nat→Prop,(∀b o v,q b o=some v→F b)→(∀k lb b,getL L k=some lb→asHas ags'' k=false→blk S k lb=some b→F b)→caOk w F (sub ags'' S) tm vs
 |[],[],ags,ro,K,ho,h=>by
  refine⟨ags,ro,.refl _,ho,λ_ h=>h,h,λags'' vs _ _ _ hv _ _ F _ _=>?_⟩
  cases vs with
  |nil=>trivial
  |cons _ _=>cases hv
 |[],_::_,_,_,_,_,h=>by simp[mA] at h
 |y::s,[],_,_,_,_,h=>by simp[mA] at h
 |y::s,.w x::r,ags,ro,K,ho,h=>by
  simp only[mA] at h;obtain⟨as1,e1,o1,h1,r1⟩:=mSV_ok ho h;obtain⟨as2,ro2,e2,o2,i2,h2,r2⟩:=mA_ok o1 h1;refine⟨as2,ro2,e1.trans e2,o2,i2,h2,λags'' vs e o hr hv hon hch F f1 f2=>?_⟩
  cases vs with
  |nil=>cases hv
  |cons v vs=>exact⟨r1 ags'' (e2.trans e) o S v hv.1,r2 ags'' vs e o hr hv.2 hon hch F f1 f2⟩
 |y::s,.sl sz n xs::r,ags,ro,K,ho,h=>by
  simp only[mA] at h;split at h
  ·rename_i A m c;obtain⟨⟨rfl,hmc,hl,hR⟩,h⟩:=h;obtain⟨as2,ro2,e2,o2,i2,h2,r2⟩:=mA_ok ho h;refine⟨as2,ro2,e2,o2,i2,h2,λags'' vs e o hr hv hon hch F f1 f2=>?_⟩
   cases vs with
   |nil=>cases hv
   |cons v vs=>
    refine⟨⟨A,c,hv.1,hmc,hl,λj u hu=>?_⟩,r2 ags'' vs e o hr hv.2 hon hch F f1 f2⟩;have hrd:=(hR j (List.getElem?_eq_some_iff.1 hu).1).trans hu;obtain⟨ad,rfl,hs,hcell⟩:=rd_cell hon hrd;refine⟨ad,rfl,hs,?_,hcell⟩;obtain⟨b,o,s⟩:=ad;cases hs;exact f1 b (o+j) u hrd
  ·rename_i k;split at h;rotate_left
   ·exact h.elim
   rename_i E' sz' m ys hk;split at h;rotate_left
   ·exact h.elim
   rename_i hsz;have hsz:=Nat.eq_of_beq_eq_true hsz;subst hsz;obtain⟨⟨rfl,rfl⟩,h⟩:=h;obtain⟨as2,ro2,e2,o2,i2,h2,r2⟩:=mA_ok ho h;refine⟨as2,ro2,e2,o2,λk' hk'=>i2 k' (by simp[hk']),h2,λags'' vs e o hr hv hon hch F f1 f2=>?_⟩
   cases vs with
   |nil=>cases hv
   |cons v vs=>
    refine⟨?_,r2 ags'' vs e o hr hv.2 hon hch F f1 f2⟩;have hv1:v=.slice (S k).A (S k).n (S k).c:=hv.1;obtain⟨hown,hn,hsz,h1,hA⟩:=hch k _ hk
    have hnc:m≤(S k).c:=by
     rcases hown.2 with ⟨e,hn0⟩|⟨g,cap,cur,e,_,_,hcap,_⟩
     ·omega
     injection e with _ e2 e3;omega
    refine⟨(S k).A,(S k).c,by rw[hv1,hn],hnc,hown.1,λj u hu=>?_⟩;rcases hA with hA|hA
    ·have:ys=[]:=by
      rcases hown.2 with ⟨_,hn0⟩|⟨g,cap,cur,hv,_⟩
      ·exact List.eq_nil_of_length_eq_zero wK
      rw[hA] at hv;cases hv
     subst this;simp at hu
    have hcell:=hown.cells (g:=(S k).b) wJ j u hu;rw[Addr.add_lit] at hcell;exact⟨_,hA,rfl,f2 k _ _ hk (yT hr (i2 k wv)) (by simp[blk,hA]),hcell⟩
  ·rename_i k lo sz' m _;split at h;rotate_left
   ·exact h.elim
   rename_i E' sz'' n0 ys hk;split at h;rotate_left
   ·exact h.elim
   rename_i hsz hsz';have hsz:=Nat.eq_of_beq_eq_true hsz;have hsz':=Nat.eq_of_beq_eq_true hsz';subst hsz hsz';obtain⟨⟨rfl,hb,rfl⟩,h⟩:=h;obtain⟨as2,ro2,e2,o2,i2,h2,r2⟩:=mA_ok ho h;refine⟨as2,ro2,e2,o2,λk' hk'=>i2 k' (by simp[hk']),h2,λags'' vs e o hr hv hon hch F f1 f2=>?_⟩
   cases vs with
   |nil=>cases hv
   |cons v vs=>
    refine⟨?_,r2 ags'' vs e o hr hv.2 hon hch F f1 f2⟩;obtain⟨A,c,rfl,hmc,hl,hcell⟩:=wi hv.1 (hch k _ hk) hb;refine⟨A,c,rfl,hmc,hl,λj u hu=>?_⟩;obtain⟨a,g1,g2,g3,g4,_,g5⟩:=hcell j u hu;exact⟨a,g1,g2,f2 k _ _ hk (yT hr (i2 k wv)) (by simp[blk,g3,g4]),g5⟩
  exact h.elim
 |y::s,.pt cs::r,ags,ro,K,ho,h=>by
  simp only[mA] at h;split at h
  ·rename_i k;split at h;rotate_left
   ·exact h.elim
   rename_i T acs hk;obtain⟨ro1,i1,h,r1⟩:=pcG_ok (S:=S) (w:=w) h;obtain⟨as2,ro2,e2,o2,i2,h2,r2⟩:=mA_ok ho h;refine⟨as2,ro2,e2,o2,λk' hk'=>i2 k' (i1 k' (by simp[hk'])),h2,λags'' vs e o hr hv hon hch F f1 f2=>?_⟩
   cases vs with
   |nil=>cases hv
   |cons v vs=>
    refine⟨?_,r2 ags'' vs e o hr hv.2 hon hch F f1 f2⟩;have hv1:v=.pointer (some ⟨(S k).b,0,none⟩):=hv.1;obtain⟨_,us,hg,hus⟩:=hch k _ hk;have hr1:roFree ags'' ro1=true:=roFree_sub hr i2;obtain⟨g1,g2⟩:=r1 ags'' us hr1 hus hon hch F f1 f2;refine⟨_,us,hv1,rfl,g1,λj u hu=>⟨f2 k _ _ hk (yT hr1 (i1 k wv)) rfl,?_⟩,g2⟩;simp only[World.cell?,hg,Nat.zero_add];simpa using hu
  ·rename_i a;obtain⟨⟨hsp,us,hl,hR,hpc⟩,h⟩:=h;obtain⟨as2,ro2,e2,o2,i2,h2,r2⟩:=mA_ok ho h;refine⟨as2,ro2,e2,o2,i2,h2,λags'' vs e o hr hv hon hch F f1 f2=>?_⟩
   cases vs with
   |nil=>cases hv
   |cons v vs=>
    refine⟨⟨a,us,hv.1,hsp,hl,λj u hu=>?_,pcArgs_ok hon f1 hpc⟩,r2 ags'' vs e o hr hv.2 hon hch F f1 f2⟩;obtain⟨a',e',_,g2,g3⟩:=ro_row_in hon hR f1 j u hu;cases e';exact⟨g2,g3⟩
  exact h.elim
end
section
variable {P:Program}{T:Tab}{Γ:List Spec}{S:Pl}{fr:Fr}{L:LL}{p:PH}{N0:Nat}{w0:W0}{a:Act}{C:World→Prop}
theorem yv:∀(vs:List Value),okL S (valL vs) vs
 |[]=>trivial
 |v::r=>by cases v<;>exact⟨rfl,yv r⟩
theorem foldl_set(l:List Value):∀(cs:List Value) (off j:Nat),off+j+l.length≤cs.length →
  ((l.zipIdx j).foldl (λ(c:Array Value) (x:Value×Nat)=>c.setIfInBounds (off+x.2) x.1) cs.toArray)=(cs.take (off+j)++l++cs.drop (off+j+l.length)).toArray:=by
 induction l with
 |nil=>intro cs off j h;simp
 |cons x r ih=>
  intro cs off j h;simp only[List.length_cons] at h;simp only[List.zipIdx_cons,List.foldl_cons,List.setIfInBounds_toArray];rw[ih (cs.set (off+j) x) off (j+1) wN];congr 1;rw[List.take_set,List.drop_set];rw[if_pos ws]
  have h1:(cs.take (off+(j+1))).set (off+j) x=cs.take (off+j)++[x]:=by
   rw[show off+(j+1)=(off+j)+1 from by omega,List.take_succ_eq_append_getElem ws];rw[List.set_append_right _ _ wN];simp[Nat.min_eq_left (show off+j≤cs.length from by omega)]
  rw[h1];simp only[List.append_assoc,List.singleton_append,List.length_cons];congr 3;omega
theorem xp{α:Type}:∀(l:List α) (i:Nat),nth l i=l[i]?
 |[],i=>by simp[nth_n]
 |x::r,0=>rfl
 |x::r,i+1=>by simp[nth_s,xp r i]
theorem setN_eq{α:Type}(x:α):∀(l:List α) (i:Nat),setN l i x=l.set i x
 |[],i=>by simp[setN]
 |y::r,0=>rfl
 |y::r,i+1=>by simp[setN,setN_eq x r i]
theorem yV{α:Type}:∀(l:List α) (i:Nat),takeN l i=l.take i
 |l,0=>by simp[takeN]
 |[],i+1=>by simp[takeN]
 |y::r,i+1=>by simp[takeN,yV r i]
theorem yW{α:Type}:∀(l:List α) (i:Nat),dropN l i=l.drop i
 |l,0=>by simp[dropN]
 |[],i+1=>by simp[dropN]
 |y::r,i+1=>by simp[dropN,yW r i]
theorem cells_one{y:SV}{v:Value}(h:okv S y v)(h1:∀l,y≠.agg l)(hb:y≠.bad)(hv:∀x,y=.v x→x.oneCell'=true)(ht:∀l,y≠.tup l):v.cells=#[v]:=by
 cases y with
 |v x=>cases h;have:=hv _ rfl;cases v<;>first|rfl|(simp[Value.oneCell'] at this)
 |agg l=>exact absurd rfl (h1 l)
 |tup l=>exact absurd rfl (ht l)
 |bad=>exact absurd rfl hb
 |bb b=>cases h;rfl
 |b p d=>cases h;rfl
 |lp k o=>cases h;rfl
 |own k=>cases h;rfl
 |el A j=>obtain⟨a,_,rfl⟩:=h;rfl
 |fn f cs=>obtain⟨vs,rfl,_⟩:=h;rfl
 |yl k=>cases h;rfl
 |vw k lo sz n ex=>obtain⟨A,c,rfl,_⟩:=h;rfl
 |lq k=>rcases h with rfl|rfl<;>rfl
 |ls k n=>cases h;rfl
 |mr k=>cases h;rfl
theorem partsK_ok{fs:List (Nat×Nat)}{tm:Array Value}(hF:okF S fr tm){ρ:Operand→Value}(hρ:∀x,okv S (opv fr x) (ρ x))(place:Nat→Option (Nat×Nat))(hpl:∀i off t,nth fs i=some (off,t)→place i=some (off,(ty T t).sz)):
  ∀(ps:List (Nat×Operand)) (cs:List SV) (vs:List Value) (K:List SV→Prop),okL S cs vs→partsK T fs fr ps cs K →
   ∃l us,K l∧okL S l us∧Instr.fill place vs.toArray (ps.map λq=>(q.1,ρ q.2))=some us.toArray
 |[],cs,vs,K,hok,h=>⟨cs,vs,h,hok,rfl⟩
 |(i,x)::r,cs,vs,K,hok,h=>by
  unfold partsK at h;split at h;rotate_left
  ·exact h.elim
  rename_i off t hn;rw[yn] at h;have hp:=hpl i off t hn;have hx:=hρ x;have hlen:=zC hok
  have one:∀(y:SV),y=opv fr x→(∀l,y≠.agg l)→y≠.bad→(∀z,y=.v z→z.oneCell'=true)→(∀l,y≠.tup l) →
    (match Nat.beq (ty T t).sz 1 with|true=>(match Nat.blt off cs.length with|true=>fSVL (setN cs off y) λc=>partsK T fs fr r c K|false=>False)|false=>False) →
    ∃l us,K l∧okL S l us∧Instr.fill place vs.toArray (((i,x)::r).map λq=>(q.1,ρ q.2))=some us.toArray:=by
   intro y hy n1 n2 n3 n4 h;rw[←hy] at hx;split at h
   ·rename_i h1;split at h
    ·rename_i h2;rw[xl] at h;have h1:=Nat.eq_of_beq_eq_true h1;have h2:off<cs.length:=Nat.le_of_ble_eq_true h2;have hc:=cells_one hx n1 n2 n3 n4;obtain⟨l,us,hK,hl,hf⟩:=partsK_ok hF hρ place hpl r _ (vs.set off (ρ x)) K (okL_set off hok hx) h;refine⟨l,us,hK,hl,?_⟩;simp only[List.map_cons,Instr.fill,hp,hc,h1];rw[if_neg wN];rw[←hf];simp
    exact h.elim
   exact h.elim
  split at h
  ·rename_i l hy;rw[hy] at hx;obtain⟨us,hu,hl⟩:=hx;split at h
   ·rename_i h1;split at h
    ·rename_i h2;rw[xl,yV,yW] at h;have h1:=Nat.eq_of_beq_eq_true h1;have h2:=Nat.le_of_ble_eq_true h2;have h3:=zC hl
     have hok':okL S (cs.take off++l++cs.drop (off+l.length)) (vs.take off++us++vs.drop (off+us.length)):=by
      rw[←yV,←yW,h3];exact zV (zV (yG off hok) hl) (xg _ hok)
     obtain⟨l',us',hK,hl',hf⟩:=partsK_ok hF hρ place hpl r _ _ K hok' h;refine⟨l',us',hK,hl',?_⟩;simp only[List.map_cons,Instr.fill,hp,hu,Value.cells];have e:∀(b:Bool) (x y:Option (Array Value)),b=false→(if b=true then x else y)=y:=by intro b x y hb;simp[hb]
     refine(e _ _ _ wN).trans ?_;rw[←hf];have:=foldl_set us vs off 0 ws;simp only[Nat.add_zero] at this;rw[←this];simp
    exact h.elim
   exact h.elim
  ·exact h.elim
  ·exact h.elim
  ·exact h.elim
  ·exact h.elim
  rename_i y hy1 hy2 hy3 hy4 hy5;refine one _ rfl (λl e=>hy1 l e) (λe=>hy3 e) (λz e=>?_) (λl e=>hy2 l e) h;cases z<;>first|rfl|exact absurd e (hy4 _)|exact absurd e (hy5 _)
mutual
theorem toV_ok{S:Pl}:∀(x:SV) {y v:Value},toV x=some y→okv S x v→v=y
 |.v x,y,v,h,hx=>by cases hx;simpa[toV] using h
 |.bb b,y,v,h,hx=>by cases hx;simpa[toV] using h
 |.b p d,y,v,h,hx=>by cases hx;simpa[toV] using h
 |.agg cs,y,v,h,hx=>by
  obtain⟨vs,rfl,hok⟩:=hx;unfold toV at h;split at h
  ·rename_i l hl;have:=toVL_ok cs hl hok;subst this;simpa using h
  cases h
 |.lp _ _,y,v,h,hx=>by simp[toV] at h
 |.own _,y,v,h,hx=>by simp[toV] at h
 |.el _ _,y,v,h,hx=>by simp[toV] at h
 |.tup _,y,v,h,hx=>by simp[toV] at h
 |.fn _ _,y,v,h,hx=>by simp[toV] at h
 |.yl _,y,v,h,hx=>by simp[toV] at h
 |.vw _ _ _ _ _,y,v,h,hx=>by simp[toV] at h
 |.lq _,y,v,h,hx=>by simp[toV] at h
 |.ls _ _,y,v,h,hx=>by simp[toV] at h
 |.mr _,y,v,h,hx=>by simp[toV] at h
 |.bad,y,v,h,hx=>by simp[toV] at h
theorem toVL_ok{S:Pl}:∀(l:List SV) {ys vs:List Value},toVL l=some ys→okL S l vs→vs=ys
 |[],ys,vs,h,hx=>by cases vs with|nil=>simpa[toVL] using h|cons _ _=>cases hx
 |x::r,ys,vs,h,hx=>by
  cases vs with
  |nil=>cases hx
  |cons v vs=>
   unfold toVL at h;split at h
   ·rename_i y hy;split at h
    ·rename_i s hs;have h1:=toV_ok x hy hx.1;have h2:=toVL_ok r hs hx.2;subst h1;subst h2;simpa using h
    cases h
   cases h
end
def datOk(w:World):List AK→List Value→List Dat→Prop
 |[],[],[]=>True
 |.v::ks,x::xs,.v y::ds=>x=y∧datOk w ks xs ds
 |.sl sz::ks,x::xs,.sl n ys::ds=>(∃A c,x=.slice A n c∧n≤c∧ys.length=n*sz∧∀j v,ys[j]?=some v→∃a,A=some a∧a.spot=none∧w.cell? ⟨a.block,a.off+j,none⟩=some v)∧datOk w ks xs ds
 |_,_,_=>False
def S0:Pl:=λ_=>⟨0,none,0,0,default⟩
def SpecOk(P:Program)(s:Spec):Prop:=
 (∀args w,(callFunc s.f args).run P w=.ok (.enter s.f args) w) ∧
 ∀w xs ds,datOk w s.ks xs ds→s.dom ds→Calls P s.f xs.toArray w λe w'=>e=.returned (den S0 (s.val ds))∧Below w.heap.size w w'
mutual
theorem w7{S:Pl}:∀(x:SV),closed x=true→okv S x (den S0 x)
 |.v _,_=>by simp[okv,den]
 |.bb _,_=>by simp[okv,den]
 |.b _ _,_=>by simp[okv,den]
 |.agg cs,h=>by unfold closed at h;exact⟨_,by simp[den],closedL_ok cs h⟩
 |.tup cs,h=>by unfold closed at h;exact⟨_,by simp[den],closedL_ok cs h⟩
 |.fn _ cs,h=>by unfold closed at h;exact⟨_,by simp[den],closedL_ok cs h⟩
 |.lp _ _,h=>by simp[closed] at h
 |.own _,h=>by simp[closed] at h
 |.el _ _,h=>by simp[closed] at h
 |.yl _,h=>by simp[closed] at h
 |.vw _ _ _ _ _,h=>by simp[closed] at h
 |.lq _,h=>by simp[closed] at h
 |.ls _ _,h=>by simp[closed] at h
 |.mr _,h=>by simp[closed] at h
 |.bad,h=>by simp[closed] at h
theorem closedL_ok{S:Pl}:∀(l:List SV),closedL l=true→okL S l (denL S0 l)
 |[],_=>trivial
 |x::r,h=>by
  unfold closedL at h;split at h
  ·rename_i hx;exact⟨w7 x hx,closedL_ok r h⟩
  cases h
end
def SpecsOk(P:Program)(Γ:List Spec):Prop:=∀f s,findS Γ f=some s→s.f=f∧SpecOk P s
def zp(P:Program)(s:CS):Prop:=
 (∀args w,(callFunc s.f args).run P w=.ok (.enter s.f args) w) ∧
 ∀w q S i vs,s.ok i→RdsOk q (s.rds i)→PH.on q w→caOk w (λb=>b<w.heap.size) S (s.args i) vs →
  Calls P s.f vs.toArray w λe w'=>e=.returned (den S0 (s.res i))∧Below w.heap.size w w'
def CalmsOk(P:Program)(Δ:List CS):Prop:=∀f s,findC Δ f=some s→s.f=f∧(s.calm=true→zp P s)
theorem xj{ρ:Operand→Value}{o:Oper}{x:Value}(h:∀w,C w→(execOp ρ o).run P w=.ok (.value x) w):Yl P C ρ o x:=λw hw=>by
 rw[h w hw];exact⟨rfl,rfl⟩
theorem datK_ok{w1:World}(hch:∀k lb,getL L k=some lb→zD 0 S k lb w1)(hC:∀w,C w→Cl w0 p S L w1 w):∀(ks:List AK) (xs:List SV) (vs:List Value) (K:List Dat→Prop),datK p L ks xs K→okL S xs vs→∃ds,K ds∧∀w,C w→datOk w ks vs ds
 |[],[],vs,K,h,hx=>by cases vs with|nil=>exact⟨[],h,λ_ _=>trivial⟩|cons _ _=>cases hx
 |[],_::_,_,_,h,_=>by simp[datK] at h
 |.v::_,[],_,_,h,_=>by simp[datK] at h
 |.sl _::_,[],_,_,h,_=>by simp[datK] at h
 |.v::ks,x::xs,vs,K,h,hx=>by
  cases vs with
  |nil=>cases hx
  |cons v vs=>
   unfold datK at h;split at h
   ·rename_i y hy;obtain⟨ds,hK,hd⟩:=datK_ok hch hC ks xs vs _ h hx.2;exact⟨_,hK,λw hw=>⟨toV_ok x hy hx.1,hd w hw⟩⟩
   exact h.elim
 |.sl sz::ks,x::xs,vs,K,h,hx=>by
  cases vs with
  |nil=>cases hx
  |cons v vs=>
   unfold datK at h;split at h
   ·rename_i A n c;obtain⟨⟨hnc⟩,⟨ys,hl,hr⟩,h⟩:=h;have he:v=.slice A n c:=hx.1;obtain⟨ds,hK,hd⟩:=datK_ok hch hC ks xs vs _ (h ys hl hr) hx.2;exact⟨_,hK,λw hw=>⟨⟨A,c,he,hnc,hl,λj u hu=>rd_cell (hC w hw).on ((hr j (List.getElem?_eq_some_iff.1 hu).1).trans hu)⟩,hd w hw⟩⟩
   ·rename_i k;split at h
    ·rename_i E sz' n ys hk;split at h
     ·rename_i hs;have hs:=Nat.eq_of_beq_eq_true hs;subst hs;have he:v=.slice (S k).A (S k).n (S k).c:=hx.1;obtain⟨ds,hK,hd⟩:=datK_ok hch hC ks xs vs _ h hx.2;obtain⟨hown1,hn1,_⟩:=hch k _ hk
      have hnc:(S k).n≤(S k).c:=by
       rcases hown1.2 with ⟨e,_⟩|⟨g,cap,cur,e,_,_,hcap,_⟩
       ·injection e with _ e2 e3;omega
       injection e with _ e2 e3;omega
      rw[hn1] at hnc;refine⟨_,hK,λw hw=>⟨⟨(S k).A,(S k).c,by rw[←hn1];exact he,hnc,hown1.1,λj u hu=>?_⟩,hd w hw⟩⟩;obtain⟨hown,hn,hsz,_,hA⟩:=zI (hch k _ hk) ((hC w hw).ch k _ hk);rcases hA with hA|hA
      ·have:ys=[]:=by
        rcases hown.2 with ⟨_,hn0⟩|⟨g,cap,cur,hv,_⟩
        ·exact List.eq_nil_of_length_eq_zero wK
        rw[hA] at hv;cases hv
       subst this;simp at hu
      have:=hown.cells (g:=(S k).b) wJ j u hu;rw[Addr.add_lit] at this;exact⟨_,hA,rfl,this⟩
     exact h.elim
    exact h.elim
   exact h.elim
theorem optv_ok(hF:okF S fr a.tmps)(x:Option Operand):(optv fr x=none∧x.map a.eval=none)∨∃y v,optv fr x=some y∧x.map a.eval=some v∧okv S y v:=by
 cases x with
 |none=>exact .inl ⟨rfl,rfl⟩
 |some x=>exact .inr ⟨_,_,rfl,rfl,zu hF x⟩
theorem fieldOf_ok(hT:zG P T){t f off ft:Nat}(h:xR T t f=some (off,ft)):∃F fd,P.underlying t=some (.struct F)∧F[f]?=some fd∧fd.offset=off∧fd.type=ft∧sizeOk P T ft:=by
 unfold xR at h;split at h
 ·rename_i fs hd;obtain⟨F,hu,hm,hs⟩:yz P T t (.struct fs):=by rw[←hd];exact(hT t wD).d
  rw[xp,←hm,List.getElem?_map] at h;rw[Array.getElem?_toList] at h
  cases hf:F[f]? with
  |none=>rw[hf] at h;cases h
  |some fd=>
   rw[hf] at h;simp only[Option.map_some,Option.some.injEq,Prod.mk.injEq] at h;refine⟨F,fd,hu,hf,h.1,h.2,?_⟩;refine hs (off,ft) ?_;rw[←hm];refine List.mem_map.2 ⟨fd,?_,by rw[h.1,h.2]⟩;exact List.mem_of_getElem? (by rw[Array.getElem?_toList];exact hf)
 cases h
theorem run_part(hT:zG P T){t:Nat}(h0:(ty T t).d≠.other){cs:List SV}{vs:List Value}(hok:okL S cs vs){off:Nat}(hle:off+(ty T t).sz≤cs.length):
  ∃r,okv S (zF (ty T t).d (takeN (dropN cs off) (ty T t).sz)) r∧∀w,(part t vs.toArray off).run P w=.ok r w:=by
 obtain⟨hd,⟨i,z,hi,hsz,_,_,_⟩,_,_,_,one⟩:=hT t h0;have hlen:=zC hok
 have agg:∀d,P.underlying t=some d→aggB d=true→∀w,(part t vs.toArray off).run P w=.ok (.agg ((vs.drop off).take (ty T t).sz).toArray) w:=by
  intro d hu hb w;simp[part,run_isAgg hu,hb,sizeOf,typeInfo,hi,hsz]
 have scal:∀d,P.underlying t=some d→aggB d=false→(ty T t).sz=1→∃v,(vs.drop off).take (ty T t).sz=[v]∧∀w,(part t vs.toArray off).run P w=.ok v w:=by
  intro d hu hb h1;rw[h1];have hlt:off<vs.length:=by omega
  refine⟨vs[off],?_,λw=>?_⟩
  ·rw[List.drop_eq_getElem_cons hlt];rfl
  simp[part,run_isAgg hu,hb,hlt]
 have hsub:=yG (ty T t).sz (xg off hok)
 have fin1:∀d,P.underlying t=some d→aggB d=false→(∀fs,(ty T t).d≠.struct fs)→(∀n e,(ty T t).d≠.arr n e) →
   (∀l,zF (ty T t).d l=match l with|x::_=>x|[]=>.bad) →
   ∃r,okv S (zF (ty T t).d (takeN (dropN cs off) (ty T t).sz)) r∧∀w,(part t vs.toArray off).run P w=.ok r w:=by
  intro d hu hb n1 n2 hof;obtain⟨v,hv,hr⟩:=scal d hu hb (one n1 n2);refine⟨v,?_,hr⟩;rw[hof];rw[hv] at hsub
  revert hsub
  cases takeN (dropN cs off) (ty T t).sz with
  |nil=>intro h;cases h
  |cons x r=>exact λh=>h.1
 generalize he:(ty T t).d=d at *
 cases d with
 |int k=>exact fin1 _ hd rfl wv wv (λl=>rfl)
 |bool=>exact fin1 _ hd rfl wv wv (λl=>rfl)
 |str=>exact fin1 _ hd rfl wv wv (λl=>rfl)
 |flt k=>exact fin1 _ hd rfl wv wv (λl=>rfl)
 |ptr e=>exact fin1 _ hd rfl wv wv (λl=>rfl)
 |slice e=>exact fin1 _ hd.1 rfl wv wv (λl=>rfl)
 |func=>obtain⟨x,y,z,hd⟩:=hd;exact fin1 _ hd rfl wv wv (λl=>rfl)
 |map k e=>exact fin1 _ hd rfl wv wv (λl=>rfl)
 |struct fs=>obtain⟨F,hd,_⟩:=hd;exact⟨_,⟨_,rfl,hsub⟩,agg _ hd rfl⟩
 |arr n e=>exact⟨_,⟨_,rfl,hsub⟩,agg _ hd.1 rfl⟩
 |other=>exact absurd rfl h0
theorem zR{ρ:Operand→Value}{o:Oper}{x:Value}{w:World}{s:Sem Value}(he:execOp ρ o=(do pure (.value (←s))))(h:s.run P w=.ok x w):(execOp ρ o).run P w=.ok (.value x) w:=by
 rw[he];simp[h]
theorem wrap_conv{dst:TypeId}{k:IntKind}(hd:P.underlying dst=some (.int k)){src:TypeId}{d:TypeDesc}(hs:P.underlying src=some d)(k':IntKind)(n:Int)(w:World):(convert src dst (.int k' n)).run P w=.ok (.int k (k.wrap n)) w:=by
 simp[convert,run_underlying hd,run_underlying hs,Conv.intToInt]
theorem push_all(l:List UInt8):∀r:ByteArray,l.foldl (λr c=>r.push c) r=⟨r.data++l.toArray⟩:=by
 induction l with
 |nil=>intro r;simp
 |cons c l ih=>intro r;rw[List.foldl_cons,ih];simp[ByteArray.push]
theorem convK_ok(hT:zG P T){w1:World}(hch:∀k lb,getL L k=some lb→zD 0 S k lb w1)(hC:∀w,C w→Cl w0 p S L w1 w){src dst:TypeId}{x:SV}{u:Value}{K:SV→Prop}(h:convK T p L src dst x K)(hx:okv S x u):
  ∃r sv,K sv∧okv S sv r∧∀w,C w→(convert src dst u).run P w=.ok r w:=by
 have hs:=λh0=>(hT src h0).d;have hd:=λh0=>(hT dst h0).d;unfold convK at h;split at h
 ·rename_i ks k' k n e1 e2;rw[e1] at hs;rw[e2] at hd;cases hx;have hw:=wrap_conv (P:=P) (hd wv) (hs wv) k n;split at h
  ·refine⟨_,_,h.2,rfl,λw _=>?_⟩;rw[hw,wrap_inR h.1.out]
  exact⟨_,_,h,rfl,λw _=>hw w⟩
 ·rename_i s e1 e2;rw[e1] at hs;rw[e2] at hd;cases hx;exact⟨_,_,h,rfl,λw _=>by simp[convert,run_underlying (hs wv),run_underlying (hd wv)]⟩
 ·rename_i ks k' k n e1 e2;rw[e1] at hs;rw[e2] at hd;cases hx;exact⟨_,_,h,rfl,λw _=>by simp[convert,run_underlying (hs wv),run_underlying (hd wv),Conv.intToFloat]⟩
 ·rename_i x e e1 e2;rw[e1] at hs;rw[e2] at hd;have hs:=hs wv;have hd:=hd wv;split at h;rotate_left
  ·exact h.elim
  rename_i he;have hee:P.underlying e=some (.int .u8):=by have:=(hT e (by rw[he];simp)).d;rwa [he] at this
  obtain⟨A,n,c,xs,rfl,hK,hn,hm⟩:=sliceK_ok hch hC h hx;obtain⟨⟨bs,rfl⟩,hK⟩:=hK;refine⟨_,_,hK bs rfl,rfl,λw hw=>?_⟩;have hlen:bs.length=n:=by simpa using hn
  have hb:(Conv.bytesToString (.slice A n c)).run P w=.ok (.string ⟨bs.toArray⟩) w:=by
   cases A with
   |none=>
    have:bs=[]:=by
     cases bs with
     |nil=>rfl
     |cons b r=>obtain⟨ad,hA,_⟩:=hm w hw 0 (bv b) rfl;cases hA
    subst this;rfl
   |some ad=>
    have hl:(loadCells ad n).run P w=.ok ((bs.map λb=>(b.toNat:Int)).map (Value.int .u8)).toArray w:=by
     rw[←hlen,←List.length_map (f:=bv) (as:=bs)];refine(run_loadCells_list w ad (bs.map bv) λj v hv=>?_).trans (by simp[bv]);obtain⟨ad',hA,hs',hc⟩:=hm w hw j v hv;cases hA;rw[add_none hs'];exact hc
    rw[run_bytesToString w ad n c _ hl,List.foldl_map];simp only[Int.toNat_natCast,UInt8.ofNat_toNat];rw[push_all];simp
  simp[convert,run_underlying hs.1,run_underlying hd,run_underlying hee,hb]
 exact h.elim
theorem add_of_add(a:Addr)(i j:Nat):(a.add i).add j=a.add (i+j):=by
 unfold Addr.add;by_cases hi:i=0<;>by_cases hj:j=0<;>simp[hi,hj,Nat.add_assoc]
theorem run_size{t:Nat}(h:sizeOk P T t)(w:World):(sizeOf t).run P w=.ok (ty T t).sz w:=by
 obtain⟨_,j,hj,hsz,_⟩:=h;simp[sizeOf,typeInfo,hj,hsz]
theorem mapM_sizes(fs:List Field)(h:∀f∈fs,sizeOk P T f.type)(w:World):
  (List.mapM (λf=>Prod.mk f.offset <$> sizeOf f.type:Field→Sem (Nat×Nat)) fs).run P w=.ok (fs.map λf=>(f.offset,(ty T f.type).sz)) w:=by
 induction fs with
 |nil=>simp
 |cons f r ih=>
  have h1:=run_size (h f wv) w;have:=ih λg hg=>h g (by simp[hg]);simp only[List.mapM_cons,Sem.run_bind,Sem.run_map,h1,Result.andThen_ok,this,Sem.run_pure,List.map_cons]
theorem blk_lt'{w:World}{k:Nat}{lb:LB}(h:zD 0 S k lb w){b:Nat}(hb:blk S k lb=some b):b<w.heap.size:=by
 have lt:∀{o:Obj}{b:Nat},w.heap[b]?=some o→b<w.heap.size:=λh=>(Array.getElem?_eq_some_iff.1 h).1
 cases lb with
 |cells T cs=>cases hb;obtain⟨h1,vs,h2,_⟩:=h;exact lt h2
 |dfr=>cases hb;exact lt h.2
 |mp es c=>cases hb;exact lt h.2
 |sb E n xs=>cases hb;obtain⟨_,_,_,_,_,_,_,h6,_⟩:=h;exact lt h6
 |loop st pe=>cases hb;exact lt h.2
 |arr E sz n xs=>
  obtain⟨h1,h2,h3,h4,h5⟩:=h;refine(h1.lt b ?_).2;simp only[blk] at hb
  cases hA:(S k).A with
  |none=>rw[hA] at hb;cases hb
  |some ad=>rw[hA] at hb;simpa[Value.ownBlock] using hb
 |row E sz n cs=>
  obtain⟨xs,⟨h1,h2,h3,h4,h5⟩,_⟩:=h;refine(h1.lt b ?_).2;simp only[blk] at hb
  cases hA:(S k).A with
  |none=>rw[hA] at hb;cases hb
  |some ad=>rw[hA] at hb;simpa[Value.ownBlock] using hb
theorem cl_of{ags:As}{x:SV}{K:SV→Prop}(h:fSV x λr=>(match ags,closed r with|[],true=>K r|_,_=>False)):ags=[]∧closed x=true∧K x:=by
 rw[yn] at h
 cases ags with
 |nil=>
  cases hc:closed x with
  |true=>rw[hc] at h;exact⟨rfl,rfl,h⟩
  |false=>rw[hc] at h;exact h.elim
 |cons p r=>exact h.elim
set_option maxHeartbeats 1000000 in
theorem calm_ok{Δ:List CS}(hT:zG P T)(hΓ:SpecsOk P Γ)(hΔ:CalmsOk P Δ){wr:Bool}{w1:World}(hch:∀k lb,getL L k=some lb→zD 0 S k lb w1)(hC:∀w,C w→Cl w0 p S L w1 w)(hF:okF S fr a.tmps)
  {o:Oper}{K:SV→Prop}(h:calmK T Γ Δ wr p o.op fr L K):∃x sv,K sv∧okv S sv x∧Yl P C a.eval o x:=by
 obtain⟨dst,op,oty,pos,after,guard⟩:=o;cases op<;>simp only[calmK] at h<;>try exact h.elim
 case move x=>rw[yn] at h;exact⟨_,_,h,zu hF _,xj λw _=>rfl⟩
 case assign x=>rw[yn] at h;exact⟨_,_,h,zu hF _,xj λw _=>rfl⟩
 case pick c x y=>
  have hc:=zu hF c;unfold pickK at h
  have pick:∀b:Bool,a.eval c=.bool b→Yl P C a.eval { dst:=dst,op:=.pick c x y,type:=oty,pos:=pos,after:=after,guard:=guard } (if b then a.eval x else a.eval y):=λb hb=>
   xj λw _=>by simp[execOp,hb,asBool]
  split at h
  ·rename_i e;rw[e] at hc;rw[yn] at h;exact⟨_,_,h,zu hF x,pick true hc⟩
  ·rename_i e;rw[e] at hc;rw[yn] at h;exact⟨_,_,h,zu hF y,pick false hc⟩
  ·rename_i q d e;rw[e] at hc;by_cases hq:q
   ·have:=h.1 hq;rw[yn] at this;exact⟨_,_,this,zu hF x,pick true vq⟩
   have:=h.2 hq;rw[yn] at this;exact⟨_,_,this,zu hF y,pick false vq⟩
  exact h.elim
 case binOp op t x y _=>
  obtain⟨r,sv,h1,h2,h3⟩:=binK_ok (P:=P) hT h (zu hF x) (zu hF y) x y;exact⟨r,sv,h1,h2,xj λw _=>zR rfl (h3 w)⟩
 case unOp op t x=>
  have hx:=zu hF x;unfold unK at h;split at h
  ·obtain⟨b,sv,e,h1,h2⟩:=notK_ok h hx;exact⟨_,sv,h1,h2,xj λw _=>zR rfl (by rw[e];simp[Op.unary])⟩
  ·rename_i k n e;rw[e] at hx;obtain⟨sv,h1,h2⟩:=arK_ok (S:=S) h;exact⟨_,sv,h1,h2,xj λw _=>zR rfl (by rw[show a.eval x=_ from hx];simp[Op.unary,Op.intArith])⟩
  exact h.elim
 case convert src dst' x=>
  obtain⟨r,sv,h1,h2,h3⟩:=convK_ok hT hch hC h (zu hF x);exact⟨r,sv,h1,h2,xj λw hw=>zR rfl (h3 w hw)⟩
 case extract x i=>
  have hx:=zu hF x;unfold extrK at h;split at h
  ·rename_i cs e;rw[e] at hx;obtain⟨vs,hv,hok⟩:=hx;split at h
   ·rename_i y hy;rw[yn] at h;obtain⟨v,h1,h2⟩:=okL_nth hok hy;exact⟨v,_,h,h2,xj λw _=>zR rfl (by rw[hv];simp[Instr.extract,h1])⟩
   exact h.elim
  exact h.elim
 case field t x f=>
  have hx:=zu hF x;unfold fieldK at h;split at h
  ·rename_i off ft cs e1 e2;rw[e2] at hx;obtain⟨vs,hv,hok⟩:=hx;obtain⟨F,fd,hu,hf,h3,h4,_⟩:=fieldOf_ok hT e1;subst h3;subst h4
   have h0:(ty T fd.type).d≠.other:=by
    intro e
    revert h
    generalize ty T fd.type=ti at e;obtain⟨d,_,_,_,_⟩:=ti;cases e;exact λh=>h
   have h':(match Nat.ble (fd.offset+(ty T fd.type).sz) cs.length with|true=>fSV (zF (ty T fd.type).d (takeN (dropN cs fd.offset) (ty T fd.type).sz)) K|false=>False):=by
    revert h h0
    generalize ty T fd.type=ti;obtain⟨d,_,_,_,_⟩:=ti;cases d<;>intro h h0<;>first|exact h|exact absurd rfl h0
   split at h'
   ·rename_i hle;rw[yn] at h';obtain⟨r,h5,h6⟩:=run_part hT h0 hok (Nat.le_of_ble_eq_true hle);exact⟨r,_,h',h5,xj λw _=>zR rfl (by rw[hv];simp[Instr.field,run_underlying hu,hf,asAgg,h6])⟩
   exact h'.elim
  exact h.elim
 case fieldAddr t x f=>
  have hx:=zu hF x;unfold faddrK at h
  have go:∀(ad:Addr) off ft,a.eval x=.pointer (some ad)→xR T t f=some (off,ft)→Yl P C a.eval { dst:=dst,op:=.fieldAddr t x f,type:=oty,pos:=pos,after:=after,guard:=guard } (.pointer (some (ad.add off))):=by
   intro ad off ft hv e1;obtain⟨F,fd,hu,hf,h3,h4,hp,j,hj,hsz,_⟩:=fieldOf_ok hT e1;subst h3;subst h4;refine xj λw _=>zR rfl ?_;rw[hv];have:j.size≠0:=by omega
   simp[Instr.fieldAt,run_underlying hu,hf,Instr.sureAddr,fieldPlace,sizeOf,typeInfo,hj,this]
  split at h
  ·rename_i off ft k o e1 e2;rw[e2] at hx;exact⟨_,_,h,by simp[okv,Addr.add_lit],go _ off ft hx e1⟩
  ·rename_i off ft A j e1 e2;rw[e2] at hx;obtain⟨ad,hA,hv⟩:=hx;exact⟨_,_,h,⟨ad,hA,rfl⟩,by have:=go _ off ft hv e1;rwa [add_of_add] at this⟩
  ·rename_i off ft ad e1 e2;rw[e2] at hx;exact⟨_,_,h,⟨ad,rfl,rfl⟩,go _ off ft hx e1⟩
  exact h.elim
 case nilCheck x=>
  have hx:=zu hF x;unfold nilcK at h;split at h
  ·rename_i k o e;rw[e] at hx;exact⟨_,_,h,rfl,xj λw _=>by simp only[execOp];rw[show a.eval x=_ from hx];rfl⟩
  ·rename_i f cs e;rw[e] at hx;obtain⟨vs,hv,hok⟩:=hx;exact⟨_,_,h,⟨vs,rfl,hok⟩,xj λw _=>by simp only[execOp];rw[hv];rfl⟩
  ·rename_i k e;rw[e] at hx;exact⟨_,_,h,rfl,xj λw _=>by simp only[execOp];rw[show a.eval x=_ from hx];rfl⟩
  ·rename_i A e;rw[e] at hx;obtain⟨⟨ad,rfl⟩,h⟩:=h;exact⟨_,_,h ad rfl,rfl,xj λw _=>by simp only[execOp];rw[show a.eval x=_ from hx];rfl⟩
  exact h.elim
 case indexAddr t x i=>
  obtain⟨r,sv,h1,h2,h3⟩:=idxK_ok hT hch h (zu hF x) (zu hF i);exact⟨r,sv,h1,h2,xj λw _=>zR rfl (h3 w)⟩
 case index t x i=>
  obtain⟨r,sv,h1,h2,h3⟩:=strIdxK_ok hT h (zu hF x) (zu hF i);exact⟨r,sv,h1,h2,xj λw _=>zR rfl (h3 w)⟩
 case load t x=>
  obtain⟨r,sv,h1,h2,h3⟩:=loadK_ok hT hch hC h (zu hF x);exact⟨r,sv,h1,h2,xj λw hw=>zR rfl (h3 w hw)⟩
 case slice t x lo hi mx=>
  cases mx with
  |some y=>
   obtain⟨r,sv,h1,h2,h3⟩:=slc3K_ok hT hch h (zu hF x) (zu hF y) (optv_ok hF lo) (optv_ok hF hi);exact⟨r,sv,h1,h2,xj λw _=>zR rfl (h3 w)⟩
  |none=>
   obtain⟨r,sv,h1,h2,h3⟩:=slcK_ok hT hch h (zu hF x) (optv_ok hF lo) (optv_ok hF hi);exact⟨r,sv,h1,h2,xj λw _=>zR rfl (h3 w)⟩
 case build t ps=>
  unfold buildK at h;split at h
  ·rename_i fs hd;have ht:=hT t wD;obtain⟨F,hu,hm,hs⟩:yz P T t (.struct fs):=by rw[←hd];exact ht.d
   obtain⟨i,z,hi,_,_,hz,hzc⟩:=ht.i
   have hpl:∀i off t',nth fs i=some (off,t')→(λi=>(F.toList.map λf=>(f.offset,(ty T f.type).sz))[i]?) i=some (off,(ty T t').sz):=by
    intro i off t' h;rw[xp,←hm,List.getElem?_map] at h;simp only[List.getElem?_map]
    cases hf:F.toList[i]? with
    |none=>rw[hf] at h;cases h
    |some fd=>rw[hf] at h;simp only[Option.map_some,Option.some.injEq,Prod.mk.injEq] at h ⊢;rw[h.1,h.2];exact⟨rfl,rfl⟩
   obtain⟨l,us,hK,hok,hf⟩:=partsK_ok (ρ:=a.eval) hF (λx=>zu hF x) _ hpl ps.toList _ (ty T t).zero _ (yv _) h;refine⟨_,_,hK,⟨us,rfl,hok⟩,xj λw _=>zR rfl ?_⟩;have hsz:∀f∈F.toList,sizeOk P T f.type:=λf hf=>hs (f.offset,f.type) (by rw[←hm];exact List.mem_map.2 ⟨f,hf,rfl⟩);have hmm:=mapM_sizes (P:=P) F.toList hsz w;have hz':z.cells=(ty T t).zero.toArray:=by rw[←hzc]
   have hf':Instr.fill (λx=>Option.map (λf=>(f.offset,(ty T f.type).sz)) F[x]?) z.cells (ps.toList.map λx=>(x.1,a.eval x.2))=some us.toArray:=by
    rw[hz',←hf];congr 1;funext i;simp
   simp only[Instr.build,Sem.run_bind,zeroValue,typeInfo,run_program,Result.andThen_ok,hi,Sem.run_pure,hz,run_underlying hu,Array.mapM_eq_mapM_toList,bind_pure_comp,Sem.run_map,hmm];simp[hf']
  exact h.elim
 case makeFunc fn first cs=>
  unfold mkfK at h;split at h
  ·rename_i f e1;rw[xl] at h;have hcs:=opvs_ok hF cs.toList
   have hfi:first=#[]:=by
    obtain⟨l⟩:=first
    cases l with
    |nil=>rfl
    |cons _ _=>cases e1
   subst hfi;exact⟨_,_,h,⟨_,rfl,hcs⟩,xj λw _=>zR rfl (by obtain⟨l⟩:=cs;simp[Instr.makeFunc])⟩
  exact h.elim
 case call c=>
  obtain⟨callee,xs,ts⟩:=c;have hxs:=opvs_ok hF xs.toList;have hmap:xs.map a.eval=(xs.toList.map a.eval).toArray:=by obtain⟨l⟩:=xs;simp
  cases callee with
  |invoke r m=>simp[callK] at h
  |builtin b=>
   simp only[callK] at h;unfold builtK at h
   have hex:∀{r:Value}{w:World}{f:Array TypeId→TypeId→Array Value→Sem Value},(∀ct,builtin b ts oty ct (xs.map a.eval)=(do pure (.value (←f ts oty (xs.map a.eval))):Sem Next))→(f ts oty (xs.map a.eval)).run P w=.ok r w →
     (execOp a.eval { dst:=dst,op:=Op.call { callee:=Callee.builtin b,args:=xs,argTypes:=ts },type:=oty,pos:=pos,after:=after,guard:=guard }).run P w=.ok (.value r) w:=by
    intro r w f hb hr;simp[execOp,resolve,invoke,hb,hr]
   split at h
   ·rename_i x t e1 e2;rw[e1] at hxs
    obtain⟨v,hv⟩:∃v,xs.toList.map a.eval=[v]:=by
     cases hm:xs.toList.map a.eval with
     |nil=>rw[hm] at hxs;cases hxs
     |cons v r=>cases r with
      |nil=>exact⟨v,rfl⟩
      |cons _ _=>rw[hm] at hxs;exact hxs.2.elim
    rw[hv] at hxs;obtain⟨r,sv,h1,h2,h3⟩:=lenK_ok (ty':=oty) hT hch h hxs.1;have ht:ts=#[t]:=by obtain⟨l⟩:=ts;simp at e2;simp[e2]
    exact⟨r,sv,h1,h2,xj λw _=>hex (f:=Builtin.len_) (λct=>rfl) (by rw[hmap,hv,ht];exact h3 w)⟩
   ·rename_i x y e1;rw[e1] at hxs
    obtain⟨v,u,hv⟩:∃v u,xs.toList.map a.eval=[v,u]:=by
     cases hm:xs.toList.map a.eval with
     |nil=>rw[hm] at hxs;cases hxs
     |cons v r=>cases r with
      |nil=>rw[hm] at hxs;exact hxs.2.elim
      |cons u s=>cases s with
       |nil=>exact⟨v,u,rfl⟩
       |cons _ _=>rw[hm] at hxs;exact hxs.2.2.elim
    rw[hv] at hxs;obtain⟨r,sv,h1,h2,h3⟩:=minK_ok (P:=P) (ts:=ts) (t:=oty) h hxs.1 hxs.2.1;exact⟨r,sv,h1,h2,xj λw _=>hex (f:=Builtin.min_) (λct=>rfl) (by rw[hmap,hv];exact h3 w)⟩
   ·rename_i x y e1;rw[e1] at hxs
    obtain⟨v,u,hv⟩:∃v u,xs.toList.map a.eval=[v,u]:=by
     cases hm:xs.toList.map a.eval with
     |nil=>rw[hm] at hxs;cases hxs
     |cons v r=>cases r with
      |nil=>rw[hm] at hxs;exact hxs.2.elim
      |cons u s=>cases s with
       |nil=>exact⟨v,u,rfl⟩
       |cons _ _=>rw[hm] at hxs;exact hxs.2.2.elim
    rw[hv] at hxs;obtain⟨r,sv,h1,h2,h3⟩:=minK_ok (P:=P) (ts:=ts) (t:=oty) h hxs.1 hxs.2.1;exact⟨r,sv,h1,h2,xj λw _=>hex (f:=Builtin.max_) (λct=>rfl) (by rw[hmap,hv];exact h3 w)⟩
   exact h.elim
  |value fo=>
   cases fo with
   |tmp t=>simp[callK] at h
   |const v=>simp[callK] at h
   |global g=>simp[callK] at h
   |func f=>
    simp only[callK] at h;split at h
    ·rename_i s hs;obtain⟨hsf,hent,hok⟩:=hΓ f s hs;obtain⟨ds,⟨hdom,hK⟩,hd⟩:=datK_ok hch hC s.ks _ _ _ h hxs;rw[yn] at hK;split at hK;rotate_left
     ·exact hK.elim
     rename_i hcl;refine⟨_,_,hK,w7 _ hcl,λw hw=>?_⟩;subst hsf;have hcall:=hok w _ ds (hd w hw) hdom.out
     have he:(execOp a.eval { dst:=dst,op:=Op.call { callee:=Callee.value (Operand.func s.f),args:=xs,argTypes:=ts },type:=oty,pos:=pos,after:=after,guard:=guard }).run P w=.ok (.enter s.f (xs.map a.eval)) w:=by
      simp[execOp,resolve,Act.eval,Deferred.ofValue,invoke,hent]
     rw[he];refine⟨rfl,?_⟩;rw[hmap];exact hcall.mono λe w' ⟨h1,h2⟩=>⟨h1,h2⟩
    split at h;rotate_left
    ·exact h.elim
    rename_i s hs;split at h;rotate_left
    ·exact h.elim
    rename_i hcalm;obtain⟨hsf,hsc⟩:=hΔ f s hs;obtain⟨hent,hcal⟩:=hsc hcalm;obtain⟨i,⟨hok⟩,⟨hrd⟩,h⟩:=h;by_cases hex:∃w,C w;rotate_left
    ·obtain⟨as1,ro1,e1,o1,_,h,r1⟩:=mA_ok (S:=S) (w:=w1) (AsOk.nil 0) h;obtain⟨_,hcl,h⟩:=cl_of h;exact⟨_,_,h,w7 _ hcl,λw hw=>(hex ⟨w,hw⟩).elim⟩
    have hmA:=λw (hw:C w)=>mA_ok (S:=S) (w:=w) (AsOk.nil 0) h;obtain⟨w2,hw2⟩:=hex;obtain⟨as1,ro1,e1,o1,_,h',_⟩:=hmA w2 hw2;obtain⟨_,hcl,h'⟩:=cl_of h';refine⟨_,_,h',w7 _ hcl,λw hw=>?_⟩;obtain⟨as1,ro1,e1,o1,_,h2,r1⟩:=hmA w hw;obtain⟨rfl,_,_⟩:=cl_of h2;subst hsf;have hCw:=hC w hw;have hch':∀k lb,getL L k=some lb→zD 0 S k lb w:=λk lb hk=>zI (hch k lb hk) (hCw.ch k lb hk);have hro:∀ro,roFree [] ro=true:=λro=>by induction ro with|nil=>rfl|cons k r ih=>simpa[roFree,asHas] using ih
    have hlt:∀b o v,p b o=some v→b<w.heap.size:=λb o v hv=>World.block_lt_of_cell? w _ (hCw.on b o v hv);have hca:=r1 [] _ (.refl _) o1 (hro _) hxs hCw.on hch' (λb=>b<w.heap.size) hlt (λk lb b hk _ hb=>(blk_lt' (hch' k lb hk) hb));have hcall:=hcal w p (sub [] S) i _ hok hrd hCw.on hca
    have he:(execOp a.eval { dst:=dst,op:=Op.call { callee:=Callee.value (Operand.func s.f),args:=xs,argTypes:=ts },type:=oty,pos:=pos,after:=after,guard:=guard }).run P w=.ok (.enter s.f (xs.map a.eval)) w:=by
     simp[execOp,resolve,Act.eval,Deferred.ofValue,invoke,hent]
    rw[he];refine⟨rfl,?_⟩;rw[hmap];exact hcall.mono λe w' ⟨h1,h2⟩=>⟨h1,h2⟩
end
end Go.Eng
section
namespace Go.Eng
open Go Go.RowKit
noncomputable section
abbrev Kt:=Nat→PH→Fr→LL→Prop
abbrev Ke:=Ex→Kt
structure Inv where
 ι:Type
 keep:List Nat
 fr:Nat→ι→Fr
 L:Nat→ι→LL
 keys:Nat
 ok:ι→Prop
 μ:ι→Nat
 nils:List (Nat×Nat×Nat×Nat):=[]
 gr:Bool:=false
 frz:List (Nat×Nat):=[]
 rd:PH→ι→Prop:=λ_ _=>True
structure Cut where
 ι:Type
 base:Nat
 keep:List Nat
 nils:List (Nat×Nat×Nat×Nat):=[]
 gr:Bool:=false
 frz:List (Nat×Nat):=[]
 fr:ι→Fr
 L:ι→LL
 rest:LL
 keys:Nat
 ok:PH→ι→Prop
structure Env where
 T:Tab
 Γ:List Spec
 Δ:List CS:=[]
 FT:Tr Func
 inv:Nat→Nat→Nat→Option Inv
 wr:Nat→Bool
 cut:Nat→Nat→Bool:=λ_ _=>false
def mFr(b:Nat)(tm:Fr)(ac:Fr):As→(As→Prop)→Prop:=List.rec (motive:=λ_=>As→(As→Prop)→Prop) (λags K=>K ags) (λp _ ih ags K=>match p with|(u,x)=>mSV b x (get ac u) ags λags=>ih ags K) tm
theorem mFr_c{b t:Nat}{x:SV}{r ac:Fr}{ags:As}{K:As→Prop}:mFr b ((t,x)::r) ac ags K=mSV b x (get ac t) ags λags=>mFr b r ac ags K:=rfl
def mLB(b:Nat)(tm ac:LB)(ags:As)(K:As→Prop):Prop:=
 match tm,ac with
 |.cells T l,.cells T' l'=>(match Nat.beq T T' with|true=>mL b l l' ags K|false=>False)
 |.arr E sz n xs,.arr E' sz' n' xs'=>(match Nat.beq E E' with|true=>(match Nat.beq sz sz' with|true=>Ob (n=n'∧xs=xs')∧K ags|false=>False)|false=>False)
 |.dfr,.dfr=>K ags
 |.loop .ready none,.loop .ready none=>K ags
 |.loop .busy none,.loop .busy none=>K ags
 |_,_=>False
def mLL(b:Nat)(tm:LL)(ac:LL):As→(As→Prop)→Prop:=List.rec (motive:=λ_=>As→(As→Prop)→Prop) (λags K=>K ags)
 (fun p _ ih ags K=>match p with | (u,x)=>(match asGet ags u with
  |some j=>(match getL ac j with|some y=>mLB b x y ags λags=>ih ags K|none=>False)
  | none=>(match Nat.blt u b,asHas ags u with
   |true,false=>(match getL ac u with|some y=>mLB b x y ((u,u)::ags) λags=>ih ags K|none=>False)
   | _,_=>False))) tm
theorem mLL_c{b k:Nat}{x:LB}{r ac:LL}{ags:As}{K:As→Prop}:mLL b ((k,x)::r) ac ags K=(match asGet ags k with
  |some j=>(match getL ac j with|some y=>mLB b x y ags λags=>mLL b r ac ags K|none=>False)
  | none=>(match Nat.blt k b,asHas ags k with
   |true,false=>(match getL ac k with|some y=>mLB b x y ((k,k)::ags) λags=>mLL b r ac ags K|none=>False)
   | _,_=>False)):=rfl
def restL(ags:As)(L:LL):LL:=List.rec (motive:=λ_=>LL) [] (λp _ ih=>match p with|(u,x)=>match asHas ags u with|true=>ih|false=>(u,x)::ih) L
theorem restL_c{ags:As}{k:Nat}{x:LB}{r:LL}:restL ags ((k,x)::r)=match asHas ags k with|true=>restL ags r|false=>(k,x)::restL ags r:=rfl
def keepF(ks:List Nat)(fr:Fr):Fr:=List.rec (motive:=λ_=>Fr) [] (λt _ ih=>(t,get fr t)::ih) ks
theorem keepF_c{t:Nat}{r:List Nat}{fr:Fr}:keepF (t::r) fr=(t,get fr t)::keepF r fr:=rfl
def appF(a b:Fr):Fr:=List.rec (motive:=λ_=>Fr) b (λx _ ih=>x::ih) a
theorem appF_c{x:Nat×SV}{r b:Fr}:appF (x::r) b=x::appF r b:=rfl
def appL(a b:LL):LL:=List.rec (motive:=λ_=>LL) b (λx _ ih=>x::ih) a
theorem appL_n{b:LL}:appL [] b=b:=rfl
theorem appL_c{x:Nat×LB}{r b:LL}:appL (x::r) b=x::appL r b:=rfl
def sameL(b:Nat)(tm:LL)(ac:LL)(ags:As)(K:Prop):Prop:=List.rec (motive:=λ_=>Prop) K
 (fun p _ ih=>match p with | (u,x)=>(match asHas ags u with
  |true=>False
  | false=>(match getL ac u with | some y=>mLB b x y [] fun _=>ih | none=>False))) tm
theorem sameL_c{b k:Nat}{x:LB}{r ac:LL}{ags:As}{K:Prop}:sameL b ((k,x)::r) ac ags K=(match asHas ags k with
  |true=>False
  | false=>(match getL ac k with | some y=>mLB b x y [] fun _=>sameL b r ac ags K | none=>False)):=rfl
mutual
def ltK(b:Nat):SV→Bool
 |.lp k _=>Nat.blt k b
 |.own k=>Nat.blt k b
 |.agg l=>ltKL b l
 |.tup l=>ltKL b l
 |.fn _ l=>ltKL b l
 |.yl k=>Nat.blt k b
 |.vw k _ _ _ _=>Nat.blt k b
 |.lq k=>Nat.blt k b
 |.ls k _=>Nat.blt k b
 |.mr k=>Nat.blt k b
 |_=>true
def ltKL(b:Nat):List SV→Bool
 |[]=>true
 |x::r=>match ltK b x with|true=>ltKL b r|false=>false
end
def ltF(b:Nat)(l:Fr):Bool:=List.rec (motive:=λ_=>Bool) true (λp _ ih=>match p with|(u,x)=>match ltK b x with|true=>ih|false=>false) l
theorem ltF_c{b u:Nat}{x:SV}{r:Fr}:ltF b ((u,x)::r)=match ltK b x with|true=>ltF b r|false=>false:=rfl
def ltLL(b:Nat)(l:LL):Bool:=List.rec (motive:=fun _=>Bool) true (fun p _ ih=>match p with | (u,x)=>match Nat.blt u b with
  |true=>(match x with|.cells _ l=>(match ltKL b l with|true=>ih|false=>false)|.row _ _ _ l=>(match ltKL b l with|true=>ih|false=>false)|_=>ih)
  | false=>false) l
theorem ltLL_c{b k:Nat}{x:LB}{r:LL}:ltLL b ((k,x)::r)=match Nat.blt k b with
  |true=>(match x with|.cells _ l=>(match ltKL b l with|true=>ltLL b r|false=>false)|.row _ _ _ l=>(match ltKL b l with|true=>ltLL b r|false=>false)|_=>ltLL b r)
  |false=>false:=rfl
def hidFree(ags:As)(L:LL):Bool:=
 match L with
 |[]=>true
 |(k,.dfr)::r=>(match asHas ags k with|true=>false|false=>hidFree ags r)
 |_::r=>hidFree ags r
def fN(n:Nat)(K:Nat→Prop):Prop:=
 match n with
 |0=>K 0
 |m+1=>K (m+1)
theorem fN_eq(n:Nat)(K:Nat→Prop):fN n K=K n:=by cases n<;>rfl
def ren(ags:As)(nk k:Nat):Nat:=
 match asGet ags k with
 |some j=>j
 |none=>nk+k
mutual
def yy(σ:Nat→Nat):SV→SV
 |.lp k o=>.lp (σ k) o
 |.own k=>.own (σ k)
 |.yl k=>.yl (σ k)
 |.vw k lo sz n ex=>.vw (σ k) lo sz n ex
 |.lq k=>.lq (σ k)
 |.ls k n=>.ls (σ k) n
 |.mr k=>.mr (σ k)
 |.agg l=>.agg (renL σ l)
 |.tup l=>.tup (renL σ l)
 |.fn f l=>.fn f (renL σ l)
 |x=>x
def renL(σ:Nat→Nat):List SV→List SV
 |[]=>[]
 |x::r=>yy σ x::renL σ r
end
def renLB(σ:Nat→Nat):LB→LB
 |.cells T l=>.cells T (renL σ l)
 |.row E sz n l=>.row E sz n (renL σ l)
 |x=>x
def renLL(σ:Nat→Nat):LL→LL
 |[]=>[]
 |(k,x)::r=>(σ k,renLB σ x)::renLL σ r
def rK(ags:As)(nk k:Nat)(K:Nat→Prop):Prop:=
 match asGet ags k with
 |some j=>K j
 |none=>fN (nk+k) K
mutual
def rSV(ags:As)(nk:Nat)(x:SV)(K:SV→Prop):Prop:=
 match x with
 |.lp k o=>rK ags nk k λj=>K (.lp j o)
 |.own k=>rK ags nk k λj=>K (.own j)
 |.yl k=>rK ags nk k λj=>K (.yl j)
 |.vw k lo sz n ex=>rK ags nk k λj=>K (.vw j lo sz n ex)
 |.lq k=>rK ags nk k λj=>K (.lq j)
 |.ls k n=>rK ags nk k λj=>K (.ls j n)
 |.mr k=>rK ags nk k λj=>K (.mr j)
 |.agg l=>rSVL ags nk l λl=>K (.agg l)
 |.tup l=>rSVL ags nk l λl=>K (.tup l)
 |.fn f l=>rSVL ags nk l λl=>K (.fn f l)
 |x=>fSV x K
def rSVL(ags:As)(nk:Nat)(l:List SV)(K:List SV→Prop):Prop:=
 match l with
 |[]=>K []
 |x::r=>rSV ags nk x λy=>rSVL ags nk r λs=>K (y::s)
end
def rLB(ags:As)(nk:Nat)(x:LB)(K:LB→Prop):Prop:=
 match x with
 |.cells T l=>rSVL ags nk l λl=>K (.cells T l)
 |.row E sz n l=>rSVL ags nk l λl=>K (.row E sz n l)
 |x=>fLB x K
def rLL(ags:As)(nk:Nat)(l:LL)(rest:LL)(K:LL→Prop):Prop:=
 match l with
 |[]=>K rest
 |(k,x)::r=>rK ags nk k λj=>rLB ags nk x λy=>rLL ags nk r rest λs=>K ((j,y)::s)
def asLt(m nk:Nat):As→Bool
 |[]=>true
 |(k,j)::r=>match Nat.blt k m,Nat.blt j nk with|true,true=>asLt m nk r|_,_=>false
def callC(s:CS)(n0 nk:Nat)(q:PH)(fr:Fr)(L:LL)(args:List SV)(K:SV→Nat→PH→LL→Prop):Prop:=
 match Nat.ble n0 nk,ltF nk fr,ltLL nk L with
 |true,true,true=>∃i,Ob (s.ok i)∧Ob (RdsOk q (s.rds i))∧mA q L (s.args i) args [] [] λags ro=>mLL 0 (s.L i) L ags λags=>
  match asLt s.keys nk ags,roFree ags ro,hidFree ags L with
  | true,true,true=>(match s.gr with
   |false=>rLL ags nk (s.L' i) (restL ags L) λL'=>rSV ags nk (s.res i) λr=>fN (nk+s.more) λnk'=>K r nk' q L'
   | true=>∀q' g,q.le q'→s.okG i g→RdsOk q' (s.rdsG i g)→rLL ags nk (s.LG i g) (restL ags L) fun L'=>rSV ags nk (s.resG i g) fun r=>fN (nk+s.more) fun nk'=>K r nk' q' L')
  |_,_,_=>False
 |_,_,_=>False
def putK(N:Nat)(dst:Option Nat)(x:SV)(fr:Fr)(K:Fr→Prop):Prop:=
 match dst with
 |none=>K fr
 |some d=>match Nat.blt d N with|true=>K ((d,x)::fr)|false=>False
def newK(n0 key:Nat)(fr:Fr)(L:LL)(lb:LB)(K:LL→Prop):Prop:=
 match Nat.ble n0 key with
 | true=>(match hasF key fr with
  |true=>False
  | false=>(match hasLL key L with | true=>False | false=>K ((key,lb)::L)))
 |false=>False
def oneL:List SV→Bool
 |[]=>true
 |.agg _::_=>false
 |.tup _::_=>false
 |.bad::_=>false
 |.v (.agg _)::_=>false
 |.v (.tuple _)::_=>false
 |_::r=>oneL r
def oneVL:List Value→Bool
 |[]=>true
 |.agg _::_=>false
 |.tuple _::_=>false
 |_::r=>oneVL r
def boxCells(T:Tab)(t:Nat)(x:SV)(K:List SV→Prop):Prop:=
 match x with
 |.agg l=>(match Nat.beq l.length (ty T t).sz,oneL l with|true,true=>K l|_,_=>False)
 |.tup _=>False
 |.bad=>False
 |.v (.agg _)=>False
 |.v (.tuple _)=>False
 |y=>(match Nat.beq (ty T t).sz 1 with|true=>K [y]|false=>False)
def elemPl(sz e:Nat):Nat→Nat→List (Nat×Nat)
 |0,_=>[]
 |n+1,i=>(i*sz,e)::elemPl sz e n (i+1)
def repl(n:Nat)(l:List SV):List SV:=
 match n with
 |0=>[]
 |n+1=>l++repl n l
def isOther(T:Tab)(t:Nat):Bool:=match (ty T t).d with|.other=>true|_=>false
def storeK(T:Tab)(t:Nat)(p x:SV)(L:LL)(K:LL→Prop):Prop:=
 match isOther T t with
 |true=>False
 |false=>match p with
 | .lp k o=>(match getL L k with
  |some (.cells TT cs)=>boxCells T t x λl=>(match Nat.ble (o+l.length) cs.length with|true=>fLL (setL L k (.cells TT (takeN cs o++l++dropN cs (o+l.length)))) K|false=>False)
  | some (.arr E sz n xs)=>(match Nat.beq (ty T t).sz 1,toV x with
   | true,some v=>(match v with
    |.agg _=>False
    |.tuple _=>False
    | v=>Ob (o<xs.length)∧∀N zs,N=n→zs=xs.set o v→fLL (setL L k (.arr E sz N zs)) K)
   | _,_=>False)
  | _=>False)
 |_=>False
def appK(T:Tab)(q:PH)(t:Nat)(n0 key:Nat)(s x:SV)(fr:Fr)(L:LL)(K:SV→LL→Prop):Prop:=
 match (ty T t).d with
 |.slice e=>
  (match ty T e with
  |⟨.other,_,_,_,_,_⟩=>False
  |⟨_,sz,byt,_,_,_⟩=>
   let go (m:Nat) (ys:List Value):Prop:=
    (match s with
    |.v (.slice none 0 0)=>Ob (m≤9223372036854775807∧m*byt≤140737488355328∧∀y∈ys,y.oneCell'=true)∧∀N zs,N=m→zs=ys→newK n0 key fr L (.arr e sz N zs) λL=>K (.own key) L
    | .own k=>(match getL L k with
     | some (.arr e' sz' n xs)=>(match Nat.beq e' e,Nat.beq sz' sz with
      |true,true=>Ob (n+m≤9223372036854775807∧(n+m)*byt≤140737488355328∧∀y∈ys,y.oneCell'=true)∧∀N zs,N=n+m→zs=xs++ys→newK n0 key fr L (.arr e sz N zs) λL=>fLL (remL L k) λL=>K (.own key) L
      | _,_=>False)
     | _=>False)
    | _=>False)
   match x with
   |.v (.slice A m _)=>Ob (∃ys,ys.length=m*sz∧Reads q A ys)∧∀ys,ys.length=m*sz→Reads q A ys→go m ys
   |.own j=>(match getL L j with|some (.arr _ sz' m ys)=>(match Nat.beq sz' sz with|true=>go m ys|false=>False)|_=>False)
   |.vw j lo sz'' m _=>(match getL L j with|some (.arr _ sz' n0 ys)=>(match Nat.beq sz'' sz,Nat.beq sz' sz with|true,true=>Ob (lo+m≤n0)∧go m (vwC ys lo sz m)|_,_=>False)|_=>False)
   | _=>False)
 |_=>False
def isByte(i:TI):Bool:=
 match i.d with
 | .int .u8=>(match i.zero with
  |[.int .u8 (.ofNat 0)]=>(match Nat.beq i.sz 1,Nat.beq i.byt 1 with|true,true=>true|_,_=>false)
  | _=>false)
 |_=>false
theorem isByte_ok{i:TI}(h:isByte i=true):i.d=.int .u8∧i.zero=[.int .u8 0]∧i.sz=1∧i.byt=1:=by
 unfold isByte at h;split at h
 ·rename_i h1;split at h
  ·rename_i h2;split at h
   ·rename_i h3 h4;exact⟨h1,h2,Nat.eq_of_beq_eq_true h3,Nat.eq_of_beq_eq_true h4⟩
   cases h
  cases h
 cases h
def appS(T:Tab)(t u:Nat)(n0 key:Nat)(s x:SV)(fr:Fr)(L:LL)(K:SV→LL→Prop):Prop:=
 match (ty T t).d,(ty T u).d,x with
 | .slice e,.str,.v (.string c)=>(match isByte (ty T e) with
  | true=>(match s with
   |.v (.slice none 0 0)=>Ob (c.size≤140737488355328)∧∀N zs,N=c.size→zs=c.data.toList.map bv→newK n0 key fr L (.arr e 1 N zs) λL=>K (.own key) L
   | .own k=>(match getL L k with
    | some (.arr e' sz' n xs)=>(match Nat.beq e' e,Nat.beq sz' 1 with
     |true,true=>Ob (n+c.size≤140737488355328)∧∀N zs,N=n+c.size→zs=xs++c.data.toList.map bv→newK n0 key fr L (.arr e 1 N zs) λL=>fLL (remL L k) λL=>K (.own key) L
     | _,_=>False)
    | _=>False)
   | _=>False)
  | false=>False)
 |_,_,_=>False
def cpTo(d:SV)(L:LL)(K:SV→LL→Prop)(m:Nat)(ys:List Value):Prop:=
 match d with
 | .own k=>(match getL L k with
  | some (.arr e' sz n xs)=>(match Nat.beq sz 1 with
   |true=>Ob (∀y∈ys,y.oneCell'=true)∧∀r N zs,r=min m n→N=n→zs=ys.take r++xs.drop r→fLL (setL L k (.arr e' sz N zs)) λL=>K (.v (.int .i64 r)) L
   | false=>False)
  | _=>False)
 | .vw k lo sz' n _=>(match getL L k with
  | some (.arr e' sz n0 xs)=>(match Nat.beq sz 1,Nat.beq sz' 1 with
   |true,true=>Ob (lo+n≤n0∧∀y∈ys,y.oneCell'=true)∧∀r N zs,r=min m n→N=n0→zs=xs.take lo++ys.take r++xs.drop (lo+r)→fLL (setL L k (.arr e' sz N zs)) λL=>K (.v (.int .i64 r)) L
   | _,_=>False)
  | _=>False)
 |_=>False
def copyK(T:Tab)(q:PH)(t:Nat)(d s:SV)(L:LL)(K:SV→LL→Prop):Prop:=
 match (ty T t).d with
 | .slice e=>(match Nat.beq (ty T e).sz 1 with
  |false=>False
  | true=>(match s with
   |.v (.slice A m _)=>Ob (∃ys,ys.length=m*1∧Reads q A ys)∧∀ys,ys.length=m*1→Reads q A ys→cpTo d L K m ys
   |.own j=>(match getL L j with|some (.arr _ sz' m ys)=>(match Nat.beq sz' 1 with|true=>cpTo d L K m ys|false=>False)|_=>False)
   |.vw j lo sz m _=>(match getL L j with|some (.arr _ sz' n ys)=>(match Nat.beq sz 1,Nat.beq sz' 1 with|true,true=>Ob (lo+m≤n)∧cpTo d L K m (vwC ys lo 1 m)|_,_=>False)|_=>False)
   | _=>False))
 |_=>False
def makeK(T:Tab)(t:Nat)(n0 key:Nat)(l c:SV)(fr:Fr)(L:LL)(K:SV→LL→Prop):Prop:=
 match (ty T t).d,l,c with
 |.slice e,.v (.int .i64 n),.v (.int .i64 m)=>
  (match ty T e with
  |⟨.other,_,_,_,_,_⟩=>False
  | ⟨_,sz,byt,zero,_,_⟩=>(match Nat.beq sz 1,zero,oneVL zero with
   |true,[z],true=>Ob (0≤n∧n≤m∧m≤9223372036854775807∧m*byt≤140737488355328)∧∀N zs,N=n.toNat→zs=List.replicate n.toNat z→newK n0 key fr L (.arr e sz N zs) λL=>K (.own key) L
   | _,_,_=>Ob (n=0∧0≤m∧m≤9223372036854775807∧m * byt≤140737488355328)∧newK n0 key fr L (.arr e sz 0 []) fun L=>K (.own key) L))
 |_,_,_=>False
def sbK(q:PH)(s:ByteArray)(K:PH→SV→Prop):Prop:=
 Ob (s.size≤140737488355328)∧∀q' A c,q.le q'→s.size≤c→Reads q' A (s.data.toList.map bv)→∀N,N=s.size→K q' (.v (.slice A N c))
abbrev Hd:=List SV→Nat→PH→LL→(SV→Nat→PH→LL→Prop)→Prop
abbrev Ye:=List (Nat×Hd)
def yGet(Y:Ye)(k:Nat):Option Hd:=
 match Y with
 |[]=>none
 |(j,h)::r=>match Nat.beq j k with|true=>some h|false=>yGet r k
abbrev Inl:=Ye→Nat→List SV→Nat→PH→LL→(SV→Nat→PH→LL→Prop)→Prop
def dLt(b:Nat)(L:LL):Bool:=
 match L with
 |[]=>true
 |(k,.dfr)::r=>(match Nat.blt k b with|true=>dLt b r|false=>false)
 |_::r=>dLt b r
def setF(fr:Fr)(t:Nat)(x:SV):Fr:=(t,x)::fr
def nilAt(fr:Fr)(t:Nat):SV:=
 match Nat.ble 100000 t with
 |true=>.lp (t-100000) 0
 |false=>get fr t
def nilF(ts:List (Nat×Nat×Nat×Nat))(n0 nk:Nat)(fr:Fr)(L:LL)(K:Nat→Fr→LL→Prop):Prop:=
 match ts with
 |[]=>K nk fr L
 |(t,o,e,sz)::r=>match sz with
  |0=>False
  |sz+1=>match nilAt fr t with
   |.v (.slice none 0 0)=>newK n0 nk fr L (.arr e (sz+1) 0 []) λL=>fN (nk+1) λnk1=>nilF r n0 nk1 (setF fr t (.own nk)) L K
   | .lp k _=>(match getL L k with
    | some (.cells T cs)=>(match nth cs o with
     |some (.v (.slice none 0 0))=>newK n0 nk fr L (.arr e (sz+1) 0 []) λL=>fLL (setL L k (.cells T (setN cs o (.own nk)))) λL=>fN (nk+1) λnk1=>nilF r n0 nk1 fr L K
     | _=>nilF r n0 nk fr L K)
    | _=>nilF r n0 nk fr L K)
   |_=>nilF r n0 nk fr L K
def catQ{α:Type}(a b:List α):List α:=List.rec (motive:=λ_=>List α) b (λx _ ih=>x::ih) a
def nlC(T:Tab)(k:Nat)(cs:List SV)(fl:List Ty):Nat→List (Nat×Nat×Nat×Nat):=
 List.rec (motive:=fun _=>Nat→List (Nat×Nat×Nat×Nat)) (fun _=>[]) (fun d _ ih o=>match d with
  | .slice e=>(match nth cs o with
   |some (.v (.slice none 0 0))=>(100000+k,o,e,(ty T e).sz)::ih (o+1)
   | _=>ih (o+1))
  | _=>ih (o+1)) fl
def nlD(T:Tab)(L:LL)(xs:List SV):List (Nat×Nat×Nat×Nat):=
 List.rec (motive:=fun _=>List (Nat×Nat×Nat×Nat)) [] (fun x _ ih=>match x with
  | .lp k 0=>(match getL L k with
   | some (.cells t cs)=>(match (ty T t).d with
    |.struct _=>catQ (nlC T k cs (ty T t).flat 0) ih
    | _=>ih)
   | _=>ih)
  | _=>ih) xs
def nlOf(T:Tab)(L:LL)(xs:List SV):List (Nat×Nat×Nat×Nat):=
 List.rec (motive:=fun _=>List (Nat×Nat×Nat×Nat)) [] (fun x _ ih=>match x with
  | .lp k 0=>(match getL L k with
   | some (.cells t cs)=>(match (ty T t).d with
    |.struct _=>catQ (nlC T k cs (ty T t).flat 0) (catQ (nlD T L cs) ih)
    | _=>ih)
   | _=>ih)
  | _=>ih) xs
def mapR{α β:Type}(f:α→β)(l:List α):List β:=List.rec (motive:=λ_=>List β) [] (λx _ ih=>f x::ih) l
def fz0(k:Nat)(v:Value)(x:SV):SV:=match x with|.own j=>(match Nat.beq j k with|true=>.v v|false=>.own j)|x=>x
def fz1(k:Nat)(v:Value)(x:SV):SV:=match x with|.agg cs=>.agg (mapR (fz0 k v) cs)|x=>fz0 k v x
def fz2(k:Nat)(v:Value)(x:SV):SV:=match x with|.tup cs=>.tup (mapR (fz1 k v) cs)|.fn f cs=>.fn f (mapR (fz1 k v) cs)|x=>fz1 k v x
def fzF(k:Nat)(v:Value)(fr:Fr):Fr:=mapR (λp=>match p with|(t,x)=>(t,fz2 k v x)) fr
def fzLB(k:Nat)(v:Value)(x:LB):LB:=match x with|.cells T cs=>.cells T (mapR (fz2 k v) cs)|.row E sz n cs=>.row E sz n (mapR (fz2 k v) cs)|x=>x
def fzLL(k:Nat)(v:Value)(L:LL):LL:=mapR (λp=>match p with|(j,x)=>(j,fzLB k v x)) L
def ownsV(x:SV):List Nat:=
 match x with
 |.own j=>[j]
 |.agg cs=>List.rec (motive:=λ_=>List Nat) [] (λy _ ih=>match y with|.own j=>j::ih|_=>ih) cs
 |_=>[]
def ownsPs(fr:Fr)(ps:List (Nat×Operand)):List Nat:=List.rec (motive:=λ_=>List Nat) [] (λp _ ih=>match p with|(_,x)=>catQ (ownsV (opv fr x)) ih) ps
def ownSt(fr:Fr)(L:LL)(a x:Operand):List Nat:=
 match opv fr x,opv fr a with
 |.own j,.lp k _=>(match getL L k with|some (.arr _ _ _ _)=>[j]|_=>[])
 |_,_=>[]
def frzKs(ks:List Nat):PH→Fr→LL→(PH→Fr→LL→Prop)→Prop:=
 List.rec (motive:=λ_=>PH→Fr→LL→(PH→Fr→LL→Prop)→Prop) (λq fr L K=>K q fr L)
  (fun k _ ih q fr L K=>match getL L k with
   |some (.arr _ _ n xs)=>∀q' A c,q.le q'→n≤c→Reads q' A xs→fFr (fzF k (.slice A n c) fr) λfr=>fLL (fzLL k (.slice A n c) (remL L k)) λL=>ih q' fr L K
   | _=>ih q fr L K) ks
def effK(E:Env)(inl:Inl)(Y:Ye)(wr:Bool)(n0 N key:Nat)(dst:Option Nat)(op:Op)(nk:Nat)(q:PH)(fr:Fr)(L:LL)(K:Kt):Prop:=
 let calm:Prop:=calmK E.T E.Γ E.Δ wr q op fr L λx=>putK N dst x fr λfr=>K nk q fr L
 match op with
 | .alloc t=>(match ty E.T t with
  |⟨.other,_,_,_,_,_⟩=>False
  | ⟨_,_,_,zero,_,_⟩=>fSVL (valL zero) fun z=>newK n0 key fr L (.cells t z) fun L=>putK N dst (.lp key 0) fr fun fr=>K nk q fr L)
 | .box t x=>(match (ty E.T t).d with
  |.other=>False
  | _=>boxCells E.T t (opv fr x) fun l=>newK n0 key fr L (.cells t l) fun L=>putK N dst (.lp key 0) fr fun fr=>K nk q fr L)
 | .buildSlice t n ps=>frzKs (ownsPs fr ps.toList) q fr L fun q fr L=>(match (ty E.T t).d with
  | .slice e=>(match ty E.T e with
   |⟨.other,_,_,_,_,_⟩=>False
   | ⟨_,sz,_,zero,_,_⟩=>partsK E.T (elemPl sz e n 0) fr ps.toList (repl n (valL zero)) fun cs=>(match toVL cs with
    | some xs=>(match oneVL xs,Nat.ble (n * sz) 16777216 with
     |true,true=>newK n0 key fr L (.arr e sz n xs) λL=>putK N dst (.own key) fr λfr=>K nk q fr L
     | _,_=>False)
    | none=>(match hasL key cs,Nat.ble (n * sz) 16777216 with
     |false,true=>newK n0 key fr L (.cells e cs) λL=>putK N dst (.ls key n) fr λfr=>K nk q fr L
     | _,_=>False)))
  | _=>False)
 |.makeSlice t l c=>makeK E.T t n0 key (opv fr l) (opv fr c) fr L λx L=>putK N dst x fr λfr=>K nk q fr L
 | .store t a x=>frzKs (ownSt fr L a x) q fr L fun q fr L=>(match opv fr x with
  | .vw k 0 sz m true=>(match getL L k with
   | some (.arr e sz' n xs)=>(match Nat.beq sz' sz with
    |true=>Ob (m≤n)∧∀N' zs,N'=m→zs=xs.take (m*sz)→newK n0 key fr L (.arr e sz' N' zs) λL=>fLL (remL L k) λL=>storeK E.T t (opv fr a) (.own key) L λL=>putK N dst (.v undef) fr λfr=>K nk q fr L
    | false=>False)
   | _=>False)
  | y=>storeK E.T t (opv fr a) y L fun L=>putK N dst (.v undef) fr fun fr=>K nk q fr L)
 | .convert src t x=>(match (ty E.T src).d,(ty E.T t).d,opv fr x with
  | .str,.slice e,.v (.string s)=>(match (ty E.T e).d with
   |.int .u8=>sbK q s λq x=>putK N dst x fr λfr=>K nk q fr L
   | _=>False)
  | .slice _,.slice e,.own k=>(match Nat.beq src t,(ty E.T e).d,getL L k with
   |true,.int .u8,some (.arr _ _ n xs)=>Ob (0<n)∧∀q' A c,q.le q'→n≤c→Reads q' A xs→fFr (fzF k (.slice A n c) fr) λfr=>fLL (fzLL k (.slice A n c) (remL L k)) λL=>putK N dst (.v (.slice A n c)) fr λfr=>K nk q' fr L
   | _,_,_=>False)
  | _,_,_=>calm)
 | .call ⟨callee,xs,ts⟩=>(match callee with
  | .builtin .append=>(match opvs fr xs.toList,ts.toList with
   | [s,x],[t,t']=>(match Nat.beq t t' with
    |true=>appK E.T q t n0 key s x fr L λx L=>putK N dst x fr λfr=>K nk q fr L
    | false=>appS E.T t t' n0 key s x fr L fun x L=>putK N dst x fr fun fr=>K nk q fr L)
   | _,_=>False)
  | .builtin .copy=>(match opvs fr xs.toList,ts.toList with
   |[d,s],[t,_]=>copyK E.T q t d s L λx L=>putK N dst x fr λfr=>K nk q fr L
   | _,_=>False)
  | .value (.func f)=>(match findS E.Γ f with
   |some _=>calm
   | none=>(match findC E.Δ f with
    | some s=>(match s.calm with
     |true=>calm
     | false=>nilF (nlOf E.T L (opvs fr xs.toList)) n0 nk fr L fun nk fr L=>callC s n0 nk q fr L (opvs fr xs.toList) fun r nk q L=>putK N dst r fr fun fr=>K nk q fr L)
    | none=>(match Nat.ble n0 nk,ltF nk fr,dLt nk L with
     |true,true,true=>inl Y f (opvs fr xs.toList) nk q L λr nk q L=>putK N dst r fr λfr=>K nk q fr L
     | _,_,_=>False)))
  | .value (.tmp t)=>(match get fr t with
   | .fn f cs=>(match Nat.ble n0 nk,ltF nk fr,dLt nk L with
    |true,true,true=>inl Y f (opvs fr xs.toList++cs) nk q L λr nk q L=>putK N dst r fr λfr=>K nk q fr L
    | _,_,_=>False)
   | .yl k=>(match Nat.ble n0 nk,ltF nk fr,dLt nk L,yGet Y k with
    |true,true,true,some h=>h (opvs fr xs.toList) nk q L λr nk q L=>putK N dst r fr λfr=>K nk q fr L
    | _,_,_,_=>False)
   | _=>False)
  | _=>calm)
 |_=>calm
def dstOf(all:List Oper)(j:Nat):Option Nat:=match nth all j with|some o=>o.dst|none=>none
def vcOps1(E:Env)(inl:Inl)(Y:Ye)(wr:Bool)(n0 N:Nat)(all:List Oper)(o:Oper)(ih:Nat→Nat→PH→Fr→LL→Kt→Prop)(key nk:Nat)(q:PH)(fr:Fr)(L:LL)(K:Kt):Prop:=
 match o with
 |⟨dst,op,_,_,_,guard⟩=>
  match guard with
  |none=>effK E inl Y wr n0 N key dst op nk q fr L λnk q fr L=>ih (key+1) nk q fr L K
  |some (j,want)=>
   match dstOf all j with
   |none=>False
   |some t=>
    let go (b:Bool) (fr:Fr):Prop:=
     (match b,want with
     |true,true=>effK E inl Y wr n0 N key dst op nk q fr L λnk q fr L=>ih (key+1) nk q fr L K
     |false,false=>effK E inl Y wr n0 N key dst op nk q fr L λnk q fr L=>ih (key+1) nk q fr L K
     | _,_=>putK N dst (.v undef) fr fun fr=>ih (key+1) nk q fr L K)
    match get fr t with
    |.bb b=>go b fr
    |.b p _=>(p→go true (setF fr t (.bb true)))∧(¬p→go false (setF fr t (.bb false)))
    |.v (.tuple _)=>putK N dst (.v undef) fr λfr=>ih (key+1) nk q fr L K
    |_=>False
def vcOps(E:Env)(inl:Inl)(Y:Ye)(wr:Bool)(n0 N:Nat)(all:List Oper)(ops:List Oper):Nat→Nat→PH→Fr→LL→Kt→Prop:=
 List.rec (motive:=λ_=>Nat→Nat→PH→Fr→LL→Kt→Prop) (λ_ nk q fr L K=>K nk q fr L) (λo _ ih=>vcOps1 E inl Y wr n0 N all o ih) ops
section
variable (E:Env) (inl:Inl) (Y:Ye) (wr:Bool) (n0 N:Nat) (all:List Oper) (r:List Oper) (dst:Option Tmp) (op:Op) (ty:TypeId) (pos:String) (af:Array Edge) (key nk:Nat) (q:PH) (fr:Fr) (L:LL) (K:Kt)
theorem vcOps_none:vcOps E inl Y wr n0 N all (⟨dst,op,ty,pos,af,none⟩::r) key nk q fr L K=effK E inl Y wr n0 N key dst op nk q fr L λnk q fr L=>vcOps E inl Y wr n0 N all r (key+1) nk q fr L K:=rfl
theorem vcOps_some(j:Nat)(want:Bool):vcOps E inl Y wr n0 N all (⟨dst,op,ty,pos,af,some (j,want)⟩::r) key nk q fr L K=(
   match dstOf all j with
   |none=>False
   |some t=>
    let go (b:Bool) (fr:Fr):Prop:=
     (match b,want with
     |true,true=>effK E inl Y wr n0 N key dst op nk q fr L λnk q fr L=>vcOps E inl Y wr n0 N all r (key+1) nk q fr L K
     |false,false=>effK E inl Y wr n0 N key dst op nk q fr L λnk q fr L=>vcOps E inl Y wr n0 N all r (key+1) nk q fr L K
     | _,_=>putK N dst (.v undef) fr fun fr=>vcOps E inl Y wr n0 N all r (key+1) nk q fr L K)
    match get fr t with
    |.bb b=>go b fr
    |.b p _=>(p→go true (setF fr t (.bb true)))∧(¬p→go false (setF fr t (.bb false)))
    |.v (.tuple _)=>putK N dst (.v undef) fr λfr=>vcOps E inl Y wr n0 N all r (key+1) nk q fr L K
    | _=>False):=rfl
end
def calmOnly(T:Tab)(Γ:List Spec)(Δ:List CS):List Oper→Bool
 |[]=>true
 |o::r=>match o.op with
  |.alloc _|.box _ _|.buildSlice _ _ _|.makeSlice _ _ _|.store _ _ _=>false
  | .convert s t _=>(match (ty T s).d,(ty T t).d with
   |.str,.slice _=>false
   |.slice _,.slice _=>false
   | _,_=>calmOnly T Γ Δ r)
  |.call ⟨.builtin .append,_,_⟩=>false
  |.call ⟨.builtin .copy,_,_⟩=>false
  |.call ⟨.builtin _,_,_⟩=>calmOnly T Γ Δ r
  |.call ⟨.value (.func f),_,_⟩=>(match findS Γ f with|some _=>calmOnly T Γ Δ r|none=>(match findC Δ f with|some s=>(match s.calm with|true=>calmOnly T Γ Δ r|false=>false)|none=>false))
  |.call _=>false
  |_=>calmOnly T Γ Δ r
inductive Pn where
 |done
 |no
 |calm (i:Nat) (n:Pn)
 |eff (i:Nat) (ds:List Nat) (n alt:Pn)
def memN(k:Nat)(l:List Nat):Bool:=List.rec (motive:=λ_=>Bool) false (λx _ ih=>match Nat.beq x k with|true=>true|false=>ih) l
def catN(a b:List Nat):List Nat:=List.rec (motive:=λ_=>List Nat) b (λx _ ih=>x::ih) a
def xD(x:SV):List Nat:=
 SV.rec (motive_1:=λ_=>List Nat) (motive_2:=λ_=>List Nat) (λ_=>[]) (λ_=>[]) (λ_ _=>[]) (λk _=>[k]) (λk=>[k]) (λ_ _=>[]) (λ_ ih=>ih) (λ_ ih=>ih) (λ_ _ ih=>ih) (λk=>[k]) (λk _ _ _ _=>[k]) (λk=>[k]) (λk _=>[k]) (λk=>[k]) []
  [] (λ_ _ a b=>catN a b) x
def xM(fr:Fr):List Nat:=List.rec (motive:=λ_=>List Nat) [] (λp _ ih=>match p with|(_,x)=>catN (xD x) ih) fr
def xE(x:Operand):List Nat:=match x with|.tmp t=>[t]|_=>[]
def usesL(l:List Operand):List Nat:=List.rec (motive:=λ_=>List Nat) [] (λx _ ih=>catN (xE x) ih) l
def usesP(l:List (Nat×Operand)):List Nat:=List.rec (motive:=λ_=>List Nat) [] (λp _ ih=>match p with|(_,x)=>catN (xE x) ih) l
def usesM(x:Option Operand):List Nat:=match x with|some x=>xE x|none=>[]
def uses(op:Op):List Nat:=
 match op with
 |.move x=>xE x
 |.assign x=>xE x
 |.pick c a b=>catN (xE c) (catN (xE a) (xE b))
 |.binOp _ _ x y _=>catN (xE x) (xE y)
 |.unOp _ _ x=>xE x
 |.convert _ _ x=>xE x
 |.extract x _=>xE x
 |.field _ x _=>xE x
 |.fieldAddr _ x _=>xE x
 |.nilCheck x=>xE x
 |.indexAddr _ x i=>catN (xE x) (xE i)
 |.index _ x i=>catN (xE x) (xE i)
 |.load _ x=>xE x
 |.slice _ x lo hi mx=>catN (xE x) (catN (usesM lo) (catN (usesM hi) (usesM mx)))
 |.build _ ps=>usesP ps.toList
 |.makeFunc _ first cs=>catN (usesL first.toList) (usesL cs.toList)
 |.call ⟨_,xs,_⟩=>usesL xs.toList
 |_=>[]
def footOf(op:Op)(fr:Fr):List Nat:=
 match op with
 |.load _ _=>xM fr
 |.slice _ _ _ _ _=>xM fr
 |.indexAddr _ _ _=>xM fr
 |.convert _ _ _=>xM fr
 |.call _=>xM fr
 |_=>[]
def keysC(cs:List SV):List Nat:=List.rec (motive:=λ_=>List Nat) [] (λx _ ih=>catN (xD x) ih) cs
def keysB(x:LB):List Nat:=match x with|.cells _ cs=>keysC cs|.row _ _ _ cs=>keysC cs|_=>[]
def keysLs(F:List Nat)(L:LL):List Nat:=List.rec (motive:=λ_=>List Nat) [] (λk _ ih=>match getL L k with|some x=>catN (keysB x) ih|none=>ih) F
def footD(op:Op)(fr:Fr)(L:LL):List Nat:=
 match op with
 |.call _=>catN (xM fr) (catN (keysLs (xM fr) L) (keysLs (keysLs (xM fr) L) L))
 |op=>footOf op fr
def yL(F:List Nat)(L:LL):LL:=List.rec (motive:=λ_=>LL) [] (λk _ ih=>match getL L k with|some x=>(k,x)::ih|none=>ih) F
def lessL(ks:List Nat)(L:LL):LL:=List.rec (motive:=λ_=>LL) [] (λp _ ih=>match p with|(k,x)=>match memN k ks with|true=>ih|false=>(k,x)::ih) L
def protK(Φ:List (Nat×List Nat))(ds:List Nat):List Nat:=List.rec (motive:=λ_=>List Nat) [] (λp _ ih=>match p with|(c,F)=>match memN c ds with|true=>ih|false=>catN F ih) Φ
def guardK(all:List Oper)(g:Option (Nat×Bool))(fr:Fr)(run skip:Fr→Prop):Prop:=
 match g with
 |none=>run fr
 |some (j,want)=>
  match dstOf all j with
  |none=>False
  |some t=>
   match get fr t with
   | .bb b=>(match b,want with
    |true,true=>run fr
    |false,false=>run fr
    | _,_=>skip fr)
   | .b p _=>(match want with
    |true=>(p→run (setF fr t (.bb true)))∧(¬p→skip (setF fr t (.bb false)))
    | false=>(p→skip (setF fr t (.bb true)))∧(¬p→run (setF fr t (.bb false))))
   |.v (.tuple _)=>skip fr
   |_=>False
abbrev CalmF:=Op→Fr→LL→PH→(SV→Prop)→Prop
abbrev EffF:=Nat→Nat→Option Nat→Op→Nat→PH→Fr→LL→Kt→Prop
def vcP(ltf:Nat→Fr→Bool)(ltl:Nat→LL→Bool)(cf:CalmF)(ef:EffF)(N:Nat)(all:List Oper)(p:Pn):List (Nat×List Nat)→Nat→PH→Fr→LL→Kt→Prop:=
 Pn.rec (motive:=λ_=>List (Nat×List Nat)→Nat→PH→Fr→LL→Kt→Prop)
  (λ_ nk q fr L K=>K nk q fr L)
  (λ_ _ _ _ _ _=>True)
  (fun i _ ih Φ nk q fr L K=>
   match nth all i with
   |none=>False
   |some ⟨dst,op,_,_,_,guard⟩=>guardK all guard fr
    (fun fr=>fFr (keepF (uses op) fr) fun fo=>match ltf nk fo,ltl nk L with
     |true,true=>cf op fo (yL (footD op fo L) L) q λx=>putK N dst x fr λfr=>ih ((i,footD op fo L)::Φ) nk q fr L K
     | _,_=>False)
    (fun fr=>putK N dst (.v undef) fr fun fr=>ih ((i,[])::Φ) nk q fr L K))
  (fun i ds _ _ ihn iha Φ nk q fr L K=>
   (match nth all i with
   |none=>False
   |some ⟨dst,op,_,_,_,guard⟩=>guardK all guard fr
    (fun fr=>match ltf nk fr,ltl nk L with
     |true,true=>fN (nk+1) λnk1=>ef nk nk dst op nk1 q fr (lessL (protK Φ ds) L) λnk2 q2 fr2 L2=>match Nat.ble nk nk2 with
      |true=>Ob (q.le q2)∧ihn Φ nk2 q2 fr2 (appL (yL (protK Φ ds) L) L2) K
      |false=>False
     | _,_=>False)
    (fun fr=>putK N dst (.v undef) fr fun fr=>ihn Φ nk q fr L K))∧iha Φ nk q fr L K) p
def depsB(ops:Array Oper)(acc:List Nat):List Nat→Bool
 |[]=>true
 |c::r=>acc.any (λd=>match ops[d]? with|some o=>o.after.toList.any (λe=>Region.binds .any e&&e.on==c)|none=>false)&&depsB ops (c::acc) r
def Pn.heads:Pn→List Nat
 |.eff i _ _ alt=>i::alt.heads
 |_=>[]
def Pn.depth:Pn→Nat
 |.calm _ n=>n.depth+1
 |.eff _ _ n alt=>max (n.depth+1) alt.depth
 |_=>0
def planB(ops:Array Oper):Bool→Pn→Array Bool→Bool
 |top,.done,listed=>top&&(Region.ready .any ops listed).isEmpty
 |top,.no,_=>!top
 |top,.calm i n,listed=>top&&(Region.ready .any ops listed).contains i&&Region.free .any ops listed i&&planB ops true n (listed.setIfInBounds i true)
 |top,.eff i ds n alt,listed=>(!top||(Region.ready .any ops listed).all λj=>(i::alt.heads).contains j)&&(Region.ready .any ops listed).contains i&&depsB ops [i] ds&&planB ops true n (listed.setIfInBounds i true)&&planB ops false alt listed
def noDefer(ops:Array Oper):Bool:=ops.toList.all λo=>match o.op with|.defer _=>false|_=>true
def planOk(ops:Array Oper)(p:Pn):Bool:=noDefer ops&&Region.noSelect ops&&Nat.ble p.depth ops.size&&planB ops true p (Array.replicate ops.size false)
def blkE(id:Nat)(K:Ke):Ke
 |.exit n=>match Nat.beq n id with|true=>K .norm|false=>K (.exit n)
 |e=>K e
def thenE(f:Kt)(K:Ke):Ke
 |.norm=>f
 |e=>K e
def scopeE(K:Ke):Ke
 |.goto n=>λ_ _ _ _=>False
 |e=>K e
def firstReg:Code→Option Nat
 |.region id _ _=>some id
 |.seq a b=>match firstReg a with|some x=>some x|none=>firstReg b
 |.cond _ a b=>match firstReg a with|some x=>some x|none=>firstReg b
 |.block _ a=>firstReg a
 |.loop a=>firstReg a
 |.scope a=>firstReg a
 |_=>none
def hasKey(k:Nat)(L:LL):Bool:=
 match L with
 |[]=>false
 |(u,_)::r=>match Nat.beq u k with|true=>true|false=>hasKey k r
def keysOk(lo hi:Nat)(L:LL):Bool:=
 match L with
 |[]=>true
 |(k,_)::r=>match Nat.ble lo k,Nat.blt k hi,hasKey k r with|true,true,false=>keysOk lo hi r|_,_,_=>false
def dfrIn(rest:LL)(L:LL):Bool:=
 match L with
 |[]=>true
 |(k,.dfr)::r=>(match hasKey k rest with|true=>dfrIn rest r|false=>false)
 |_::r=>dfrIn rest r
def frzAt(fr:Fr)(L:LL)(t o:Nat):Option Nat:=
 match nilAt fr t with
 |.own k=>some k
 |.agg cs=>(match nth cs o with|some (.own j)=>some j|_=>none)
 |.tup cs=>(match nth cs o with|some (.own j)=>some j|_=>none)
 | .lp k _=>(match getL L k with
  |some (.cells _ cs)=>(match nth cs o with|some (.own j)=>some j|_=>none)
  | _=>none)
 |_=>none
def frzF(ts:List (Nat×Nat)):PH→Fr→LL→(PH→Fr→LL→Prop)→Prop:=
 List.rec (motive:=λ_=>PH→Fr→LL→(PH→Fr→LL→Prop)→Prop) (λq fr L K=>K q fr L)
  (fun p _ ih q fr L K=>
   match p with
   |(t,o)=>match nilAt fr t with
    | .vw k lo sz m _=>(match getL L k with
     | some (.arr _ sz' n xs)=>(match Nat.beq sz' sz with
      |true=>Ob (lo+m≤n)∧∀q' A c A0 c0 m',q.le q'→n≤c0→Reads q' A0 xs→m'=m→m'≤c→Reads q' A (vwC xs lo sz m)→fFr (setF (fzF k (.slice A0 n c0) fr) t (.v (.slice A m' c))) λfr=>fLL (fzLL k (.slice A0 n c0) (remL L k)) λL=>ih q' fr L K
      | false=>False)
     | _=>False)
    |_=>match frzAt fr L t o with
    |none=>ih q fr L K
    | some k=>(match getL L k with
     |some (.arr _ _ n xs)=>∀q' A c,q.le q'→n≤c→Reads q' A xs→fFr (fzF k (.slice A n c) fr) λfr=>fLL (fzLL k (.slice A n c) (remL L k)) λL=>ih q' fr L K
     | _=>ih q fr L K)) ts
def leK(gr:Bool)(q q':PH):Prop:=
 match gr with
 |false=>q=q'
 |true=>q.le q'
def loopRound(I:Inv)(n0 nk:Nat)(q:PH)(kf:Fr)(rest:LL)(body:Nat→PH→Fr→LL→Ke→Prop)(K:Ke)(q1:PH):Prop:=
 ∀i,I.ok i→I.rd q1 i →
  match keysOk 0 (nk+I.keys) (I.L nk i),ltF (nk+I.keys) (I.fr nk i),ltLL (nk+I.keys) (I.L nk i) with
  |true,true,true=>fFr (appF (I.fr nk i) kf) λfr1=>fLL (appL (I.L nk i) rest) λL1=>fN (nk+I.keys) λnk1=>body nk1 q1 fr1 L1
   (thenE (λnk2 q' fr' L'=>nilF I.nils n0 nk2 fr' L' λ_ fr' L'=>frzF I.frz q' fr' L' λq' fr' L'=>∃j,Ob (I.ok j∧I.μ j<I.μ i)∧Ob (I.rd q' j)∧Ob (leK I.gr q q')∧mFr nk (I.fr nk j) fr' [] λags=>mLL nk (I.L nk j) L' ags λags=>mFr nk kf fr' ags λags=>sameL nk rest L' ags (dfrIn rest L'=true)) K)
  |_,_,_=>False
def loopK(I:Inv)(n0 nk:Nat)(q:PH)(fr:Fr)(L:LL)(body:Nat→PH→Fr→LL→Ke→Prop)(K:Ke):Prop:=
 match Nat.ble n0 nk with
 |false=>False
 |true=>
 nilF I.nils n0 nk fr L λnk fr L=>frzF I.frz q fr L λq fr L=>
 fFr (keepF I.keep fr) λkf=>
 match Nat.ble n0 nk,ltF nk kf with
 |true,true=>∃i0,Ob (I.ok i0)∧Ob (I.rd q i0)∧mFr nk (I.fr nk i0) fr [] λags=>mLL nk (I.L nk i0) L ags λags=>fLL (restL ags L) λrest=>
  match ltLL nk rest,hidFree ags L with
  |true,true=>
   match I.gr with
   |false=>loopRound I n0 nk q kf rest body K q
   |true=>∀q1,q.le q1→loopRound I n0 nk q kf rest body K q1
  |_,_=>False
 |_,_=>False
def cutNext(I:Cut)(base:Nat)(kf:Fr)(rest:LL)(vb:Nat→PH→Fr→LL→Prop)(q1:PH):Prop:=
 ∀j,I.ok q1 j →
  match keysOk 0 (base+I.keys) (I.L j),ltF (base+I.keys) (I.fr j),ltLL (base+I.keys) (I.L j) with
  |true,true,true=>fN (base+I.keys) λnk=>fFr (appF (I.fr j) kf) λfr1=>fLL (appL (I.L j) rest) λL1=>vb nk q1 fr1 L1
  |_,_,_=>False
def cutK(I:Cut)(n0:Nat)(q:PH)(fr:Fr)(va:Ke→Prop)(vb:Nat→PH→Fr→LL→Prop)(K:Ke):Prop:=
 fFr (keepF I.keep fr) λkf=>fLL I.rest λrest=>fN I.base λbase=>
 match Nat.ble n0 base,ltF base kf,ltLL base rest with
 |true,true,true=>
  va (thenE (λnk1 q' fr' L'=>nilF I.nils n0 nk1 fr' L' λ_ fr' L'=>frzF I.frz q' fr' L' λq' fr' L'=>∃j,Ob (I.ok q' j)∧Ob (leK I.gr q q')∧mFr base (I.fr j) fr' [] λags=>mLL base (I.L j) L' ags λags=>mFr base kf fr' ags λags=>sameL base rest L' ags (dfrIn rest L'=true)) K)
  ∧ (match I.gr with
   |false=>cutNext I base kf rest vb q
   | true=>∀q1,q.le q1→cutNext I base kf rest vb q1)
 |_,_,_=>False
def putsF(ps:List Nat)(xs:List SV)(N:Nat)(fr:Fr)(K:Fr→Prop):Prop:=
 match ps,xs with
 |[],[]=>K fr
 |p::ps,x::xs=>(match Nat.blt p N with|true=>putsF ps xs N ((p,x)::fr) K|false=>False)
 |_,_=>False
def roundK(va vb:Nat→Nat→PH→Fr→LL→Ke→Prop)(N nk:Nat)(ps:List Nat)(fr:Fr):Hd:=λargs nk1 q L K1=>
 match getL L nk with
 |some (.loop .ready none)=>putsF ps args N fr λfr1=>
  va nk1 nk1 q fr1 L (thenE (fun nk2 q fr2 L=>
   (match getL L nk with
   |some (.loop .ready none)=>fLL (setL L nk (.loop .busy none)) λL=>
    vb nk1 nk2 q fr2 L λex nk3 q _ L=>
     (match getL L nk with
     | some (.loop .busy none)=>(match ex with
      |.norm=>fLL (setL L nk (.loop .ready none)) λL=>K1 (.bb true) nk3 q L
      |.ret=>fLL (setL L nk (.loop .done (some .ret))) λL=>K1 (.bb false) nk3 q L
      |.exit n=>fLL (setL L nk (.loop .done (some (.exit n)))) λL=>K1 (.bb false) nk3 q L
      | .goto n=>fLL (setL L nk (.loop .done (some (.goto n)))) fun L=>K1 (.bb false) nk3 q L)
     | _=>False)
   | _=>False)) (fun _ _ _ _ _=>False))
 |_=>False
def doneK(nk:Nat)(fr:Fr)(K:Ke):SV→Nat→PH→LL→Prop:=λ_ nk1 q L=>
 match getL L nk with
 |some (.loop .ready none)=>fLL (remL (remL L nk) (nk+1)) λL=>K .norm nk1 q fr L
 |some (.loop .done (some .ret))=>fLL (remL (remL L nk) (nk+1)) λL=>K .ret nk1 q fr L
 |some (.loop .done (some (.exit n)))=>fLL (remL (remL L nk) (nk+1)) λL=>K (.exit n) nk1 q fr L
 |some (.loop .done (some (.goto n)))=>fLL (remL (remL L nk) (nk+1)) λL=>K (.goto n) nk1 q fr L
 |_=>False
def vcR(E:Env)(inl:Inl)(f:Nat)(wr:Bool)(N:Nat)(c:Code):Nat→Ye→Option Nat→Nat→PH→Fr→LL→Ke→Prop:=
 Code.rec (motive:=λ_=>Nat→Ye→Option Nat→Nat→PH→Fr→LL→Ke→Prop)
  (λ_ _ _ nk q fr L K=>K .norm nk q fr L)
  (fun _ ops draw n0 Y _ nk q fr L K=>(match draw with
   |false=>fN (nk+ops.toList.length) λnk'=>vcOps E inl Y wr n0 N ops.toList ops.toList nk nk' q fr L (K .norm)
   | true=>Ob (Region.lexB .any ops=true)∧(match calmOnly E.T E.Γ E.Δ ops.toList with
    |true=>fN (nk+ops.toList.length) λnk'=>vcOps E inl Y wr n0 N ops.toList ops.toList nk nk' q fr L (K .norm)
    | false=>(match Nat.ble n0 nk with
     |true=>∃pl:Pn,Ob (planOk ops pl=true)∧vcP ltF ltLL (λop fr L q K=>calmK E.T E.Γ E.Δ wr q op fr L K) (λn0 key dst op nk q fr L K=>effK E inl Y wr n0 N key dst op nk q fr L K) N ops.toList pl [] nk q fr L (K .norm)
     | false=>False))))
  (fun _ b va vb n0 Y ro nk q fr L K=>(match firstReg b with
   |none=>va n0 Y ro nk q fr L (thenE (λnk q fr L=>vb n0 Y ro nk q fr L K) K)
   | some id=>(match E.cut f id with
    |false=>va n0 Y ro nk q fr L (thenE (λnk q fr L=>vb n0 Y ro nk q fr L K) K)
    | true=>∃I:Cut,cutK I n0 q fr (fun K=>va n0 Y ro nk q fr L K) (fun nk q fr L=>vb n0 Y ro nk q fr L K) K)))
  (fun c _ _ vx vy n0 Y ro nk q fr L K=>(match opv fr c with
   |.bb true=>vx n0 Y ro nk q fr L K
   |.bb false=>vy n0 Y ro nk q fr L K
   |.b p _=>(p→vx n0 Y ro nk q fr L K)∧(¬p→vy n0 Y ro nk q fr L K)
   | _=>False))
  (λid _ vc n0 Y ro nk q fr L K=>vc n0 Y ro nk q fr L (blkE id K))
  (fun body vb n0 Y ro nk q fr L K=>(match firstReg body with
   |none=>False
   | some id=>(match E.inv f id nk with
    |none=>∃I:Inv,loopK I n0 nk q fr L (λnk q fr L K=>vb n0 Y ro nk q fr L K) K
    | some I=>loopK I n0 nk q fr L (fun nk q fr L K=>vb n0 Y ro nk q fr L K) K)))
  (fun g ps _ _ va vb n0 Y ro nk q fr L K=>
   (match Nat.ble n0 nk,ltF nk fr,ltLL nk L with
   |true,true,true=>
    (match opv fr g with
    |.fn it cs=>
     (match ro with
     |none=>inl ((nk,roundK (λn0 nk' q fr L K=>va n0 Y (some nk) nk' q fr L K) (λn0 nk' q fr L K=>vb n0 Y (some nk) nk' q fr L K) N nk ps.toList fr)::Y)
       it (.yl nk::cs) (nk+2) q ((nk,.loop .ready none)::(nk+1,.dfr)::L) (doneK nk fr K)
     | some l0=>(match getL L l0 with
      |some (.loop _ _)=>inl ((nk,roundK (λn0 nk' q fr L K=>va n0 Y (some nk) nk' q fr L K) (λn0 nk' q fr L K=>vb n0 Y (some nk) nk' q fr L K) N nk ps.toList fr)::Y)
       it (.yl nk::cs) (nk+2) q ((nk,.loop .ready none)::L) (doneK nk fr K)
      | _=>False))
    | _=>False)
   | _,_,_=>False))
  (λid _ _ _ nk q fr L K=>K (.exit id) nk q fr L)
  (λ_ vc n0 Y ro nk q fr L K=>vc n0 Y ro nk q fr L (scopeE K))
  (λ_ _ _ _ nk q fr L K=>K .norm nk q fr L)
  (λl _ _ _ nk q fr L K=>K (.goto l) nk q fr L)
  (λ_ _ _ nk q fr L K=>K .ret nk q fr L)
  (λ_ _ _ _ _ _ _ _ _=>False)
  c
def vcC(E:Env)(inl:Inl)(f:Nat)(wr:Bool)(n0 N:Nat)(c:Code)(Y:Ye)(ro:Option Nat)(nk:Nat)(q:PH)(fr:Fr)(L:LL)(K:Ke):Prop:=
 vcR E inl f wr N c n0 Y ro nk q fr L K
def resK(T:Tab)(q:PH)(rs:List ResultVar)(fr:Fr)(L:LL)(K:List SV→Prop):Prop:=
 match rs with
 |[]=>K []
 |.tmp t::r=>fSV (get fr t) λx=>resK T q r fr L λl=>K (x::l)
 |.cell t ty::r=>loadK T q L ty (get fr t) λx=>resK T q r fr L λl=>K (x::l)
def oneOr(l:List SV):SV:=match l with|[x]=>x|l=>.tup l
def dropA(b:Nat)(L0:LL)(L:LL):LL:=
 match L with
 |[]=>[]
 | (k,x)::r=>(match Nat.ble b k with
  |true=>(match getL L0 k with|some .dfr=>dropA b L0 r|_=>(k,x)::dropA b L0 r)
  | false=>(k,x)::dropA b L0 r)
def dropD(b:Nat)(L:LL):LL:=dropA b L L
def retE(T:Tab)(b:Nat)(rs:List ResultVar)(K:SV→Nat→PH→LL→Prop):Ke
 |.norm=>λnk q fr L=>fLL (dropD b L) λL=>resK T q rs fr L λl=>fSV (oneOr l) λr=>K r nk q L
 |.ret=>λnk q fr L=>fLL (dropD b L) λL=>resK T q rs fr L λl=>fSV (oneOr l) λr=>K r nk q L
 |_=>λ_ _ _ _=>False
def argF(args:List SV)(i:Nat):Fr:=
 match args with
 |[]=>[]
 |x::r=>(i,x)::argF r (i+1)
def vcN(E:Env):Nat→Inl
 |0=>λ_ _ _ _ _ _ _=>False
 | d+1=>fun Y f args nk q L K=>(match E.FT.get f with
  |none=>False
  | some fn=>(match fn.body with
   |none=>False
   | some c=>(match Nat.ble args.length fn.ntmps with
    |false=>False
    | true=>fFr (argF args 0) fun fr=>vcC E (vcN E d) f (E.wr f) nk fn.ntmps c Y none nk q fr L (retE E.T nk fn.results.toList K))))
end
end Go.Eng
end
namespace Go.Eng
open Go Go.RowKit
section
variable {P:Program}{T:Tab}{Γ:List Spec}{S S':Pl}{fr:Fr}{L:LL}{q:PH}{w0:W0}{w w':World}{a:Act}
structure Mem (w0:W0) (q:PH) (S:Pl) (L:LL) (w:World):Prop where
 ch:∀k lb,getL L k=some lb→zD 0 S k lb w
 ap:∀k lb k' lb',getL L k=some lb→getL L k'=some lb'→k≠k'→∀b,blk S k lb=some b→blk S k' lb'≠some b
 po:∀k lb,getL L k=some lb→∀b,blk S k lb=some b→∀o,q b o=none
 fz:∀k lb,getL L k=some lb→∀b,blk S k lb=some b→¬w0.F b
 on:PH.on q w
 be:Bel w0 w
 gw:∀b o v,q b o=some v→w0.F b→w0.q b o=some v
theorem Mem.cl(h:Mem w0 q S L w):Cl w0 q S L w w:=⟨λ_ _ _ _ _=>rfl,h.on,h.be⟩
theorem blk_lt{k:Nat}{lb:LB}{N0:Nat}(h:zD N0 S k lb w){b:Nat}(hb:blk S k lb=some b):N0≤b∧b<w.heap.size:=by
 have lt:∀{o:Obj}{b:Nat},w.heap[b]?=some o→b<w.heap.size:=λh=>(Array.getElem?_eq_some_iff.1 h).1
 cases lb with
 |cells T cs=>cases hb;obtain⟨h1,vs,h2,_⟩:=h;exact⟨h1,lt h2⟩
 |dfr=>cases hb;exact⟨h.1,lt h.2⟩
 |mp es c=>cases hb;exact⟨h.1,lt h.2⟩
 |sb E n xs=>cases hb;obtain⟨h1,_,_,_,_,_,_,h6,_⟩:=h;exact⟨h1,lt h6⟩
 |loop st pe=>cases hb;exact⟨h.1,lt h.2⟩
 |arr E sz n xs=>
  obtain⟨h1,h2,h3,h4,h5⟩:=h;refine h1.lt b ?_;simp only[blk] at hb
  cases hA:(S k).A with
  |none=>rw[hA] at hb;cases hb
  |some ad=>rw[hA] at hb;simpa[Value.ownBlock] using hb
 |row E sz n cs=>
  obtain⟨xs,⟨h1,h2,h3,h4,h5⟩,_⟩:=h;refine h1.lt b ?_;simp only[blk] at hb
  cases hA:(S k).A with
  |none=>rw[hA] at hb;cases hb
  |some ad=>rw[hA] at hb;simpa[Value.ownBlock] using hb
theorem on_lt(h:PH.on q w){b o:Nat}{v:Value}(hq:q b o=some v):b<w.heap.size:=World.block_lt_of_cell? w _ (h b o v hq)
theorem Cl.below{w1:World}(hch:∀k lb,getL L k=some lb→zD 0 S k lb w1)(h:Cl w0 q S L w1 w)(hb:Below w.heap.size w w'):Cl w0 q S L w1 w':=by
 refine⟨λk lb hk b hbk=>?_,λb o v hv=>?_,h.be.trans hb⟩
 ·have h1:=h.ch k lb hk b hbk;have h2:=(blk_lt (zI (hch k lb hk) (h.ch k lb hk)) hbk).2;exact(hb.block b h2).trans h1
 have h1:=h.on b o v hv;exact(hb.cell (World.block_lt_of_cell? w _ h1)).trans h1
theorem Mem.of_cl(h:Mem w0 q S L w)(hc:Cl w0 q S L w w'):Mem w0 q S L w':=
 ⟨λk lb hk=>zI (h.ch k lb hk) (hc.ch k lb hk),h.ap,h.po,h.fz,hc.on,hc.be,h.gw⟩
theorem Mem.below(h:Mem w0 q S L w)(hb:Below w.heap.size w w'):Mem w0 q S L w':=h.of_cl (Cl.below h.ch h.cl hb)
mutual
theorem okv_congr:∀(x:SV) {v:Value},(∀k,x.has k=true→S' k=S k)→okv S x v→okv S' x v
 |.bad,_,_,_=>trivial
 |.v _,_,_,h=>h
 |.bb _,_,_,h=>h
 |.b _ _,_,_,h=>h
 |.el _ _,_,_,h=>h
 |.lp k o,v,hk,h=>by have:=hk k wH;simp only[okv,this] at h ⊢;exact h
 |.own k,v,hk,h=>by have:=hk k wH;simp only[okv,this] at h ⊢;exact h
 |.yl k,v,hk,h=>by have:=hk k wH;simp only[okv,this] at h ⊢;exact h
 |.vw k _ _ _ _,v,hk,h=>by have:=hk k wH;simp only[okv,this] at h ⊢;exact h
 |.ls k n,v,hk,h=>by have:=hk k wH;simp only[okv,this] at h ⊢;exact h
 |.mr k,v,hk,h=>by have:=hk k wH;simp only[okv,this] at h ⊢;exact h
 |.lq k,v,hk,h=>by have:=hk k wH;simp only[okv,this] at h ⊢;exact h
 |.agg cs,v,hk,h=>by obtain⟨vs,rfl,h⟩:=h;exact⟨vs,rfl,yc cs (λk hk'=>hk k vn) h⟩
 |.tup cs,v,hk,h=>by obtain⟨vs,rfl,h⟩:=h;exact⟨vs,rfl,yc cs (λk hk'=>hk k vn) h⟩
 |.fn f cs,v,hk,h=>by obtain⟨vs,rfl,h⟩:=h;exact⟨vs,rfl,yc cs (λk hk'=>hk k vn) h⟩
theorem yc:∀(l:List SV) {vs:List Value},(∀k,hasL k l=true→S' k=S k)→okL S l vs→okL S' l vs
 |[],[],_,_=>trivial
 |[],_::_,_,h=>by cases h
 |_::_,[],_,h=>by cases h
 |x::r,v::vs,hk,h=>⟨okv_congr x (λk hk'=>hk k (by simp[hasL,hk'])) h.1,yc r (λk hk'=>hk k (by unfold hasL;split<;>simp_all)) h.2⟩
end
theorem get_has:∀{fr:Fr}{t k:Nat},(get fr t).has k=true→hasF k fr=true
 |[],t,k,h=>by simp[get_n,SV.has] at h
 |(u,x)::r,t,k,h=>by
  rw[get_c] at h;rw[hasF_c];split at h
  ·rw[h]
  split
  ·rfl
  exact get_has h
theorem xW{tm:Array Value}(hk:∀k,hasF k fr=true→S' k=S k)(h:okF S fr tm):okF S' fr tm:=
 λt=>okv_congr _ (λk h'=>hk k (get_has h')) (h t)
theorem zm:∀{L:LL}{k j:Nat}{lb:LB},getL L j=some lb→(j=k∨lb.has k=true)→hasLL k L=true
 |[],_,_,_,h,_=>by cases h
 |(u,y)::r,k,j,lb,h,ho=>by
  rw[getL_c] at h;rw[hasLL_c];split at h
  ·rename_i hu;cases h;have hu:=Nat.eq_of_beq_eq_true hu;subst hu;rcases ho with rfl|hc
   ·simp
   split
   ·rfl
   simp[hc]
  split
  ·rfl
  split
  ·rfl
  exact zm h ho
theorem yt{N0:Nat}{k:Nat}{lb:LB}(h1:S' k=S k)(h2:∀j,lb.has j=true→S' j=S j)(h:zD N0 S k lb w):zD N0 S' k lb w:=by
 cases lb with
 |cells T cs=>obtain⟨a1,vs,a2,a3⟩:=h;exact⟨by rw[h1];exact a1,vs,by rw[h1];exact a2,yc cs h2 a3⟩
 |row E sz n cs=>obtain⟨xs,a2,a3⟩:=h;exact⟨xs,by rw[h1];exact a2,yc cs h2 a3⟩
 |arr E sz n xs=>simp only[zD,h1] at h ⊢;exact h
 |dfr=>simp only[zD,h1] at h ⊢;exact h
 |mp es c=>simp only[zD,h1] at h ⊢;exact h
 |sb E n xs=>simp only[zD,h1] at h ⊢;exact h
 |loop st pe=>simp only[zD,h1] at h ⊢;exact h
theorem zX{k:Nat}{lb:LB}(h:S' k=S k):blk S' k lb=blk S k lb:=by cases lb<;>simp[blk,h]
theorem Mem.congr(h:Mem w0 q S L w)(hk:∀k,hasLL k L=true→S' k=S k):Mem w0 q S' L w:=by
 have e:∀k lb,getL L k=some lb→S' k=S k:=λk lb hl=>hk k (zm hl (.inl rfl));refine⟨λk lb hl=>yt (e k lb hl) (λj hj=>hk j (zm hl (.inr hj))) (h.ch k lb hl),λk lb k' lb' hl hl' hne b hb=>?_,λk lb hl b hb=>?_,λk lb hl b hb=>?_,h.on,h.be,h.gw⟩
 ·rw[zX (e k lb hl)] at hb;rw[zX (e k' lb' hl')];exact h.ap k lb k' lb' hl hl' hne b hb
 ·rw[zX (e k lb hl)] at hb;exact h.po k lb hl b hb
 rw[zX (e k lb hl)] at hb;exact h.fz k lb hl b hb
theorem ze{k j:Nat}{x:LB}:getL ((k,x)::L) j=if k=j then some x else getL L j:=by
 simp only[getL_c];by_cases h:k=j
 ·subst h;simp
 have:Nat.beq k j=false:=by rw[Bool.eq_false_iff];exact λe=>h (Nat.eq_of_beq_eq_true e)
 simp[this,h]
theorem zH{t u:Nat}{x:SV}:get ((t,x)::fr) u=if t=u then x else get fr u:=by
 simp only[get_c];by_cases h:t=u
 ·subst h;simp
 have:Nat.beq t u=false:=by rw[Bool.eq_false_iff];exact λe=>h (Nat.eq_of_beq_eq_true e)
 simp[this,h]
theorem okF_put{tm:Array Value}{d:Nat}{x:SV}{v:Value}(h:okF S fr tm)(hx:okv S x v)(hd:d<tm.size):okF S ((d,x)::fr) (tm.setIfInBounds d v):=by
 intro t;rw[zH];by_cases e:d=t
 ·subst e;simpa[hd] using hx
 rw[if_neg e];have:=h t;simpa[Array.getElem?_setIfInBounds_ne e] using this
theorem zK{k j:Nat}{x:LB}:∀{L:LL},getL (setL L k x) j=if k=j then(getL L k).map (λ_=>x) else getL L j
 |[]=>by simp[setL_n,getL_n]
 |(u,y)::r=>by
  simp only[setL_c];by_cases h:u=k
  ·subst h;simp only[Nat.beq_refl,ze];by_cases e:u=j<;>simp[e]
  have hb:Nat.beq u k=false:=by rw[Bool.eq_false_iff];exact λe=>h (Nat.eq_of_beq_eq_true e)
  simp only[hb,ze,zK (L:=r)];by_cases e:k=j
  ·subst e;simp[h]
  simp[e]
theorem zM{k j:Nat}:∀{L:LL},getL (remL L k) j=if k=j then none else getL L j
 |[]=>by simp[remL_n,getL_n]
 |(u,y)::r=>by
  simp only[remL_c];by_cases h:u=k
  ·subst h;simp only[Nat.beq_refl,zM (L:=r),ze];by_cases e:u=j<;>simp[e]
  have hb:Nat.beq u k=false:=by rw[Bool.eq_false_iff];exact λe=>h (Nat.eq_of_beq_eq_true e)
  simp only[hb,ze,zM (L:=r)];by_cases e:k=j
  ·subst e;simp[h]
  simp[e]
def updS(S:Pl)(k:Nat)(l:Loc):Pl:=λj=>if j=k then l else S j
theorem zc{k:Nat}{l:Loc}:updS S k l k=l:=by simp[updS]
theorem zz{k j:Nat}{l:Loc}(h:j≠k):updS S k l j=S j:=by simp[updS,h]
theorem Mem.new{key:Nat}{lb:LB}{l:Loc}(h:Mem w0 q S L w)(hf:hasLL key L=false)(hb:Below w.heap.size w w')
  (hc:zD 0 (updS S key l) key lb w') (hn:∀b,blk (updS S key l) key lb=some b→w.heap.size≤b):Mem w0 q (updS S key l) ((key,lb)::L) w':=by
 have hne:∀k,hasLL k L=true→updS S key l k=S k:=λk hk=>zz (λe=>by subst e;rw[hf] at hk;cases hk);have h2:=(h.below hb).congr hne
 have fresh:∀k lb',getL L k=some lb'→∀b,blk (updS S key l) k lb'=some b→b<w.heap.size:=λk lb' hk b hbk=>by
  rw[zX (hne k (zm hk (.inl rfl)))] at hbk;exact(blk_lt (h.ch k lb' hk) hbk).2
 refine⟨λk lb' hk=>?_,λk1 l1 k2 l2 hk1 hk2 hne' b hb1 hb2=>?_,λk lb' hk b hbk o=>?_,λk lb' hk b hbk hF=>?_,h2.on,h2.be,h2.gw⟩
 ·rw[ze] at hk;split at hk
  ·rename_i e;subst e;cases hk;exact hc
  exact h2.ch k lb' hk
 ·rw[ze] at hk1 hk2;split at hk1
  ·rename_i e;subst e;cases hk1;rw[if_neg hne'] at hk2;have:=fresh k2 l2 hk2 b hb2;have:=hn b hb1;omega
  split at hk2
  ·rename_i e;subst e;cases hk2;have:=fresh k1 l1 hk1 b hb1;have:=hn b hb2;omega
  exact h2.ap k1 l1 k2 l2 hk1 hk2 hne' b hb1 hb2
 ·rw[ze] at hk;split at hk
  ·rename_i e;subst e;cases hk
   cases hq:q b o with
   |none=>rfl
   |some v=>have:=on_lt h.on hq;have:=hn b hbk;omega
  exact h2.po k lb' hk b hbk o
 rw[ze] at hk;split at hk
 ·rename_i e;subst e;cases hk;have:=hn b hbk;have:=w0.lt b hF;have:=h.be.size;omega
 exact h2.fz k lb' hk b hbk hF
theorem Mem.turn{k:Nat}{lb lb':LB}{b:Nat}(h:Mem w0 q S L w)(hk:getL L k=some lb)(hb:blk S k lb=some b)(hg:w.grownBy w' (some b))
  (hc:zD 0 S k lb' w') (hb':blk S k lb'=some b):Mem w0 q S (setL L k lb') w':=by
 have same:∀c,c<w.heap.size→c≠b→w'.heap[c]?=w.heap[c]?:=λc hc hne=>hg.block c hc (λe=>hne vI);refine⟨λj l hj=>?_,λk1 l1 k2 l2 hk1 hk2 hne' c hb1 hb2=>?_,λj l hj c hcj o=>?_,λj l hj c hcj=>?_,λc o v hv=>?_,?_,h.gw⟩
 ·rw[zK] at hj;split at hj
  ·rename_i e;subst e;rw[hk] at hj;cases hj;exact hc
  rename_i e;refine zI (h.ch j l hj) λc hcj=>same c (blk_lt (h.ch j l hj) hcj).2 λe'=>?_;subst e';exact h.ap k lb j l hk hj e c hb hcj
 ·rw[zK] at hk1 hk2;split at hk1
  ·rename_i e;subst e;rw[if_neg hne'] at hk2;rw[hk] at hk1;cases hk1;rw[hb'] at hb1;cases hb1;exact h.ap k lb k2 l2 hk hk2 hne' b hb hb2
  rename_i e1;split at hk2
  ·rename_i e;subst e;rw[hk] at hk2;cases hk2;rw[hb'] at hb2;cases hb2;exact h.ap k1 l1 k lb hk1 hk hne' b hb1 hb
  exact h.ap k1 l1 k2 l2 hk1 hk2 hne' c hb1 hb2
 ·rw[zK] at hj;split at hj
  ·rename_i e;subst e;rw[hk] at hj;cases hj;rw[hb'] at hcj;cases hcj;exact h.po k lb hk b hb o
  exact h.po j l hj c hcj o
 ·rw[zK] at hj;split at hj
  ·rename_i e;subst e;rw[hk] at hj;cases hj;rw[hb'] at hcj;cases hcj;exact h.fz k lb hk b hb
  exact h.fz j l hj c hcj
 ·have h1:=h.on c o v hv;have hne:c≠b:=λe=>by subst e;rw[h.po k lb hk c hb o] at hv;cases hv
  exact(World.cell?_of_block (w:=w) (same c (on_lt h.on hv) hne)).trans h1
 exact h.be.grown hg (λj e=>by cases e;exact h.fz k lb hk b hb)
theorem Mem.rem(h:Mem w0 q S L w)(k:Nat):Mem w0 q S (remL L k) w:=by
 have g:∀{j lb},getL (remL L k) j=some lb→getL L j=some lb:=λ{j lb} hj=>by
  rw[zM] at hj;split at hj
  ·cases hj
  exact hj
 exact⟨λj lb hj=>h.ch j lb (g hj),λk1 l1 k2 l2 h1 h2=>h.ap k1 l1 k2 l2 (g h1) (g h2),λj lb hj=>h.po j lb (g hj),λj lb hj=>h.fz j lb (g hj),h.on,h.be,h.gw⟩
theorem xS{n0 key:Nat}{lb:LB}{K:LL→Prop}(h:newK n0 key fr L lb K):n0≤key∧hasF key fr=false∧hasLL key L=false∧K ((key,lb)::L):=by
 unfold newK at h;split at h
 ·rename_i h1;split at h
  ·exact h.elim
  rename_i h2;split at h
  ·exact h.elim
  rename_i h3;exact⟨Nat.le_of_ble_eq_true h1,h2,h3,h⟩
 exact h.elim
theorem okF_upd{key:Nat}{l:Loc}{tm:Array Value}(hf:hasF key fr=false)(h:okF S fr tm):okF (updS S key l) fr tm:=
 xW (λk hk=>zz (λe=>by subst e;rw[hf] at hk;cases hk)) h
theorem Mem.row{key t:Nat}{cs:List SV}{vs:List Value}(h:Mem w0 q S L w)(hf:hasLL key L=false)(hok:okL S cs vs)(hc:hasL key cs=false):
  Mem w0 q (updS S key ⟨w.heap.size,none,0,0,default⟩) ((key,.cells t cs)::L) (w.alloc (.cells vs.toArray t)):=by
 refine h.new hf ((Below.refl _ w).alloc (Nat.le_refl _) _) ⟨?_,vs,?_,?_⟩ ?_
 ·rw[zc];exact Nat.zero_le _
 ·rw[zc];exact heap_alloc_new w _
 ·exact yc cs (λk hk=>zz (λe=>by subst e;rw[hc] at hk;cases hk)) hok
 intro b hb;simp only[blk,zc,Option.some.injEq] at hb;omega
theorem oneL_ok:∀{l:List SV}{vs:List Value},oneL l=true→okL S l vs→∀v∈vs,v.oneCell'=true
 |[],[],_,_,v,hv=>by cases hv
 |[],_::_,_,h,_,_=>by cases h
 |_::_,[],_,h,_,_=>by cases h
 |x::r,u::s,h,hk,v,hv=>by
  have hr:oneL r=true:=by
   unfold oneL at h;split at h<;>first|(cases h;done)|simp_all
  rcases List.mem_cons.1 hv with rfl|hv
  ·have hx:=hk.1
   cases x with
   |v z=>
    have e:v=z:=hx;subst e;cases v<;>first|rfl|(simp[oneL] at h)
   |bb b=>cases hx;rfl
   |b p d=>cases hx;rfl
   |lp k o=>cases hx;rfl
   |own k=>cases hx;rfl
   |el A j=>obtain⟨a,_,rfl⟩:=hx;rfl
   |fn f cs=>obtain⟨vs,rfl,_⟩:=hx;rfl
   |yl k=>cases hx;rfl
   |vw k lo sz n ex=>obtain⟨A,c,rfl,_⟩:=hx;rfl
   |lq k=>rcases hx with rfl|rfl<;>rfl
   |ls k n=>cases hx;rfl
   |mr k=>cases hx;rfl
   |agg l=>simp[oneL] at h
   |tup l=>simp[oneL] at h
   |bad=>simp[oneL] at h
  exact oneL_ok hr hk.2 v hv
theorem oneVL_ok:∀{vs:List Value},oneVL vs=true→∀v∈vs,v.oneCell'=true
 |[],_,v,hv=>by cases hv
 |u::s,h,v,hv=>by
  have hr:oneVL s=true:=by
   unfold oneVL at h;split at h<;>first|(cases h;done)|simp_all
  rcases List.mem_cons.1 hv with rfl|hv
  ·cases v<;>first|rfl|(simp[oneVL] at h)
  exact oneVL_ok hr v hv
theorem boxCells_ok{t:Nat}{x:SV}{v:Value}{K:List SV→Prop}(h:boxCells T t x K)(hx:okv S x v):∃l,K l∧okL S l v.cells.toList∧l.length=(ty T t).sz∧(∀k,hasL k l=true→x.has k=true)∧∀u∈v.cells.toList,u.oneCell'=true:=by
 unfold boxCells at h;split at h
 ·rename_i l;obtain⟨vs,rfl,hok⟩:=hx;split at h
  ·rename_i h1 h2;exact⟨l,h,hok,Nat.eq_of_beq_eq_true h1,λk hk=>hk,oneL_ok h2 hok⟩
  exact h.elim
 ·exact h.elim
 ·exact h.elim
 ·exact h.elim
 ·exact h.elim
 rename_i y h1 h2 h3 h4 h5;split at h
 ·rename_i hs;have hb:x≠.bad:=λe=>h3 e;have hv1:∀z,x=.v z→z.oneCell'=true:=λz e=>by cases z<;>first|rfl|exact absurd e (h4 _)|exact absurd e (h5 _)
  have hc:=cells_one hx (λl e=>h1 l e) hb hv1 (λl e=>h2 l e);refine⟨[x],h,?_,(Nat.eq_of_beq_eq_true hs).symm,λk hk=>?_,λu hu=>?_⟩
  ·rw[hc];exact⟨hx,trivial⟩
  ·unfold hasL at hk;split at hk
   ·assumption
   simp[hasL] at hk
  rw[hc] at hu;simp at hu;subst hu
  cases x with
  |v z=>have e:u=z:=hx;subst e;exact hv1 _ rfl
  |bb b=>cases hx;rfl
  |b p d=>cases hx;rfl
  |lp k o=>cases hx;rfl
  |own k=>cases hx;rfl
  |el A j=>obtain⟨a,_,rfl⟩:=hx;rfl
  |fn f cs=>obtain⟨vs,rfl,_⟩:=hx;rfl
  |yl k=>cases hx;rfl
  |vw k lo sz n ex=>obtain⟨A,c,rfl,_⟩:=hx;rfl
  |lq k=>rcases hx with rfl|rfl<;>rfl
  |ls k n=>cases hx;rfl
  |mr k=>cases hx;rfl
  |agg l=>exact(h1 l rfl).elim
  |tup l=>exact(h2 l rfl).elim
  |bad=>exact absurd rfl hb
 exact h.elim
theorem hasL_valL{k:Nat}:∀(vs:List Value),hasL k (valL vs)=false
 |[]=>rfl
 |v::r=>by cases v<;>simp[valL,hasL,SV.has,hasL_valL r]
theorem run_alloc(hT:zG P T){t:Nat}(h0:(ty T t).d≠.other)(w:World):(Instr.alloc t true (.tuple #[])).run P w=.ok (.pointer (some ⟨w.heap.size,0,none⟩)) (w.alloc (.cells (ty T t).zero.toArray t)):=by
 obtain⟨i,z,hi,_,_,hz,hzc⟩:=(hT t h0).i;simp[Instr.alloc,zeroValue,typeInfo,hi,hz,newVar,newRow,←hzc]
theorem run_box(t:Nat)(v:Value)(w:World):(Instr.box t v).run P w=.ok (.pointer (some ⟨w.heap.size,0,none⟩)) (w.alloc (.cells v.cells t)):=by
 simp[Instr.box,newVar,newRow]
def Src(w:World)(A:Option Addr)(m sz:Nat)(ys:List Value):Prop:=
 ys.length=m*sz∧∀j v,ys[j]?=some v→∃a,A=some a∧a.spot=none∧w.cell? ⟨a.block,a.off+j,none⟩=some v
theorem yX{t ty e:TypeId}{i:TypeInfo}{z:Value}{size bytes:Nat}(ht:P.underlying t=some (.slice e))(hi:P.info? e=some i)(hz:i.zero=some z)
  (hsize:i.size=size) (hby:i.bytes=bytes) (hzs:z.cells.size=size) (hsz:0<size) {base:Nat}
  {v:Value}{n:Nat}{xs:List Value}(hown:w.ownsRow base e size v n xs) {A:Option Addr}{m c:Nat}{ys:List Value}(hs:Src w A m size ys) (h1:∀u∈ys,u.oneCell'=true)
  (h63:n+m≤maxLen) (hbytes:(n+m)*bytes≤140737488355328) (hbase:base≤w.heap.size) :
  ∃v' w',(Builtin.append_ #[t,t] ty #[v,.slice A m c]).run P w=.ok v' w'∧w'.ownsRow base e size v' (n+m) (xs++ys)∧w.grownBy w' v.ownBlock ∧
   (v'.ownBlock=v.ownBlock∨v'.ownBlock=some w.heap.size):=by
 obtain⟨hl,hc⟩:=hs;rcases A with _|ad
 ·have hy:ys=[]:=by
   cases ys with
   |nil=>rfl
   |cons y r=>obtain⟨_,h,_⟩:=hc 0 y rfl;cases h
  subst hy
  have hm:m=0:=by
   rcases Nat.eq_zero_or_pos m with h0|h0
   ·exact h0
   have:=Nat.mul_pos h0 hsz;simp at hl;omega
  subst hm;refine⟨v,w,?_,by simpa using hown,⟨rfl,rfl,rfl,Nat.le_refl _,λ_ _ _=>rfl⟩,.inl rfl⟩;rcases hown.2 with ⟨rfl,rfl⟩|⟨g,cap,cur,rfl,_,_,hnc,_⟩
  ·simp[Builtin.append_,run_underlying ht,sizeOf,typeInfo,hi,Builtin.lenOf,Builtin.firstCells]
  simp[Builtin.append_,run_underlying ht,sizeOf,typeInfo,hi,Builtin.lenOf,Builtin.firstCells,hnc,storeCells]
 obtain ⟨v',w',hr,h2,h3,_,h5⟩:=run_append_own_at (P:=P) w base t ty e i z size bytes ht hi hz hsize hby hzs hsz v n xs hown ad m c ys hl (fun j u hu=>by
  obtain⟨a,ha,hs,h⟩:=hc j u hu;cases ha;rw[add_none hs]
  exact h) h1 h63 hbytes hbase
 exact⟨v',w',hr,h2,h3,h5⟩
open Go.Lib in
theorem run_append_str{t u ty e:TypeId}{i:TypeInfo}{z:Value}(ht:P.underlying t=some (.slice e))(hu:P.underlying u=some .string)(hi:P.info? e=some i)(hz:i.zero=some z)(hzs:z.cells.size=1)
  (hsize:i.size=1) (hby:i.bytes=1) {base:Nat}{v:Value}{n:Nat}{xs:List Value}(hown:w.ownsRow base e 1 v n xs) (s:ByteArray)
  (h63:n+s.size≤maxLen) (hbytes:n+s.size≤140737488355328) (hbase:base≤w.heap.size) :
  ∃v' w',(Builtin.append_ #[t,u] ty #[v,.string s]).run P w=.ok v' w'∧w'.ownsRow base e 1 v' (n+s.size) (xs++s.data.toList.map bv)∧w.grownBy w' v.ownBlock ∧
   (v'.ownBlock=v.ownBlock∨v'.ownBlock=some w.heap.size):=by
 have es:s.data.toList.map bv=strCells s:=rfl;rw[es];have hxl:xs.length=n:=by simpa using hown.1
 have hsl:=strCells_length s;have hall:(xs++strCells s).length=(n+s.size)*1:=by rw[List.length_append,hxl,hsl,Nat.mul_one]
 have hnew:∀old,old<n+s.size→∀cells:Array Value,cells.toList=xs++strCells s++(Builtin.zeroCells z.cells (grownCap w (n+s.size) old e-(n+s.size))).toList →
   (w.drew.alloc (.cells cells e)).ownsRow base e 1 (.slice (some ⟨w.heap.size,0,none⟩) (n+s.size) (grownCap w (n+s.size) old e)) (n+s.size) (xs++strCells s) ∧
   ∀row,w.grownBy (w.drew.alloc (.cells cells e)) row:=by
  intro old ho cells hcl;have hge:=grownCap_ge w (n+s.size) old e;refine⟨⟨hall,.inr ⟨w.heap.size,_,cells,rfl,hbase,heap_alloc_new w.drew _,hge,grownCap_le_maxLen w (n+s.size) old e h63,?_,?_⟩⟩,λrow=>⟨rfl,rfl,rfl,by simp,λk hk _=>heap_alloc_old w.drew _ hk⟩⟩
  ·rw[←Array.length_toList,hcl,List.length_append,hall,Array.length_toList,size_zeroCells,hzs];omega
  rw[hcl,←hall];exact List.take_left
 rcases hown.2 with ⟨rfl,rfl⟩|⟨g,cap,cur,rfl,hbg,hg,hnc,hcm,hcs,htake⟩
 ·have hx:xs=[]:=List.eq_nil_of_length_eq_zero hxl;subst hx;by_cases hm:s.size=0
  ·have hn:strCells s=[]:=List.eq_nil_of_length_eq_zero (by rw[hsl];exact hm);refine⟨.slice none 0 0,w,?_,by rw[hm,hn];exact World.ownsRow_nil w base e 1,⟨rfl,rfl,rfl,Nat.le_refl _,λ_ _ _=>rfl⟩,.inl rfl⟩;have hf:=run_firstCells_string (P:=P) w 1 s;rw[hm] at hf;simp[Builtin.append_,run_underlying ht,run_underlying hu,sizeOf,typeInfo,hi,hsize,Builtin.lenOf,hm,hf]
  unfold maxLen at h63;have hr:=run_append_nil_string (P:=P) w t u ty e i z ht hu hi hz s ws ws (by rw[hby];omega);rw[Nat.zero_add] at hnew ⊢;obtain⟨g1,g2⟩:=hnew 0 ws (s.data.map (λb=>Value.int .u8 b.toNat)++Builtin.zeroCells z.cells (grownCap w s.size 0 e-s.size)) (by simp[strCells]);exact⟨_,_,hr,g1,g2 _,.inr rfl⟩
 by_cases hroom:n+s.size≤cap
 ·have hcs':cur.size=cap:=by simpa using hcs
  have hr:=run_append_room_string (P:=P) w t u ty e i ht hu hi hsize g n cap cur hg s hroom ws;refine⟨_,_,hr,⟨hall,.inr ⟨g,cap,_,rfl,hbg,setRow_heap w g cur _ e _ hg,hroom,hcm,?_,?_⟩⟩,⟨rfl,rfl,rfl,by simp,λk _ hk=>setRow_other w g k _ (λe=>hk (by simp[Value.ownBlock,e]))⟩,.inl rfl⟩
  ·simp only[List.size_toArray,List.length_append,List.length_take,List.length_drop,Array.length_toList,hsl];omega
  have ht':cur.toList.take n=xs:=by simpa using htake
  rw[ht',←hall];exact List.take_left
 have holds:∀j u,xs[j]?=some u→w.cell? ((⟨g,0,none⟩:Addr).add j)=some u:=hown.cells (g:=g) rfl;have h63':=h63;unfold maxLen at h63';have hr:=run_append_grow_string (P:=P) w t u ty e i z ht hu hi hz ⟨g,0,none⟩ n cap xs (by rw[hsize];simpa using hxl) holds s ws ws (by rw[hby];exact growslice_fits ws ws);obtain⟨g1,g2⟩:=hnew cap ws (xs.toArray++(strCells s).toArray++Builtin.zeroCells z.cells (grownCap w (n+s.size) cap e-(n+s.size))) wv;exact⟨_,_,hr,g1,g2 _,.inr rfl⟩
theorem own_form{base e size n:Nat}{v:Value}{xs:List Value}(h:w.ownsRow base e size v n xs):∃A c,v=.slice A n c∧(A=none∨∃g,A=some ⟨g,0,none⟩):=by
 rcases h.2 with ⟨rfl,rfl⟩|⟨g,cap,cur,rfl,_⟩
 ·exact⟨none,0,rfl,.inl rfl⟩
 exact⟨_,cap,rfl,.inr ⟨g,rfl⟩⟩
def yA(A:Option Addr)(n c:Nat):Loc:=⟨(A.map (·.block)).getD 0,A,n,c,default⟩
theorem xY{N0 k e sz n c:Nat}{A:Option Addr}{xs:List Value}(hown:w.ownsRow N0 e sz (.slice A n c) n xs)(hsz:0<sz)(h1:∀x∈xs,x.oneCell'=true)(hA:A=none∨∃g,A=some ⟨g,0,none⟩):
  zD N0 (updS S k (yA A n c)) k (.arr e sz n xs) w:=by
 simp only[zD,zc,yA];refine⟨hown,trivial,hsz,h1,?_⟩;rcases hA with rfl|⟨g,rfl⟩
 ·exact .inl rfl
 exact .inr rfl
theorem Mem.app{k key e e' sz sz' n n' c':Nat}{xs xs':List Value}{A':Option Addr}(h:Mem w0 q S L w)(hk:getL L k=some (.arr e sz n xs))(hf:hasLL key L=false)
  (hg:w.grownBy w' (Value.slice (S k).A (S k).n (S k).c).ownBlock) (hown:w'.ownsRow 0 e' sz' (.slice A' n' c') n' xs') (hsz:0<sz') (h1:∀x∈xs',x.oneCell'=true) (hA:A'=none∨∃g,A'=some ⟨g,0,none⟩)
  (hb:(Value.slice A' n' c').ownBlock=(Value.slice (S k).A (S k).n (S k).c).ownBlock∨(Value.slice A' n' c').ownBlock=some w.heap.size) :
  Mem w0 q (updS S key (yA A' n' c')) ((key,.arr e' sz' n' xs')::remL L k) w':=by
 have hne:∀j,hasLL j L=true→updS S key (yA A' n' c') j=S j:=λj hj=>zz (λe=>by subst e;rw[hf] at hj;cases hj);have hne':∀j lb,getL L j=some lb→updS S key (yA A' n' c') j=S j:=λj lb hj=>hne j (zm hj (.inl rfl));have own_blk:∀(A:Option Addr) (n c:Nat),(Value.slice A n c).ownBlock=A.map (·.block):=λA n c=>by cases A<;>rfl
 rw[own_blk,own_blk] at hb;rw[own_blk] at hg;have hkb:blk S k (.arr e sz n xs)=(S k).A.map (·.block):=rfl;have lt:=λj lb (hj:getL L j=some lb) b (hb:blk S j lb=some b)=>(blk_lt (h.ch j lb hj) hb)
 have g:∀{j lb},getL (remL L k) j=some lb→getL L j=some lb∧j≠k:=λ{j lb} hj=>by
  rw[zM] at hj;split at hj
  ·cases hj
  rename_i e;exact⟨hj,λe'=>e e'.symm⟩
 have same:∀j lb,getL L j=some lb→j≠k→∀b,blk S j lb=some b→w'.heap[b]?=w.heap[b]?:=λj lb hj hjk b hbj=>
  hg.block b (lt j lb hj b hbj).2 (λe=>h.ap j lb k _ hj hk hjk b hbj (by rw[hkb];exact e.symm))
 have hnew:blk (updS S key (yA A' n' c')) key (.arr e' sz' n' xs')=A'.map (·.block):=by simp[blk,zc,yA]
 refine⟨λj lb hj=>?_,λk1 l1 k2 l2 hk1 hk2 hne2 b hb1 hb2=>?_,λj lb hj b hbj o=>?_,λj lb hj b hbj hF=>?_,λb o v hv=>?_,?_,h.gw⟩
 ·rw[ze] at hj;split at hj
  ·rename_i e;subst e;cases hj;exact xY hown hsz h1 hA
  obtain⟨hj1,hj2⟩:=g hj;refine yt (hne' j lb hj1) (λi hi=>hne i (zm hj1 (.inr hi))) ?_;exact zI (h.ch j lb hj1) (same j lb hj1 hj2)
 ·have old:∀j lb b,getL L j=some lb→j≠k→blk (updS S key (yA A' n' c')) j lb=some b→A'.map (·.block)=some b→False:=by
   intro j lb b hj hjk hbj hA';rw[zX (hne' j lb hj)] at hbj;rcases hb with e|e
   ·exact h.ap j lb k _ hj hk hjk b hbj (by rw[hkb,←e];exact hA')
   rw[e] at hA';cases hA';have:=(lt j lb hj _ hbj).2;omega
  rw[ze] at hk1 hk2;split at hk1
  ·rename_i e;subst e;cases hk1;rw[if_neg hne2] at hk2;obtain⟨hj1,hj2⟩:=g hk2;exact old k2 l2 b hj1 hj2 hb2 (hnew.symm.trans hb1)
  split at hk2
  ·rename_i e;subst e;cases hk2;obtain⟨hj1,hj2⟩:=g hk1;exact old k1 l1 b hj1 hj2 hb1 (hnew.symm.trans hb2)
  obtain⟨hj1,hj2⟩:=g hk1;obtain⟨hj3,hj4⟩:=g hk2;rw[zX (hne' k1 l1 hj1)] at hb1;rw[zX (hne' k2 l2 hj3)] at hb2;exact h.ap k1 l1 k2 l2 hj1 hj3 hne2 b hb1 hb2
 ·rw[ze] at hj;split at hj
  ·rename_i e;subst e;cases hj;rw[hnew] at hbj;rcases hb with e|e
   ·exact h.po k _ hk b (by rw[hkb,←e];exact hbj) o
   rw[e] at hbj;cases hbj
   cases hq:q w.heap.size o with
   |none=>rfl
   |some v=>have:=on_lt h.on hq;omega
  obtain⟨hj1,hj2⟩:=g hj;rw[zX (hne' j lb hj1)] at hbj;exact h.po j lb hj1 b hbj o
 ·rw[ze] at hj;split at hj
  ·rename_i e;subst e;cases hj;rw[hnew] at hbj;rcases hb with e|e
   ·exact h.fz k _ hk b (by rw[hkb,←e];exact hbj) hF
   rw[e] at hbj;cases hbj;have:=w0.lt _ hF;have:=h.be.size;omega
  obtain⟨hj1,hj2⟩:=g hj;rw[zX (hne' j lb hj1)] at hbj;exact h.fz j lb hj1 b hbj hF
 ·have h2:=h.on b o v hv;refine(World.cell?_of_block (w:=w) (hg.block b (on_lt h.on hv) λe=>?_)).trans h2;rw[h.po k _ hk b (by rw[hkb];exact e.symm) o] at hv;cases hv
 exact h.be.grown hg (λj e=>h.fz k _ hk j (by rw[hkb];exact e))
end
section
variable {P:Program}{S S' Sb:Pl}{fr:Fr}{L L':LL}{q q':PH}{w0:W0}{w w':World}{a:Act}{n0 N:Nat}{B:Nat→Prop}
def FF(r:Option Nat):Fence:={ Fence.wide with round:=r }
theorem yw{r:Option Nat}{n:Nat}{f:FuncId}{args:Array Value}{R:Ending→World→Prop}(h:Calls P f args w R):CallsIn (FF r) n P f args w R:=
 (callsIn_wide (n:=n)).2 h
def markOf(b:Nat):Deferred:={ target:=.collected b,args:=#[] }
def MarksOk(w0:W0)(ms:List Deferred):Prop:=∃Hs:List Nat,ms=Hs.map markOf∧Hs.Nodup∧∀b∈Hs,w0.F b∧¬w0.F0 b∧w0.w.heap[b]?=some (.deferred (some []))
theorem MarksOk.nil(w0:W0):MarksOk w0 []:=⟨[],rfl,.nil,λ_ h=>by cases h⟩
structure Ext (w0 w1:W0):Prop where
 F0:w1.F0=w0.F0
 F:∀b,w0.F b→w1.F b
 be:Bel w0 w1.w
 q:∀b o v,w1.q b o=some v→w0.F b→w0.q b o=some v
theorem Ext.refl(w0:W0):Ext w0 w0:=⟨rfl,λ_ h=>h,.refl w0,λ_ _ _ h _=>h⟩
theorem Ext.bel{w1:W0}(h:Ext w0 w1)(hb:Bel w1 w):Bel w0 w:=
 ⟨hb.os.trans h.be.os,hb.tape.trans h.be.tape,hb.output.trans h.be.output,Nat.le_trans h.be.size hb.size,λb hF=>(hb.block b (h.F b hF)).trans (h.be.block b hF)⟩
theorem Ext.trans{w1 w2:W0}(h:Ext w0 w1)(h':Ext w1 w2):Ext w0 w2:=⟨h'.F0.trans h.F0,λb hb=>h'.F b (h.F b hb),h.bel h'.be,λb o v hv hF=>h.q b o v (h'.q b o v hv (h.F b hF)) hF⟩
theorem Ext.mem{w1:W0}(h:Ext w0 w1)(hm:Mem w1 q S L w):Mem w0 q S L w:=⟨hm.ch,hm.ap,hm.po,λk x hk b hb hF=>hm.fz k x hk b hb (h.F b hF),hm.on,h.bel hm.be,λb o v hv hF=>h.q b o v (hm.gw b o v hv (h.F b hF)) hF⟩
structure Cfg (w0:W0) (Sb:Pl) (B:Nat→Prop) (n0 N:Nat) (S:Pl) (q:PH) (fr:Fr) (L:LL) (a:Act) (w:World):Prop where
 ag:∀k,k<n0→S k=Sb k
 b:∀d,d<n0→B d→getL L d=some .dfr
 m:Mem w0 q S L w
 f:okF S fr a.tmps
 n:a.tmps.size=N
 d:MarksOk w0 a.defers
def St(w0:W0)(Sb:Pl)(B:Nat→Prop)(n0 N:Nat)(K:Kt)(a:Act)(w:World):Prop:=
 ∃S q fr L nk,Cfg w0 Sb B n0 N S q fr L a w∧K nk q fr L
def HdOk(P:Program)(S:Pl)(k:Nat)(h:Hd):Prop:=
 ∀(w0:W0) args nk1 q L K vs w S1 r n,k+2≤nk1→(∀j,j<k+2→S1 j=S j)→h args nk1 q L K→okL S1 args vs→Mem w0 q S1 L w →
  ∃fn tmps assign body,(Instr.yield (S k).b vs.toArray).run P w=.ok (.round (S k).b fn tmps assign body) w ∧
   RoundIn (FF r) n P (S k).b fn tmps assign body w λe w'=>∃b S2 q2 L2 nk2,e=.returned (.bool b)∧(∀j,j<nk1→S2 j=S1 j)∧Mem w0 q2 S2 L2 w' ∧
    (∀d,d<nk1→getL L d=some .dfr→getL L2 d=some .dfr)∧K (.bb b) nk2 q2 L2
def YOk(P:Program)(S:Pl)(Y:Ye)(n0:Nat):Prop:=∀k h,yGet Y k=some h→k+2≤n0∧HdOk P S k h
theorem YOk.congr{Y:Ye}(h:YOk P S Y n0)(hs:∀k,k<n0→S' k=S k):YOk P S' Y n0:=λk hd hk=>by
 obtain⟨h1,h2⟩:=h k hd hk;refine⟨h1,λw0 args nk1 q L K vs w S1 r n h0 hj=>?_⟩;rw[hs k ws];exact h2 w0 args nk1 q L K vs w S1 r n h0 (λj hj'=>(hj j hj').trans (hs j ws))
theorem YOk.more{Y:Ye}(h:YOk P S Y n0){n1:Nat}(hn:n0≤n1):YOk P S Y n1:=λk hd hk=>⟨Nat.le_trans (h k hd hk).1 hn,(h k hd hk).2⟩
def yE(P:Program)(inl:Inl):Prop:=
 ∀(w0:W0) Y f args nk q L K vs w S r n,inl Y f args nk q L K→YOk P S Y nk→okL S args vs→Mem w0 q S L w →
  (∀args w,(callFunc f args).run P w=.ok (.enter f args) w) ∧
  CallsIn (FF r) n P f vs.toArray w λe w'=>∃v x S' q' L' nk',e=.returned v∧okv S' x v∧(∀k,k<nk→S' k=S k)∧Mem w0 q' S' L' w' ∧
   (∀d,d<nk→getL L d=some .dfr→getL L' d=some .dfr)∧K x nk' q' L'
mutual
theorem ltK_has:∀(x:SV) {b k:Nat},ltK b x=true→x.has k=true→k<b
 |.lp j _,b,k,h,hk=>by have:=Nat.eq_of_beq_eq_true (by simpa[SV.has] using hk:Nat.beq j k=true);subst this;exact Nat.le_of_ble_eq_true h
 |.own j,b,k,h,hk=>by have:=Nat.eq_of_beq_eq_true (by simpa[SV.has] using hk:Nat.beq j k=true);subst this;exact Nat.le_of_ble_eq_true h
 |.yl j,b,k,h,hk=>by have:=Nat.eq_of_beq_eq_true (by simpa[SV.has] using hk:Nat.beq j k=true);subst this;exact Nat.le_of_ble_eq_true h
 |.ls j _,b,k,h,hk=>by have:=Nat.eq_of_beq_eq_true (by simpa[SV.has] using hk:Nat.beq j k=true);subst this;exact Nat.le_of_ble_eq_true h
 |.mr j,b,k,h,hk=>by have:=Nat.eq_of_beq_eq_true (by simpa[SV.has] using hk:Nat.beq j k=true);subst this;exact Nat.le_of_ble_eq_true h
 |.lq j,b,k,h,hk=>by have:=Nat.eq_of_beq_eq_true (by simpa[SV.has] using hk:Nat.beq j k=true);subst this;exact Nat.le_of_ble_eq_true h
 |.vw j _ _ _ _,b,k,h,hk=>by have:=Nat.eq_of_beq_eq_true (by simpa[SV.has] using hk:Nat.beq j k=true);subst this;exact Nat.le_of_ble_eq_true h
 |.agg l,b,k,h,hk=>ltKL_has l vF wF
 |.tup l,b,k,h,hk=>ltKL_has l vF wF
 |.fn _ l,b,k,h,hk=>ltKL_has l vF wF
 |.v _,_,_,_,hk=>by simp[SV.has] at hk
 |.bb _,_,_,_,hk=>by simp[SV.has] at hk
 |.b _ _,_,_,_,hk=>by simp[SV.has] at hk
 |.el _ _,_,_,_,hk=>by simp[SV.has] at hk
 |.bad,_,_,_,hk=>by simp[SV.has] at hk
theorem ltKL_has:∀(l:List SV) {b k:Nat},ltKL b l=true→hasL k l=true→k<b
 |[],_,_,_,hk=>by simp[hasL] at hk
 |x::r,b,k,h,hk=>by
  unfold ltKL at h;unfold hasL at hk;split at h
  ·rename_i hx;split at hk
   ·exact ltK_has x hx (by assumption)
   exact ltKL_has r h hk
  cases h
end
theorem ltF_has:∀{fr:Fr}{b k:Nat},ltF b fr=true→hasF k fr=true→k<b
 |[],_,_,_,hk=>by simp[hasF_n] at hk
 |(u,x)::r,b,k,h,hk=>by
  rw[ltF_c] at h;rw[hasF_c] at hk;split at h
  ·rename_i hx;split at hk
   ·exact ltK_has x hx (by assumption)
   exact ltF_has h hk
  cases h
theorem zT:∀{L:LL}{b k:Nat},ltLL b L=true→hasLL k L=true→k<b
 |[],_,_,_,hk=>by simp[hasLL_n] at hk
 |(u,x)::r,b,k,h,hk=>by
  rw[ltLL_c] at h;rw[hasLL_c] at hk;split at h;rotate_left
  ·cases h
  rename_i hu;have hu:u<b:=Nat.le_of_ble_eq_true hu;split at hk
  ·rename_i e;have:=Nat.eq_of_beq_eq_true e;omega
  cases x with
  |cells T cs=>
   simp only at h;split at h
   ·rename_i hc;split at hk
    ·rename_i hx;exact ltKL_has cs hc (by simpa[LB.has] using hx)
    exact zT h hk
   cases h
  |row E sz n cs=>
   simp only at h;split at h
   ·rename_i hc;split at hk
    ·rename_i hx;exact ltKL_has cs hc (by simpa[LB.has] using hx)
    exact zT h hk
   cases h
  |arr E sz n xs=>simp only[LB.has] at hk h;exact zT h vd
  |dfr=>simp only[LB.has] at hk h;exact zT h vd
  |mp es c=>simp only[LB.has] at hk h;exact zT h vd
  |sb E n xs=>simp only[LB.has] at hk h;exact zT h vd
  |loop st pe=>simp only[LB.has] at hk h;exact zT h vd
theorem wn:∀{L:LL}{b k:Nat},dLt b L=true→getL L k=some .dfr→k<b
 |[],_,_,_,hk=>by cases hk
 |(u,x)::r,b,k,h,hk=>by
  rw[ze] at hk;unfold dLt at h;split at hk
  ·rename_i e;subst e;cases hk;simp only at h;split at h
   ·rename_i hu;exact Nat.le_of_ble_eq_true hu
   cases h
  cases x with
  |dfr=>
   simp only at h;split at h
   ·exact wn h hk
   cases h
  |cells T cs=>exact wn h hk
  |arr E sz n xs=>exact wn h hk
  |row E sz n cs=>exact wn h hk
  |loop st pe=>exact wn h hk
  |mp es c=>exact wn h hk
  |sb E n xs=>exact wn h hk
theorem Cfg.put{dst:Option Nat}{x:SV}{v:Value}{K:Fr→Prop}(hc:Cfg w0 Sb B n0 N S q fr L a w)(h:putK N dst x fr K)(hx:okv S x v):∃fr',K fr'∧Cfg w0 Sb B n0 N S q fr' L (a.put dst v) w:=by
 unfold putK at h;split at h
 ·exact⟨fr,h,hc⟩
 rename_i d;split at h
 ·rename_i hd;have hd:d<N:=Nat.le_of_ble_eq_true hd;exact⟨_,h,hc.ag,hc.b,hc.m,okF_put hc.f hx (by rw[hc.n];exact hd),by simp[Act.put,hc.n],hc.d⟩
 exact h.elim
theorem Cfg.new{key:Nat}{lb:LB}{l:Loc}(hc:Cfg w0 Sb B n0 N S q fr L a w)(h0:n0≤key)(h1:hasF key fr=false)(h2:hasLL key L=false)(hm:Mem w0 q (updS S key l) ((key,lb)::L) w'):
  Cfg w0 Sb B n0 N (updS S key l) q fr ((key,lb)::L) a w':=by
 have hne:∀d,getL L d=some .dfr→d≠key:=λd hd e=>by subst e;rw[zm hd (.inl rfl)] at h2;cases h2
 have hg:∀d,getL L d=some .dfr→getL ((key,lb)::L) d=some .dfr:=λd hd=>by rw[ze,if_neg (λe=>hne d hd e.symm)];exact hd
 exact⟨λk hk=>(zz ws).trans (hc.ag k hk),λd hd hB=>hg d (hc.b d hd hB),hm,okF_upd h1 hc.f,hc.n,hc.d⟩
theorem Cfg.rem{key k e sz n:Nat}{xs:List Value}{lb:LB}{l:Loc}(hc:Cfg w0 Sb B n0 N S q fr L a w)(h0:n0≤key)(h1:hasF key fr=false)(h2:hasLL key L=false)(hk:getL L k=some (.arr e sz n xs))(hm:Mem w0 q (updS S key l) ((key,lb)::remL L k) w'):
  Cfg w0 Sb B n0 N (updS S key l) q fr ((key,lb)::remL L k) a w':=by
 have hne:∀d,getL L d=some .dfr→d≠key:=λd hd e=>by subst e;rw[zm hd (.inl rfl)] at h2;cases h2
 have hg:∀d,getL L d=some .dfr→getL ((key,lb)::remL L k) d=some .dfr:=λd hd=>by
  rw[ze,if_neg (λe=>hne d hd e.symm),zM];rw[if_neg (λe=>by subst e;rw[hk] at hd;cases hd)];exact hd
 exact⟨λk hk=>(zz ws).trans (hc.ag k hk),λd hd hB=>hg d (hc.b d hd hB),hm,okF_upd h1 hc.f,hc.n,hc.d⟩
theorem Cfg.turn{k:Nat}{lb lb':LB}(hc:Cfg w0 Sb B n0 N S q fr L a w)(hk:getL L k=some lb)(hn:lb≠.dfr)(hm:Mem w0 q S (setL L k lb') w'):Cfg w0 Sb B n0 N S q fr (setL L k lb') a w':=by
 have hg:∀d,getL L d=some .dfr→getL (setL L k lb') d=some .dfr:=λd hd=>by
  rw[zK,if_neg (λe=>by subst e;rw[hk] at hd;cases hd;exact hn rfl)];exact hd
 exact⟨hc.ag,λd hd hB=>hg d (hc.b d hd hB),hm,hc.f,hc.n,hc.d⟩
theorem Cfg.mem(hc:Cfg w0 Sb B n0 N S q fr L a w)(hm:Mem w0 q' S L w'):Cfg w0 Sb B n0 N S q' fr L a w':=⟨hc.ag,hc.b,hm,hc.f,hc.n,hc.d⟩
section
variable {r:Option Nat}{n:Nat}{o:Oper}{next:Act→World→Prop}{Q:Exit→Act→World→Prop}
theorem zA{v:Value}(hd:∀c,o.op≠.defer c)(hr:(execOp a.eval o).run P w=.ok (.value v) w')(h:next (a.put o.dst v) w'):Oper.wpIn (FF r) n P o a w next Q:=by
 refine⟨λ_ _=>trivial,?_⟩;rw[Oper.semAt_eq _ _ _ hd,hr];exact h
theorem wpIn_skip'(hd:∀c,o.op≠.defer c)(hr:(execOp a.eval o).run P w=.ok .skip w')(h:next (a.put o.dst undef) w'):Oper.wpIn (FF r) n P o a w next Q:=by
 refine⟨λ_ _=>trivial,?_⟩;rw[Oper.semAt_eq _ _ _ hd,hr];exact h
theorem wpIn_enter{f:FuncId}{args:Array Value}(hd:∀c,o.op≠.defer c)(hr:(execOp a.eval o).run P w=.ok (.enter f args) w){R:Ending→World→Prop}(hc:CallsIn (FF r) (n-1) P f args w R)
  (h:∀e w',R e w'→∃v,e=.returned v∧next (a.put o.dst v) w'):Oper.wpIn (FF r) n P o a w next Q:=by
 refine⟨λ_ _=>trivial,?_⟩;rw[Oper.semAt_eq _ _ _ hd,hr];refine⟨λh=>wL,hc.mono λe w' he=>?_⟩;obtain⟨v,rfl,hn⟩:=h e w' he;exact hn
theorem wpIn_round{l f:Nat}{tmps:Array Value}{assign body:Code}(hd:∀c,o.op≠.defer c)(hr:(execOp a.eval o).run P w=.ok (.round l f tmps assign body) w){R:Ending→World→Prop}(hc:RoundIn (FF r) (n-1) P l f tmps assign body w R)
  (h:∀e w',R e w'→∃v,e=.returned v∧next (a.put o.dst v) w'):Oper.wpIn (FF r) n P o a w next Q:=by
 refine⟨λ_ _=>trivial,?_⟩;rw[Oper.semAt_eq _ _ _ hd,hr];refine⟨λh=>wL,hc.mono λe w' he=>?_⟩;obtain⟨v,rfl,hn⟩:=h e w' he;exact hn
theorem wpIn_calm{C:World→Prop}{x:Value}(hd:∀c,o.op≠.defer c)(hCc:∀w w',C w→Below w.heap.size w w'→C w')(hy:Yl P C a.eval o x)(hw:C w)(h:∀w',C w'→next (a.put o.dst x) w'):Oper.wpIn (FF r) n P o a w next Q:=by
 refine⟨λ_ _=>trivial,?_⟩;rw[Oper.semAt_eq _ _ _ hd];have hy:=hy w hw
 revert hy
 generalize (execOp a.eval o).run P w=res;intro hy
 cases res with
 |halt x w'=>simp only[Oper.quietUpon] at hy
 |ok nx w'=>
  cases nx<;>simp only[Oper.quietUpon] at hy<;>simp only[Oper.uponIn]
  case value u=>obtain⟨rfl,rfl⟩:=hy;exact h _ hw
  case skip=>obtain⟨rfl,rfl⟩:=hy;exact h _ hw
  case enter f args=>
   obtain⟨rfl,hc⟩:=hy;exact⟨λh=>wL,(yw hc).mono λe w'' ⟨he,hw''⟩=>by subst he;exact h _ (hCc _ _ hw hw'')⟩
theorem wpIn_quiet{C:World→Prop}{x:Value}(hd:∀c,o.op≠.defer c)(hy:∀w,C w→Oper.quietUpon P C w x ((execOp a.eval o).run P w))(hw:C w)(h:∀w',C w'→next (a.put o.dst x) w'):Oper.wpIn (FF r) n P o a w next Q:=by
 refine⟨λ_ _=>trivial,?_⟩;rw[Oper.semAt_eq _ _ _ hd];have hy:=hy w hw
 revert hy
 generalize (execOp a.eval o).run P w=res;intro hy
 cases res with
 |halt x w'=>simp only[Oper.quietUpon] at hy
 |ok nx w'=>
  cases nx<;>simp only[Oper.quietUpon] at hy<;>simp only[Oper.uponIn]
  case value u=>obtain⟨rfl,rfl⟩:=hy;exact h _ hw
  case skip=>obtain⟨rfl,rfl⟩:=hy;exact h _ hw
  case enter f args=>
   obtain⟨rfl,hc⟩:=hy;exact⟨λh=>wL,(yw hc).mono λe w'' ⟨he,hw''⟩=>by subst he;exact h _ hw''⟩
end
theorem Cfg.back{nk:Nat}(hc:Cfg w0 Sb B n0 N S q fr L a w)(h0:n0≤nk)(hf:ltF nk fr=true)(hd:∀d,getL L d=some .dfr→d<nk)(hs:∀k,k<nk→S' k=S k)(hm:Mem w0 q' S' L' w')(hk:∀d,d<nk→getL L d=some .dfr→getL L' d=some .dfr):
  Cfg w0 Sb B n0 N S' q' fr L' a w':=
 ⟨λk hk'=>(hs k ws).trans (hc.ag k hk'),λd hd' hB=>hk d ws (hc.b d hd' hB),hm,xW (λk hk'=>hs k (ltF_has hf hk')) hc.f,hc.n,hc.d⟩
theorem src_of_reads{A:Option Addr}{m sz:Nat}{ys:List Value}(hon:PH.on q w)(hl:ys.length=m*sz)(hr:Reads q A ys):Src w A m sz ys:=
 ⟨hl,λ_ _ hv=>rd_cell hon ((hr _ (List.getElem?_eq_some_iff.1 hv).1).trans hv)⟩
theorem src_of_own{k e sz n:Nat}{xs:List Value}{N0:Nat}(h:zD N0 S k (.arr e sz n xs) w):Src w (S k).A n sz xs:=by
 obtain⟨hown,hn,_,_,hA⟩:=h;rw[hn] at hown;refine⟨hown.1,λj v hv=>?_⟩;rcases hA with hA|hA
 ·have:xs=[]:=by
   rcases hown.2 with ⟨_,hn0⟩|⟨g,cap,cur,hv,_⟩
   ·exact List.eq_nil_of_length_eq_zero wK
   rw[hA] at hv;cases hv
  subst this;simp at hv
 have:=hown.cells (g:=(S k).b) wJ j v hv;rw[Addr.add_lit] at this;exact⟨_,hA,rfl,this⟩
end
end Go.Eng
