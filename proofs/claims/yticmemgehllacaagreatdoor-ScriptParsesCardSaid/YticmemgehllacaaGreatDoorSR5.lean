/- Texts that the law leans on. -/
import Derived.Test.YticmemgehllacaaGreatDoorSR4
import Derived.Test.YticmemgehllacaaGreatDoorSR3
import Derived.Test.YticmemgehllacaaGreatDoorSR2
import Derived.Lib.IndexMore
import Derived.MapKept
import Derived.Carry
set_option maxRecDepth 8000
set_option maxHeartbeats 4000000
set_option linter.unusedVariables false
set_option linter.unusedSimpArgs false
namespace Go.Proofs.YticmemgehllacaaGreatDoor
open Go Go.Eng
noncomputable def g205(b:ByteArray)(a:ByteArray):Option (Bool):= if (a.size:Int)≤(b.size:Int) then(ck (0≤(0:Int)∧(0:Int)≤(a.size:Int)∧(a.size:Int)≤(b.size:Int))<|some (decide ((b.extract (0:Int).toNat (a.size:Int).toNat).data.toList=a.data.toList)))else some false
noncomputable def k205:Eng.CS:={ f:=205,calm:=true,more:=0,ι:=ByteArray×ByteArray×Bool,ok:=λi=>g205 i.1 i.2.1=some i.2.2,rds:=λ_=>[],args:=λi=>[.w (.v (.string (i.1))),.w (.v (.string (i.2.1)))],res:=λi=>bS i.2.2 }
theorem k205_ok:zp Tryz.prog k205:=by
 refine R.calmspec Tryz.func205 (nq9 Tryz.func205) rfl ?_;rintro⟨b,c,r⟩ hok q _ args hargs
 match args,hargs with
 |[_,_],hargs=>
 obtain⟨rfl,rfl,_⟩:=hargs;refine⟨envC [] false [],6,zi (zj),rfl,(nM2 rfl rfl),?_⟩;have H:zf (g205 b c) (λa=>a=r):=⟨r,hok,rfl⟩;unfold g205 at H;clear hok;exact zk
noncomputable def g121(a:ByteArray)(b:ByteArray):Option (ByteArray×Bool):= (g205 a b).bind λc=>if ¬(c=true) then some (a,false)else(ck (0≤(b.size:Int)∧(b.size:Int)≤(a.size:Int)∧(a.size:Int)≤(a.size:Int))<|some (a.extract (b.size:Int).toNat (a.size:Int).toNat,true))
noncomputable def k121:Eng.CS:={ f:=121,calm:=true,more:=0,ι:=ByteArray×ByteArray×(ByteArray×Bool),ok:=λi=>g121 i.1 i.2.1=some i.2.2,rds:=λ_=>[],args:=λi=>[.w (.v (.string (i.1))),.w (.v (.string (i.2.1)))],res:=λi=>.tup [.v (.string (i.2.2.1)),bS i.2.2.2] }
theorem k121_ok:zp Tryz.prog k121:=by
 refine R.calmspec Tryz.func121 (nq9 Tryz.func121) rfl ?_;rintro⟨b,c,r⟩ hok q _ args hargs
 match args,hargs with
 |[_,_],hargs=>
 obtain⟨rfl,rfl,_⟩:=hargs;refine⟨envC [k205] false [],6,zi (z8 ⟨λ_=>k205_ok,nofun⟩ (zj)),rfl,(nM2 rfl rfl),?_⟩;have H:zf (g121 b c) (λa=>a=r):=⟨r,hok,rfl⟩;unfold g121 at H;clear hok;exact zk
noncomputable def g60(b:ByteArray)(c:ByteArray):Option (ByteArray×Bool):= (g121 b c).bind λa=>some (a.1,a.2)
noncomputable def k60:Eng.CS:={ f:=60,calm:=true,more:=0,ι:=ByteArray×ByteArray×(ByteArray×Bool),ok:=λi=>g60 i.1 i.2.1=some i.2.2,rds:=λ_=>[],args:=λi=>[.w (.v (.string (i.1))),.w (.v (.string (i.2.1)))],res:=λi=>.tup [.v (.string (i.2.2.1)),bS i.2.2.2] }
theorem k60_ok:zp Tryz.prog k60:=by
 refine R.calmspec Tryz.func60 (nq9 Tryz.func60) rfl ?_;rintro⟨b,c,r⟩ hok q _ args hargs
 match args,hargs with
 |[_,_],hargs=>
 obtain⟨rfl,rfl,_⟩:=hargs;refine⟨envC [k121] false [],6,zi (z8 ⟨λ_=>k121_ok,nofun⟩ (zj)),rfl,(nM2 rfl rfl),?_⟩;have H:zf (g60 b c) (λa=>a=r):=⟨r,hok,rfl⟩;unfold g60 at H;clear hok;exact zk
noncomputable def g122(a:Int):Option (ByteArray):= if 10≤a then(ck (inR .i64 (48+a))<|ck (inR .i64 ((48+a)-10))<|ck (zx ([IntKind.wrap .u8 ((48+a)-10)]))<|ck ((lit [49]).size+(zW ([IntKind.wrap .u8 ((48+a)-10)])).size≤9223372036854775807)<|some ((lit [49])++(zW ([IntKind.wrap .u8 ((48+a)-10)]))))else(ck (inR .i64 (48+a))<|ck (zx ([IntKind.wrap .u8 (48+a)]))<|some (zW ([IntKind.wrap .u8 (48+a)])))
noncomputable def k122:Eng.CS:={ f:=122,calm:=true,more:=0,ι:=Int×ByteArray,ok:=λi=>g122 i.1=some i.2,rds:=λ_=>[],args:=λi=>[.w (.v (.int .i64 (i.1)))],res:=λi=>.v (.string (i.2)) }
theorem k122_ok:zp Tryz.prog k122:=by
 refine R.calmspec Tryz.func122 (nq9 Tryz.func122) rfl ?_;rintro⟨b,r⟩ hok q _ args hargs
 match args,hargs with
 |[_],hargs=>
 obtain⟨rfl,_⟩:=hargs;refine⟨envC [] false [],6,zi (zj),rfl,(nM1 rfl),?_⟩;have H:zf (g122 b) (λa=>a=r):=⟨r,hok,rfl⟩;unfold g122 at H;clear hok;refine zb H ?_ ?_<;>intro c H
 ·refine zr H λd H=>?_;refine zr H λe H=>?_;refine yI (l:=[IntKind.wrap .u8 ((48+b)-10)]) H λf H=>?_;exact zk
 refine zr H λg H=>?_;refine yI (l:=[IntKind.wrap .u8 (48+b)]) H λh H=>?_;exact zk
noncomputable def g124  : Option (List ByteArray):= some ([(lit [116,101,120,116]),(lit [101,110,116,101,114]),(lit [116,97,98]),(lit [98,97,99,107,116,97,98]),(lit [101,115,99,97,112,101]),(lit [98,97,99,107,115,112,97,99,101]),(lit [100,101,108,101,116,101]),(lit [117,112]),(lit [100,111,119,110]),(lit [108,101,102,116]),(lit [114,105,103,104,116]),(lit [104,111,109,101]),(lit [101,110,100]),(lit [112,97,103,101,117,112]),(lit [112,97,103,101,100,111,119,110]),(lit [112,97,115,116,101]),(lit [99,116,114,108,45]),(lit [102])])
noncomputable def k124:Eng.CS:={ f:=124,calm:=false,more:=1,ι:=List ByteArray,ok:=λi=>g124  = some i,rds:=λ_=>[],args:=λi=>[],res:=λi=>.own 0,L':=λi=>[(0,.arr 9 1 i.length (es i))],rn:=[(0,0,9,1)] }
set_option maxRecDepth 60000 in
set_option maxHeartbeats 4000000 in
theorem k124_ok:CSOk Tryz.prog k124:=by
 refine R.cspec Tryz.func124 (nq9 Tryz.func124) rfl ?_;rintro r hok q _ args hargs
 match args,hargs with
 |[],hargs=>
 refine⟨envC [] false [],6,zi (zj),?_⟩;have H:zf (g124 ) (λa=>a=r):=⟨r,hok,rfl⟩;unfold g124 at H;clear hok;have hfin:=zo H
 repeat refine xQ ?_
 trivial
noncomputable def g123(b:List ByteArray)(c:ByteArray):Option (Int):= jn (α:=_) (β:=Unit) (λd=>(y7 (σ:=Int) (ρ:=(Int) ⊕ (Unit)) (λa=>if a<((b.length:Nat):Int) then(ck (0≤a∧a<((b.length:Nat):Int))<|if c.data.toList=(b.getD a.toNat default).data.toList then some (.out (.inl (a)))else(ck (inR .i64 (a+1))<|some (.go (a+1))))else some (.out (.inr (())))) 0).bind λe=>sm e (λf=>some f) (λg=>d ())) (λh=>some (-1))
noncomputable def k123:Eng.CS:={ f:=123,calm:=true,more:=0,ι:=(List ByteArray)×ByteArray×Int,ok:=λi=>g123 i.1 i.2.1=some i.2.2,rds:=λ_=>[],args:=λi=>[.sl 1 i.1.length (es i.1),.w (.v (.string (i.2.1)))],res:=λi=>.v (.int .i64 (i.2.2)) }
theorem k123_ok:zp Tryz.prog k123:=by
 refine R.calmspec Tryz.func123 (nq9 Tryz.func123) rfl ?_;rintro⟨c,g,r⟩ hok q _ args hargs
 match args,hargs with
 |[_,_],hargs=>
 obtain⟨⟨m,n,rfl,o,_,d⟩,rfl,_⟩:=hargs;refine⟨envC [] false [(123,7)],6,zi (zj),rfl,(nM2 rfl rfl),?_⟩;have H:zf (g123 c g) (λa=>a=r):=⟨r,hok,rfl⟩;unfold g123 at H;clear hok;refine R.cut_fam H 7 [] [] (λf=>[]) (λf=>[]) [] 0 (λH=>?_);refine And.intro ?_ ?_
 ·refine R.loop_fam (zN H) [0,1,7] [] (λ_ b=>[(8,.v (.int .i64 (b)))]) (λ_ b=>[]) 0 (λi H=>?_);refine⟨(i,_),⟨H⟩,⟨trivial⟩,?_⟩
  repeat refine zd ?_
  rintro⟨m0,b⟩ H _;obtain⟨p,hm0,H⟩:=zO H;dsimp only at hm0;subst hm0
  try dsimp only at H
  refine zb H ?_ ?_<;>intro s H
  ·refine ob_ix d (λh=>es0 h) H λj H=>?_;refine ld_str (e:=c.getD b.toNat default) (yr d (es_get (l:=c) (tn j))) ?_;exact zB
  exact zg
 intro f H;exact zk
noncomputable def g206(a:ByteArray):Option (Bool):= if ¬(a.size:Int)=1 then some false else(ck (0≤(0:Int)∧0<(a.size:Int))<|if 97≤((a.data.toList[(0:Int).toNat]?.getD 0).toNat:Int) then(if ((a.data.toList[(0:Int).toNat]?.getD 0).toNat:Int)≤122 then some true else(if ((a.data.toList[(0:Int).toNat]?.getD 0).toNat:Int)=64 then some true else(if 91≤((a.data.toList[(0:Int).toNat]?.getD 0).toNat:Int) then some (decide (((a.data.toList[(0:Int).toNat]?.getD 0).toNat:Int)≤95))else some false)))else(if ((a.data.toList[(0:Int).toNat]?.getD 0).toNat:Int)=64 then some true else(if 91≤((a.data.toList[(0:Int).toNat]?.getD 0).toNat:Int) then some (decide (((a.data.toList[(0:Int).toNat]?.getD 0).toNat:Int)≤95))else some false)))
noncomputable def k206:Eng.CS:={ f:=206,calm:=true,more:=0,ι:=ByteArray×Bool,ok:=λi=>g206 i.1=some i.2,rds:=λ_=>[],args:=λi=>[.w (.v (.string (i.1)))],res:=λi=>bS i.2 }
theorem k206_ok:zp Tryz.prog k206:=by
 refine R.calmspec Tryz.func206 (nq9 Tryz.func206) rfl ?_;rintro⟨b,r⟩ hok q _ args hargs
 match args,hargs with
 |[_],hargs=>
 obtain⟨rfl,_⟩:=hargs;refine⟨envC [] false [],6,zi (zj),rfl,(nM1 rfl),?_⟩;have H:zf (g206 b) (λa=>a=r):=⟨r,hok,rfl⟩;unfold g206 at H;clear hok;exact zk
noncomputable def g125(a:(Int×ByteArray×Int×Bool×Bool×Bool)):Option (Int):= jn (α:=_) (β:=Bool) (λc=>if a.2.1.data.toList=(lit []).data.toList then c (decide (a.2.2.1=0))else c false) (λe=>jn (α:=_) (β:=Bool) (λb=>jn (α:=_) (β:=Bool) (λd=>if a.1=1 then d (decide (a.1=1))else d (decide (a.1=16))) (λf=>if f=true then(if (a.2.1.size:Int)≤65536 then b (decide (a.2.2.1=0))else b false)else(if a.1=17 then((g206 a.2.1).bind λg=>if g=true then b (decide (a.2.2.1=0))else b false)else(if a.1=18 then(if a.2.1.data.toList=(lit []).data.toList then(if 1≤a.2.2.1 then b (decide (a.2.2.1≤12))else b false)else b false)else b e)))) (λh=>if ¬(h=true) then some 80 else(if a.1<1 then some 80 else(if 18<a.1 then some 80 else some 0))))
noncomputable def k125:Eng.CS:={ f:=125,calm:=true,more:=0,ι:=(Int×ByteArray×Int×Bool×Bool×Bool)×Int,ok:=λi=>g125 i.1=some i.2,rds:=λ_=>[],args:=λi=>[.w (.agg [.v (.int .i64 (i.1.1)),.v (.string (i.1.2.1)),.v (.int .i64 (i.1.2.2.1)),bS i.1.2.2.2.1,bS i.1.2.2.2.2.1,bS i.1.2.2.2.2.2])],res:=λi=>.v (.int .i64 (i.2)) }
theorem k125_ok:zp Tryz.prog k125:=by
 refine R.calmspec Tryz.func125 (nq9 Tryz.func125) rfl ?_;rintro⟨b,r⟩ hok q _ args hargs
 match args,hargs with
 |[_],hargs=>
 obtain⟨rfl,_⟩:=hargs;refine⟨envC [k206] false [(125,2),(125,5),(125,10)],6,zi (z8 ⟨λ_=>k206_ok,nofun⟩ (zj)),rfl,(nM1 rfl),?_⟩;have H:zf (g125 b) (λa=>a=r):=⟨r,hok,rfl⟩;unfold g125 at H;clear hok;refine R.cut_fam H 12 [1] [] (λc=>[(3,bS c)]) (λc=>[]) [(0,.cells 55 [.v (.int .i64 (b.1)),.v (.string (b.2.1)),.v (.int .i64 (b.2.2.1)),bS b.2.2.2.1,bS b.2.2.2.2.1,bS b.2.2.2.2.2])] 0 (λH=>?_);refine And.intro ?_ ?_
 ·exact zg
 intro c H;refine R.cut_fam H 38 [1] [] (λd=>[(3,bS d)]) (λd=>[]) [(0,.cells 55 [.v (.int .i64 (b.1)),.v (.string (b.2.1)),.v (.int .i64 (b.2.2.1)),bS b.2.2.2.1,bS b.2.2.2.2.1,bS b.2.2.2.2.2])] 0 (λH=>?_);refine And.intro ?_ ?_
 ·refine R.cut_fam H 19 [1,3,13] [] (λe=>[(14,bS e)]) (λe=>[]) [(0,.cells 55 [.v (.int .i64 (b.1)),.v (.string (b.2.1)),.v (.int .i64 (b.2.2.1)),bS b.2.2.2.1,bS b.2.2.2.2.1,bS b.2.2.2.2.2])] 0 (λH=>?_);refine And.intro ?_ ?_
  ·exact zg
  intro e H;exact zg
 intro d H;exact zk
noncomputable def g62(a:(Int×ByteArray×Int×Bool×Bool×Bool)):Option (ByteArray):= (g125 (a.1,a.2.1,a.2.2.1,a.2.2.2.1,a.2.2.2.2.1,a.2.2.2.2.2)).bind λr=>if ¬r=0 then some (lit [])else(jn (α:=_) (β:=List Int) (λd=>if a.2.2.2.1=true then((g54 ([])).bind λe=>ck (e.length+(lit [97,108,116,45]).size≤140737488355328)<|d (e++z6 (lit [97,108,116,45])))else d ([])) (λf=>jn (α:=_) (β:=List Int) (λg=>if a.2.2.2.2.2=true then((g54 f).bind λh=>ck (h.length+(lit [99,116,108,45]).size≤140737488355328)<|g (h++z6 (lit [99,116,108,45])))else g f) (λi=>jn (α:=_) (β:=List Int) (λk208=>if a.2.2.2.2.1=true then((g54 i).bind λj=>ck (j.length+(lit [115,104,105,102,116,45]).size≤140737488355328)<|k208 (j++z6 (lit [115,104,105,102,116,45])))else k208 i) (λs=>ck (inR .i64 (a.1-1))<|(g124).bind λb=>ck (0≤a.1-1∧a.1-1<((b.length:Nat):Int))<|(g54 s).bind λc=>ck (c.length+(b.getD (a.1-1).toNat default).size≤140737488355328)<|jn (α:=_) (β:=Bool) (λl=>if a.1=1 then l a.2.2.2.1 else l false) (λt=>if t=true then((g54 (c++z6 (b.getD (a.1-1).toNat default))).bind λm=>ck (m.length+(lit [46]).size≤140737488355328)<|(g54 (m++z6 (lit [46]))).bind λn=>ck (n.length+a.2.1.size≤140737488355328)<|(g23 (n++z6 a.2.1)).bind λu=>some u)else(if a.1=17 then((g54 (c++z6 (b.getD (a.1-1).toNat default))).bind λo=>ck (o.length+a.2.1.size≤140737488355328)<|(g23 (o++z6 a.2.1)).bind λv=>some v)else(if a.1=18 then((g122 a.2.2.1).bind λp=>(g54 (c++z6 (b.getD (a.1-1).toNat default))).bind λq=>ck (q.length+p.size≤140737488355328)<|(g23 (q++z6 p)).bind λw=>some w)else((g23 (c++z6 (b.getD (a.1-1).toNat default))).bind λx=>some x))))))))
noncomputable def k62:Eng.CS:={ f:=62,calm:=true,more:=0,ι:=(Int×ByteArray×Int×Bool×Bool×Bool)×ByteArray,ok:=λi=>g62 i.1=some i.2,rds:=λ_=>[],args:=λi=>[.w (.agg [.v (.int .i64 (i.1.1)),.v (.string (i.1.2.1)),.v (.int .i64 (i.1.2.2.1)),bS i.1.2.2.2.1,bS i.1.2.2.2.2.1,bS i.1.2.2.2.2.2])],res:=λi=>.v (.string (i.2)) }
theorem k62_ok:zp Tryz.prog k62:=by
 refine R.calmspec Tryz.func62 (nq9 Tryz.func62) rfl ?_;rintro⟨b,r⟩ hok q _ args hargs
 match args,hargs with
 |[_],hargs=>
 obtain⟨rfl,_⟩:=hargs;refine⟨envC [k23,k54,k122,k124,k125] false [(62,6),(62,8),(62,10),(62,12)],6,zi (z8 ⟨nofun,λ_=>k23_ok⟩ (z8 ⟨nofun,λ_=>k54_ok⟩ (z8 ⟨λ_=>k122_ok,nofun⟩ (z8 ⟨nofun,λ_=>k124_ok⟩ (z8 ⟨λ_=>k125_ok,nofun⟩ (zj)))))),rfl,(nM1 rfl),?_⟩;have H:zf (g62 b) (λa=>a=r):=⟨r,hok,rfl⟩;unfold g62 at H;clear hok;obtain⟨z,A,H⟩:=za H;refine⟨((b.1,b.2.1,b.2.2.1,b.2.2.2.1,b.2.2.2.2.1,b.2.2.2.2.2),z),⟨A⟩,⟨trivial⟩,?_⟩
 iterate 6 refine zd ?_
 refine zb H ?_ ?_<;>intro an H
 ·exact zk
 refine R.cut_fam H 32 [1,3] [(100005,1,5,1)] (λg=>[]) (λg=>[(5,.cells 74 [.lq 5,.own 32]),(32,.arr 5 1 (g.length) (ei .u8 (g)))]) [(0,.cells 55 [.v (.int .i64 (b.1)),.v (.string (b.2.1)),.v (.int .i64 (b.2.2.1)),bS b.2.2.2.1,bS b.2.2.2.2.1,bS b.2.2.2.2.2])] 1 (λH=>?_);refine And.intro ?_ ?_
 ·refine zb H ?_ ?_<;>intro ao H
  ·obtain⟨i,B,H⟩:=za H;refine⟨([],i),⟨B⟩,⟨trivial⟩,?_⟩;refine⟨⟨rfl⟩,?_⟩;refine zd ?_;refine zr H λap H=>?_;intro C D E F;obtain rfl:C=(i++z6 (lit [97,108,116,45])).length:=E.trans (xO (xs:=i) (s:=(lit [97,108,116,45])));obtain rfl:D=ei .u8 (i++z6 (lit [97,108,116,45])):=F.trans (ei_appS (xs:=i) (s:=(lit [97,108,116,45])));exact zg
  exact zg
 intro g H;refine R.cut_fam H 58 [1,3] [] (λj=>[]) (λj=>[(5,.cells 74 [.lq 5,.own 58]),(58,.arr 5 1 (j.length) (ei .u8 (j)))]) [(0,.cells 55 [.v (.int .i64 (b.1)),.v (.string (b.2.1)),.v (.int .i64 (b.2.2.1)),bS b.2.2.2.1,bS b.2.2.2.2.1,bS b.2.2.2.2.2])] 1 (λH=>?_);refine And.intro ?_ ?_
 ·refine zb H ?_ ?_<;>intro aq H
  ·obtain⟨m,G,H⟩:=za H;refine⟨(g,m),⟨G⟩,⟨trivial⟩,?_⟩;refine⟨⟨rfl⟩,?_⟩;refine zd ?_;refine zr H λar H=>?_;intro I J L M;obtain rfl:I=(m++z6 (lit [99,116,108,45])).length:=L.trans (xO (xs:=m) (s:=(lit [99,116,108,45])));obtain rfl:J=ei .u8 (m++z6 (lit [99,116,108,45])):=M.trans (ei_appS (xs:=m) (s:=(lit [99,116,108,45])));exact zg
  exact zg
 intro j H;refine R.cut_fam H 84 [1,3] [] (λn=>[]) (λn=>[(5,.cells 74 [.lq 5,.own 84]),(84,.arr 5 1 (n.length) (ei .u8 (n)))]) [(0,.cells 55 [.v (.int .i64 (b.1)),.v (.string (b.2.1)),.v (.int .i64 (b.2.2.1)),bS b.2.2.2.1,bS b.2.2.2.2.1,bS b.2.2.2.2.2])] 1 (λH=>?_);refine And.intro ?_ ?_
 ·refine zb H ?_ ?_<;>intro au H
  ·obtain⟨o,N,H⟩:=za H;refine⟨(j,o),⟨N⟩,⟨trivial⟩,?_⟩;refine⟨⟨rfl⟩,?_⟩;refine zd ?_;refine zr H λav H=>?_;intro O P Q T;obtain rfl:O=(o++z6 (lit [115,104,105,102,116,45])).length:=Q.trans (xO (xs:=o) (s:=(lit [115,104,105,102,116,45])));obtain rfl:P=ei .u8 (o++z6 (lit [115,104,105,102,116,45])):=T.trans (ei_appS (xs:=o) (s:=(lit [115,104,105,102,116,45])));exact zg
  exact zg
 intro n H;refine And.intro ⟨by kernel_rfl⟩ ?_;refine⟨(Pn.calm 1 (Pn.calm 2 (Pn.calm 3 (Pn.eff 0 [] (Pn.calm 4 (Pn.calm 5 (Pn.eff 6 [5,0,4,3,2,1] Pn.done Pn.no))) Pn.no)))),⟨by kernel_rfl⟩,?_⟩;refine zr H λaw H=>?_;refine And.intro ?_ trivial;obtain⟨c,U,H⟩:=za H;refine⟨c,⟨U⟩,⟨trivial⟩,?_⟩;refine And.intro ⟨λ_ _ _ h=>h⟩ ?_;refine zr H λx H=>?_;refine ld_str (e:=c.getD (b.1-1).toNat default) (own_get (ys:=es c) wO (es_get (l:=c) wQ)) ?_;refine And.intro ?_ trivial;obtain⟨d,V,H⟩:=za H;refine⟨(n,d),⟨V⟩,⟨trivial⟩,?_⟩;refine⟨⟨rfl⟩,?_⟩;refine zd ?_;refine zr H λax H=>?_;intro W X Y Z;obtain rfl:W=(d++z6 (c.getD (b.1-1).toNat default)).length:=Y.trans (xO (xs:=d) (s:=(c.getD (b.1-1).toNat default)));obtain rfl:X=ei .u8 (d++z6 (c.getD (b.1-1).toNat default)):=Z.trans (ei_appS (xs:=d) (s:=(c.getD (b.1-1).toNat default)));refine And.intro ⟨λ_ _ _ h=>h⟩ ?_;refine R.cut_fam H 118 [1,3] [] (λy=>[(23,bS y)]) (λy=>[]) [(5,.cells 74 [.lq 5,.own 101]),(86,.arr 9 1 (c.length) (es (c))),(0,.cells 55 [.v (.int .i64 (b.1)),.v (.string (b.2.1)),.v (.int .i64 (b.2.2.1)),bS b.2.2.2.1,bS b.2.2.2.2.1,bS b.2.2.2.2.2]),(101,.arr 5 1 ((d++z6 (c.getD (b.1-1).toNat default)).length) (ei .u8 ((d++z6 (c.getD (b.1-1).toNat default)))))] 0 (λH=>?_);refine And.intro ?_ ?_
 ·exact zg
 intro y H;refine zb H ?_ ?_<;>intro ay H
 ·obtain⟨f,a1,H⟩:=za H;refine⟨((d++z6 (c.getD (b.1-1).toNat default)),f),⟨a1⟩,⟨trivial⟩,?_⟩;refine⟨⟨rfl⟩,?_⟩;refine zd ?_;refine zr H λaz H=>?_;intro a2 a3 a4 a5;obtain rfl:a2=(f++z6 (lit [46])).length:=a4.trans (xO (xs:=f) (s:=(lit [46])));obtain rfl:a3=ei .u8 (f++z6 (lit [46])):=a5.trans (ei_appS (xs:=f) (s:=(lit [46])));obtain⟨p,a6,H⟩:=za H;refine⟨((f++z6 (lit [46])),p),⟨a6⟩,⟨trivial⟩,?_⟩;refine⟨⟨rfl⟩,?_⟩;refine zd ?_;refine zr H λaA H=>?_;intro a7 a8 a9 aa;obtain rfl:a7=(p++z6 b.2.1).length:=a9.trans (xO (xs:=p) (s:=b.2.1));obtain rfl:a8=ei .u8 (p++z6 b.2.1):=aa.trans (ei_appS (xs:=p) (s:=b.2.1));exact zB
 refine zb H ?_ ?_<;>intro aB H
 ·obtain⟨t,ab,H⟩:=za H;refine⟨((d++z6 (c.getD (b.1-1).toNat default)),t),⟨ab⟩,⟨trivial⟩,?_⟩;refine⟨⟨rfl⟩,?_⟩;refine zd ?_;refine zr H λaC H=>?_;intro ac ad ae af;obtain rfl:ac=(t++z6 b.2.1).length:=ae.trans (xO (xs:=t) (s:=b.2.1));obtain rfl:ad=ei .u8 (t++z6 b.2.1):=af.trans (ei_appS (xs:=t) (s:=b.2.1));exact zB
 refine zb H ?_ ?_<;>intro aD H
 ·obtain⟨u,ag,H⟩:=za H;refine⟨(b.2.2.1,u),⟨ag⟩,⟨trivial⟩,?_⟩;refine⟨⟨rfl⟩,?_⟩;obtain⟨w,ah,H⟩:=za H;refine⟨((d++z6 (c.getD (b.1-1).toNat default)),w),⟨ah⟩,⟨trivial⟩,?_⟩;refine⟨⟨rfl⟩,?_⟩;refine zd ?_;refine zr H λaE H=>?_;intro ai aj al am;obtain rfl:ai=(w++z6 u).length:=al.trans (xO (xs:=w) (s:=u));obtain rfl:aj=ei .u8 (w++z6 u):=am.trans (ei_appS (xs:=w) (s:=u));exact zB
 exact zB
noncomputable def g61(b:ByteArray):Option (Int×Int):= jn (α:=_) (β:=Unit) (λe=>(y7 (σ:=Int) (ρ:=(Int) ⊕ (Unit)) (λa=>if a≤12 then((g122 a).bind λc=>ck ((lit [102]).size+c.size≤9223372036854775807)<|if b.data.toList=((lit [102])++c).data.toList then some (.out (.inl (a)))else(ck (inR .i64 (a+1))<|some (.go (a+1))))else some (.out (.inr (())))) 1).bind λf=>sm f (λg=>some (18,g)) (λi=>e ())) (λj=>(g124).bind λh=>(g123 h b).bind λd=>ck (inR .i64 (d+1))<|some (d+1,0))
noncomputable def k61:Eng.CS:={ f:=61,calm:=true,more:=0,ι:=ByteArray×(Int×Int),ok:=λi=>g61 i.1=some i.2,rds:=λ_=>[],args:=λi=>[.w (.v (.string (i.1)))],res:=λi=>.tup [.v (.int .i64 (i.2.1)),.v (.int .i64 (i.2.2))] }
theorem k61_ok:zp Tryz.prog k61:=by
 refine R.calmspec Tryz.func61 (nq9 Tryz.func61) rfl ?_;rintro⟨c,r⟩ hok q _ args hargs
 match args,hargs with
 |[_],hargs=>
 obtain⟨rfl,_⟩:=hargs;refine⟨envC [k122,k123,k124] false [(61,6)],6,zi (z8 ⟨λ_=>k122_ok,nofun⟩ (z8 ⟨λ_=>k123_ok,nofun⟩ (z8 ⟨nofun,λ_=>k124_ok⟩ (zj)))),rfl,(nM1 rfl),?_⟩;have H:zf (g61 c) (λa=>a=r):=⟨r,hok,rfl⟩;unfold g61 at H;clear hok;refine R.cut_fam H 7 [0] [] (λd=>[]) (λd=>[]) [] 0 (λH=>?_);refine And.intro ?_ ?_
 ·refine R.loop_fam (zN H) [0] [] (λ_ b=>[(4,.v (.int .i64 (b)))]) (λ_ b=>[]) 0 (λf H=>?_);refine⟨(f,_),⟨H⟩,⟨trivial⟩,?_⟩
  repeat refine zd ?_
  rintro⟨m0,b⟩ H _;obtain⟨j,hm0,H⟩:=zO H;dsimp only at hm0;subst hm0
  try dsimp only at H
  exact zB
 intro d H;obtain⟨e,g,H⟩:=za H;refine⟨e,⟨g⟩,⟨trivial⟩,?_⟩;obtain⟨h,i,H⟩:=za H;refine⟨(e,c,h),⟨i⟩,⟨trivial⟩,?_⟩;refine And.intro ⟨by first|rfl|(simp;done),by first|rfl|(simp[ei,eb,es,ec];done)|(simp only[ei,eb,es,ec,List.map_append,List.nil_append,List.append_assoc];rfl)⟩ ?_;refine⟨⟨rfl⟩,?_⟩;exact zk
noncomputable def g31(d:ByteArray):Option ((Int×ByteArray×Int×Bool×Bool×Bool)×Int):= (g60 d (lit [97,108,116,45])).bind λc=>(g60 c.1 (lit [99,116,108,45])).bind λe=>(g60 e.1 (lit [115,104,105,102,116,45])).bind λb=>(g60 b.1 (lit [116,101,120,116,46])).bind λg=>(g60 b.1 (lit [99,116,114,108,45])).bind λh=>jn (α:=_) (β:=Int×ByteArray×Int) (λf=>jn (α:=_) (β:=Bool) (λi=>if g.2=true then i c.2 else i false) (λl=>if l=true then f (1,g.1,0)else(if h.2=true then f (17,h.1,0)else((g61 b.1).bind λj=>f (j.1,(⟨#[]⟩:ByteArray),j.2))))) (λa=>(g62 (a.1,a.2.1,a.2.2,c.2,b.2,e.2)).bind λm=>if ¬(m.data.toList=d.data.toList) then some ((0,(⟨#[]⟩:ByteArray),0,false,false,false),80)else(if d.data.toList=(lit []).data.toList then some ((0,(⟨#[]⟩:ByteArray),0,false,false,false),80)else some ((a.1,a.2.1,a.2.2,c.2,b.2,e.2),0)))
noncomputable def k31:Eng.CS:={ f:=31,calm:=true,more:=0,ι:=ByteArray×((Int×ByteArray×Int×Bool×Bool×Bool)×Int),ok:=λi=>g31 i.1=some i.2,rds:=λ_=>[],args:=λi=>[.w (.v (.string (i.1)))],res:=λi=>.tup [.agg [.v (.int .i64 (i.2.1.1)),.v (.string (i.2.1.2.1)),.v (.int .i64 (i.2.1.2.2.1)),bS i.2.1.2.2.2.1,bS i.2.1.2.2.2.2.1,bS i.2.1.2.2.2.2.2],.v (.int .i64 (i.2.2))] }
theorem k31_ok:zp Tryz.prog k31:=by
 refine R.calmspec Tryz.func31 (nq9 Tryz.func31) rfl ?_;rintro⟨g,r⟩ hok q _ args hargs
 match args,hargs with
 |[_],hargs=>
 obtain⟨rfl,_⟩:=hargs;refine⟨envC [k60,k61,k62] false [(31,10),(31,13)],6,zi (z8 ⟨λ_=>k60_ok,nofun⟩ (z8 ⟨λ_=>k61_ok,nofun⟩ (z8 ⟨λ_=>k62_ok,nofun⟩ (zj)))),rfl,(nM1 rfl),?_⟩;have H:zf (g31 g) (λa=>a=r):=⟨r,hok,rfl⟩;unfold g31 at H;clear hok;obtain⟨d,h,H⟩:=za H;refine⟨(g,(lit [97,108,116,45]),d),⟨h⟩,⟨trivial⟩,?_⟩
 iterate 2 refine⟨⟨rfl⟩,?_⟩
 obtain⟨e,i,H⟩:=za H;refine⟨(d.1,(lit [99,116,108,45]),e),⟨i⟩,⟨trivial⟩,?_⟩
 iterate 2 refine⟨⟨rfl⟩,?_⟩
 obtain⟨b,j,H⟩:=za H;refine⟨(e.1,(lit [115,104,105,102,116,45]),b),⟨j⟩,⟨trivial⟩,?_⟩
 iterate 2 refine⟨⟨rfl⟩,?_⟩
 obtain⟨l,m,H⟩:=za H;refine⟨(b.1,(lit [116,101,120,116,46]),l),⟨m⟩,⟨trivial⟩,?_⟩
 iterate 2 refine⟨⟨rfl⟩,?_⟩
 obtain⟨n,o,H⟩:=za H;refine⟨(b.1,(lit [99,116,114,108,45]),n),⟨o⟩,⟨trivial⟩,?_⟩
 iterate 2 refine⟨⟨rfl⟩,?_⟩
 refine R.cut_fam H 65 [0,2,4] [] (λc=>[]) (λc=>[(2,.cells 55 [.v (.int .i64 (c.1)),.v (.string (c.2.1)),.v (.int .i64 (c.2.2)),bS d.2,bS b.2,bS e.2])]) [(0,.cells 55 [.v (.int .i64 (0)),.v (.string ((⟨#[]⟩:ByteArray))),.v (.int .i64 (0)),.bb false,.bb false,.bb false])] 0 (λH=>?_);refine And.intro ?_ ?_
 ·refine R.cut_fam H 53 [0,2,4,5,9,11,12] [] (λf=>[(51,bS f)]) (λf=>[]) [(0,.cells 55 [.v (.int .i64 (0)),.v (.string ((⟨#[]⟩:ByteArray))),.v (.int .i64 (0)),.bb false,.bb false,.bb false]),(2,.cells 55 [.v (.int .i64 (0)),.v (.string ((⟨#[]⟩:ByteArray))),.v (.int .i64 (0)),bS d.2,bS b.2,bS e.2])] 0 (λH=>?_);refine And.intro ?_ ?_
  ·exact zg
  intro f H;exact zg
 intro c H;exact zB
noncomputable def g73(a:ByteArray):Option (ByteArray):= jn (α:=_) (β:=Bool) (λk35=>if a.data.toList=(lit [104]).data.toList then k35 (decide (a.data.toList=(lit [104]).data.toList))else(if a.data.toList=(lit [105]).data.toList then k35 (decide (a.data.toList=(lit [105]).data.toList))else(if a.data.toList=(lit [106]).data.toList then k35 (decide (a.data.toList=(lit [106]).data.toList))else k35 (decide (a.data.toList=(lit [109]).data.toList))))) (λc=>if c=true then some (lit [])else(jn (α:=_) (β:=Bool) (λb=>if a.data.toList=(lit [64]).data.toList then b (decide (a.data.toList=(lit [64]).data.toList))else(if a.data.toList=(lit [92]).data.toList then b (decide (a.data.toList=(lit [92]).data.toList))else(if a.data.toList=(lit [93]).data.toList then b (decide (a.data.toList=(lit [93]).data.toList))else(if a.data.toList=(lit [94]).data.toList then b (decide (a.data.toList=(lit [94]).data.toList))else b (decide (a.data.toList=(lit [95]).data.toList)))))) (λd=>if d=true then(ck (0≤(0:Int)∧0<(a.size:Int))<|ck (inR .u8 (((a.data.toList[(0:Int).toNat]?.getD 0).toNat:Int)-64))<|ck (zx ([((a.data.toList[(0:Int).toNat]?.getD 0).toNat:Int)-64]))<|some (zW ([((a.data.toList[(0:Int).toNat]?.getD 0).toNat:Int)-64])))else(if ¬(a.size:Int)=1 then some (lit [])else(ck (0≤(0:Int)∧0<(a.size:Int))<|if ((a.data.toList[(0:Int).toNat]?.getD 0).toNat:Int)<97 then some (lit [])else(ck (0≤(0:Int)∧0<(a.size:Int))<|if 122<((a.data.toList[(0:Int).toNat]?.getD 0).toNat:Int) then some (lit [])else(ck (0≤(0:Int)∧0<(a.size:Int))<|ck (inR .u8 (((a.data.toList[(0:Int).toNat]?.getD 0).toNat:Int)-96))<|ck (zx ([((a.data.toList[(0:Int).toNat]?.getD 0).toNat:Int)-96]))<|some (zW ([((a.data.toList[(0:Int).toNat]?.getD 0).toNat:Int)-96])))))))))
noncomputable def k73:Eng.CS:={ f:=73,calm:=true,more:=0,ι:=ByteArray×ByteArray,ok:=λi=>g73 i.1=some i.2,rds:=λ_=>[],args:=λi=>[.w (.v (.string (i.1)))],res:=λi=>.v (.string (i.2)) }
theorem k73_ok:zp Tryz.prog k73:=by
 refine R.calmspec Tryz.func73 (nq9 Tryz.func73) rfl ?_;rintro⟨b,r⟩ hok q _ args hargs
 match args,hargs with
 |[_],hargs=>
 obtain⟨rfl,_⟩:=hargs;refine⟨envC [] false [(73,6),(73,12)],6,zi (zj),rfl,(nM1 rfl),?_⟩;have H:zf (g73 b) (λa=>a=r):=⟨r,hok,rfl⟩;unfold g73 at H;clear hok;refine R.cut_fam H 11 [0,3] [] (λc=>[(4,bS c)]) (λc=>[]) [] 0 (λH=>?_);refine And.intro ?_ ?_
 ·exact zg
 intro c H;refine zb H ?_ ?_<;>intro e H
 ·exact zk
 refine R.cut_fam H 22 [0] [] (λd=>[(9,bS d)]) (λd=>[]) [] 0 (λH=>?_);refine And.intro ?_ ?_
 ·exact zg
 intro d H;refine zb H ?_ ?_<;>intro f H
 ·refine zr H λg H=>?_;refine zr H λh H=>?_;refine yI (l:=[((b.data.toList[(0:Int).toNat]?.getD 0).toNat:Int)-64]) H λi H=>?_;exact zk
 refine zb H ?_ ?_<;>intro j H
 ·exact zk
 refine zr H λm H=>?_;refine zb H ?_ ?_<;>intro n H
 ·exact zk
 refine zr H λo H=>?_;refine zb H ?_ ?_<;>intro p H
 ·exact zk
 refine zr H λs H=>?_;refine zr H λt H=>?_;refine yI (l:=[((b.data.toList[(0:Int).toNat]?.getD 0).toNat:Int)-96]) H λu H=>?_;exact zk
noncomputable def g74(a:(Int×ByteArray×Int×Bool×Bool×Bool)):Option (Bool):= if a.2.1.data.toList=(lit []).data.toList then some (decide (a.2.2.1=0))else some false
noncomputable def k74:Eng.CS:={ f:=74,calm:=true,more:=0,ι:=(Int×ByteArray×Int×Bool×Bool×Bool)×Bool,ok:=λi=>g74 i.1=some i.2,rds:=λ_=>[],args:=λi=>[.w (.agg [.v (.int .i64 (i.1.1)),.v (.string (i.1.2.1)),.v (.int .i64 (i.1.2.2.1)),bS i.1.2.2.2.1,bS i.1.2.2.2.2.1,bS i.1.2.2.2.2.2])],res:=λi=>bS i.2 }
theorem k74_ok:zp Tryz.prog k74:=by
 refine R.calmspec Tryz.func74 (nq9 Tryz.func74) rfl ?_;rintro⟨b,r⟩ hok q _ args hargs
 match args,hargs with
 |[_],hargs=>
 obtain⟨rfl,_⟩:=hargs;refine⟨envC [] false [],6,zi (zj),rfl,(nM1 rfl),?_⟩;have H:zf (g74 b) (λa=>a=r):=⟨r,hok,rfl⟩;unfold g74 at H;clear hok;exact zk
noncomputable def g78(a:Int):Option (Int):= if a=8 then some 65 else(if a=9 then some 66 else(if a=11 then some 67 else(if a=10 then some 68 else(if a=12 then some 72 else(if a=13 then some 70 else some 0)))))
noncomputable def k78:Eng.CS:={ f:=78,calm:=true,more:=0,ι:=Int×Int,ok:=λi=>g78 i.1=some i.2,rds:=λ_=>[],args:=λi=>[.w (.v (.int .i64 (i.1)))],res:=λi=>.v (.int .u8 (i.2)) }
theorem k78_ok:zp Tryz.prog k78:=by
 refine R.calmspec Tryz.func78 (nq9 Tryz.func78) rfl ?_;rintro⟨b,r⟩ hok q _ args hargs
 match args,hargs with
 |[_],hargs=>
 obtain⟨rfl,_⟩:=hargs;refine⟨envC [] false [],6,zi (zj),rfl,(nM1 rfl),?_⟩;have H:zf (g78 b) (λa=>a=r):=⟨r,hok,rfl⟩;unfold g78 at H;clear hok;exact zk
noncomputable def g79(a:(Int×ByteArray×Int×Bool×Bool×Bool)):Option (Int):= if a.1=18 then(jn (α:=_) (β:=Bool) (λk123=>if 1≤a.2.2.1 then k123 (decide (a.2.2.1≤5))else k123 false) (λb=>if b=true then(ck (inR .i64 (a.2.2.1+10))<|some (a.2.2.1+10))else(jn (α:=_) (β:=Bool) (λk129=>if 6≤a.2.2.1 then k129 (decide (a.2.2.1≤10))else k129 false) (λc=>if c=true then(ck (inR .i64 (a.2.2.1+11))<|some (a.2.2.1+11))else(if a.2.2.1=11 then(ck (inR .i64 (a.2.2.1+12))<|some (a.2.2.1+12))else(if a.2.2.1=12 then(ck (inR .i64 (a.2.2.1+12))<|some (a.2.2.1+12))else some 0))))))else(if ¬a.2.2.1=0 then some 0 else(if a.1=7 then some 3 else(if a.1=14 then some 5 else(if a.1=15 then some 6 else some 0))))
noncomputable def k79:Eng.CS:={ f:=79,calm:=true,more:=0,ι:=(Int×ByteArray×Int×Bool×Bool×Bool)×Int,ok:=λi=>g79 i.1=some i.2,rds:=λ_=>[],args:=λi=>[.w (.agg [.v (.int .i64 (i.1.1)),.v (.string (i.1.2.1)),.v (.int .i64 (i.1.2.2.1)),bS i.1.2.2.2.1,bS i.1.2.2.2.2.1,bS i.1.2.2.2.2.2])],res:=λi=>.v (.int .i64 (i.2)) }
theorem k79_ok:zp Tryz.prog k79:=by
 refine R.calmspec Tryz.func79 (nq9 Tryz.func79) rfl ?_;rintro⟨b,r⟩ hok q _ args hargs
 match args,hargs with
 |[_],hargs=>
 obtain⟨rfl,_⟩:=hargs;refine⟨envC [] false [(79,3),(79,5)],6,zi (zj),rfl,(nM1 rfl),?_⟩;have H:zf (g79 b) (λa=>a=r):=⟨r,hok,rfl⟩;unfold g79 at H;clear hok;refine zb H ?_ ?_<;>intro e H
 ·refine R.cut_fam H 15 [1] [] (λc=>[(6,bS c)]) (λc=>[]) [(0,.cells 55 [.v (.int .i64 (b.1)),.v (.string (b.2.1)),.v (.int .i64 (b.2.2.1)),bS b.2.2.2.1,bS b.2.2.2.2.1,bS b.2.2.2.2.2])] 0 (λH=>?_);refine And.intro ?_ ?_
  ·exact zg
  intro c H;refine zb H ?_ ?_<;>intro f H
  ·exact zk
  refine R.cut_fam H 25 [1] [] (λd=>[(18,bS d)]) (λd=>[]) [(0,.cells 55 [.v (.int .i64 (b.1)),.v (.string (b.2.1)),.v (.int .i64 (b.2.2.1)),bS b.2.2.2.1,bS b.2.2.2.2.1,bS b.2.2.2.2.2])] 0 (λH=>?_);refine And.intro ?_ ?_
  ·exact zg
  intro d H;exact zk
 exact zk
noncomputable def g72(a:ByteArray):Option (ByteArray):= (g75 a).bind λb=>if ¬(b=true) then some (lit [])else((g137 a).bind λc=>if ¬c=1 then some (lit [])else(ck (0≤(0:Int)∧0<(a.size:Int))<|if ((a.data.toList[(0:Int).toNat]?.getD 0).toNat:Int)<32 then some (lit [])else(ck (0≤(0:Int)∧0<(a.size:Int))<|if ((a.data.toList[(0:Int).toNat]?.getD 0).toNat:Int)=127 then some (lit [])else some a)))
noncomputable def k72:Eng.CS:={ f:=72,calm:=true,more:=0,ι:=ByteArray×ByteArray,ok:=λi=>g72 i.1=some i.2,rds:=λ_=>[],args:=λi=>[.w (.v (.string (i.1)))],res:=λi=>.v (.string (i.2)) }
theorem k72_ok:zp Tryz.prog k72:=by
 refine R.calmspec Tryz.func72 (nq9 Tryz.func72) rfl ?_;rintro⟨b,r⟩ hok q _ args hargs
 match args,hargs with
 |[_],hargs=>
 obtain⟨rfl,_⟩:=hargs;refine⟨envC [k75,k137] false [],6,zi (z8 ⟨λ_=>k75_ok,nofun⟩ (z8 ⟨λ_=>k137_ok,nofun⟩ (zj))),rfl,(nM1 rfl),?_⟩;have H:zf (g72 b) (λa=>a=r):=⟨r,hok,rfl⟩;unfold g72 at H;clear hok;exact zk
noncomputable def g38(a:(Int×ByteArray×Int×Bool×Bool×Bool)):Option (ByteArray):= if a.2.2.2.2.1=true then some (lit [])else(if a.2.2.2.2.2=true then some (lit [])else(if ¬a.2.2.1=0 then some (lit [])else(jn (α:=_) (β:=ByteArray) (λk215=>if a.1=1 then(if a.2.2.2.1=true then(if a.2.1.data.toList=(lit [91]).data.toList then some (lit [])else(if a.2.1.data.toList=(lit [79]).data.toList then some (lit [])else((g72 a.2.1).bind λd=>k215 d)))else((g72 a.2.1).bind λe=>k215 e))else(if a.1=17 then((g73 a.2.1).bind λf=>k215 f)else(if a.1=2 then k215 (lit [13])else(if a.1=3 then k215 (lit [9])else(if a.1=6 then k215 (lit [127])else k215 (lit [])))))) (λb=>jn (α:=_) (β:=Unit) (λc=>if b.data.toList=(lit []).data.toList then some (lit [])else(if ¬a.1=1 then(if ¬a.1=17 then((g74 (a.1,a.2.1,a.2.2.1,a.2.2.2.1,a.2.2.2.2.1,a.2.2.2.2.2)).bind λg=>if ¬(g=true) then some (lit [])else c ())else c ())else c ())) (λh=>if a.2.2.2.1=true then(ck ((lit [27]).size+b.size≤9223372036854775807)<|some ((lit [27])++b))else some b)))))
noncomputable def k38:Eng.CS:={ f:=38,calm:=true,more:=0,ι:=(Int×ByteArray×Int×Bool×Bool×Bool)×ByteArray,ok:=λi=>g38 i.1=some i.2,rds:=λ_=>[],args:=λi=>[.w (.agg [.v (.int .i64 (i.1.1)),.v (.string (i.1.2.1)),.v (.int .i64 (i.1.2.2.1)),bS i.1.2.2.2.1,bS i.1.2.2.2.2.1,bS i.1.2.2.2.2.2])],res:=λi=>.v (.string (i.2)) }
theorem k38_ok:zp Tryz.prog k38:=by
 refine R.calmspec Tryz.func38 (nq9 Tryz.func38) rfl ?_;rintro⟨b,r⟩ hok q _ args hargs
 match args,hargs with
 |[_],hargs=>
 obtain⟨rfl,_⟩:=hargs;refine⟨envC [k72,k73,k74] false [(38,17),(38,19)],6,zi (z8 ⟨λ_=>k72_ok,nofun⟩ (z8 ⟨λ_=>k73_ok,nofun⟩ (z8 ⟨λ_=>k74_ok,nofun⟩ (zj)))),rfl,(nM1 rfl),?_⟩;have H:zf (g38 b) (λa=>a=r):=⟨r,hok,rfl⟩;unfold g38 at H;clear hok;refine zb H ?_ ?_<;>intro e H
 ·exact zk
 refine zb H ?_ ?_<;>intro f H
 ·exact zk
 refine zb H ?_ ?_<;>intro g H
 ·exact zk
 refine R.cut_fam H 35 [1] [] (λc=>[(3,.v (.string (c)))]) (λc=>[]) [(0,.cells 55 [.v (.int .i64 (b.1)),.v (.string (b.2.1)),.v (.int .i64 (b.2.2.1)),bS b.2.2.2.1,bS b.2.2.2.2.1,bS b.2.2.2.2.2])] 0 (λH=>?_);refine And.intro ?_ ?_
 ·exact zB
 intro c H;refine R.cut_fam H 53 [1,3] [] (λd=>[]) (λd=>[]) [(0,.cells 55 [.v (.int .i64 (b.1)),.v (.string (b.2.1)),.v (.int .i64 (b.2.2.1)),bS b.2.2.2.1,bS b.2.2.2.2.1,bS b.2.2.2.2.2])] 0 (λH=>?_);refine And.intro ?_ ?_
 ·exact zB
 intro d H;exact zk
noncomputable def g291(a:Int):Option (ByteArray):= if a<10 then(ck (inR .i64 (a+1))<|ck (0≤a∧a≤a+1∧a+1≤((lit [48,49,50,51,52,53,54,55,56,57,97,98,99,100,101,102,103,104,105,106,107,108,109,110,111,112,113,114,115,116,117,118,119,120,121,122]).size:Int))<|some ((lit [48,49,50,51,52,53,54,55,56,57,97,98,99,100,101,102,103,104,105,106,107,108,109,110,111,112,113,114,115,116,117,118,119,120,121,122]).extract a.toNat (a+1).toNat))else(ck (inR .i64 (a*2))<|ck (inR .i64 (a*2))<|ck (inR .i64 ((a*2)+2))<|ck (0≤a*2∧a*2≤(a*2)+2∧(a*2)+2≤((lit [48,48,48,49,48,50,48,51,48,52,48,53,48,54,48,55,48,56,48,57,49,48,49,49,49,50,49,51,49,52,49,53,49,54,49,55,49,56,49,57,50,48,50,49,50,50,50,51,50,52,50,53,50,54,50,55,50,56,50,57,51,48,51,49,51,50,51,51,51,52,51,53,51,54,51,55,51,56,51,57,52,48,52,49,52,50,52,51,52,52,52,53,52,54,52,55,52,56,52,57,53,48,53,49,53,50,53,51,53,52,53,53,53,54,53,55,53,56,53,57,54,48,54,49,54,50,54,51,54,52,54,53,54,54,54,55,54,56,54,57,55,48,55,49,55,50,55,51,55,52,55,53,55,54,55,55,55,56,55,57,56,48,56,49,56,50,56,51,56,52,56,53,56,54,56,55,56,56,56,57,57,48,57,49,57,50,57,51,57,52,57,53,57,54,57,55,57,56,57,57]).size:Int))<|some ((lit [48,48,48,49,48,50,48,51,48,52,48,53,48,54,48,55,48,56,48,57,49,48,49,49,49,50,49,51,49,52,49,53,49,54,49,55,49,56,49,57,50,48,50,49,50,50,50,51,50,52,50,53,50,54,50,55,50,56,50,57,51,48,51,49,51,50,51,51,51,52,51,53,51,54,51,55,51,56,51,57,52,48,52,49,52,50,52,51,52,52,52,53,52,54,52,55,52,56,52,57,53,48,53,49,53,50,53,51,53,52,53,53,53,54,53,55,53,56,53,57,54,48,54,49,54,50,54,51,54,52,54,53,54,54,54,55,54,56,54,57,55,48,55,49,55,50,55,51,55,52,55,53,55,54,55,55,55,56,55,57,56,48,56,49,56,50,56,51,56,52,56,53,56,54,56,55,56,56,56,57,57,48,57,49,57,50,57,51,57,52,57,53,57,54,57,55,57,56,57,57]).extract (a*2).toNat ((a*2)+2).toNat))
noncomputable def k291:Eng.CS:={ f:=291,calm:=true,more:=0,ι:=Int×ByteArray,ok:=λi=>g291 i.1=some i.2,rds:=λ_=>[],args:=λi=>[.w (.v (.int .i64 (i.1)))],res:=λi=>.v (.string (i.2)) }
theorem k291_ok:zp Tryz.prog k291:=by
 refine R.calmspec Tryz.func291 (nq9 Tryz.func291) rfl ?_;rintro⟨b,r⟩ hok q _ args hargs
 match args,hargs with
 |[_],hargs=>
 obtain⟨rfl,_⟩:=hargs;refine⟨envC [] false [],6,zi (zj),rfl,(nM1 rfl),?_⟩;have H:zf (g291 b) (λa=>a=r):=⟨r,hok,rfl⟩;unfold g291 at H;clear hok;exact zk
noncomputable def g201(a:Int)(c:Int):Option (ByteArray):= if c=10 then(jn (α:=_) (β:=Unit) (λe=>if 0≤a then(if a<100 then((g291 a).bind λh=>some h)else e ())else e ()) (λj=>jn (α:=_) (β:=Int) (λf=>if a<0 then(ck (inR .u64 (0-(IntKind.wrap .u64 a)))<|f (0-(IntKind.wrap .u64 a)))else f (IntKind.wrap .u64 a)) (λd=>jn (α:=_) (β:=Int×Int) (λg=>if 4294967296≤d then g (d/2^(32:Int).toNat,32)else g (d,0)) (λb=>jn (α:=_) (β:=Int×Int) (λk124=>if 65536≤b.1 then(ck (inR .i64 (b.2+16))<|k124 (b.1/2^(16:Int).toNat,b.2+16))else k124 (b.1,b.2)) (λi=>if 256≤i.1 then none else none)))))else(if c<2 then none else(if c=10 then none else(if 36<c then none else none)))
noncomputable def k201:Eng.CS:={ f:=201,calm:=true,more:=0,ι:=Int×Int×ByteArray,ok:=λi=>g201 i.1 i.2.1=some i.2.2,rds:=λ_=>[],args:=λi=>[.w (.v (.int .i64 (i.1))),.w (.v (.int .i64 (i.2.1)))],res:=λi=>.v (.string (i.2.2)) }
theorem k201_ok:zp Tryz.prog k201:=by
 refine R.calmspec Tryz.func201 (nq9 Tryz.func201) rfl ?_;rintro⟨f,g,r⟩ hok q _ args hargs
 match args,hargs with
 |[_,_],hargs=>
 obtain⟨rfl,rfl,_⟩:=hargs;refine⟨envC [k291] false [(201,4),(201,8),(294,7),(294,15),(294,23),(294,25),(294,28),(370,4),(370,7)],6,zi (z8 ⟨λ_=>k291_ok,nofun⟩ (zj)),rfl,(nM2 rfl rfl),?_⟩;have H:zf (g201 f g) (λa=>a=r):=⟨r,hok,rfl⟩;unfold g201 at H;clear hok;refine zb H ?_ ?_<;>intro h H
 ·refine R.cut_fam H 10 [0] [] (λe=>[]) (λe=>[]) [] 0 (λH=>?_);refine And.intro ?_ ?_
  ·exact zB
  intro e H;refine R.cut_fam H 20 [0,5] [] (λd=>[(6,.v (.int .u64 (d)))]) (λd=>[]) [(10,.cells 350 [.v (.int .u8 (0)),.v (.int .u8 (0)),.v (.int .u8 (0)),.v (.int .u8 (0)),.v (.int .u8 (0)),.v (.int .u8 (0)),.v (.int .u8 (0)),.v (.int .u8 (0)),.v (.int .u8 (0)),.v (.int .u8 (0)),.v (.int .u8 (0)),.v (.int .u8 (0)),.v (.int .u8 (0)),.v (.int .u8 (0)),.v (.int .u8 (0)),.v (.int .u8 (0)),.v (.int .u8 (0)),.v (.int .u8 (0)),.v (.int .u8 (0)),.v (.int .u8 (0)),.v (.int .u8 (0)),.v (.int .u8 (0)),.v (.int .u8 (0)),.v (.int .u8 (0))])] 0 (λH=>?_);refine And.intro ?_ ?_
  ·exact zg
  intro d H;refine R.cut_fam H 36 [] [] (λb=>[(0,.v (.int .u64 (b.1))),(2,.v (.int .i64 (b.2)))]) (λb=>[]) [(10,.cells 350 [.v (.int .u8 (0)),.v (.int .u8 (0)),.v (.int .u8 (0)),.v (.int .u8 (0)),.v (.int .u8 (0)),.v (.int .u8 (0)),.v (.int .u8 (0)),.v (.int .u8 (0)),.v (.int .u8 (0)),.v (.int .u8 (0)),.v (.int .u8 (0)),.v (.int .u8 (0)),.v (.int .u8 (0)),.v (.int .u8 (0)),.v (.int .u8 (0)),.v (.int .u8 (0)),.v (.int .u8 (0)),.v (.int .u8 (0)),.v (.int .u8 (0)),.v (.int .u8 (0)),.v (.int .u8 (0)),.v (.int .u8 (0)),.v (.int .u8 (0)),.v (.int .u8 (0))])] 0 (λH=>?_);refine And.intro ?_ ?_
  ·refine zb H ?_ ?_<;>intro i H
   ·refine And.intro ⟨by decide⟩ ?_;exact zg
   exact zg
  intro b H;refine R.cut_fam H 45 [] [] (λc=>[(0,.v (.int .u64 (c.1))),(2,.v (.int .i64 (c.2)))]) (λc=>[]) [(10,.cells 350 [.v (.int .u8 (0)),.v (.int .u8 (0)),.v (.int .u8 (0)),.v (.int .u8 (0)),.v (.int .u8 (0)),.v (.int .u8 (0)),.v (.int .u8 (0)),.v (.int .u8 (0)),.v (.int .u8 (0)),.v (.int .u8 (0)),.v (.int .u8 (0)),.v (.int .u8 (0)),.v (.int .u8 (0)),.v (.int .u8 (0)),.v (.int .u8 (0)),.v (.int .u8 (0)),.v (.int .u8 (0)),.v (.int .u8 (0)),.v (.int .u8 (0)),.v (.int .u8 (0)),.v (.int .u8 (0)),.v (.int .u8 (0)),.v (.int .u8 (0)),.v (.int .u8 (0))])] 0 (λH=>?_);refine And.intro ?_ ?_
  ·refine zb H ?_ ?_<;>intro j H
   ·refine And.intro ⟨by decide⟩ ?_;exact zg
   exact zg
  intro c H;refine zb H ?_ ?_<;>intro l H
  ·exact(none_st H).elim
  exact(none_st H).elim
 refine zb H ?_ ?_<;>intro m H
 ·exact(none_st H).elim
 refine zb H ?_ ?_<;>intro n H
 ·exact(none_st H).elim
 refine zb H ?_ ?_<;>intro o H
 ·exact(none_st H).elim
 exact(none_st H).elim
noncomputable def g117(a:Int):Option (ByteArray):= (g201 a 10).bind λb=>some b
noncomputable def k117:Eng.CS:={ f:=117,calm:=true,more:=0,ι:=Int×ByteArray,ok:=λi=>g117 i.1=some i.2,rds:=λ_=>[],args:=λi=>[.w (.v (.int .i64 (i.1)))],res:=λi=>.v (.string (i.2)) }
theorem k117_ok:zp Tryz.prog k117:=by
 refine R.calmspec Tryz.func117 (nq9 Tryz.func117) rfl ?_;rintro⟨b,r⟩ hok q _ args hargs
 match args,hargs with
 |[_],hargs=>
 obtain⟨rfl,_⟩:=hargs;refine⟨envC [k201] false [],6,zi (z8 ⟨λ_=>k201_ok,nofun⟩ (zj)),rfl,(nM1 rfl),?_⟩;have H:zf (g117 b) (λa=>a=r):=⟨r,hok,rfl⟩;unfold g117 at H;clear hok;exact zk
noncomputable def g52(a:Int):Option (ByteArray):= (g117 a).bind λb=>some b
noncomputable def k52:Eng.CS:={ f:=52,calm:=true,more:=0,ι:=Int×ByteArray,ok:=λi=>g52 i.1=some i.2,rds:=λ_=>[],args:=λi=>[.w (.v (.int .i64 (i.1)))],res:=λi=>.v (.string (i.2)) }
theorem k52_ok:zp Tryz.prog k52:=by
 refine R.calmspec Tryz.func52 (nq9 Tryz.func52) rfl ?_;rintro⟨b,r⟩ hok q _ args hargs
 match args,hargs with
 |[_],hargs=>
 obtain⟨rfl,_⟩:=hargs;refine⟨envC [k117] false [],6,zi (z8 ⟨λ_=>k117_ok,nofun⟩ (zj)),rfl,(nM1 rfl),?_⟩;have H:zf (g52 b) (λa=>a=r):=⟨r,hok,rfl⟩;unfold g52 at H;clear hok;exact zk
noncomputable def g77(b:(Int×ByteArray×Int×Bool×Bool×Bool)):Option (ByteArray):= jn (α:=_) (β:=Int) (λk6=>if b.2.2.2.2.1=true then(ck (inR .i64 (0+1))<|k6 (0+1))else k6 0) (λc=>jn (α:=_) (β:=Int) (λk14=>if b.2.2.2.1=true then(ck (inR .i64 (c+2))<|k14 (c+2))else k14 c) (λa=>if b.2.2.2.2.2=true then(ck (inR .i64 (a+4))<|if (a+4)=0 then some (lit [])else(ck (inR .i64 ((a+4)+1))<|(g52 ((a+4)+1)).bind λd=>ck ((lit [59]).size+d.size≤9223372036854775807)<|some ((lit [59])++d)))else(if a=0 then some (lit [])else(ck (inR .i64 (a+1))<|(g52 (a+1)).bind λe=>ck ((lit [59]).size+e.size≤9223372036854775807)<|some ((lit [59])++e)))))
noncomputable def k77:Eng.CS:={ f:=77,calm:=true,more:=0,ι:=(Int×ByteArray×Int×Bool×Bool×Bool)×ByteArray,ok:=λi=>g77 i.1=some i.2,rds:=λ_=>[],args:=λi=>[.w (.agg [.v (.int .i64 (i.1.1)),.v (.string (i.1.2.1)),.v (.int .i64 (i.1.2.2.1)),bS i.1.2.2.2.1,bS i.1.2.2.2.2.1,bS i.1.2.2.2.2.2])],res:=λi=>.v (.string (i.2)) }
theorem k77_ok:zp Tryz.prog k77:=by
 refine R.calmspec Tryz.func77 (nq9 Tryz.func77) rfl ?_;rintro⟨b,r⟩ hok q _ args hargs
 match args,hargs with
 |[_],hargs=>
 obtain⟨rfl,_⟩:=hargs;refine⟨envC [k52] false [(77,4),(77,6)],6,zi (z8 ⟨λ_=>k52_ok,nofun⟩ (zj)),rfl,(nM1 rfl),?_⟩;have H:zf (g77 b) (λa=>a=r):=⟨r,hok,rfl⟩;unfold g77 at H;clear hok;refine R.cut_fam H 9 [1] [] (λc=>[(3,.v (.int .i64 (c)))]) (λc=>[]) [(0,.cells 55 [.v (.int .i64 (b.1)),.v (.string (b.2.1)),.v (.int .i64 (b.2.2.1)),bS b.2.2.2.1,bS b.2.2.2.2.1,bS b.2.2.2.2.2])] 0 (λH=>?_);refine And.intro ?_ ?_
 ·exact zg
 intro c H;refine R.cut_fam H 15 [1] [] (λd=>[(3,.v (.int .i64 (d)))]) (λd=>[]) [(0,.cells 55 [.v (.int .i64 (b.1)),.v (.string (b.2.1)),.v (.int .i64 (b.2.2.1)),bS b.2.2.2.1,bS b.2.2.2.2.1,bS b.2.2.2.2.2])] 0 (λH=>?_);refine And.intro ?_ ?_
 ·exact zg
 intro d H;exact zk
noncomputable def g40(a:(Int×ByteArray×Int×Bool×Bool×Bool)):Option (ByteArray):= if ¬(a.2.1.data.toList=(lit []).data.toList) then some (lit [])else((g77 (a.1,a.2.1,a.2.2.1,a.2.2.2.1,a.2.2.2.2.1,a.2.2.2.2.2)).bind λb=>(g78 a.1).bind λc=>if ¬c=0 then(if ¬a.2.2.1=0 then some (lit [])else(if ¬(b.data.toList=(lit []).data.toList) then(ck ((lit [49]).size+b.size≤9223372036854775807)<|ck ((lit [27,91]).size+((lit [49])++b).size≤9223372036854775807)<|ck (zx ([c]))<|ck (((lit [27,91])++((lit [49])++b)).size+(zW ([c])).size≤9223372036854775807)<|some (((lit [27,91])++((lit [49])++b))++(zW ([c]))))else(ck ((lit [27,91]).size+b.size≤9223372036854775807)<|ck (zx ([c]))<|ck (((lit [27,91])++b).size+(zW ([c])).size≤9223372036854775807)<|some (((lit [27,91])++b)++(zW ([c]))))))else((g79 (a.1,a.2.1,a.2.2.1,a.2.2.2.1,a.2.2.2.2.1,a.2.2.2.2.2)).bind λe=>if e=0 then some (lit [])else((g52 e).bind λd=>ck ((lit [27,91]).size+d.size≤9223372036854775807)<|ck (((lit [27,91])++d).size+b.size≤9223372036854775807)<|ck ((((lit [27,91])++d)++b).size+(lit [126]).size≤9223372036854775807)<|some ((((lit [27,91])++d)++b)++(lit [126])))))
noncomputable def k40:Eng.CS:={ f:=40,calm:=true,more:=0,ι:=(Int×ByteArray×Int×Bool×Bool×Bool)×ByteArray,ok:=λi=>g40 i.1=some i.2,rds:=λ_=>[],args:=λi=>[.w (.agg [.v (.int .i64 (i.1.1)),.v (.string (i.1.2.1)),.v (.int .i64 (i.1.2.2.1)),bS i.1.2.2.2.1,bS i.1.2.2.2.2.1,bS i.1.2.2.2.2.2])],res:=λi=>.v (.string (i.2)) }
theorem k40_ok:zp Tryz.prog k40:=by
 refine R.calmspec Tryz.func40 (nq9 Tryz.func40) rfl ?_;rintro⟨b,r⟩ hok q _ args hargs
 match args,hargs with
 |[_],hargs=>
 obtain⟨rfl,_⟩:=hargs;refine⟨envC [k52,k77,k78,k79] false [],6,zi (z8 ⟨λ_=>k52_ok,nofun⟩ (z8 ⟨λ_=>k77_ok,nofun⟩ (z8 ⟨λ_=>k78_ok,nofun⟩ (z8 ⟨λ_=>k79_ok,nofun⟩ (zj))))),rfl,(nM1 rfl),?_⟩;have H:zf (g40 b) (λa=>a=r):=⟨r,hok,rfl⟩;unfold g40 at H;clear hok;refine zb H ?_ ?_<;>intro g H
 ·exact zk
 obtain⟨d,e,H⟩:=za H;refine⟨((b.1,b.2.1,b.2.2.1,b.2.2.2.1,b.2.2.2.2.1,b.2.2.2.2.2),d),⟨e⟩,⟨trivial⟩,?_⟩
 iterate 6 refine zd ?_
 obtain⟨c,f,H⟩:=za H;refine⟨(b.1,c),⟨f⟩,⟨trivial⟩,?_⟩;refine⟨⟨rfl⟩,?_⟩;refine zb H ?_ ?_<;>intro h H
 ·refine zb H ?_ ?_<;>intro i H
  ·exact zk
  refine zb H ?_ ?_<;>intro j H
  ·refine zr H λm H=>?_;refine zr H λn H=>?_;refine yI (l:=[c]) H λo H=>?_;exact zk
  refine zr H λp H=>?_;refine yI (l:=[c]) H λs H=>?_;exact zk
 exact zB
end Go.Proofs.YticmemgehllacaaGreatDoor
namespace Go.Proofs.YticmemgehllacaaGreatDoor
open Go Go.Eng Go.RowKit
noncomputable def g76(a:ByteArray)(b:ByteArray):Option Bool:=ck (a.size<4294967281)<|some (Lib.contains a.data.toList b.data.toList)
noncomputable def k76:Eng.CS:={ f:=76,calm:=true,more:=0,ι:=ByteArray×ByteArray×Bool×Int,ok:=λi=>g76 i.1 i.2.1=some i.2.2.1,rds:=λi=>[(some ⟨0,0,none⟩,[.int .i64 i.2.2.2])],args:=λi=>[.w (.v (.string i.1)),.w (.v (.string i.2.1))],res:=λi=>bS i.2.2.1,rn:=[] }
theorem k76_ok:zp Tryz.prog k76:=by
 refine⟨λargs w=>?_,?_⟩
 ·have hname' : ¬ Tryz.f76.name = "runtime.NumGoroutine" := by simpa using (nq9 Tryz.func76)
  obtain⟨c,hc⟩:=Option.isSome_iff_exists.1 (show Tryz.f76.body.isSome=true from rfl);have hP:=Tryz.func76;simp[callFunc,k76,hP,hname',hc]
 rintro w q S ⟨a,b,r,m⟩ vs hok hrds hm hargs
 have hr:a.size<4294967281∧Lib.contains a.data.toList b.data.toList=r:=by
  have:g76 a b=some r:=hok;unfold g76 ck at this;split at this
  ·rename_i d;cases this;exact⟨d,rfl⟩
  cases this
 obtain⟨d,rfl⟩:=hr
 match vs,hargs with
 |[v,s],hargs=>
 obtain⟨hv,hs,_⟩:=hargs;have hv:v=.string a:=hv;have hs:s=.string b:=hs;subst hs hv;have hR:Reads q (some ⟨0,0,none⟩) [.int .i64 m]:=hrds.1;have f:q 0 0=some (.int .i64 m):=hR 0 (Nat.zero_lt_succ 0);refine(Tryz.strings_Contains a b m w d (hm 0 0 _ f)).mono ?_;rintro e w' ⟨rfl,rfl⟩;exact⟨by simp[k76,bS,den],Below.refl _ _⟩
end Go.Proofs.YticmemgehllacaaGreatDoor
namespace Go.Proofs.YticmemgehllacaaGreatDoor
open Go Go.Eng
noncomputable def g39(a:(Int×ByteArray×Int×Bool×Bool×Bool)):Option (ByteArray):= if a.2.2.2.1=true then some (lit [])else(if a.2.2.2.2.1=true then some (lit [])else(if a.2.2.2.2.2=true then some (lit [])else(if ¬a.2.2.1=0 then some (lit [])else(if 65536<(a.2.1.size:Int) then some (lit [])else((g75 a.2.1).bind λb=>if ¬(b=true) then some (lit [])else((g76 a.2.1 (lit [27,91,50,48,49,126])).bind λc=>if c=true then some (lit [])else(ck ((lit [27,91,50,48,48,126]).size+a.2.1.size≤9223372036854775807)<|ck (((lit [27,91,50,48,48,126])++a.2.1).size+(lit [27,91,50,48,49,126]).size≤9223372036854775807)<|some (((lit [27,91,50,48,48,126])++a.2.1)++(lit [27,91,50,48,49,126])))))))))
noncomputable def k39:Eng.CS:={ f:=39,calm:=true,more:=0,ι:=(Int×ByteArray×Int×Bool×Bool×Bool)×ByteArray×Int,ok:=λi=>g39 i.1=some i.2.1,rds:=λi=>[(some ⟨0,0,none⟩,[.int .i64 i.2.2])],args:=λi=>[.w (.agg [.v (.int .i64 (i.1.1)),.v (.string (i.1.2.1)),.v (.int .i64 (i.1.2.2.1)),bS i.1.2.2.2.1,bS i.1.2.2.2.2.1,bS i.1.2.2.2.2.2])],res:=λi=>.v (.string (i.2.1)) }
theorem k39_ok:zp Tryz.prog k39:=by
 refine R.calmspec Tryz.func39 (nq9 Tryz.func39) rfl ?_;rintro⟨b,r,mM⟩ hok q hrds args hargs;obtain⟨hM,_⟩:=hrds
 match args,hargs with
 |[_],hargs=>
 obtain⟨rfl,_⟩:=hargs;refine⟨envC [k75,k76] false [],6,zi (z8 ⟨λ_=>k75_ok,nofun⟩ (z8 ⟨λ_=>k76_ok,nofun⟩ (zj))),rfl,(nM1 rfl),?_⟩;have H:zf (g39 b) (λa=>a=r):=⟨r,hok,rfl⟩;unfold g39 at H;clear hok;refine zb H ?_ ?_<;>intro g H
 ·exact zk
 refine zb H ?_ ?_<;>intro h H
 ·exact zk
 refine zb H ?_ ?_<;>intro i H
 ·exact zk
 refine zb H ?_ ?_<;>intro j H
 ·exact zk
 refine zb H ?_ ?_<;>intro l H
 ·exact zk
 obtain⟨c,d,H⟩:=za H;refine⟨(b.2.1,c),⟨d⟩,⟨trivial⟩,?_⟩;refine⟨⟨rfl⟩,?_⟩;refine zb H ?_ ?_<;>intro m H
 ·exact zk
 obtain⟨e,f,H⟩:=za H;refine⟨(b.2.1,(lit [27,91,50,48,49,126]),e,mM),⟨f⟩,⟨⟨hM,trivial⟩⟩,?_⟩
 iterate 2 refine⟨⟨rfl⟩,?_⟩
 exact zk
noncomputable def g17(a:(Int×ByteArray×Int×Bool×Bool×Bool)):Option (List Int×Int):= jn (α:=_) (β:=ByteArray) (λb=>jn (α:=_) (β:=Bool) (λk52=>if a.1=1 then k52 (decide (a.1=1))else(if a.1=2 then k52 (decide (a.1=2))else(if a.1=3 then k52 (decide (a.1=3))else(if a.1=6 then k52 (decide (a.1=6))else k52 (decide (a.1=17)))))) (λd=>if d=true then((g38 (a.1,a.2.1,a.2.2.1,a.2.2.2.1,a.2.2.2.2.1,a.2.2.2.2.2)).bind λe=>b e)else(if a.1=16 then((g39 (a.1,a.2.1,a.2.2.1,a.2.2.2.1,a.2.2.2.2.1,a.2.2.2.2.2)).bind λf=>b f)else(if a.1=4 then(if a.1=4∧(a.2.1.data.toList=(⟨#[]⟩:ByteArray).data.toList∧(a.2.2.1=0∧((¬(a.2.2.2.1=true))∧((¬(a.2.2.2.2.1=true))∧((¬(a.2.2.2.2.2=true))∧True))))) then b (lit [27,91,90])else b (lit []))else((g40 (a.1,a.2.1,a.2.2.1,a.2.2.2.1,a.2.2.2.2.1,a.2.2.2.2.2)).bind λg=>b g))))) (λc=>if c.data.toList=(lit []).data.toList then some (([]:List Int),290)else(ck (c.size≤140737488355328)<|some (z6 c,0)))
noncomputable def k17:Eng.CS:={ f:=17,calm:=false,more:=0,ι:=(Int×ByteArray×Int×Bool×Bool×Bool)×(List Int×Int)×Int,ok:=λi=>g17 i.1=some i.2.1,rds:=λi=>[(some ⟨0,0,none⟩,[.int .i64 i.2.2])],args:=λi=>[.w (.agg [.v (.int .i64 (i.1.1)),.v (.string (i.1.2.1)),.v (.int .i64 (i.1.2.2.1)),bS i.1.2.2.2.1,bS i.1.2.2.2.2.1,bS i.1.2.2.2.2.2])],res:=λ_=>.bad,rn:=[],gr:=true,γ:=(Option Addr×Nat),resG:=λi g=>.tup [.v (.slice g.1 i.2.1.1.length g.2),.v (.int .i64 (i.2.1.2))],LG:=λi g=>[],okG:=λi g=>i.2.1.1.length≤g.2,rdsG:=λi g=>[(g.1,ei .u8 i.2.1.1)],fzr:=[(0,0)] }
theorem k17_ok:CSOk Tryz.prog k17:=by
 refine R.cspecG Tryz.func17 (nq9 Tryz.func17) rfl rfl (λ_=>rfl) ?_;rintro⟨b,r,mM⟩ hok q hrds args hargs;obtain⟨hM,_⟩:=hrds;dsimp only[k17] at hargs ⊢
 match args,hargs with
 |[_],hargs=>
 obtain⟨rfl,_⟩:=hargs;refine⟨envC [k38,k39,k40] false [(17,9),(17,15)],6,zi (z8 ⟨λ_=>k38_ok,nofun⟩ (z8 ⟨λ_=>k39_ok,nofun⟩ (z8 ⟨λ_=>k40_ok,nofun⟩ (zj)))),?_⟩;have H:zf (g17 b) (λa=>a=r):=⟨r,hok,rfl⟩;unfold g17 at H;clear hok;refine R.cut_fam H 26 [] [] (λc=>[(4,.v (.string (c)))]) (λc=>[]) [(0,.cells 55 [.v (.int .i64 (b.1)),.v (.string (b.2.1)),.v (.int .i64 (b.2.2.1)),bS b.2.2.2.1,bS b.2.2.2.2.1,bS b.2.2.2.2.2])] 0 (λH=>?_);refine And.intro ?_ ?_
 ·refine R.cut_fam H 17 [1,4,6] [] (λd=>[(9,bS d)]) (λd=>[]) [(0,.cells 55 [.v (.int .i64 (b.1)),.v (.string (b.2.1)),.v (.int .i64 (b.2.2.1)),bS b.2.2.2.1,bS b.2.2.2.2.1,bS b.2.2.2.2.2])] 0 (λH=>?_);refine And.intro ?_ ?_
  ·exact zg
  intro d H;refine zb H ?_ ?_<;>intro n H
  ·exact zg
  refine zb H ?_ ?_<;>intro o H
  ·obtain⟨e,f,H⟩:=za H;refine⟨((b.1,b.2.1,b.2.2.1,b.2.2.2.1,b.2.2.2.2.1,b.2.2.2.2.2),e,mM),⟨f⟩,⟨⟨hM,trivial⟩⟩,?_⟩
   iterate 6 refine zd ?_
   exact zg
  exact zg
 intro c H;refine zb H ?_ ?_<;>intro p H
 ·exact zg
 refine ob_sb H λs H t g h u i j=>?_;intro l m;obtain rfl:l=(z6 c).length:=m.trans (zq c).symm;have hfin:=zo H
 first|subst hfin|rw[←hfin]
 refine⟨(g,h),⟨(Nat.le_trans (Nat.le_of_eq (zq c)) i)⟩,⟨⟨j,trivial⟩⟩,?_⟩
 repeat refine zd ?_
 trivial
noncomputable def g14(f:ByteArray):Option ((Int×List Int×Int×Int)×Bool):= (g27 f (lit [32])).bind λa=>if a.1.data.toList=(lit [116,105,99,107]).data.toList then some ((2,([]:List Int),0,0),(decide (¬(a.2.2=true))))else(if a.1.data.toList=(lit [99,108,111,115,101]).data.toList then some ((4,([]:List Int),0,0),(decide (¬(a.2.2=true))))else(if a.1.data.toList=(lit [114,101,115,105,122,101]).data.toList then((g28 a.2.1).bind λc=>some ((c.1.1,c.1.2.1,c.1.2.2.1,c.1.2.2.2),c.2))else(if a.1.data.toList=(lit [116,121,112,101]).data.toList then(ck (a.2.1.size≤140737488355328)<|(g29 a.2.1).bind λg=>some ((1,z6 a.2.1,0,0),g))else(if a.1.data.toList=(lit [98,121,116,101,115]).data.toList then((g30 a.2.1).bind λd=>if d.2=true then(if 0<((d.1.length:Nat):Int) then some ((1,d.1,0,0),true)else some ((1,d.1,0,0),(decide (¬(a.2.2=true)))))else some ((1,d.1,0,0),false))else(if a.1.data.toList=(lit [107,101,121]).data.toList then((g31 a.2.1).bind λb=>if ¬b.2=0 then some ((0,([]:List Int),0,0),false)else((g17 (b.1.1,b.1.2.1,b.1.2.2.1,b.1.2.2.2.1,b.1.2.2.2.2.1,b.1.2.2.2.2.2)).bind λe=>some ((1,e.1,0,0),(decide (e.2=0)))))else some ((0,([]:List Int),0,0),false))))))
noncomputable def k14:Eng.CS:={ f:=14,calm:=false,more:=0,ι:=ByteArray×((Int×List Int×Int×Int)×Bool)×Int,ok:=λi=>g14 i.1=some i.2.1,rds:=λi=>[(some ⟨0,0,none⟩,[.int .i64 i.2.2])],args:=λi=>[.w (.v (.string (i.1)))],res:=λ_=>.bad,rn:=[],gr:=true,γ:=(Option Addr×Nat),resG:=λi g=>.tup [.agg [.v (.int .i64 (i.2.1.1.1)),.v (.slice g.1 i.2.1.1.2.1.length g.2),.v (.int .i64 (i.2.1.1.2.2.1)),.v (.int .i64 (i.2.1.1.2.2.2))],bS i.2.1.2],LG:=λi g=>[],okG:=λi g=>i.2.1.1.2.1.length≤g.2,rdsG:=λi g=>[(g.1,ei .u8 i.2.1.1.2.1)],fzr:=[(0,1)] }
theorem k14_ok:CSOk Tryz.prog k14:=by
 refine R.cspecG Tryz.func14 (nq9 Tryz.func14) rfl rfl (λ_=>rfl) ?_;rintro⟨h,r,mM⟩ hok q hrds args hargs;obtain⟨hM,_⟩:=hrds;dsimp only[k14] at hargs ⊢
 match args,hargs with
 |[_],hargs=>
 obtain⟨rfl,_⟩:=hargs;refine⟨envC [k17,k27,k28,k29,k30,k31] false [],6,zi (z8 ⟨nofun,λ_=>k17_ok⟩ (z8 ⟨λ_=>k27_ok,nofun⟩ (z8 ⟨nofun,λ_=>k28_ok⟩ (z8 ⟨λ_=>k29_ok,nofun⟩ (z8 ⟨nofun,λ_=>k30_ok⟩ (z8 ⟨λ_=>k31_ok,nofun⟩ (zj))))))),?_⟩;have H:zf (g14 h) (λa=>a=r):=⟨r,hok,rfl⟩;unfold g14 at H;clear hok;obtain⟨b,n,H⟩:=za H;refine⟨(h,(lit [32]),b,mM),⟨n⟩,⟨⟨hM,trivial⟩⟩,?_⟩
 iterate 2 refine⟨⟨rfl⟩,?_⟩
 refine zb H ?_ ?_<;>intro V H
 ·exact zg
 refine zb H ?_ ?_<;>intro W H
 ·exact zg
 refine zb H ?_ ?_<;>intro X H
 ·obtain⟨o,p,H⟩:=za H;refine⟨(b.2.1,o,mM),⟨p⟩,⟨⟨hM,trivial⟩⟩,?_⟩;refine⟨⟨rfl⟩,?_⟩;intro Y g65 Z s t;obtain⟨u,v⟩:=g65;have i:=s;obtain⟨j,_⟩:=t
  try dsimp only at i j
  have hfin:=zo H
  first|subst hfin|rw[←hfin]
  refine⟨(u,v),⟨i⟩,⟨⟨j,trivial⟩⟩,?_⟩
  repeat refine zd ?_
  trivial
 refine zb H ?_ ?_<;>intro a1 H
 ·refine ob_sb H λa2 H a3 w x a4 y z=>?_;intro A B;obtain rfl:A=(z6 b.2.1).length:=B.trans (zq b.2.1).symm;obtain⟨C,D,H⟩:=za H;refine⟨(b.2.1,C),⟨D⟩,⟨trivial⟩,?_⟩;refine⟨⟨rfl⟩,?_⟩;have hfin:=zo H
  first|subst hfin|rw[←hfin]
  refine⟨(w,x),⟨(Nat.le_trans (Nat.le_of_eq (zq b.2.1)) y)⟩,⟨⟨z,trivial⟩⟩,?_⟩
  repeat refine zd ?_
  trivial
 refine zb H ?_ ?_<;>intro a5 H
 ·obtain⟨E,F,H⟩:=za H;refine⟨(b.2.1,E),⟨F⟩,⟨trivial⟩,?_⟩;refine⟨⟨rfl⟩,?_⟩;intro a6 G a7 I J;obtain⟨f,g⟩:=G;have d:=I;obtain⟨e,_⟩:=J
  try dsimp only at d e
  refine zb H ?_ ?_<;>intro a8 H
  ·refine zb H ?_ ?_<;>intro a9 H
   ·have hfin:=zo H
    first|subst hfin|rw[←hfin]
    refine⟨(f,g),⟨d⟩,⟨⟨e,trivial⟩⟩,?_⟩
    repeat refine zd ?_
    trivial
   have hfin:=zo H
   first|subst hfin|rw[←hfin]
   refine⟨(f,g),⟨d⟩,⟨⟨e,trivial⟩⟩,?_⟩
   repeat refine zd ?_
   trivial
  have hfin:=zo H
  first|subst hfin|rw[←hfin]
  refine⟨(f,g),⟨d⟩,⟨⟨e,trivial⟩⟩,?_⟩
  repeat refine zd ?_
  trivial
 refine zb H ?_ ?_<;>intro aa H
 ·obtain⟨c,L,H⟩:=za H;refine⟨(b.2.1,c),⟨L⟩,⟨trivial⟩,?_⟩;refine⟨⟨rfl⟩,?_⟩;refine zb H ?_ ?_<;>intro ab H
  ·exact zg
  obtain⟨M,N,H⟩:=za H;refine⟨((c.1.1,c.1.2.1,c.1.2.2.1,c.1.2.2.2.1,c.1.2.2.2.2.1,c.1.2.2.2.2.2),M,mM),⟨N⟩,⟨⟨hM,trivial⟩⟩,?_⟩
  iterate 3 refine⟨⟨rfl⟩,?_⟩
  iterate 3 refine zd ?_
  intro ac O ad P Q;obtain⟨T,U⟩:=O;have l:=P;obtain⟨m,_⟩:=Q
  try dsimp only at l m
  have hfin:=zo H
  first|subst hfin|rw[←hfin]
  refine⟨(T,U),⟨l⟩,⟨⟨m,trivial⟩⟩,?_⟩
  repeat refine zd ?_
  trivial
 exact zg
def c37(p:(Int×((Option Addr×Nat)×List Int)×Int×Int)):List Value:=[.int .i64 p.1,.slice p.2.1.1.1 p.2.1.2.length p.2.1.1.2,.int .i64 p.2.2.1,.int .i64 p.2.2.2]
theorem x5:∀a,(c37 a).length=4:=λ_=>rfl
theorem c37_one:∀a,∀y∈c37 a,y.oneCell'=true:=by intro a y hy;simp only[c37,List.mem_cons,List.not_mem_nil,or_false] at hy;rcases hy with rfl|rfl|rfl|rfl<;>rfl
def e37(p:(Int×((Option Addr×Nat)×List Int)×Int×Int)):(Int×List Int×Int×Int):=(p.1,p.2.1.2,p.2.2.1,p.2.2.2)
def P37(q:PH)(p:(Int×((Option Addr×Nat)×List Int)×Int×Int)):Prop:=Reads q p.2.1.1.1 (ei .u8 p.2.1.2)∧p.2.1.2.length≤p.2.1.1.2
def R37(p:(Int×((Option Addr×Nat)×List Int)×Int×Int)):List (Option Addr×List Value):=[(p.2.1.1.1,ei .u8 p.2.1.2)]
def cap37(p:(Int×((Option Addr×Nat)×List Int)×Int×Int)):Prop:=p.2.1.2.length≤p.2.1.1.2
theorem P37.mono{q q':PH}(h:q.le q'){p:(Int×((Option Addr×Nat)×List Int)×Int×Int)}(hp:P37 q p):P37 q' p:=⟨Reads.mono h hp.1,hp.2⟩
theorem P37.of{q:PH}{l:List ((Int×((Option Addr×Nat)×List Int)×Int×Int))}(h:Eng.RdsOk q (l.flatMap R37))(hc:∀p∈l,cap37 p):∀p∈l,P37 q p:=λp hp=>⟨rds_mem (x:=(p.2.1.1.1,ei .u8 p.2.1.2)) h (List.mem_flatMap.2 ⟨p,hp,by simp[R37]⟩),(hc p hp)⟩
theorem P37.rds{q:PH}{l:List ((Int×((Option Addr×Nat)×List Int)×Int×Int))}(h:∀p∈l,P37 q p):RdsOk q (l.flatMap R37):=rds_of λx hx=>by obtain⟨p,hp,hx⟩:=List.mem_flatMap.1 hx;have h:=h p hp;simp only[R37,List.mem_cons,List.not_mem_nil,or_false] at hx;rcases hx with rfl;exact h.1
theorem P37.cap{q:PH}{l:List ((Int×((Option Addr×Nat)×List Int)×Int×Int))}(h:∀p∈l,P37 q p):∀p∈l,cap37 p:=λp hp=>(h p hp).2
theorem xL{p q:Prop}(k:q)(h:p:=by first|exact rfl|exact Iff.rfl|exact⟨rfl,rfl⟩|exact decide_eq_true_iff|(constructor<;>first|exact rfl|(simp only[ei,eb,es,ec,c37,gmin,gmax,List.map_append,List.flatMap_append,List.nil_append,List.append_nil,List.append_assoc];done)|omega|(simp only[List.nil_append,List.length_append,List.length_cons,List.length_nil];omega)|(simp[ei,eb,es,ec,c37,gmin,gmax];done))|exact rfl|(simp only[ei,eb,es,ec,c37,gmin,gmax,List.map_append,List.flatMap_append,List.nil_append,List.append_nil,List.append_assoc];done)|omega|(simp only[List.nil_append,List.length_append,List.length_cons,List.length_nil];omega)|(simp[ei,eb,es,ec,c37,gmin,gmax];done)|simp[ei,eb,es,ec,c37,gmin,gmax]):Ob p∧q:=⟨⟨h⟩,k⟩
noncomputable def g5(h:ByteArray):Option (List (Int×(List Int)×Int×Int)×Int×Int):= if 65536<(h.size:Int) then some (([]:List (Int×(List Int)×Int×Int)),0,2)else(jn (α:=_) (β:=Int) (λj=>(y7 (σ:=Int×Int×ByteArray) (ρ:=Int) (λb=>if 0<(b.2.2.size:Int) then(jn (α:=_) (β:=ByteArray×ByteArray) (λk134=>(g26 b.2.2 10).bind λc=>if 0≤c then(ck (0≤(0:Int)∧(0:Int)≤c∧c≤(b.2.2.size:Int))<|ck (inR .i64 (c+1))<|ck (0≤c+1∧c+1≤(b.2.2.size:Int)∧(b.2.2.size:Int)≤(b.2.2.size:Int))<|k134 (b.2.2.extract (c+1).toNat (b.2.2.size:Int).toNat,b.2.2.extract (0:Int).toNat c.toNat))else k134 ((lit []),b.2.2)) (λf=>ck (inR .i64 (b.2.1+1))<|if f.2.data.toList=(lit []).data.toList then some (.go (b.1,b.2.1+1,f.1))else(ck (0≤(0:Int)∧0<(f.2.size:Int))<|if ((f.2.data.toList[(0:Int).toNat]?.getD 0).toNat:Int)=35 then some (.go (b.1,b.2.1+1,f.1))else(ck (inR .i64 (b.1+1))<|some (.go (b.1+1,b.2.1+1,f.1))))))else some (.out b.1)) (0,0,h)).bind λl=>j l) (λm=>if 4096<m then some (([]:List (Int×(List Int)×Int×Int)),0,3)else(jn (α:=_) (β:=List (Int×(List Int)×Int×Int)) (λn=>(y7 (σ:=List (Int×(List Int)×Int×Int)×Int×ByteArray) (ρ:=(Int×List (Int×(List Int)×Int×Int)) ⊕ (List (Int×(List Int)×Int×Int))) (λa=>if 0<(a.2.2.size:Int) then(jn (α:=_) (β:=ByteArray×ByteArray) (λi=>(g26 a.2.2 10).bind λd=>if 0≤d then(ck (0≤(0:Int)∧(0:Int)≤d∧d≤(a.2.2.size:Int))<|ck (inR .i64 (d+1))<|ck (0≤d+1∧d+1≤(a.2.2.size:Int)∧(a.2.2.size:Int)≤(a.2.2.size:Int))<|i (a.2.2.extract (d+1).toNat (a.2.2.size:Int).toNat,a.2.2.extract (0:Int).toNat d.toNat))else i ((lit []),a.2.2)) (λe=>ck (inR .i64 (a.2.1+1))<|if e.2.data.toList=(lit []).data.toList then some (.go (a.1,a.2.1+1,e.1))else(ck (0≤(0:Int)∧0<(e.2.size:Int))<|if ((e.2.data.toList[(0:Int).toNat]?.getD 0).toNat:Int)=35 then some (.go (a.1,a.2.1+1,e.1))else((g14 e.2).bind λg=>if ¬(g.2=true) then some (.out (.inl ((a.2.1+1,a.1))))else(ck ((a.1.length+1)*48≤140737488355328)<|some (.go ((a.1++([(g.1.1,g.1.2.1,g.1.2.2.1,g.1.2.2.2)]:List (Int×(List Int)×Int×Int))),a.2.1+1,e.1)))))))else some (.out (.inr (a.1)))) ([],0,h)).bind λo=>sm o (λp=>some (([]:List (Int×(List Int)×Int×Int)),p.1,290)) (λq=>n q)) (λr=>some (r,0,0)))))
noncomputable def k5:Eng.CS:={ f:=5,calm:=false,more:=0,ι:=ByteArray×(List (Int×(List Int)×Int×Int)×Int×Int)×Int,ok:=λi=>g5 i.1=some i.2.1,rds:=λi=>[(some ⟨0,0,none⟩,[.int .i64 i.2.2])],args:=λi=>[.w (.v (.string (i.1)))],res:=λ_=>.bad,rn:=[],gr:=true,γ:=(Option Addr×Nat)×(List (Int×((Option Addr×Nat)×List Int)×Int×Int)),resG:=λi g=>.tup [.v (.slice g.1.1 i.2.1.1.length g.1.2),.v (.int .i64 (i.2.1.2.1)),.v (.int .i64 (i.2.1.2.2))],LG:=λi g=>[],okG:=λi g=>i.2.1.1.length≤g.1.2∧g.2.map e37=i.2.1.1∧(∀p∈g.2,cap37 p),rdsG:=λi g=>[(g.1.1,ec c37 g.2)]++(g.2).flatMap R37,fzr:=[(0,0)] }
theorem zdTB3_{p:Prop}(h:p:=by repeat' first|refine zb H ?_ ?_<;>intro _ H|refine zr H λ_ H=>?_|(obtain⟨_,hv,H⟩:=za H;first|refine⟨(_,_),⟨hv⟩,⟨trivial⟩,?_⟩|refine⟨(_,_,_),⟨hv⟩,⟨trivial⟩,?_⟩|refine⟨(_,_,_,_),⟨hv⟩,⟨trivial⟩,?_⟩)|refine⟨⟨rfl⟩,?_⟩|(have hfin:=zo H;(first|subst hfin|rw[←hfin]);refine⟨(none,_),⟨Nat.le_refl _⟩,⟨⟨Reads.nil,trivial⟩⟩,?_⟩;(repeat refine xL ?_);trivial)|((first|refine⟨(),⟨H⟩,⟨rfl⟩,?_⟩|refine⟨_,⟨H⟩,⟨rfl⟩,?_⟩);(repeat refine xL ?_);trivial)|(replace H:=zw H;refine⟨(_,_),⟨H,Nat.lt_succ_self _⟩,⟨trivial⟩,?_⟩;(repeat refine xL ?_);trivial)|(replace H:=zw H;dsimp only[stp,sm] at H)|refine xL ?_):p:=h
theorem k5_ok:CSOk Tryz.prog k5:=by
 refine R.cspecG Tryz.func5 (nq9 Tryz.func5) rfl rfl (λ_=>rfl) ?_;rintro⟨x,r,mM⟩ hok q hrds args hargs;obtain⟨hM,_⟩:=hrds;dsimp only[k5] at hargs ⊢
 match args,hargs with
 |[_],hargs=>
 obtain⟨rfl,_⟩:=hargs;refine⟨envC [k14,k26] false [(5,6),(5,16),(25,9)],6,zi (z8 ⟨nofun,λ_=>k14_ok⟩ (z8 ⟨λ_=>k26_ok,nofun⟩ (zj))),?_⟩;have H:zf (g5 x) (λa=>a=r):=⟨r,hok,rfl⟩;unfold g5 at H;clear hok;refine zb H ?_ ?_<;>intro h2 H
 ·have hfin:=zo H
  first|subst hfin|rw[←hfin]
  refine⟨((none,0),([]:List (Int×((Option Addr×Nat)×List Int)×Int×Int))),⟨⟨Nat.le_refl _,(show List.map e37 []=[] from rfl),yF⟩⟩,⟨(y6.2 ⟨⟨Reads.nil,trivial⟩,P37.rds yF⟩)⟩,?_⟩
  repeat refine xL ?_
  trivial
 refine R.cut_fam H 24 [0,2,3,4,5] [] (λl=>[]) (λl=>[(6,.cells 3 [.v (.int .i64 (l))])]) [(0,.cells 22 [.v (.slice none 0 0)]),(1,.cells 3 [.v (.int .i64 (0))]),(2,.cells 23 [.v (.int .i64 (0))])] 0 (λH=>?_);refine And.intro ?_ ?_
 ·refine R.loop_fam (zN H) [0] [] (λ_ j=>[(3,.v (.int .i64 (j.2.1))),(4,.v (.string (j.2.2)))]) (λ_ j=>[(6,.cells 3 [.v (.int .i64 (j.1))])]) 0 (λO H=>?_);refine⟨(O,_),⟨H⟩,⟨trivial⟩,?_⟩
  repeat refine xL ?_
  rintro⟨m0,j⟩ H _;obtain⟨m84,hm0,H⟩:=zO H;dsimp only at hm0;subst hm0
  try dsimp only at H
  refine zb H ?_ ?_<;>intro h126 H
  ·refine R.cut_fam H 39 [0,3] [] (λt=>[(4,.v (.string (t.1))),(5,.v (.string (t.2)))]) (λt=>[]) [(6,.cells 3 [.v (.int .i64 (j.1))]),(0,.cells 22 [.v (.slice none 0 0)]),(1,.cells 3 [.v (.int .i64 (0))]),(2,.cells 23 [.v (.int .i64 (0))]),(10,.cells 9 [.v (.string (x))]),(14,.loop .ready none),(15,.dfr)] 0 (λH=>?_);refine And.intro ?_ ?_
   ·exact zdTB3_
   intro t H;exact zdTB3_
  exact zdTB3_
 intro l H;refine zb H ?_ ?_<;>intro h148 H
 ·have hfin:=zo H
  first|subst hfin|rw[←hfin]
  refine⟨((none,0),([]:List (Int×((Option Addr×Nat)×List Int)×Int×Int))),⟨⟨Nat.le_refl _,(show List.map e37 []=[] from rfl),yF⟩⟩,⟨(y6.2 ⟨⟨Reads.nil,trivial⟩,P37.rds yF⟩)⟩,?_⟩
  repeat refine xL ?_
  trivial
 refine R.cut_famXG H 46 [2,3,4,6] [] [] (λ(m:List (Int×(List Int)×Int×Int)) (g:(List (Int×((Option Addr×Nat)×List Int)×Int×Int)))=>[]) (λ(m:List (Int×(List Int)×Int×Int)) (g:(List (Int×((Option Addr×Nat)×List Int)×Int×Int)))=>[(26,.cells 22 [.own 46]),(46,.arr 37 4 (m.length) (ec c37 ((g))))]) [(6,.cells 3 [.v (.int .i64 (l))]),(0,.cells 22 [.v (.slice none 0 0)]),(1,.cells 3 [.v (.int .i64 (0))]),(2,.cells 23 [.v (.int .i64 (0))])] 1 (λq (m:List (Int×(List Int)×Int×Int)) (g:(List (Int×((Option Addr×Nat)×List Int)×Int×Int)))=>g.map e37=m∧(∀p∈g,P37 q p)) (λH=>?_);refine And.intro ?_ ?_
 ·refine R.loop_famXG (zN H) [0] [(100026,0,37,4)] [] (λ_=>λ(d:List (Int×(List Int)×Int×Int)×Int×ByteArray) (g:(List (Int×((Option Addr×Nat)×List Int)×Int×Int)))=>[(3,.v (.int .i64 (d.2.1))),(4,.v (.string (d.2.2)))]) (λ_=>λ(d:List (Int×(List Int)×Int×Int)×Int×ByteArray) (g:(List (Int×((Option Addr×Nat)×List Int)×Int×Int)))=>[(26,.cells 22 [.own 39]),(39,.arr 37 4 (d.1.length) (ec c37 ((g))))]) 1 (λq (d:List (Int×(List Int)×Int×Int)×Int×ByteArray) (g:(List (Int×((Option Addr×Nat)×List Int)×Int×Int)))=>g.map e37=d.1∧(∀p∈g,P37 q p)) (λQ H=>?_);refine⟨(Q,_,([]:List (Int×((Option Addr×Nat)×List Int)×Int×Int))),⟨H⟩,⟨(show List.map e37 []=[] from rfl),yF⟩,?_⟩
  repeat refine xL ?_
  rintro q292 n ⟨m0,d,i⟩ H hrd;obtain⟨o,s⟩:=hrd;obtain⟨z,hm0,H⟩:=zO H;dsimp only at hm0 s o;subst hm0
  try dsimp only at H
  refine zb H ?_ ?_<;>intro h379 H
  ·refine R.cut_fam H 60 [0,3] [] (λe=>[(4,.v (.string (e.1))),(5,.v (.string (e.2)))]) (λe=>[]) [(26,.cells 22 [.own 39]),(39,.arr 37 4 (d.1.length) (ec c37 (i))),(6,.cells 3 [.v (.int .i64 (l))]),(0,.cells 22 [.v (.slice none 0 0)]),(1,.cells 3 [.v (.int .i64 (0))]),(2,.cells 23 [.v (.int .i64 (0))]),(29,.cells 9 [.v (.string (x))]),(33,.loop .ready none),(34,.dfr)] 0 (λH=>?_);refine And.intro ?_ ?_
   ·exact zdTB3_
   intro e H;refine zr H λh394 H=>?_;refine zb H ?_ ?_<;>intro h395 H
   ·replace H:=zw H;refine⟨(z,(d.1,d.2.1+1,e.1),i),⟨H,Nat.lt_succ_self _⟩,⟨o,s⟩,⟨λ_ _ _ h=>(n _ _ _ h)⟩,?_⟩
    repeat refine xL ?_
    trivial
   refine zr H λh396 H=>?_;refine zb H ?_ ?_<;>intro h397 H
   ·replace H:=zw H;refine⟨(z,(d.1,d.2.1+1,e.1),i),⟨H,Nat.lt_succ_self _⟩,⟨o,s⟩,⟨λ_ _ _ h=>(n _ _ _ h)⟩,?_⟩
    repeat refine xL ?_
    trivial
   obtain⟨b,T,H⟩:=za H;refine⟨(e.2,b,mM),⟨T⟩,⟨⟨(Reads.mono n hM),trivial⟩⟩,?_⟩;refine⟨⟨rfl⟩,?_⟩;intro q400 U F V W;obtain⟨u,w⟩:=U;have G:=V;obtain⟨I,_⟩:=W
   try dsimp only at G I
   refine zb H ?_ ?_<;>intro h409 H
   ·replace H:=zw H;dsimp only[stp,sm] at H;have hfin:=zo H
    first|subst hfin|rw[←hfin]
    refine⟨((none,0),([]:List (Int×((Option Addr×Nat)×List Int)×Int×Int))),⟨⟨Nat.le_refl _,(show List.map e37 []=[] from rfl),yF⟩⟩,⟨(y6.2 ⟨⟨Reads.nil,trivial⟩,P37.rds yF⟩)⟩,?_⟩
    repeat refine xL ?_
    trivial
   refine xq ww (by first|exact(ec_one c37_one)|((repeat (refine List.forall_mem_cons.2 ⟨rfl,?_⟩));intro y hy;cases hy;done)|(intro y hy;simp[ei,eb,es,ec,c37] at hy;(first|(rcases hy with rfl|hy)|subst hy|skip);all_goals first|rfl|simp_all[Value.oneCell'])) H λh410 H=>?_;intro X Y Z A;obtain rfl:X=(d.1++([(b.1.1,b.1.2.1,b.1.2.2.1,b.1.2.2.2)]:List (Int×(List Int)×Int×Int))).length:=Z.trans wy;obtain⟨a1,a2,a3,hl418,rfl⟩:=nx (f:=e37) (C:=c37) (P:=P37 _) (zs:=Y) (er_app o (show List.map e37 ([(b.1.1,((u,w),b.1.2.1),b.1.2.2.1,b.1.2.2.2)]:List (Int×((Option Addr×Nat)×List Int)×Int×Int))=([(b.1.1,b.1.2.1,b.1.2.2.1,b.1.2.2.2)]:List (Int×(List Int)×Int×Int)) from rfl)) (pin_app (λp hp=>P37.mono F (s p hp)) (pin_one ⟨I,G⟩)) (by first|exact A.trans (ec_app (c:=c37) (xs:=i) (ys:=([(b.1.1,((u,w),b.1.2.1),b.1.2.2.1,b.1.2.2.2)]:List (Int×((Option Addr×Nat)×List Int)×Int×Int)))).symm|(rw[A,(ec_vw x5)];exact(ec_app (c:=c37) (xs:=i) (ys:=([(b.1.1,((u,w),b.1.2.1),b.1.2.2.1,b.1.2.2.2)]:List (Int×((Option Addr×Nat)×List Int)×Int×Int)))).symm)|(refine A.trans (Eq.trans ?_ (ec_app (c:=c37) (xs:=i) (ys:=([(b.1.1,((u,w),b.1.2.1),b.1.2.2.1,b.1.2.2.2)]:List (Int×((Option Addr×Nat)×List Int)×Int×Int)))).symm);refine congrArg (_ ++ ·) ?_;simp[ec,c37];done));replace H:=zw H;refine⟨(z,((d.1++([(b.1.1,b.1.2.1,b.1.2.2.1,b.1.2.2.2)]:List (Int×(List Int)×Int×Int))),d.2.1+1,e.1),a1),⟨H,Nat.lt_succ_self _⟩,⟨a2,a3⟩,⟨λ_ _ _ h=>(F _ _ _ (n _ _ _ h))⟩,?_⟩
   repeat refine xL ?_
   trivial
  replace H:=zw H;dsimp only[stp,sm] at H;refine⟨(d.1,i),⟨H,o,s⟩,⟨λ_ _ _ h=>(n _ _ _ h)⟩,?_⟩
  repeat refine xL ?_
  trivial
 rintro q288 hq287 ⟨m,J⟩ ⟨H,L,B⟩;dsimp only at H B L;intro M D a4 N a5 E;replace E:Reads M D (ec c37 J):=Eq.mp (congrArg (Reads M D) (by first|exact rfl|(simp only[ei,eb,es,ec,c37,gmin,gmax,List.map_append,List.flatMap_append,List.nil_append,List.append_nil,List.append_assoc];done))) E;have hfin:=zo H
 first|subst hfin|rw[←hfin]
 refine⟨((D,a4),J),⟨⟨a5,L,P37.cap (λp hp=>P37.mono N (B p hp))⟩⟩,⟨(y6.2 ⟨⟨E,trivial⟩,P37.rds (λp hp=>P37.mono N (B p hp))⟩)⟩,?_⟩
 repeat refine xL ?_
 trivial
end Go.Proofs.YticmemgehllacaaGreatDoor
section
namespace Go.Eng
open Go Go.RowKit
namespace Exe
noncomputable section
theorem fVal_eq(x:Value)(K:Value→Prop):fVal x K=K x:=by cases x<;>rfl
theorem fSV0_eq'(x:SV)(K:SV→Prop):fSV0 x K=K x:=by
 cases x<;>first|rfl|exact fVal_eq _ _|(rename_i b;cases b<;>rfl)
theorem fSVL_eq':∀(l:List SV) (K:List SV→Prop),fSVL l K=K l
 |[],K=>rfl
 |x::r,K=>by rw[fSVL_c,fSV0_eq',fSVL_eq' r]
theorem wh(x:SV)(K:SV→Prop):fSV x K=K x:=by
 cases x<;>first|rfl|exact fVal_eq _ _|exact fSVL_eq' _ _|(rename_i b;cases b<;>rfl)
def tru:SV→Option Bool
 |.bb b=>some b
 |.b p d=>some (@decide p d)
 |_=>none
def xar(wr:Bool)(k:IntKind)(n:Int):SV:=.v (.int k (k.wrap n))
def xint(op:BinOp)(k:IntKind)(a b:Int):Option SV:=
 match op with
 |.add=>some (xar true k (a+b))
 |.sub=>some (xar true k (a-b))
 |.mul=>some (xar true k (a*b))
 |.quo=>(match decide (b=0) with|true=>none|false=>some (xar true k (a.tdiv b)))
 |.rem=>(match decide (b=0) with|true=>none|false=>some (.v (.int k (a.tmod b))))
 |.and=>some (.v (.int k (bits .and k a b)))
 |.or=>some (.v (.int k (bits .or k a b)))
 |.xor=>some (.v (.int k (bits .xor k a b)))
 |.eql=>some (.b (a=b) (Int.instDecidableEq a b))
 |.neq=>some (.b (¬a=b) (@instDecidableNot _ (Int.instDecidableEq a b)))
 |.lss=>some (.b (a<b) (Int.decLt a b))
 |.leq=>some (.b (a≤b) (Int.decLe a b))
 |.gtr=>some (.b (b<a) (Int.decLt b a))
 |.geq=>some (.b (b≤a) (Int.decLe b a))
 |_=>none
theorem xint_ok{op:BinOp}{k:IntKind}{a b:Int}{y:SV}(h:xint op k a b=some y){K:SV→Prop}(hK:K y):intK op true k a b K:=by
  cases op<;>simp only[xint] at h<;>simp only[intK,arK]<;>first
    |(cases h;exact hK)
    | (split at h
       · cases h
       · rename_i e;cases h;exact ⟨⟨of_decide_eq_false e⟩,hK⟩)
    |cases h
def xsh(op:BinOp)(k:IntKind)(a b:Int):Option SV:=
 match op with
 |.shl=>(match decide (0≤b∧b≤k.bits) with|true=>some (.v (.int k (k.wrap (a*2^b.toNat))))|false=>none)
 |.shr=>(match decide (0≤b∧b≤k.bits) with|true=>some (.v (.int k (a/2^b.toNat)))|false=>none)
 |_=>none
theorem xsh_ok{op:BinOp}{k:IntKind}{a b:Int}{y:SV}(h:xsh op k a b=some y){K:SV→Prop}(hK:K y):shK op k a b K:=by
  cases op<;>simp only[xsh] at h<;>simp only[shK]<;>first
    | (split at h
       · rename_i e;cases h;exact⟨⟨of_decide_eq_true e⟩,hK⟩
       · cases h)
    |cases h
def xstr(op:BinOp)(a b:ByteArray):Option SV:=
 match op with
 |.add=>(match decide (a.size+b.size≤9223372036854775807) with|true=>some (.v (.string (a++b)))|false=>none)
 |.eql=>some (.b (a.data.toList=b.data.toList) (decStr a b))
 |.neq=>some (.b (¬a.data.toList=b.data.toList) (@instDecidableNot _ (decStr a b)))
 |_=>none
theorem xstr_ok{op:BinOp}{a b:ByteArray}{y:SV}(h:xstr op a b=some y){K:SV→Prop}(hK:K y):strK op a b K:=by
  cases op<;>simp only[xstr] at h<;>simp only[strK]<;>first
    |(cases h;exact hK)
    | (split at h
       · rename_i e;cases h;exact⟨⟨of_decide_eq_true e⟩,hK⟩
       · cases h)
    |cases h
def xflr(k:FloatKind)(x:Option Nat):Option SV:=match x with|some r=>some (.v (.float k r))|none=>none
theorem xflr_ok{k:FloatKind}{x:Option Nat}{y:SV}(h:xflr k x=some y){K:SV→Prop}(hK:K y):flrK k x K:=by
 unfold xflr at h;split at h
 ·rename_i r;cases h;exact⟨⟨r,rfl⟩,λr' e=>by cases e;exact hK⟩
 cases h
def xflt(op:BinOp)(k:FloatKind)(a b:Nat):Option SV:=
 match op with
 |.add=>xflr k (k.format.add a b)
 |.sub=>xflr k (k.format.sub a b)
 |.mul=>xflr k (k.format.mul a b)
 |.quo=>xflr k (k.format.div a b)
 |.eql=>some (.b (k.format.order a b=some .eq) (xc _ _))
 |.neq=>some (.b (¬k.format.order a b=some .eq) (@instDecidableNot _ (xc _ _)))
 |.lss=>some (.b (k.format.order a b=some .lt) (xc _ _))
 |.leq=>some (.b (k.format.order a b=some .lt∨k.format.order a b=some .eq) (@instDecidableOr _ _ (xc _ _) (xc _ _)))
 |.gtr=>some (.b (k.format.order a b=some .gt) (xc _ _))
 |.geq=>some (.b (k.format.order a b=some .gt∨k.format.order a b=some .eq) (@instDecidableOr _ _ (xc _ _) (xc _ _)))
 |_=>none
theorem xflt_ok{op:BinOp}{k:FloatKind}{a b:Nat}{y:SV}(h:xflt op k a b=some y){K:SV→Prop}(hK:K y):fltK op k a b K:=by
 cases op<;>simp only[xflt] at h<;>simp only[fltK]<;>first
  |(cases h;exact hK)
  |exact xflr_ok h hK
  |cases h
def xeq(d:Ty)(x y:SV):Option SV:=
 match d with
 | .bool=>(match x,y with
  |.bb true,.bb true=>some (.bb true)|.bb false,.bb false=>some (.bb true)|.bb true,.bb false=>some (.bb false)|.bb false,.bb true=>some (.bb false)
  |.b p d,.bb true=>some (.b p d)
  |.b p d,.bb false=>some (.b (¬p) (@instDecidableNot _ d))
  |.bb true,.b p d=>some (.b p d)
  |.bb false,.b p d=>some (.b (¬p) (@instDecidableNot _ d))
  |.b p d,.b p' d'=>some (.b (p↔p') (@instDecidableIff _ _ d d'))
  | _,_=>none)
 | .ptr _=>(match x,y with
  |.lp _ _,.v (.pointer none)=>some (.bb false)
  |.v (.pointer none),.lp _ _=>some (.bb false)
  |.v (.pointer none),.v (.pointer none)=>some (.bb true)
  | _,_=>none)
 | .func=>(match x,y with
  |.fn _ _,.v .nilFunc=>some (.bb false)
  |.v .nilFunc,.v .nilFunc=>some (.bb true)
  | _,_=>none)
 | .map _ _=>(match x,y with
  |.mr _,.v (.map none)=>some (.bb false)
  |.v (.map none),.v (.map none)=>some (.bb true)
  | _,_=>none)
 | .slice _=>(match x,y with
  |.v (.slice none _ _),.v (.slice none _ _)=>some (.b ((none:Option Addr)=none) (decNone none))
  | _,_=>none)
 |_=>none
theorem xeq_ok{d:Ty}{x y z:SV}(h:xeq d x y=some z){K:SV→Prop}(hK:K z):eqK d x y K:=by
 unfold xeq at h;split at h
 ·split at h<;>first|(cases h;exact hK)|cases h
 ·split at h<;>first|(cases h;exact hK)|cases h
 ·split at h<;>first|(cases h;exact hK)|cases h
 ·split at h<;>first|(cases h;exact hK)|cases h
 ·split at h<;>first|(cases h;exact hK)|cases h
 cases h
def xnot(x:SV):Option SV:=
 match x with
 |.bb true=>some (.bb false)
 |.bb false=>some (.bb true)
 |.b p d=>some (.b (¬p) (@instDecidableNot _ d))
 |_=>none
theorem xnot_ok{x z:SV}(h:xnot x=some z){K:SV→Prop}(hK:K z):notK x K:=by
 unfold xnot at h;split at h<;>first|(cases h;exact hK)|cases h
def xbin(d:Ty)(op:BinOp)(x y:SV):Option SV:=
 match x,y with
 |.v (.int k a),.v (.int k' b)=>
  (match op with
  |.shl=>xsh .shl k a b
  |.shr=>xsh .shr k a b
  | op=>match Nat.beq (kc k) (kc k') with | true=>xint op k a b | false=>none)
 |.v (.string a),.v (.string b)=>xstr op a b
 |.v (.float k a),.v (.float k' b)=>(match fkc k k' with|true=>xflt op k a b|false=>none)
 |.agg _,_=>none
 |x,y=>
  (match op with
  |.eql=>xeq d x y
  |.neq=>(match xeq d x y with|some r=>xnot r|none=>none)
  | _=>none)
theorem eqsK_of{c:List Ty}{d:Ty}{x y:SV}{K:SV→Prop}(hx:∀l,x≠.agg l)(h:eqK d x y K):eqsK c d x y K:=by
 unfold eqsK;split
 ·exact absurd rfl (hx _)
 exact h
theorem xbin_ok{c:List Ty}{d:Ty}{op:BinOp}{x y z:SV}(h:xbin d op x y=some z){K:SV→Prop}(hK:K z):binK c d op true x y K:=by
  unfold xbin at h;split at h
  · cases op<;>first
      |exact xsh_ok h hK
      | (simp only at h
         unfold binK;dsimp only;split at h
         · rename_i e;rw[e];exact xint_ok h hK
         · cases h)
  · exact xstr_ok h hK
  · split at h
    · rename_i e
      unfold binK;simp only[e];exact xflt_ok h hK
    · cases h
  · cases h
  · rename_i N4 N1 N2 N3
    unfold binK;split
    · exact(N1 _ _ _ _ rfl rfl).elim
    · exact(N2 _ _ rfl rfl).elim
    · exact(N3 _ _ _ _ rfl rfl).elim
    · split at h
      · exact eqsK_of (λl e=>(N4 l e).elim) (xeq_ok h hK)
      · split at h
        · rename_i r e
          exact eqsK_of (λl e=>(N4 l e).elim) (xeq_ok e (xnot_ok h hK))
        · cases h
      · cases h
def xbq(a b:SV)(K:(p:Prop)→Decidable p→Option SV):Option SV:=
 match a,b with
 |.bb true,.bb true=>K True instDecidableTrue
 |.bb false,.bb false=>K True instDecidableTrue
 |.bb true,.bb false=>K False instDecidableFalse
 |.bb false,.bb true=>K False instDecidableFalse
 |_,_=>none
def xeqL(c:List Ty):List SV→List SV→((p:Prop)→Decidable p→Option SV)→Option SV:=
 List.rec (motive:=λ_=>List SV→List SV→((p:Prop)→Decidable p→Option SV)→Option SV)
  (λx y K=>match x,y with|[],[]=>K True instDecidableTrue|_,_=>none)
  (fun t _ ih x y K=>match t,x,y with
   |.int _,.v (.int k m)::s,.v (.int k' n)::r=>(match Nat.beq (kc k) (kc k') with|true=>ih s r λp i=>K (m=n∧p) (@instDecidableAnd _ _ (Int.instDecidableEq m n) i)|false=>none)
   |.str,.v (.string a)::s,.v (.string b)::r=>ih s r λp i=>K (a.data.toList=b.data.toList∧p) (@instDecidableAnd _ _ (decStr a b) i)
   |.bool,a::s,b::r=>xbq a b λq d=>ih s r λp i=>K (q∧p) (@instDecidableAnd _ _ d i)
   | _,_,_=>none) c
theorem xeqL_n{xs ys:List SV}{J:(p:Prop)→Decidable p→Option SV}:xeqL [] xs ys J=(match xs,ys with|[],[]=>J True instDecidableTrue|_,_=>none):=rfl
theorem xeqL_c{t:Ty}{c:List Ty}{xs ys:List SV}{J:(p:Prop)→Decidable p→Option SV}:xeqL (t::c) xs ys J=(match t,xs,ys with
   |.int _,.v (.int k m)::s,.v (.int k' n)::r=>(match Nat.beq (kc k) (kc k') with|true=>xeqL c s r λp i=>J (m=n∧p) (@instDecidableAnd _ _ (Int.instDecidableEq m n) i)|false=>none)
   |.str,.v (.string a)::s,.v (.string b)::r=>xeqL c s r λp i=>J (a.data.toList=b.data.toList∧p) (@instDecidableAnd _ _ (decStr a b) i)
   |.bool,a::s,b::r=>xbq a b λq d=>xeqL c s r λp i=>J (q∧p) (@instDecidableAnd _ _ d i)
   | _,_,_=>none):=rfl
theorem xqn{xs ys:List SV}{K:(p:Prop)→Decidable p→Prop}:eqsL [] xs ys K=(match xs,ys with|[],[]=>K True instDecidableTrue|_,_=>False):=rfl
theorem xqc{t:Ty}{c:List Ty}{xs ys:List SV}{K:(p:Prop)→Decidable p→Prop}:eqsL (t::c) xs ys K=(match t,xs,ys with
   |.int _,.v (.int k m)::s,.v (.int k' n)::r=>(match Nat.beq (kc k) (kc k') with|true=>eqsL c s r λp i=>K (m=n∧p) (@instDecidableAnd _ _ (Int.instDecidableEq m n) i)|false=>False)
   |.str,.v (.string a)::s,.v (.string b)::r=>eqsL c s r λp i=>K (a.data.toList=b.data.toList∧p) (@instDecidableAnd _ _ (decStr a b) i)
   |.bool,a::s,b::r=>bqK a b λq d=>eqsL c s r λp i=>K (q∧p) (@instDecidableAnd _ _ d i)
   | _,_,_=>False):=rfl
theorem xeqL_ok{z:SV}:∀{c:List Ty}{xs ys:List SV}{J:(p:Prop)→Decidable p→Option SV}{K:(p:Prop)→Decidable p→Prop},(∀p i,J p i=some z→K p i)→xeqL c xs ys J=some z→eqsL c xs ys K
 |[],xs,ys,J,K,hJ,h=>by
  rw[xeqL_n] at h;rw[xqn];split at h
  ·exact hJ _ _ h
  cases h
 |t::c,xs,ys,J,K,hJ,h=>by
  rw[xeqL_c] at h;rw[xqc];split at h
  ·split at h
   ·rename_i e;exact xeqL_ok (λp i=>hJ _ _) h
   cases h
  ·exact xeqL_ok (λp i=>hJ _ _) h
  ·unfold xbq at h
   split at h<;>first
    |exact xeqL_ok (λp i=>hJ _ _) h
    |cases h
  cases h
def xbin2(c:List Ty)(d:Ty)(op:BinOp)(x y:SV):Option SV:=
 match x,y with
 | .agg xs,.agg ys=>(match c,d,op with
  |t::c,.struct _,.eql=>xeqL (t::c) xs ys λp i=>some (.b p i)
  |t::c,.struct _,.neq=>xeqL (t::c) xs ys λp i=>some (.b (¬p) (@instDecidableNot _ i))
  | _,_,_=>none)
 |x,y=>xbin d op x y
theorem xbin2_ok{c:List Ty}{d:Ty}{op:BinOp}{x y z:SV}(h:xbin2 c d op x y=some z){K:SV→Prop}(hK:K z):binK c d op true x y K:=by
 unfold xbin2 at h;split at h
 ·rename_i xs ys;split at h
  ·exact xeqL_ok (K:=λp i=>K (.b p i)) (λp i e=>by cases e;exact hK) h
  ·exact xeqL_ok (K:=λp i=>K (.b (¬p) (@instDecidableNot _ i))) (λp i e=>by cases e;exact hK) h
  cases h
 exact xbin_ok h hK
def xun(op:UnOp)(x:SV):Option SV:=
 match op,x with
 |.not,x=>xnot x
 |.neg,.v (.int k n)=>some (xar true k (0-n))
 |_,_=>none
theorem xun_ok{op:UnOp}{x z:SV}(h:xun op x=some z){K:SV→Prop}(hK:K z):unK op true x K:=by
 unfold xun at h;split at h
 ·exact xnot_ok h hK
 ·cases h;exact hK
 cases h
def xpick(c a b:SV):Option SV:=
 match tru c with
 |some true=>some a
 |some false=>some b
 |none=>none
theorem xpick_ok{c a b z:SV}(h:xpick c a b=some z){K:SV→Prop}(hK:K z):pickK c a b K:=by
 unfold xpick at h
 cases c with
 |bb x=>cases x<;>(cases h;simp only[pickK,wh];exact hK)
 |b p d=>
  simp only[pickK,wh];by_cases hp:p
  ·have e:tru (.b p d)=some true:=congrArg some (decide_eq_true hp);rw[e] at h;cases h;exact⟨λ_=>hK,λn=>absurd hp n⟩
  have e:tru (.b p d)=some false:=congrArg some (decide_eq_false hp);rw[e] at h;cases h;exact⟨λn=>absurd n hp,λ_=>hK⟩
 |_=>cases h
abbrev Mg:=Nat→Option LB
def xtake(cs:List SV)(o sz:Nat):Option (List SV):=
 match sz with
 |0=>none
 |sz=>(match Nat.beq (takeN (dropN cs o) sz).length sz with|true=>some (takeN (dropN cs o) sz)|false=>none)
theorem xtake_ok{cs l:List SV}{o sz:Nat}(h:xtake cs o sz=some l):Nat.ble (o+sz) cs.length=true∧l=takeN (dropN cs o) sz:=by
 unfold xtake at h;split at h
 ·cases h
 rename_i hne;split at h
 ·rename_i e;cases h;refine⟨?_,rfl⟩;have e:=Nat.eq_of_beq_eq_true e;rw[length_takeN,length_dropN] at e;have:sz≠0:=λh=>hne h;exact Nat.ble_eq_true_of_le ws
 cases h
def xload(T:Tab)(M:Mg)(t:Nat)(x:SV):Option SV:=
 match ty T t with
 |⟨.other,_,_,_,_,_⟩=>none
 | ⟨d,sz,_,_,_,_⟩=>(match x with
  | .lp k o=>(match M k with
   |some (.cells _ cs)=>(match xtake cs o sz with|some l=>some (zF d l)|none=>none)
   |some (.row _ _ _ cs)=>(match xtake cs o sz with|some l=>some (zF d l)|none=>none)
   | _=>none)
  | _=>none)
section
variable {T:Tab}{q:PH}{L:LL}{M:Mg}{K:SV→Prop}{Γ:List Spec}{Δ:List CS}{fr:Fr}
theorem xload_ok(hM:∀k,getL L k=M k){t:Nat}{x y:SV}(h:xload T M t x=some y)(hK:K y):loadK T q L t x K:=by
 unfold xload at h;unfold loadK;split at h
 ·cases h
 rename_i d sz byt z fl cm hne e
 have main:loadK1 d sz fl q L x K:=by
  unfold loadK1;split at h
  ·rename_i k o;dsimp only;rw[hM k];split at h
   ·rename_i T' cs e';rw[e'];split at h
    ·rename_i l hl;cases h;obtain⟨h1,rfl⟩:=xtake_ok hl;dsimp only;rw[h1];simp only[wh];exact hK
    cases h
   ·rename_i E' s' n' cs e';rw[e'];split at h
    ·rename_i l hl;cases h;obtain⟨h1,rfl⟩:=xtake_ok hl;dsimp only;rw[h1];simp only[wh];exact hK
    cases h
   cases h
  cases h
 rw[e];cases d<;>first|exact main|exact absurd rfl hne
def xlen(d:Ty)(M:Mg)(x:SV):Option SV:=
 match d,x with
 |.slice _,.v (.slice _ n _)=>some (.v (.int .i64 n))
 |.str,.v (.string s)=>some (.v (.int .i64 s.size))
 |.slice _,.own k=>(match M k with|some (.row _ _ n _)=>some (.v (.int .i64 n))|_=>none)
 |.slice _,.vw _ _ _ n _=>some (.v (.int .i64 n))
 |_,_=>none
theorem xlen_ok(hM:∀k,getL L k=M k){d:Ty}{x y:SV}(h:xlen d M x=some y)(hK:K y):lenK d L x K:=by
 unfold xlen at h;unfold lenK;split at h
 ·cases h;exact hK
 ·cases h;exact hK
 ·rename_i k;dsimp only;rw[hM k];split at h
  ·rename_i e;rw[e];cases h;exact hK
  cases h
 ·cases h;exact hK
 cases h
theorem arrK_of{sz k o:Nat}{i:Int}:∀(n j:Nat),(j:Int)≤i→i<((j+n:Nat):Int)→K (.lp k (o+i.toNat*sz))→arrK sz k o i K n j
 |0,j,h1,h2,_=>by omega
 |n+1,j,h1,h2,hK=>by
  show(i=(j:Int)→match o+j*sz with|0=>K (.lp k 0)|m+1=>K (.lp k (m+1)))∧arrK sz k o i K n (j+1);refine⟨λe=>?_,?_⟩
  ·have:i.toNat=j:=by omega
   rw[this] at hK;generalize o+j*sz=m at hK ⊢;cases m<;>exact hK
  by_cases e:i=(j:Int)
  ·have:∀(n j':Nat),i<(j':Int)→arrK sz k o i K n j':=by
    intro n
    induction n with
    |zero=>intro _ _;trivial
    |succ n ih=>intro j' hj;exact⟨λe=>by omega,ih (j'+1) ws⟩
   exact this n (j+1) ws
  exact arrK_of n (j+1) ws ws hK
def inI(i:Int)(n:Nat):Bool:=@decide (0≤i∧i<(n:Int)) (instDecidableAnd)
def xidx(T:Tab)(M:Mg)(t:Nat)(x i:SV):Option SV:=
 match (ty T t).d,x,i with
 |.slice e,.own k,.v (.int _ i)=>(match M k with|some (.row _ _ n _)=>(match inI i n with|true=>some (.lp k (i.toNat*(ty T e).sz))|false=>none)|_=>none)
 | .slice e,.vw k lo sz m _,.v (.int _ i)=>(match M k with
  |some (.row _ _ n _)=>(match Nat.beq sz (ty T e).sz,inI i m,Nat.ble (lo+m) n with|true,true,true=>some (.lp k ((lo+i.toNat)*(ty T e).sz))|_,_,_=>none)
  | _=>none)
 |.arr n e,.lp k o,.v (.int _ i)=>(match inI i n with|true=>some (.lp k (o+i.toNat*(ty T e).sz))|false=>none)
 |_,_,_=>none
theorem inI_ok{i:Int}{n:Nat}(h:inI i n=true):0≤i∧i<(n:Int):=of_decide_eq_true h
theorem xidx_ok(hM:∀k,getL L k=M k){t:Nat}{x i y:SV}(h:xidx T M t x i=some y)(hK:K y):idxK T L t x i K:=by
 unfold xidx at h;unfold idxK;split at h
 ·rename_i e k ki i hd;rw[hd];dsimp only;rw[hM k];split at h
  ·rename_i e' ; rw[e'];split at h
   ·rename_i hi;cases h;exact⟨⟨inI_ok hi⟩,by rw[elK_eq];exact hK⟩
   cases h
  cases h
 ·rename_i e k lo sz m ex ki i hd;rw[hd];dsimp only;rw[hM k];split at h
  ·rename_i e';rw[e'];split at h
   ·rename_i h1 h2 h3;cases h;dsimp only;rw[h1];exact⟨⟨(inI_ok h2).1,(inI_ok h2).2,Nat.le_of_ble_eq_true h3⟩,by rw[elK_eq];exact hK⟩
   cases h
  cases h
 ·rename_i n e k o ki i hd;rw[hd];dsimp only;split at h
  ·rename_i hi;cases h;exact⟨⟨inI_ok hi⟩,arrK_of n 0 (inI_ok hi).1 (by simpa using(inI_ok hi).2) hK⟩
  cases h
 cases h
def xstrIdx(T:Tab)(t:Nat)(x i:SV):Option SV:=
 match (ty T t).d,x,i with
 |.str,.v (.string s),.v (.int _ i)=>(match inI i s.size with|true=>some (.v (.int .u8 ((s.data.toList[i.toNat]?.getD 0).toNat:Int)))|false=>none)
 |_,_,_=>none
theorem xstrIdx_ok{t:Nat}{x i y:SV}(h:xstrIdx T t x i=some y)(hK:K y):strIdxK T t x i K:=by
 unfold xstrIdx at h;unfold strIdxK;split at h
 ·rename_i s ki i hd;rw[hd];split at h
  ·rename_i hi;cases h;exact⟨⟨inI_ok hi⟩,hK⟩
  cases h
 cases h
def xbnd(x:Option SV)(d:Int):Option Int:=
 match x with
 |none=>some d
 |some (.v (.int _ i))=>some i
 |_=>none
theorem yP{x:Option SV}{d i:Int}(h:xbnd x d=some i){K:Int→Prop}(hK:K i):bndK x d K:=by
 unfold xbnd at h;split at h
 ·cases h;exact hK
 ·cases h;exact hK
 cases h
def in3(l h:Int)(n:Nat):Bool:=@decide (0≤l∧l≤h∧h≤(n:Int)) (instDecidableAnd)
theorem wc{l h:Int}{n:Nat}(e:in3 l h n=true):0≤l∧l≤h∧h≤(n:Int):=of_decide_eq_true e
def xslc(T:Tab)(M:Mg)(t:Nat)(x:SV)(lo hi:Option SV):Option SV:=
 match (ty T t).d,x with
 | .str,.v (.string s)=>(match xbnd lo 0,xbnd hi s.size with
  |some l,some h=>(match in3 l h s.size with|true=>some (.v (.string (s.extract l.toNat h.toNat)))|false=>none)
  | _,_=>none)
 | .slice e,.v (.slice none 0 0)=>(match xbnd lo 0,xbnd hi 0 with
  |some l,some h=>(match in3 l h 0 with|true=>some (.v (.slice none 0 0))|false=>none)
  | _,_=>none)
 | .slice e,.own k=>(match M k with
  | some (.row _ sz n _)=>(match Nat.beq sz (ty T e).sz,xbnd lo 0,xbnd hi n with
   |true,some l,some h=>(match in3 l h n with|true=>some (.vw k l.toNat sz (h.toNat-l.toNat) true)|false=>none)
   | _,_,_=>none)
  | _=>none)
 | .slice e,.vw k lo0 sz n _=>(match Nat.beq sz (ty T e).sz,xbnd lo 0,xbnd hi n with
   |true,some l,some h=>(match in3 l h n with|true=>some (.vw k (lo0+l.toNat) sz (h.toNat-l.toNat) false)|false=>none)
   | _,_,_=>none)
 |_,_=>none
theorem xslc_ok(hM:∀k,getL L k=M k){t:Nat}{x y:SV}{lo hi:Option SV}(h:xslc T M t x lo hi=some y)(hK:K y):slcK T L t x lo hi K:=by
 unfold xslc at h;unfold slcK;split at h
 ·rename_i s hd;rw[hd];dsimp only;split at h
  ·rename_i l h' h1 h2;split at h
   ·rename_i h3;cases h;exact yP h1 (yP h2 ⟨⟨wc h3⟩,hK⟩)
   cases h
  cases h
 ·rename_i e hd;rw[hd];dsimp only;split at h
  ·rename_i l h' h1 h2;split at h
   ·rename_i h3;cases h;refine yP h1 (yP h2 ⟨⟨wc h3⟩,?_⟩);rw[elK_eq];intro m hm;have h3:=wc h3;have:m=0:=by omega
    subst this;have e1:(if 0=l.toNat then(none:Option Addr) else none.map (λx:Addr=>x.add (l.toNat*(ty T e).sz)))=none:=by split<;>rfl
    rw[e1];simpa using hK
   cases h
  cases h
 ·rename_i e k hd;rw[hd];dsimp only;rw[hM k];split at h
  ·rename_i e' sz n cs ek;rw[ek];split at h
   ·rename_i l h' h0 h1 h2;split at h
    ·rename_i h3;cases h;dsimp only;rw[h0];exact yP h1 (yP h2 ⟨⟨wc h3⟩,λm hm=>by subst hm;exact hK⟩)
    cases h
   cases h
  cases h
 ·rename_i e k lo0 sz n ex hd;rw[hd];dsimp only;split at h
  ·rename_i l h' h0 h1 h2;split at h
   ·rename_i h3;cases h;rw[h0];exact yP h1 (yP h2 ⟨⟨wc h3⟩,λm hm=>by subst hm;exact hK⟩)
   cases h
  cases h
 cases h
def in4(l h x:Int)(n:Nat):Bool:=@decide (0≤l∧l≤h∧h≤x∧x≤(n:Int)) (instDecidableAnd)
def xslc3(T:Tab)(M:Mg)(t:Nat)(x:SV)(lo hi:Option SV)(mx:SV):Option SV:=
 match (ty T t).d,x,hi with
 | .slice e,.own k,some hi=>(match M k with
  | some (.row _ sz n _)=>(match Nat.beq sz (ty T e).sz,xbnd lo 0,xbnd (some hi) 0,xbnd (some mx) 0 with
   |true,some l,some h,some x=>(match in4 l h x n with|true=>some (.vw k l.toNat sz (h.toNat-l.toNat) false)|false=>none)
   | _,_,_,_=>none)
  | _=>none)
 |_,_,_=>none
theorem xslc3_ok(hM:∀k,getL L k=M k){t:Nat}{x y mx:SV}{lo hi:Option SV}(h:xslc3 T M t x lo hi mx=some y)(hK:K y):slc3K T L t x lo hi mx K:=by
 unfold xslc3 at h;unfold slc3K;split at h
 ·rename_i e k hi hd;rw[hd];dsimp only;rw[hM k];split at h
  ·rename_i e' sz n cs ek;rw[ek];split at h
   ·rename_i l h' x' h0 h1 h2 h3;split at h
    ·rename_i h4;cases h;dsimp only;rw[h0];exact yP h1 (yP h2 (yP h3 ⟨⟨of_decide_eq_true h4⟩,λm hm=>by subst hm;exact hK⟩))
    cases h
   cases h
  cases h
 cases h
def xbytes(l:List Value):Option (List UInt8):=List.rec (motive:=λ_=>Option (List UInt8)) (some [])
 (fun x _ ih=>match x with
  |.int .u8 n=>(match inI n 256,ih with|true,some s=>some (UInt8.ofNat n.toNat::s)|_,_=>none)
  | _=>none) l
theorem xbytes_c{x:Value}{r:List Value}:xbytes (x::r)=(match x with
   |.int .u8 n=>(match inI n 256,xbytes r with|true,some s=>some (UInt8.ofNat n.toNat::s)|_,_=>none)
   | _=>none):=rfl
theorem xbytes_ok:∀{l:List Value}{bs:List UInt8},xbytes l=some bs→l=bs.map bv
 |[],bs,h=>by cases h;rfl
 |x::r,bs,h=>by
  rw[xbytes_c] at h;split at h
  ·rename_i n;split at h
   ·rename_i s h1 h2;cases h;have h1:=inI_ok h1;rw[List.map_cons,←xbytes_ok h2];congr 1;unfold bv;have:(UInt8.ofNat n.toNat).toNat=n.toNat:=by simp;omega
    rw[this,Int.toNat_of_nonneg h1.1]
   cases h
  cases h
def xinR(k:IntKind)(n:Int):Bool:=
 match k with
 |.i8=>in2 (-128) 127 n|.i16=>in2 (-32768) 32767 n|.i32=>in2 (-2147483648) 2147483647 n|.i64=>in2 (-9223372036854775808) 9223372036854775807 n
 |.u8=>in2 0 255 n|.u16=>in2 0 65535 n|.u32=>in2 0 4294967295 n|.u64=>in2 0 18446744073709551615 n
where in2 (a b n:Int):Bool:=@decide (a≤n∧n≤b) (instDecidableAnd)
theorem xinR_ok{k:IntKind}{n:Int}(h:xinR k n=true):inR k n:=by
 cases k<;>(have:=of_decide_eq_true h;exact this)
def xconv(T:Tab)(M:Mg)(src dst:Nat)(x:SV):Option SV:=
 match (ty T src).d,(ty T dst).d,x with
 |.int _,.int k',.v (.int k n)=>(match widens k k' with|true=>(match xinR k' n with|true=>some (.v (.int k' n))|false=>none)|false=>some (.v (.int k' (k'.wrap n))))
 |.str,.str,.v (.string s)=>some (.v (.string s))
 |.int _,.flt k',.v (.int _ n)=>some (.v (.float k' (k'.nearest n)))
 | .slice e,.str,.own k=>(match (ty T e).d,M k with
  | .int .u8,some (.row _ sz' _ cs)=>(match Nat.beq sz' 1,rowVL cs with
   |true,some xs=>(match xbytes xs with|some bs=>some (.v (.string ⟨bs.toArray⟩))|none=>none)
   | _,_=>none)
  | _,_=>none)
 | .slice e,.str,.vw k lo sz' m _=>(match (ty T e).d,M k with
  | .int .u8,some (.row _ sz'' n cs)=>(match Nat.beq sz' 1,Nat.beq sz'' 1,Nat.ble (lo+m) n,rowVL (vwS cs lo 1 m) with
   |true,true,true,some xs=>(match xbytes xs with|some bs=>some (.v (.string ⟨bs.toArray⟩))|none=>none)
   | _,_,_,_=>none)
  | _,_=>none)
 | .slice e,.str,.v (.slice none 0 _)=>(match (ty T e).d with
  |.int .u8=>some (.v (.string ⟨#[]⟩))
  | _=>none)
 |_,_,_=>none
theorem sl_bytes{xs:List Value}{bs:List UInt8}(h:xbytes xs=some bs)(hK:K (.v (.string ⟨bs.toArray⟩))):Ob (∃bs:List UInt8,xs=bs.map bv)∧∀bs:List UInt8,xs=bs.map bv→K (.v (.string ⟨bs.toArray⟩)):=by
 have e:=xbytes_ok h;refine⟨⟨⟨bs,e⟩⟩,λbs' e'=>?_⟩
 have inj:∀(a b:List UInt8),a.map bv=b.map bv→a=b:=by
  intro a
  induction a with
  |nil=>intro b hb;cases b with
   |nil=>rfl
   |cons _ _=>simp at hb
  |cons x r ih=>intro b hb;cases b with
   |nil=>simp at hb
   |cons y s=>
    simp only[List.map_cons,List.cons.injEq] at hb;obtain⟨h1,h2⟩:=hb;rw[ih s h2];congr 1;simp only[bv,Value.int.injEq,true_and] at h1;exact UInt8.toNat_inj.1 ws
 rw[←inj bs bs' (e.symm.trans e')];exact hK
theorem xconv_ok(hM:∀k,getL L k=M k){src dst:Nat}{x y:SV}(h:xconv T M src dst x=some y)(hK:K y):convK T q L src dst x K:=by
 unfold xconv at h;unfold convK;split at h
 ·rename_i k0 k' k n h1 h2;rw[h1,h2];dsimp only;split at h
  ·rename_i e;rw[e];split at h
   ·rename_i e2;cases h;exact⟨⟨xinR_ok e2⟩,hK⟩
   cases h
  rename_i e;rw[e];cases h;exact hK
 ·rename_i s h1 h2;rw[h1,h2];cases h;exact hK
 ·rename_i k0 k' k n h1 h2;rw[h1,h2];cases h;exact hK
 ·rename_i e k h1 h2;rw[h1,h2];dsimp only;split at h
  ·rename_i E' sz' n' cs h3 h4;rw[h3];split at h
   ·rename_i xs h5 h6;split at h
    ·rename_i bs hb;cases h;unfold sliceK;dsimp only;rw[hM k,h4];dsimp only;rw[h5,h6];exact sl_bytes hb hK
    cases h
   cases h
  cases h
 ·rename_i e k lo sz' m ex h1 h2;rw[h1,h2];dsimp only;split at h
  ·rename_i E' sz'' n' cs h3 h4;rw[h3];split at h
   ·rename_i xs h5 h5' h5'' h6;split at h
    ·rename_i bs hb;cases h;unfold sliceK;dsimp only;rw[hM k,h4];dsimp only;rw[h5,h5',h6];exact⟨⟨Nat.le_of_ble_eq_true h5''⟩,sl_bytes hb hK⟩
    cases h
   cases h
  cases h
 ·rename_i e c h1 h2;rw[h1,h2];dsimp only;split at h
  ·rename_i h3;cases h;rw[h3];refine⟨⟨[],by simp,λj hj=>by simp at hj⟩,λxs hl _=>?_⟩;have:xs=[]:=List.eq_nil_of_length_eq_zero vA;subst this;exact sl_bytes (bs:=[]) rfl hK
  cases h
 cases h
def xextr(x:SV)(i:Nat):Option SV:=
 match x with
 |.tup cs=>nth cs i
 |_=>none
theorem xextr_ok{x y:SV}{i:Nat}(h:xextr x i=some y)(hK:K y):extrK x i K:=by
 unfold xextr at h;split at h
 ·unfold extrK;dsimp only;rw[h];simp only[wh];exact hK
 cases h
def xfield(T:Tab)(t f:Nat)(x:SV):Option SV:=
 match xR T t f,x with
 | some (off,ft),.agg cs=>(match ty T ft with
  |⟨.other,_,_,_,_,_⟩=>none
  | ⟨d,sz,_,_,_,_⟩=>(match xtake cs off sz with | some l=>some (zF d l) | none=>none))
 |_,_=>none
theorem xfield_ok{t f:Nat}{x y:SV}(h:xfield T t f x=some y)(hK:K y):fieldK T t f x K:=by
 unfold xfield at h;unfold fieldK;split at h
 ·rename_i off ft cs e;rw[e];dsimp only;split at h
  ·cases h
  rename_i d sz b z fl cm hne e2;split at h
  ·rename_i l hl;cases h;obtain⟨h1,rfl⟩:=xtake_ok hl;rw[e2]
   have main:(match Nat.ble (off+sz) cs.length with|true=>fSV (zF d (takeN (dropN cs off) sz)) K|false=>False):=by
    rw[h1];simp only[wh];exact hK
   cases d<;>first|exact main|exact absurd rfl hne
  cases h
 cases h
def xfaddr(T:Tab)(t f:Nat)(x:SV):Option SV:=
 match xR T t f,x with
 |some (off,_),.lp k o=>some (.lp k (o+off))
 |_,_=>none
theorem xfaddr_ok{t f:Nat}{x y:SV}(h:xfaddr T t f x=some y)(hK:K y):faddrK T t f x K:=by
 unfold xfaddr at h;unfold faddrK;split at h
 ·rename_i off ft k o e;rw[e];cases h;exact hK
 cases h
def xnilc(x:SV):Option SV:=
 match x with
 |.lp k o=>some (.lp k o)
 |.fn f cs=>some (.fn f cs)
 |.yl k=>some (.yl k)
 |_=>none
theorem xnilc_ok{x y:SV}(h:xnilc x=some y)(hK:K y):nilcK x K:=by
 unfold xnilc at h;split at h<;>first|(cases h;exact hK)|cases h
def yM(T:Tab)(fs:List (Nat×Nat))(fr:Fr)(ps:List (Nat×Operand)):List SV→Option (List SV):=
 List.rec (motive:=λ_=>List SV→Option (List SV)) (λcs=>some cs)
  (fun p _ ih cs=>match p with
   | (i,x)=>(match nth fs i with
    | some (off,t)=>(match opv fr x with
     |.agg l=>(match Nat.beq l.length (ty T t).sz,Nat.ble (off+l.length) cs.length with|true,true=>ih (takeN cs off++l++dropN cs (off+l.length))|_,_=>none)
     |.tup _=>none
     |.bad=>none
     |.v (.agg _)=>none
     |.v (.tuple _)=>none
     | y=>(match Nat.beq (ty T t).sz 1,Nat.blt off cs.length with | true,true=>ih (setN cs off y) | _,_=>none))
    | none=>none)) ps
theorem xparts_c{fs:List (Nat×Nat)}{i:Nat}{x:Operand}{r:List (Nat×Operand)}{cs:List SV}:yM T fs fr ((i,x)::r) cs=(match nth fs i with
  | some (off,t)=>(match opv fr x with
   |.agg l=>(match Nat.beq l.length (ty T t).sz,Nat.ble (off+l.length) cs.length with|true,true=>yM T fs fr r (takeN cs off++l++dropN cs (off+l.length))|_,_=>none)
   |.tup _=>none
   |.bad=>none
   |.v (.agg _)=>none
   |.v (.tuple _)=>none
   | y=>(match Nat.beq (ty T t).sz 1,Nat.blt off cs.length with | true,true=>yM T fs fr r (setN cs off y) | _,_=>none))
  | none=>none):=rfl
theorem xparts_ok{fs:List (Nat×Nat)}{K:List SV→Prop}:∀{ps:List (Nat×Operand)}{cs l:List SV},yM T fs fr ps cs=some l→K l→partsK T fs fr ps cs K
 |[],cs,l,h,hK=>by cases h;exact hK
 |(i,x)::r,cs,l,h,hK=>by
  rw[xparts_c] at h;unfold partsK;split at h
  ·rename_i off t hn;rw[hn];dsimp only;rw[wh];split at h
   ·rename_i l' hx;rw[hx];split at h
    ·rename_i h1 h2;dsimp only;rw[h1,h2];dsimp only;rw[fSVL_eq'];exact xparts_ok h hK
    cases h
   ·cases h
   ·cases h
   ·cases h
   ·cases h
   rename_i N1 N2 N3 N4 N5;split at h
   ·rename_i h1 h2;have:=xparts_ok h hK;generalize opv fr x=y at N1 N2 N3 N4 N5 this;rw[h1,h2];split
    ·exact absurd rfl (N1 _)
    ·exact absurd rfl (N2 _)
    ·exact absurd rfl N3
    ·exact absurd rfl (N4 _)
    ·exact absurd rfl (N5 _)
    rw[fSVL_eq'];exact this
   cases h
  cases h
def xbuild(T:Tab)(t:Nat)(fr:Fr)(ps:List (Nat×Operand)):Option SV:=
 match (ty T t).d with
 |.struct fs=>(match yM T fs fr ps (valL (ty T t).zero) with|some cs=>some (.agg cs)|none=>none)
 |_=>none
theorem xbuild_ok{t:Nat}{ps:List (Nat×Operand)}{y:SV}(h:xbuild T t fr ps=some y)(hK:K y):buildK T t fr ps K:=by
 unfold xbuild at h;unfold buildK;split at h
 ·rename_i fs hd;rw[hd];split at h
  ·rename_i cs hc;cases h;exact xparts_ok hc hK
  cases h
 cases h
def xmkf(fn:Fn)(first cs:List SV):Option SV:=
 match fn,first with
 |.func f,[]=>some (.fn f cs)
 |_,_=>none
theorem xmkf_ok{fn:Fn}{first cs:List SV}{y:SV}(h:xmkf fn first cs=some y)(hK:K y):mkfK fn first cs K:=by
 unfold xmkf at h;unfold mkfK;split at h
 ·cases h;dsimp only;rw[fSVL_eq'];exact hK
 cases h
def ltZ(a b:Int):Bool:=Int.rec (motive:=λ_=>Bool) (λm=>Int.rec (motive:=λ_=>Bool) (λn=>Nat.blt m n) (λ_=>false) b) (λm=>Int.rec (motive:=λ_=>Bool) (λ_=>true) (λn=>Nat.blt n m) b) a
theorem ltZ_eq{a b:Int}:ltZ a b=decide (a<b):=by
 cases a with
 |ofNat m=>
  cases b with
  |ofNat n=>show Nat.blt m n=_;rw[Bool.eq_iff_iff];simp[Nat.blt_eq]
  |negSucc n=>show false=_;rw[Bool.eq_iff_iff];simp;omega
 |negSucc m=>
  cases b with
  |ofNat n=>show true=_;rw[Bool.eq_iff_iff];simp;omega
  |negSucc n=>show Nat.blt n m=_;rw[Bool.eq_iff_iff];simp[Nat.blt_eq];omega
theorem ltZ_if{a b:Int}{α:Type}{x y:α}:(match ltZ a b with|true=>x|false=>y)=if a<b then x else y:=by
 rw[ltZ_eq];by_cases h:a<b
 ·simp[h]
 simp[h]
def xmin(mx:Bool)(x y:SV):Option SV:=
 match x,y with
 | .v (.int k a),.v (.int k' b)=>(match Nat.beq (kc k) (kc k') with
  |true=>(match mx with|true=>some (.v (.int k (match ltZ a b with|true=>b|false=>a)))|false=>some (.v (.int k (match ltZ b a with|true=>b|false=>a))))
  | false=>none)
 |_,_=>none
def xbuilt(T:Tab)(b:Builtin)(xs:List SV)(ts:List Nat)(M:Mg):Option SV:=
 match b,xs,ts with
 |.len,[x],[t]=>xlen (ty T t).d M x
 |.min,[x,y],_=>xmin false x y
 |.max,[x,y],_=>xmin true x y
 |_,_,_=>none
theorem xmin_ok{mx:Bool}{x y z:SV}(h:xmin mx x y=some z)(hK:K z):minK mx x y K:=by
 unfold xmin at h;unfold minK;split at h
 ·split at h
  ·rename_i e;dsimp only;rw[e];split at h
   ·cases h;rw[ltZ_if] at hK;exact hK
   cases h;rw[ltZ_if] at hK;exact hK
  cases h
 cases h
theorem xbuilt_ok(hM:∀k,getL L k=M k){b:Builtin}{xs:List SV}{ts:List Nat}{y:SV}(h:xbuilt T b xs ts M=some y)(hK:K y):builtK T b xs ts L K:=by
 unfold xbuilt at h;split at h
 ·exact xlen_ok hM h hK
 ·exact xmin_ok h hK
 ·exact xmin_ok h hK
 cases h
def ym(T:Tab)(op:Op)(fr:Fr)(M:Mg):Option SV:=
 match op with
 |.move x=>some (opv fr x)
 |.assign x=>some (opv fr x)
 |.pick c a b=>xpick (opv fr c) (opv fr a) (opv fr b)
 |.binOp op t x y _=>xbin2 (ty T t).cmp (ty T t).d op (opv fr x) (opv fr y)
 |.unOp op _ x=>xun op (opv fr x)
 |.convert src dst x=>xconv T M src dst (opv fr x)
 |.extract x i=>xextr (opv fr x) i
 |.field t x f=>xfield T t f (opv fr x)
 |.fieldAddr t x f=>xfaddr T t f (opv fr x)
 |.nilCheck x=>xnilc (opv fr x)
 |.indexAddr t x i=>xidx T M t (opv fr x) (opv fr i)
 |.index t x i=>xstrIdx T t (opv fr x) (opv fr i)
 |.load t x=>xload T M t (opv fr x)
 |.slice t x lo hi none=>xslc T M t (opv fr x) (optv fr lo) (optv fr hi)
 |.slice t x lo hi (some mx)=>xslc3 T M t (opv fr x) (optv fr lo) (optv fr hi) (opv fr mx)
 |.build t ps=>xbuild T t fr ps.toList
 |.makeFunc fn first cs=>xmkf fn (opvs fr first.toList) (opvs fr cs.toList)
 |.call ⟨.builtin b,xs,ts⟩=>xbuilt T b (opvs fr xs.toList) ts.toList M
 |_=>none
theorem xcalm_ok(hM:∀k,getL L k=M k){op:Op}{y:SV}(h:ym T op fr M=some y)(hK:K y):calmK T Γ Δ true q op fr L K:=by
 unfold ym at h;split at h<;>simp only[calmK,sliceOpK,optv]
 ·rw[wh];cases h;exact hK
 ·rw[wh];cases h;exact hK
 ·exact xpick_ok h hK
 ·exact xbin2_ok h hK
 ·exact xun_ok h hK
 ·exact xconv_ok hM h hK
 ·exact xextr_ok h hK
 ·exact xfield_ok h hK
 ·exact xfaddr_ok h hK
 ·exact xnilc_ok h hK
 ·exact xidx_ok hM h hK
 ·exact xstrIdx_ok h hK
 ·exact xload_ok hM h hK
 ·exact xslc_ok hM h hK
 ·exact xslc3_ok hM h hK
 ·exact xbuild_ok h hK
 ·exact xmkf_ok h hK
 ·exact xbuilt_ok hM h hK
 cases h
end
end
end Exe
end Go.Eng
end
section
namespace Go.Eng
open Go Go.RowKit
namespace Exe
inductive Tm (α:Type) where
 |lf
 |nd (l:Tm α) (v:Option α) (r:Tm α)
noncomputable section
def Tm.get{α:Type}(T:Tm α):Nat→Option α:=Tm.rec (motive:=λ_=>Nat→Option α) (λ_=>none)
 (λ_ v _ gl gr n=>match n with|0=>v|m+1=>match Nat.beq (m%2) 0 with|true=>gl (m/2)|false=>gr (m/2)) T
theorem Tm.get_lf{α:Type}{n:Nat}:(Tm.lf:Tm α).get n=none:=rfl
theorem Tm.get_0{α:Type}{l r:Tm α}{v:Option α}:(Tm.nd l v r).get 0=v:=rfl
theorem Tm.get_s{α:Type}{l r:Tm α}{v:Option α}{m:Nat}:(Tm.nd l v r).get (m+1)=match Nat.beq (m%2) 0 with|true=>l.get (m/2)|false=>r.get (m/2):=rfl
def Tm.put{α:Type}(f:Nat):Tm α→Nat→Option α→Tm α:=Nat.rec (motive:=λ_=>Tm α→Nat→Option α→Tm α) (λT _ _=>T)
 (fun _ ih T n x=>match T with
  |.lf=>(match n with|0=>.nd .lf x .lf|m+1=>match Nat.beq (m%2) 0 with|true=>.nd (ih .lf (m/2) x) none .lf|false=>.nd .lf none (ih .lf (m/2) x))
  | .nd l v r=>(match n with | 0=>.nd l x r | m+1=>match Nat.beq (m % 2) 0 with | true=>.nd (ih l (m / 2) x) v r | false=>.nd l v (ih r (m / 2) x))) f
theorem w4(a b:Nat):(Nat.beq a b=true∧a=b)∨(Nat.beq a b=false∧a≠b):=by
 cases h:Nat.beq a b with
 |true=>exact .inl ⟨rfl,Nat.eq_of_beq_eq_true h⟩
 |false=>exact .inr ⟨rfl,Nat.ne_of_beq_eq_false h⟩
theorem Tm.get_put{α:Type}{x:Option α}:∀(f:Nat) (T:Tm α) (n j:Nat),n+1<2^f→(T.put f n x).get j=if n=j then x else T.get j
 |0,T,n,j,h=>by simp at h
 |f+1,T,n,j,h=>by
  have hh:∀m,m+1+1<2^(f+1)→m/2+1<2^f:=λm h=>by rw[Nat.pow_succ] at h;omega
  have par:∀(a b:Nat),a%2=b%2→(a/2=b/2↔a=b):=λa b h=>by omega
  cases T with
  |lf=>
   cases n with
   |zero=>
    show(Tm.nd .lf x .lf).get j=_
    cases j with
    |zero=>rw[Tm.get_0,if_pos rfl]
    |succ j=>rw[Tm.get_s,if_neg ws];split<;>rfl
   |succ m=>
    show(match Nat.beq (m%2) 0 with|true=>Tm.nd (Tm.put f .lf (m/2) x) none .lf|false=>.nd .lf none (Tm.put f .lf (m/2) x)).get j=_;rcases w4 (m%2) 0 with ⟨e,e'⟩|⟨e,e'⟩<;>rw[e]<;>dsimp only
    ·cases j with
     |zero=>rw[Tm.get_0,if_neg ws];rfl
     |succ j=>
      rw[Tm.get_s];rcases w4 (j%2) 0 with ⟨g,g'⟩|⟨g,g'⟩<;>rw[g]<;>dsimp only
      ·rw[Tm.get_put f _ _ _ (hh m h),Tm.get_lf,Tm.get_lf];by_cases e2:m=j
       ·subst e2;rw[if_pos rfl,if_pos rfl]
       rw[if_neg ws,if_neg ws]
      rw[Tm.get_lf,Tm.get_lf,if_neg ws]
    cases j with
    |zero=>rw[Tm.get_0,if_neg ws];rfl
    |succ j=>
     rw[Tm.get_s];rcases w4 (j%2) 0 with ⟨g,g'⟩|⟨g,g'⟩<;>rw[g]<;>dsimp only
     ·rw[Tm.get_lf,Tm.get_lf,if_neg ws]
     rw[Tm.get_put f _ _ _ (hh m h),Tm.get_lf,Tm.get_lf];by_cases e2:m=j
     ·subst e2;rw[if_pos rfl,if_pos rfl]
     rw[if_neg ws,if_neg ws]
  |nd l v r=>
   cases n with
   |zero=>
    show(Tm.nd l x r).get j=_
    cases j with
    |zero=>rw[Tm.get_0,if_pos rfl]
    |succ j=>rw[Tm.get_s,if_neg ws,Tm.get_s]
   |succ m=>
    show(match Nat.beq (m%2) 0 with|true=>Tm.nd (Tm.put f l (m/2) x) v r|false=>.nd l v (Tm.put f r (m/2) x)).get j=_;rcases w4 (m%2) 0 with ⟨e,e'⟩|⟨e,e'⟩<;>rw[e]<;>dsimp only
    ·cases j with
     |zero=>rw[Tm.get_0,if_neg ws,Tm.get_0]
     |succ j=>
      rw[Tm.get_s,Tm.get_s];rcases w4 (j%2) 0 with ⟨g,g'⟩|⟨g,g'⟩<;>rw[g]<;>dsimp only
      ·rw[Tm.get_put f _ _ _ (hh m h)];by_cases e2:m=j
       ·subst e2;rw[if_pos rfl,if_pos rfl]
       rw[if_neg ws,if_neg ws]
      rw[if_neg ws]
    cases j with
    |zero=>rw[Tm.get_0,if_neg ws,Tm.get_0]
    |succ j=>
     rw[Tm.get_s,Tm.get_s];rcases w4 (j%2) 0 with ⟨g,g'⟩|⟨g,g'⟩<;>rw[g]<;>dsimp only
     ·rw[if_neg ws]
     rw[Tm.get_put f _ _ _ (hh m h)];by_cases e2:m=j
     ·subst e2;rw[if_pos rfl,if_pos rfl]
     rw[if_neg ws,if_neg ws]
abbrev Mm:=Tm LB
def xput(M:Mm)(k:Nat)(x:Option LB):Option Mm:=match Nat.blt k 1000000000 with|true=>some (M.put 31 k x)|false=>none
theorem xP{M M':Mm}{k:Nat}{x:Option LB}(h:xput M k x=some M')(j:Nat):M'.get j=if k=j then x else M.get j:=by
 unfold xput at h;split at h
 ·rename_i e;cases h;have e:k<1000000000:=Nat.le_of_ble_eq_true e;exact Tm.get_put 31 M k j ws
 cases h
def Rep(M:Mm)(L:LL):Prop:=∀k,getL L k=M.get k
theorem Rep.new{M M':Mm}{L:LL}{k:Nat}{x:LB}(h:Rep M L)(e:xput M k (some x)=some M'):Rep M' ((k,x)::L):=λj=>by
 rw[ze,xP e,h j]
theorem Rep.set{M M':Mm}{L:LL}{k:Nat}{x y:LB}(h:Rep M L)(hk:getL L k=some y)(e:xput M k (some x)=some M'):Rep M' (setL L k x):=λj=>by
 rw[zK,xP e,h j,];split
 ·rename_i e;subst e;rw[hk];rfl
 rfl
theorem Rep.rem{M M':Mm}{L:LL}{k:Nat}(h:Rep M L)(e:xput M k none=some M'):Rep M' (remL L k):=λj=>by
 rw[zM,xP e,h j]
def hF(n:Nat)(fr:Fr):Prop:=∀k,hasF k fr=true→k<n
def hL(n:Nat)(L:LL):Prop:=∀k,hasLL k L=true→k<n
def hV(n:Nat)(x:SV):Prop:=∀k,x.has k=true→k<n
def hS(n:Nat)(l:List SV):Prop:=∀k,hasL k l=true→k<n
theorem hF.mono{n m:Nat}{fr:Fr}(h:hF n fr)(e:n≤m):hF m fr:=λk hk=>Nat.lt_of_lt_of_le (h k hk) e
theorem hL.mono{n m:Nat}{L:LL}(h:hL n L)(e:n≤m):hL m L:=λk hk=>Nat.lt_of_lt_of_le (h k hk) e
theorem hV.mono{n m:Nat}{x:SV}(h:hV n x)(e:n≤m):hV m x:=λk hk=>Nat.lt_of_lt_of_le (h k hk) e
theorem hS.mono{n m:Nat}{x:List SV}(h:hS n x)(e:n≤m):hS m x:=λk hk=>Nat.lt_of_lt_of_le (h k hk) e
theorem hF.cons{n t:Nat}{x:SV}{fr:Fr}(h:hF n fr)(hx:hV n x):hF n ((t,x)::fr):=λk hk=>by
 rw[hasF_cons,Bool.or_eq_true] at hk;exact hk.elim (hx k) (h k)
theorem hS.nil{n:Nat}:hS n []:=λk hk=>by simp[hasL] at hk
theorem hS.cons{n:Nat}{x:SV}{l:List SV}(h:hS n l)(hx:hV n x):hS n (x::l):=λk hk=>by
 rw[yY,Bool.or_eq_true] at hk;exact hk.elim (hx k) (h k)
theorem hS.head{n:Nat}{x:SV}{l:List SV}(h:hS n (x::l)):hV n x:=λk hk=>h k (by rw[yY,hk];rfl)
theorem hS.tail{n:Nat}{x:SV}{l:List SV}(h:hS n (x::l)):hS n l:=λk hk=>h k (by rw[yY,hk,Bool.or_true])
theorem hS.append{n:Nat}{l m:List SV}(h:hS n l)(h':hS n m):hS n (l++m):=λk hk=>(hasL_append hk).elim (h k) (h' k)
theorem hS.take{n i:Nat}{l:List SV}(h:hS n l):hS n (takeN l i):=λk hk=>h k (hasL_takeN hk)
theorem hS.drop{n i:Nat}{l:List SV}(h:hS n l):hS n (dropN l i):=λk hk=>h k (hasL_dropN hk)
theorem hS.valL{n:Nat}(vs:List Value):hS n (valL vs):=λk hk=>by rw[hasL_valL] at hk;cases hk
def hB(n:Nat)(x:LB):Prop:=∀k,x.has k=true→k<n
theorem hB.row{n e sz m:Nat}{cs:List SV}(h:hS n cs):hB n (.row e sz m cs):=h
theorem hB.cells{n t:Nat}{cs:List SV}(h:hS n cs):hB n (.cells t cs):=h
theorem hL.new{n k:Nat}{x:LB}{L:LL}(h:hL n L)(hk:k<n)(hx:hB n x):hL n ((k,x)::L):=λj hj=>by
 rw[yi,Bool.or_eq_true,Bool.or_eq_true] at hj;rcases hj with hj|hj|hj
 ·have:=Nat.eq_of_beq_eq_true hj;omega
 ·exact hx j hj
 exact h j hj
theorem hL.set{n k:Nat}{x:LB}{L:LL}(h:hL n L)(hx:hB n x):hL n (setL L k x):=λj hj=>(hasLL_setL hj).elim (h j) (hx j)
theorem hasLL_remL{j k:Nat}:∀{L:LL},hasLL j (remL L k)=true→hasLL j L=true
 |[],h=>h
 |(u,y)::r,h=>by
  rw[remL_c] at h;rw[yi,Bool.or_eq_true,Bool.or_eq_true]
  cases e:Nat.beq u k with
  |true=>rw[e] at h;exact .inr (.inr (hasLL_remL h))
  |false=>
   rw[e] at h;rw[yi,Bool.or_eq_true,Bool.or_eq_true] at h;exact h.imp id (λh=>h.imp id hasLL_remL)
theorem hL.rem{n k:Nat}{L:LL}(h:hL n L):hL n (remL L k):=λj hj=>h j (hasLL_remL hj)
theorem hL.get{n k:Nat}{L:LL}{x:LB}(h:hL n L)(hk:getL L k=some x):hB n x:=λj hj=>h j (zm hk (.inr hj))
theorem hL.key{n k:Nat}{L:LL}{x:LB}(h:hL n L)(hk:getL L k=some x):k<n:=h k (zm hk (.inl rfl))
theorem hF.opv{n:Nat}{fr:Fr}(h:hF n fr)(x:Operand):hV n (opv fr x):=λk hk=>h k (opv_has hk)
theorem hF.opvs{n:Nat}{fr:Fr}(h:hF n fr):∀(l:List Operand),hS n (opvs fr l)
 |[]=>.nil
 |x::r=>(hF.opvs h r).cons (h.opv x)
mutual
theorem ltK_of:∀(x:SV) {b:Nat},hV b x→ltK b x=true
 |.v _,_,_=>rfl
 |.bb _,_,_=>rfl
 |.b _ _,_,_=>rfl
 |.bad,_,_=>rfl
 |.el _ _,_,_=>rfl
 |.lp k _,b,h=>Nat.ble_eq_true_of_le (h k wH)
 |.own k,b,h=>Nat.ble_eq_true_of_le (h k wH)
 |.yl k,b,h=>Nat.ble_eq_true_of_le (h k wH)
 |.vw k _ _ _ _,b,h=>Nat.ble_eq_true_of_le (h k wH)
 |.lq k,b,h=>Nat.ble_eq_true_of_le (h k wH)
 |.ls k _,b,h=>Nat.ble_eq_true_of_le (h k wH)
 |.mr k,b,h=>Nat.ble_eq_true_of_le (h k wH)
 |.agg l,b,h=>ltKL_of l (λk hk=>h k wF)
 |.tup l,b,h=>ltKL_of l (λk hk=>h k wF)
 |.fn _ l,b,h=>ltKL_of l (λk hk=>h k wF)
theorem ltKL_of:∀(l:List SV) {b:Nat},hS b l→ltKL b l=true
 |[],_,_=>rfl
 |x::r,b,h=>by
  rw[ltKL,ltK_of x h.head];exact ltKL_of r h.tail
end
theorem hV_of{x:SV}{b:Nat}(h:ltK b x=true):hV b x:=λ_ hk=>ltK_has x h hk
theorem ltF_of:∀{fr:Fr}{b:Nat},hF b fr→ltF b fr=true
 |[],_,_=>rfl
 |(u,x)::r,b,h=>by
  rw[ltF_c,ltK_of x (λk hk=>h k (by rw[hasF_cons,hk];rfl))];exact ltF_of (λk hk=>h k (by rw[hasF_cons,hk,Bool.or_true]))
theorem ltLL_of:∀{L:LL}{b:Nat},hL b L→ltLL b L=true
 |[],_,_=>rfl
 |(u,x)::r,b,h=>by
  have h1:Nat.blt u b=true:=Nat.ble_eq_true_of_le (h u (by rw[yi];simp));have h2:ltLL b r=true:=ltLL_of (λk hk=>h k vu);have h3:hB b x:=λk hk=>h k (by rw[yi,hk,Bool.true_or,Bool.or_true]);rw[ltLL_c,h1]
  cases x with
  |cells T l=>dsimp only;rw[ltKL_of l h3];exact h2
  |row e s n l=>dsimp only;rw[ltKL_of l h3];exact h2
  |_=>exact h2
theorem dLt_of:∀{L:LL}{b:Nat},hL b L→dLt b L=true
 |[],_,_=>rfl
 |(u,x)::r,b,h=>by
  have h1:Nat.blt u b=true:=Nat.ble_eq_true_of_le (h u (by rw[yi];simp));have h2:dLt b r=true:=dLt_of (λk hk=>h k vu);cases x<;>(unfold dLt;first|exact h2|(rw[h1];exact h2))
def XK(nk:Nat)(fr:Fr)(M:Mm):Kt:=λ_ _ fr' L=>fr'=fr∧Rep M L∧hF nk fr∧hL nk L
variable {P:Program}{S S' Sb:Pl}{fr:Fr}{L L':LL}{q q':PH}{w0:W0}{w w':World}{a a':Act}{n0 N:Nat}{B:Nat→Prop}{E:Env}
variable {r:Option Nat}{n:Nat}{Q:Exit→Act→World→Prop}
theorem _root_.Go.Eng.Cfg.up(hc:Cfg w0 Sb B n0 N S q fr L a w)(nk:Nat):Cfg w0 S (λd=>getL L d=some .dfr) nk N S q fr L a w:=
 ⟨λ_ _=>rfl,λ_ _ h=>h,hc.m,hc.f,hc.n,hc.d⟩
theorem _root_.Go.Eng.Cfg.down{nk:Nat}{K:Kt}(hc:Cfg w0 Sb B n0 N S q fr L a w)(h0:n0≤nk)(h:St w0 S (λd=>getL L d=some .dfr) nk N K a' w'):St w0 Sb B n0 N K a' w':=by
 obtain⟨S',q',fr',L',nk',hc',hK⟩:=h;exact⟨S',q',fr',L',nk',⟨λk hk=>(hc'.ag k ws).trans (hc.ag k hk),λd hd hB=>hc'.b d ws (hc.b d hd hB),hc'.m,hc'.f,hc'.n,hc'.d⟩,hK⟩
theorem newK_of{nk:Nat}{lb:LB}{K:LL→Prop}(h1:hF nk fr)(h2:hL nk L)(h:K ((nk,lb)::L)):newK nk nk fr L lb K:=by
 unfold newK
 have e1:hasF nk fr=false:=by
  cases hb:hasF nk fr with
  |false=>rfl
  |true=>have:=h1 nk hb;omega
 have e2:hasLL nk L=false:=by
  cases hb:hasLL nk L with
  |false=>rfl
  |true=>have:=h2 nk hb;omega
 rw[Nat.ble_eq_true_of_le (Nat.le_refl nk),e1,e2];exact h
theorem noF{nk:Nat}(h1:hF nk fr):hasF nk fr=false:=by
 cases hb:hasF nk fr with
 |false=>rfl
 |true=>have:=h1 nk hb;omega
theorem noL{nk:Nat}(h2:hL nk L):hasLL nk L=false:=by
 cases hb:hasLL nk L with
 |false=>rfl
 |true=>have:=h2 nk hb;omega
def putX(N:Nat)(dst:Option Nat)(y:SV)(fr:Fr):Option Fr:=
 match dst with
 |none=>some fr
 |some d=>(match Nat.blt d N with|true=>some ((d,y)::fr)|false=>none)
theorem zL{dst:Option Nat}{y:SV}{fr':Fr}{K:Fr→Prop}(h:putX N dst y fr=some fr')(hK:K fr'):putK N dst y fr K:=by
 unfold putX at h;unfold putK;split at h
 ·cases h;exact hK
 split at h
 ·rename_i e;cases h;dsimp only;rw[e];exact hK
 cases h
theorem y8{nk:Nat}{dst:Option Nat}{y:SV}{fr':Fr}(h:putX N dst y fr=some fr')(hf:hF nk fr)(hy:hV nk y):hF nk fr':=by
 unfold putX at h;split at h
 ·cases h;exact hf
 split at h
 ·cases h;exact hf.cons hy
 cases h
end
end Exe
end Go.Eng
end
section
namespace Go.Eng
open Go Go.RowKit
namespace Exe
noncomputable section
variable {P:Program}{S S' Sb:Pl}{fr fr':Fr}{L L':LL}{q q':PH}{w0:W0}{w w':World}{a a':Act}{n0 N:Nat}{B:Nat→Prop}{E:Env}
variable {r:Option Nat}{n:Nat}{Q:Exit→Act→World→Prop}{M M':Mm}{nk:Nat}{y:SV}
def XL(fr1:Fr)(L1:LL):Kt:=λ_ _ fr' L'=>fr'=fr1∧L'=L1
theorem XL.to{fr1:Fr}{L1:LL}{nk':Nat}(h1:Rep M' L1)(h2:hF nk' fr1)(h3:hL nk' L1)(h:St w0 Sb B n0 N (XL fr1 L1) a w):St w0 Sb B n0 N (XK nk' fr1 M') a w:=by
 obtain⟨S',q',fr',L',k',hc,rfl,rfl⟩:=h;exact⟨S',q',_,_,k',hc,rfl,h1,h2,h3⟩
theorem XL.rowed{fr1:Fr}{e sz m:Nat}{us:List Value}{cs:List SV}{L2:LL}{D:Nat→Prop}(hok:okL S cs us)(hcs:hS nk cs)
  (h:St w0 S D nk N (XL fr1 ((nk,.arr e sz m us)::L2)) a w):St w0 S D nk N (XL fr1 ((nk,.row e sz m cs)::L2)) a w:=by
 obtain⟨S',q',fr',L',k',hc,rfl,rfl⟩:=h;have hok':okL S' cs us:=yc cs (λk hk=>hc.ag k (hcs k hk)) hok;refine⟨S',q',_,_,k',⟨hc.ag,λd hd hD=>?_,hc.m.head hok',hc.f,hc.n,hc.d⟩,rfl,rfl⟩;have:=hc.b d hd hD;rw[ze,if_neg ws] at this ⊢;exact this
theorem XL.rowed2{fr1:Fr}{k e sz m:Nat}{us:List Value}{cs:List SV}{L2:LL}{D:Nat→Prop}(hok:okL S cs us)(hcs:hS nk cs)(hk:getL L2 k=some (.arr e sz m us))
  (h:St w0 S D nk N (XL fr1 L2) a w):St w0 S D nk N (XL fr1 (setL L2 k (.row e sz m cs))) a w:=by
 obtain⟨S',q',fr',L',k',hc,rfl,rfl⟩:=h;have hok':okL S' cs us:=yc cs (λk hk=>hc.ag k (hcs k hk)) hok;refine⟨S',q',_,_,k',⟨hc.ag,λd hd hD=>?_,hc.m.retell (lb':=.row e sz m cs) hk rfl ⟨us,hc.m.ch k _ hk,hok'⟩,hc.f,hc.n,hc.d⟩,rfl,rfl⟩;have:=hc.b d hd hD;rw[zK];split
 ·rename_i e;subst e;rw[hk] at this;cases this
 exact this
theorem xcalm_step(hE:EnvOk P E){o:Oper}(hc:Cfg w0 S B nk N S q fr L a w)(hR:Rep M L)(hf:hF nk fr)(hl:hL nk L)
  (h:ym E.T o.op fr M.get=some y) (hy:hV nk y) (hp:putX N o.dst y fr=some fr'):Oper.wpIn (FF r) n P o a w (St w0 S B nk N (XK nk fr' M)) Q:=
 yH (nk:=0) hE.T hE.Γ (λf s hs=>⟨(hE.Δ f s hs).1,(hE.Δ f s hs).2.1⟩) (wr:=true) hc (xcalm_ok (hR) h (zL hp ⟨rfl,hR,y8 hp hf hy,hl⟩))
def xalloc(T:Tab)(t nk:Nat)(M:Mm):Option (SV×Mm):=
 match (ty T t).d with
 |.other=>none
 |_=>(match xput M nk (some (.cells t (valL (ty T t).zero))) with|some M'=>some (.lp nk 0,M')|none=>none)
theorem hV_lp{k m o:Nat}(h:k<m):hV m (.lp k o):=λj hj=>by
 have:Nat.beq k j=true:=by simpa[SV.has] using hj
 have:=Nat.eq_of_beq_eq_true this;omega
theorem hV_own{k m:Nat}(h:k<m):hV m (.own k):=λj hj=>by
 have:Nat.beq k j=true:=by simpa[SV.has] using hj
 have:=Nat.eq_of_beq_eq_true this;omega
theorem xalloc_step(hT:zG P E.T){o:Oper}{t:Nat}(hop:o.op=.alloc t)(hc:Cfg w0 S B nk N S q fr L a w)(hR:Rep M L)(hf:hF nk fr)(hl:hL nk L)
  (h:xalloc E.T t nk M=some (y,M')) (hp:putX N o.dst y fr=some fr'):Oper.wpIn (FF r) n P o a w (St w0 S B nk N (XK (nk+1) fr' M')) Q:=by
 unfold xalloc at h;split at h
 ·cases h
 rename_i hne;split at h;rotate_left
 ·cases h
 rename_i M1 hM;cases h
 have main:fSVL (valL (ty E.T t).zero) λz=>newK nk nk fr L (.cells t z) λL=>putK N o.dst (.lp nk 0) fr λfr=>XK (nk+1) fr' M' 0 q fr L:=by
  rw[xl];exact newK_of hf hl (zL hp ⟨rfl,hR.new hM,y8 hp (hf.mono ws) (hV_lp ws),(hl.mono ws).new ws (.cells (.valL _))⟩)
 refine alloc_step (key:=nk) (nk:=0) hT hop hc ?_
 revert main hne
 generalize ty E.T t=ti;obtain⟨d,_,_,_,_⟩:=ti;cases d<;>intro hne h<;>first|exact h|exact absurd rfl hne
def xbox(T:Tab)(t:Nat)(x:SV):Option (List SV):=
 match x with
 |.agg l=>(match Nat.beq l.length (ty T t).sz,oneL l with|true,true=>some l|_,_=>none)
 |.tup _=>none
 |.bad=>none
 |.v (.agg _)=>none
 |.v (.tuple _)=>none
 |y=>(match Nat.beq (ty T t).sz 1 with|true=>some [y]|false=>none)
theorem xbox_ok{T:Tab}{t:Nat}{x:SV}{l:List SV}{K:List SV→Prop}(h:xbox T t x=some l)(hK:K l):boxCells T t x K:=by
 unfold xbox at h;unfold boxCells;split at h
 ·split at h
  ·rename_i e1 e2;cases h;dsimp only;rw[e1,e2];exact hK
  cases h
 ·cases h
 ·cases h
 ·cases h
 ·cases h
 rename_i N1 N2 N3 N4 N5;split at h
 ·rename_i e;cases h;rw[e];split
  ·exact(N1 _ rfl).elim
  ·exact(N2 _ rfl).elim
  ·exact(N3 rfl).elim
  ·exact(N4 _ rfl).elim
  ·exact(N5 _ rfl).elim
  exact hK
 cases h
theorem xbox_h{T:Tab}{t m:Nat}{x:SV}{l:List SV}(h:xbox T t x=some l)(hx:hV m x):hS m l:=by
 unfold xbox at h;split at h
 ·split at h
  ·cases h;exact λk hk=>hx k wF
  cases h
 ·cases h
 ·cases h
 ·cases h
 ·cases h
 split at h
 ·cases h;exact hS.nil.cons hx
 cases h
def xboxM(T:Tab)(t nk:Nat)(x:SV)(M:Mm):Option (SV×Mm):=
 match (ty T t).d with
 |.other=>none
 | _=>(match xbox T t x with
  |some l=>(match xput M nk (some (.cells t l)) with|some M'=>some (.lp nk 0,M')|none=>none)
  | none=>none)
theorem xbox_step{o:Oper}{t:Nat}{x:Operand}(hop:o.op=.box t x)(hc:Cfg w0 S B nk N S q fr L a w)(hR:Rep M L)(hf:hF nk fr)(hl:hL nk L)
  (h:xboxM E.T t nk (opv fr x) M=some (y,M')) (hp:putX N o.dst y fr=some fr'):Oper.wpIn (FF r) n P o a w (St w0 S B nk N (XK (nk+1) fr' M')) Q:=by
 unfold xboxM at h;split at h
 ·cases h
 split at h;rotate_left
 ·cases h
 rename_i l hx;split at h;rotate_left
 ·cases h
 rename_i M1 hM;cases h;exact box_step (E:=E) (key:=nk) (nk:=0) hop hc (xbox_ok hx (newK_of hf hl (zL hp ⟨rfl,hR.new hM,y8 hp (hf.mono ws) (hV_lp ws),(hl.mono ws).new ws (.cells ((xbox_h hx (hf.opv x)).mono ws))⟩)))
def x7(T:Tab)(t m nk:Nat)(fr:Fr)(ps:List (Nat×Operand))(M:Mm):Option (SV×Mm):=
 match (ty T t).d with
 | .slice e=>(match (ty T e).d with
  |.other=>none
  | _=>(match yM T (elemPl (ty T e).sz e m 0) fr ps (repl m (valL (ty T e).zero)) with
   | some cs=>(match oneL cs,Nat.ble (m * (ty T e).sz) 16777216,xput M nk (some (.row e (ty T e).sz m cs)) with
    |true,true,some M'=>some (.own nk,M')
    | _,_,_=>none)
   | none=>none))
 |_=>none
theorem repl_h{m:Nat}{l:List SV}(h:hS m l):∀i,hS m (repl i l)
 |0=>.nil
 |i+1=>h.append (repl_h h i)
theorem xparts_h{T:Tab}{m:Nat}{fs:List (Nat×Nat)}(hf:hF m fr):∀{ps:List (Nat×Operand)}{cs l:List SV},hS m cs→yM T fs fr ps cs=some l→hS m l
 |[],cs,l,hc,h=>by cases h;exact hc
 |(i,x)::r,cs,l,hc,h=>by
  rw[xparts_c] at h;have hx:=hf.opv x;split at h
  ·rename_i off t hn;split at h
   ·rename_i l' hx';rw[hx'] at hx;split at h
    ·have hl':hS m l':=λk hk=>hx k wF;exact xparts_h hf ((hc.take.append hl').append hc.drop) h
    cases h
   ·cases h
   ·cases h
   ·cases h
   ·cases h
   split at h
   ·refine xparts_h hf ?_ h
    have set:∀(cs:List SV) (i:Nat),hS m cs→hS m (setN cs i (opv fr x)):=by
     intro cs
     induction cs with
     |nil=>intro i h;cases i<;>exact h
     |cons z s ih=>intro i h;cases i with
      |zero=>exact h.tail.cons hx
      |succ i=>exact(ih i h.tail).cons h.head
    exact set cs off hc
   cases h
  cases h
theorem xbuildS_step(hT:zG P E.T){o:Oper}{t m:Nat}{ps:Array (Nat×Operand)}(hop:o.op=.buildSlice t m ps)(hc:Cfg w0 S B nk N S q fr L a w)(hR:Rep M L)(hf:hF nk fr)(hl:hL nk L)(hB:B=λd=>getL L d=some .dfr)
  (h:x7 E.T t m nk fr ps.toList M=some (y,M')) (hp:putX N o.dst y fr=some fr'):Oper.wpIn (FF r) n P o a w (St w0 S B nk N (XK (nk+1) fr' M')) Q:=by
 unfold x7 at h;split at h;rotate_left
 ·cases h
 rename_i e hd;split at h
 ·cases h
 rename_i h0;replace h0:(ty E.T e).d≠.other:=λe=>h0 e;split at h;rotate_left
 ·cases h
 rename_i cs hcs;split at h;rotate_left
 ·cases h
 rename_i M1 hone h2 hM;cases h;have h2:=Nat.le_of_ble_eq_true h2;have h':=xparts_ok (K:=λl=>l=cs) hcs rfl;obtain⟨ht,hsz,i,hi,hisz,_⟩:yz P E.T t (.slice e):=by rw[←hd];exact(hT t wD).d
 obtain⟨i',z,hi',hisz',_,hz,hzc⟩:=(hT e h0).i;rw[hi] at hi';cases hi';have hzl:(ty E.T e).zero.length=(ty E.T e).sz:=(hT e h0).zl
 obtain ⟨l,us,hK,hok,hf1⟩:=partsK_ok (T:=E.T) (ρ:=a.eval) hc.f (fun x=>zu hc.f x) (fun i=>some (i * (ty E.T e).sz,(ty E.T e).sz)) (fun i off t h=>by
  obtain⟨h1,h2⟩:=elemPl_nth m 0 i off t h
  rw [h1,h2];simp) ps.toList _ _ _ (okL_repl (yv (S:=S) (ty E.T e).zero) m) h'
 have hrun0:m*(ty E.T e).sz≤16777216→(Instr.buildSlice t m (ps.map λ(q:Nat×Operand)=>(q.1,a.eval q.2))).run P w=.ok (.slice (some ⟨w.heap.size,0,none⟩) m m) (w.alloc (.cells us.toArray e)):=λh2=>by
  have hus:us.length=m*(ty E.T e).sz:=by
   have hl:=zC hok;have:us.toArray.size=(List.replicate m (ty E.T e).zero).flatten.toArray.size:=fill_size hf1;simpa[hzl] using this
  have hps:(ps.map λ(q:Nat×Operand)=>(q.1,a.eval q.2)).toList=ps.toList.map λq=>(q.1,a.eval q.2):=by simp
  have hmade:(if m*(ty E.T e).sz=0 then(#[]:Array Value) else z.cells)=(if m*(ty E.T e).sz=0 then(#[]:Array Value) else(ty E.T e).zero.toArray):=by rw[←hzc]
  have hrun:(Instr.buildSlice t m (ps.map λ(q:Nat×Operand)=>(q.1,a.eval q.2))).run P w=.ok (.slice (some ⟨w.heap.size,0,none⟩) m m) (w.alloc (.cells us.toArray e)):=by
   have hlim:¬(2^24<m*i.size):=by rw[hisz];omega
   by_cases hz0:m*i.size=0
   ·have hm0:m=0:=by
     rcases Nat.mul_eq_zero.1 hz0 with h|h
     ·exact h
     omega
    subst hm0;simp only[List.replicate_zero,List.flatten_nil] at hf1;have hr0:Array.range 0=#[]:=rfl;simp only[Instr.buildSlice,Sem.run_bind,run_underlying ht,Result.andThen_ok,sizeOf,typeInfo,run_program,hi,Sem.run_pure,Nat.zero_mul];rw[if_neg ws];simp only[Sem.run_bind,Result.andThen_ok,Sem.run_pure,if_true,hisz,Nat.zero_mul,hr0,Array.map_empty];rw[hps,hf1];simp[newRow]
   have hm:=made_flat (ty E.T e).zero ws m;rw[hzl] at hm;have hf2:=hf1;rw[←hm] at hf2;have hz':z.cells=(ty E.T e).zero.toArray:=by rw[←hzc]
   have hz0':¬m*(ty E.T e).sz=0:=by rw[←hisz];exact hz0
   simp only[Instr.buildSlice,Sem.run_bind,run_underlying ht,Result.andThen_ok,sizeOf,typeInfo,run_program,hi,Sem.run_pure];rw[if_neg ws];simp only[Sem.run_bind,hz0',if_false,zeroValue,typeInfo,run_program,Result.andThen_ok,hi,Sem.run_pure,hz,hisz,hz'];rw[hps,hf2];simp[newRow]
  exact hrun
 subst hK;have hrun:=hrun0 h2
 have hus:us.length=m*(ty E.T e).sz:=by
  have hl:=zC hok;have:us.toArray.size=(List.replicate m (ty E.T e).zero).flatten.toArray.size:=fill_size hf1;simpa[hzl] using this
 have hcsh:hS nk l:=xparts_h hf (repl_h (.valL _) m) hcs
 refine Oper.wpIn_mono (λa w h=>XL.to (hR.new hM) (y8 hp (hf.mono (Nat.le_succ nk)) (hV_own (Nat.lt_succ_self nk))) ((hl.mono (Nat.le_succ nk)).new (Nat.lt_succ_self nk) (.row (hcsh.mono (Nat.le_succ nk)))) (XL.rowed hok hcsh h))
  (arr_new (key:=nk) (nk:=0) (K:=XL fr' ((nk,.arr e (ty E.T e).sz m us)::L)) (cur:=us.toArray) (cap:=m) hc (yJ hop (by simp)) rfl (ya (by simp only [execOp,hop]) hrun) hsz hus (Nat.le_refl _) (by
  have:=Nat.le_mul_of_pos_right m hsz;have e:maxLen=9223372036854775807:=by decide
  omega) (by simpa using hus) (by rw [←hus];simp) (oneL_ok hone hok) (newK_of hf hl (zL hp ⟨rfl,rfl⟩)))
end
end Exe
end Go.Eng
end
section
namespace Go.Eng
open Go Go.RowKit
namespace Exe
noncomputable section
variable {P:Program}{S S' Sb:Pl}{fr fr':Fr}{L L':LL}{q q':PH}{w0:W0}{w w':World}{a a':Act}{n0 N:Nat}{B:Nat→Prop}{E:Env}
variable {r:Option Nat}{n:Nat}{Q:Exit→Act→World→Prop}{M M':Mm}{nk:Nat}{y:SV}
def xmake(T:Tab)(t nk:Nat)(l c:SV)(M:Mm):Option (SV×Mm):=
 match (ty T t).d,l,c with
 |.slice e,.v (.int .i64 n),.v (.int .i64 m)=>
  (match (ty T e).d with
  |.other=>none
  | _=>(match Nat.beq (ty T e).sz 1,(ty T e).zero,oneVL (ty T e).zero,in3 n m 9223372036854775807,in3 0 (m * (ty T e).byt) 140737488355328 with
   |true,[z],true,true,true=>(match xput M nk (some (.row e (ty T e).sz n.toNat (valL (List.replicate n.toNat z)))) with|some M'=>some (.own nk,M')|none=>none)
   |_,_,_,true,true=>(match decide (n=0),xput M nk (some (.row e (ty T e).sz 0 [])) with|true,some M'=>some (.own nk,M')|_,_=>none)
   | _,_,_,_,_=>none))
 |_,_,_=>none
theorem xmake_step(hT:zG P E.T){o:Oper}{t:Nat}{l c:Operand}(hop:o.op=.makeSlice t l c)(hc:Cfg w0 S B nk N S q fr L a w)(hR:Rep M L)(hf:hF nk fr)(hl:hL nk L)
  (h:xmake E.T t nk (opv fr l) (opv fr c) M=some (y,M')) (hp:putX N o.dst y fr=some fr'):Oper.wpIn (FF r) n P o a w (St w0 S B nk N (XK (nk+1) fr' M')) Q:=by
 unfold xmake at h;split at h;rotate_left
 ·cases h
 rename_i e k m hd hel hec;split at h
 ·cases h
 rename_i hne;replace hne:(ty E.T e).d≠.other:=λe=>hne e
 have fin:∀{us:List Value}{c0:Nat}{K1:Kt},xput M nk (some (.row e (ty E.T e).sz c0 (valL us)))=some M'→y=.own nk →
   Oper.wpIn (FF r) n P o a w (St w0 S B nk N (XL fr' ((nk,.arr e (ty E.T e).sz c0 us)::L))) Q→Oper.wpIn (FF r) n P o a w (St w0 S B nk N (XK (nk+1) fr' M')) Q:=by
  intro us c0 K1 hM hy hw;subst hy;exact Oper.wpIn_mono (λa w h=>XL.to (hR.new hM) (y8 hp (hf.mono (Nat.le_succ nk)) (hV_own (Nat.lt_succ_self nk))) ((hl.mono (Nat.le_succ nk)).new (Nat.lt_succ_self nk) (.row (.valL _))) (XL.rowed (yv _) (.valL _) h)) hw
 have mk:(makeK E.T t nk nk (opv fr l) (opv fr c) fr L λx L=>putK N o.dst x fr λfr=>XL fr' L 0 q fr L)→True:=λ_=>trivial;split at h
 ·rename_i z h1 h2 h3 h4 h5;split at h;rotate_left
  ·cases h
  rename_i M1 hM;cases h;have h4:=wc h4;have h5:=wc h5;refine fin (K1:=XL fr' L) hM rfl (make_step (key:=nk) (nk:=0) hT hop hc ?_);unfold makeK;rw[hd,hel,hec];dsimp only
  have main:Ob (0≤k∧k≤m∧m≤9223372036854775807∧m*(ty E.T e).byt≤140737488355328)∧∀N' zs,N'=k.toNat→zs=List.replicate k.toNat z→newK nk nk fr L (.arr e (ty E.T e).sz N' zs) λL'=>putK N o.dst (.own nk) fr λfr=>XL fr' ((nk,.arr e (ty E.T e).sz k.toNat (List.replicate k.toNat z))::L) 0 q fr L':=
   ⟨⟨h4.1,h4.2.1,h4.2.2,h5.2.2⟩,λN' zs e1 e2=>by subst e1 e2;exact newK_of hf hl (zL hp ⟨rfl,rfl⟩)⟩
  revert main h1 h2 h3 hne
  generalize ty E.T e=ti;obtain⟨d,sz,byt,zero,fl,cm⟩:=ti;intro hne h1 h2 h3 main;dsimp only at h1 h2 h3 main hne ⊢;rw[h2] at h3 ⊢
  cases d<;>first
   |exact absurd rfl hne
   |(dsimp only;rw[h1,h3];exact main)
 ·rename_i h4 h5 hN;split at h;rotate_left
  ·cases h
  rename_i M1 h0 hM;cases h;have h0:k=0:=of_decide_eq_true h0;subst h0;have h4:=wc h4;have h5:=wc h5;refine fin (us:=[]) (K1:=XL fr' L) hM rfl (make_step (key:=nk) (nk:=0) hT hop hc ?_);unfold makeK;rw[hd,hel,hec];dsimp only
  have main:Ob ((0:Int)=0∧0≤m∧m≤9223372036854775807∧m*(ty E.T e).byt≤140737488355328)∧newK nk nk fr L (.arr e (ty E.T e).sz 0 []) λL'=>putK N o.dst (.own nk) fr λfr=>XL fr' ((nk,.arr e (ty E.T e).sz 0 [])::L) 0 q fr L':=
   ⟨⟨rfl,h4.2.1,h4.2.2,h5.2.2⟩,newK_of hf hl (zL hp ⟨rfl,rfl⟩)⟩
  have main2:∀z:Value,Ob ((0:Int)≤0∧0≤m∧m≤9223372036854775807∧m*(ty E.T e).byt≤140737488355328)∧∀N' zs,N'=Int.toNat 0→zs=List.replicate (Int.toNat 0) z→newK nk nk fr L (.arr e (ty E.T e).sz N' zs) λL'=>putK N o.dst (.own nk) fr λfr=>XL fr' ((nk,.arr e (ty E.T e).sz 0 [])::L) 0 q fr L':=
   λz=>⟨⟨Int.le_refl _,h4.2.1,h4.2.2,h5.2.2⟩,λN' zs e1 e2=>by subst e1 e2;exact main.2⟩
  clear hN h5 hM fin mk
  revert main main2 hne
  generalize ty E.T e=ti;obtain⟨d,sz,byt,zero,fl,cm⟩:=ti;intro hne main main2;dsimp only at main main2 hne ⊢
  have hh:∀(X:Prop) (Y:Value→Prop),X→(∀z,Y z)→(match Nat.beq sz 1,zero,oneVL zero with|true,[z],true=>Y z|_,_,_=>X):=by
   intro X Y hX hY;split
   ·exact hY _
   exact hX
  cases d<;>first
   |exact absurd rfl hne
   |exact hh _ (λz=>Ob ((0:Int)≤0∧0≤m∧m≤9223372036854775807∧m*byt≤140737488355328)∧∀N' zs,N'=Int.toNat 0→zs=List.replicate (Int.toNat 0) z→newK nk nk fr L (.arr e sz N' zs) λL'=>putK N o.dst (.own nk) fr λfr=>XL fr' ((nk,.arr e sz 0 [])::L) 0 q fr L') main main2
 cases h
def xmakeA(T:Tab)(t nk:Nat)(l c:SV)(M:Mm):Option (SV×Mm):=
 match (ty T t).d,l,c with
 |.slice e,.v (.int .i64 n),.v (.int .i64 m)=>
  (match (ty T e).d with
  |.other=>none
  | _=>(match Nat.beq (ty T e).sz 1,Nat.beq (ty T e).zero.length (ty T e).sz,oneVL (ty T e).zero,in3 n m 9223372036854775807,in3 0 (m * (ty T e).byt) 140737488355328,xput M nk (some (.row e (ty T e).sz n.toNat (repl n.toNat (valL (ty T e).zero)))) with
   |false,true,true,true,true,some M'=>some (.own nk,M')
   | _,_,_,_,_,_=>xmake T t nk l c M))
 |_,_,_=>none
theorem valL_app:∀(a b:List Value),valL (a++b)=valL a++valL b
 |[],b=>rfl
 |x::a,b=>by cases x<;>simp[valL,valL_app a b]
theorem repl_val{l:List Value}:∀n,repl n (valL l)=valL (List.replicate n l).flatten
 |0=>rfl
 |n+1=>by
  show valL l++repl n (valL l)=_;rw[repl_val n,List.replicate_succ,List.flatten_cons,valL_app]
theorem made_flat{z:Array Value}{sz:Nat}(h:z.size=sz):∀n,(List.range (n*sz)).map (z[· % z.size]!)=(List.replicate n z.toList).flatten
 |0=>by simp
 |n+1=>by
  rw[Nat.succ_mul,List.range_add,List.map_append,made_flat h n,List.replicate_succ',List.flatten_append,List.map_map];congr 1;simp only[List.flatten_cons,List.flatten_nil,List.append_nil];apply List.ext_getElem
  ·simp[h]
  intro i h1 h2;have hi:i<sz:=by simpa using h1
  simp only[List.getElem_map,List.getElem_range,Function.comp,Array.getElem_toList];rw[h,Nat.mul_comm n sz,Nat.mul_add_mod,Nat.mod_eq_of_lt hi,getElem!_pos z i ws]
theorem xmakeA_step(hT:zG P E.T){o:Oper}{t:Nat}{l c:Operand}(hop:o.op=.makeSlice t l c)(hc:Cfg w0 S B nk N S q fr L a w)(hR:Rep M L)(hf:hF nk fr)(hl:hL nk L)
  (h:xmakeA E.T t nk (opv fr l) (opv fr c) M=some (y,M')) (hp:putX N o.dst y fr=some fr'):Oper.wpIn (FF r) n P o a w (St w0 S B nk N (XK (nk+1) fr' M')) Q:=by
 unfold xmakeA at h;split at h;rotate_left
 ·cases h
 rename_i e k m hd hel hec;split at h
 ·cases h
 rename_i hne;replace hne:(ty E.T e).d≠.other:=λe=>hne e;split at h;rotate_left
 ·exact xmake_step hT hop hc hR hf hl h hp
 rename_i M1 h1 h2 h3 h4 h5 hM;cases h;have h2:=Nat.eq_of_beq_eq_true h2;have h4:=wc h4;have h5:=wc h5;have hlv:=zu hc.f l;have hcv:=zu hc.f c;rw[hel] at hlv;rw[hec] at hcv;have hlv:a.eval l=.int .i64 k:=hlv;have hcv:a.eval c=.int .i64 m:=hcv;obtain⟨ht,hsz,i,hi,hisz,hiby⟩:yz P E.T t (.slice e):=by rw[←hd];exact(hT t wD).d
 obtain⟨i',z,hi',hisz',_,hz,hzc⟩:=(hT e hne).i;rw[hi] at hi';cases hi'
 have hex:(execOp a.eval o)=(do pure (.value (←Instr.makeSlice t (.int .i64 k) (.int .i64 m)))):=by
  simp only[execOp,hop,hlv,hcv]
 have hr:=run_make (P:=P) w t e i z ht hi hz .i64 .i64 k m h4.1 h4.2.1 (by rw[hiby,Int.mul_comm];omega) h4.2.2;have hzs:z.cells.size=(ty E.T e).sz:=by rw[←h2,←hzc];simp
 have hus:(List.replicate k.toNat (ty E.T e).zero).flatten=(List.range (k.toNat*(ty E.T e).sz)).map (z.cells[· % z.cells.size]!):=by rw[made_flat hzs,hzc]
 have hone:∀u∈(List.replicate k.toNat (ty E.T e).zero).flatten,u.oneCell'=true:=λu hu=>by
  obtain⟨l1,hl1,hu⟩:=List.mem_flatten.1 hu;rw[List.eq_of_mem_replicate hl1] at hu;exact oneVL_ok h3 u hu
 have hst:Oper.wpIn (FF r) n P o a w (St w0 S B nk N (XL fr' ((nk,.arr e (ty E.T e).sz k.toNat (List.replicate k.toNat (ty E.T e).zero).flatten)::L))) Q:=by
  refine arr_new (cap:=m.toNat) (nk:=0) hc (yJ hop wv) rfl (ya hex hr) hsz ?_ ws (xm ws) vo ?_ hone (newK_of hf hl (zL hp ⟨rfl,rfl⟩))
  ·rw[hus];simp
  rw[hus,hisz];unfold madeCells;rw[Array.toList_map,Array.toList_range,←List.map_take,List.take_range];congr 2;rw[Nat.min_eq_left];exact Nat.mul_le_mul_right _ ws
 rw[repl_val] at hM;exact Oper.wpIn_mono (λa w h=>XL.to (hR.new hM) (y8 hp (hf.mono (Nat.le_succ nk)) (hV_own (Nat.lt_succ_self nk))) ((hl.mono (Nat.le_succ nk)).new (Nat.lt_succ_self nk) (.row (.valL _))) (XL.rowed (yv _) (.valL _) h)) hst
def xstore(T:Tab)(t:Nat)(p x:SV)(M:Mm):Option Mm:=
 match isOther T t with
 |true=>none
 | false=>(match p with
  | .lp k o=>(match xbox T t x with
   | some l=>(match M.get k with
    |some (.cells TT cs)=>(match Nat.ble (o+l.length) cs.length with|true=>xput M k (some (.cells TT (takeN cs o++l++dropN cs (o+l.length))))|false=>none)
    |some (.row e sz n cs)=>(match Nat.ble (o+l.length) cs.length with|true=>xput M k (some (.row e sz n (takeN cs o++l++dropN cs (o+l.length))))|false=>none)
    | _=>none)
   | none=>none)
  | _=>none)
theorem row_store(hT:zG P E.T){o:Oper}{t k off e sz m:Nat}{x y:Operand}{cs l:List SV}(hop:o.op=.store t x y)(hc:Cfg w0 Sb B n0 N S q fr L a w)(h0:(ty E.T t).d≠.other)
  (hx:a.eval x=.pointer (some ⟨(S k).b,off,none⟩)) (hk:getL L k=some (.row e sz m cs)) (hok:okL S l (a.eval y).cells.toList) (hlen:l.length=(ty E.T t).sz) (h1:∀u∈(a.eval y).cells.toList,u.oneCell'=true)
  (hb:off+l.length≤cs.length) {fr1:Fr}(hp:putX N o.dst (.v undef) fr=some fr1) :
  Oper.wpIn (FF r) n P o a w (St w0 Sb B n0 N (XL fr1 (setL L k (.row e sz m (takeN cs off++l++dropN cs (off+l.length)))))) Q:=by
 obtain⟨i,z,hi,hisz,_⟩:=(hT t h0).i;have hpos:=(hT t h0).pos;obtain⟨xs,⟨⟨hl,hown⟩,hn,hsz,hone,hA⟩,hxs⟩:=hc.m.ch k _ hk;have hcl:=zC hxs;have hl2:=zC hok;rcases hown with ⟨_,hz0⟩|⟨g,cap,cur,hval,hg0,hg,hcap,hmax,hcur,htake⟩
 ·subst hz0;have:cs.length=0:=by rw[hcl,hl];simp
  omega
 injection hval with hval hval2 hval3
 have hAb:(S k).A=some ⟨(S k).b,0,none⟩:=by
  rcases hA with hA|hA
  ·rw[hA] at hval;cases hval
  exact hA
 have hgb:g=(S k).b:=by
  rw[hAb] at hval;injection hval with hval;injection hval with hval _ _;exact hval.symm
 subst hgb;have hle:m*sz≤cap*sz:=Nat.mul_le_mul_right sz hcap;have hcl2:cs.length=m*sz:=hcl.trans hl;have hr:=xr (P:=P) (o:=off) (v:=a.eval y) hi hisz (by rw[←hl2,hlen]) hg (by rw[hcur];omega) h1;have hlv:(a.eval y).cells.toList.length=l.length:=hl2.symm;refine wpIn_skip' (yJ hop wv) (w':=w.setRow (S k).b (cur.toList.take off++(a.eval y).cells.toList++cur.toList.drop (off+(ty E.T t).sz)).toArray) ?_ ?_
 ·simp only[execOp,hop,hx,Sem.run_bind,hr,Result.andThen_ok,Sem.run_pure]
 have htk:(cur.toList.take off++(a.eval y).cells.toList++cur.toList.drop (off+(ty E.T t).sz)).take (m*sz)=xs.take off++(a.eval y).cells.toList++xs.drop (off+l.length):=by
  have:=take_mid (l:=cur.toList) (m:=(a.eval y).cells.toList) (lo:=off) (n:=m*sz) (by rw[hlv];omega) (by rw[Array.length_toList,hcur];exact hle);rw[hlv,htake] at this;rw[←hlen];exact this
 have hmem:Mem w0 q S (setL L k (.row e sz m (takeN cs off++l++dropN cs (off+l.length)))) (w.setRow (S k).b (cur.toList.take off++(a.eval y).cells.toList++cur.toList.drop (off+(ty E.T t).sz)).toArray):=by
  refine hc.m.turn hk wT xJ ?_ wT;refine⟨xs.take off++(a.eval y).cells.toList++xs.drop (off+l.length),⟨⟨?_,.inr ⟨_,cap,_,?_,hg0,setRow_heap w _ _ _ e (0,0) hg,hcap,hmax,?_,?_⟩⟩,hn,hsz,?_,hA⟩,?_⟩
  ·rw[List.length_append,List.length_append,List.length_take,List.length_drop,hlv];omega
  ·rw[hAb,hval2,hval3]
  ·simp only[List.size_toArray,List.length_append,List.length_take,List.length_drop,hlv,Array.length_toList,hlen] at *;omega
  ·simpa using htk
  ·intro u hu;rcases List.mem_append.1 hu with hu|hu
   ·rcases List.mem_append.1 hu with hu|hu
    ·exact hone u (List.mem_of_mem_take hu)
    exact h1 u hu
   exact hone u (List.mem_of_mem_drop hu)
  exact zV (zV (yG off hxs) hok) (xg _ hxs)
 obtain⟨fr',hK',hc'⟩:=(hc.turn (lb':=.row e sz m (takeN cs off++l++dropN cs (off+l.length))) hk wv hmem).put (v:=undef) (K:=λfr=>fr=fr1) (zL hp rfl) rfl;exact⟨S,q,fr',_,0,hc',hK',rfl⟩
theorem xstore_step(hT:zG P E.T){o:Oper}{t:Nat}{x v:Operand}(hop:o.op=.store t x v)(hc:Cfg w0 S B nk N S q fr L a w)(hR:Rep M L)(hf:hF nk fr)(hl:hL nk L)
  (h:xstore E.T t (opv fr x) (opv fr v) M=some M') (hp:putX N o.dst (.v undef) fr=some fr'):Oper.wpIn (FF r) n P o a w (St w0 S B nk N (XK nk fr' M')) Q:=by
 unfold xstore at h;split at h
 ·cases h
 rename_i ho;have h0:(ty E.T t).d≠.other:=λe=>by simp[isOther,e] at ho
 split at h;rotate_left
 ·cases h
 rename_i k off ek;split at h;rotate_left
 ·cases h
 rename_i l hx;have hlS:hS nk l:=xbox_h hx (hf.opv v);have hfv:hF nk fr':=y8 hp hf (λk hk=>by simp[SV.has] at hk);split at h
 ·rename_i TT cs hk;split at h;rotate_left
  ·cases h
  rename_i hb;rw[←hR k] at hk;refine store_gen (nk:=0) hT hop hc (zu hc.f v) ?_;unfold storeK;rw[ho,ek];dsimp only;rw[hk];refine xbox_ok hx ?_;rw[hb];dsimp only;rw[zY];have hcs:hS nk cs:=hl.get hk;exact zL hp ⟨rfl,hR.set hk h,hfv,hl.set (.cells ((hcs.take.append hlS).append hcs.drop))⟩
 ·rename_i e sz m cs hk;split at h;rotate_left
  ·cases h
  rename_i hb;have hb:=Nat.le_of_ble_eq_true hb;rw[←hR k] at hk;have hxe:=zu hc.f x;rw[ek] at hxe;obtain⟨l',e',hok,hlen,_,h1⟩:=boxCells_ok (xbox_ok (K:=λl'=>l'=l) hx rfl) (zu hc.f v);subst e';have hcs:hS nk cs:=hl.get hk;exact Oper.wpIn_mono (λa w h'=>XL.to (hR.set hk h) hfv (hl.set (.row ((hcs.take.append hlS).append hcs.drop))) h') (row_store hT hop hc h0 hxe hk hok hlen h1 hb hp)
 cases h
end
end Exe
end Go.Eng
end
section
namespace Go.Eng
open Go Go.RowKit
namespace Exe
noncomputable section
variable {P:Program}{S S' Sb:Pl}{fr fr':Fr}{L L':LL}{q q':PH}{w0:W0}{w w':World}{a a':Act}{n0 N:Nat}{B:Nat→Prop}{E:Env}
variable {r:Option Nat}{n:Nat}{Q:Exit→Act→World→Prop}{M M':Mm}{nk:Nat}{y:SV}
def xsrcM(M:Mg)(sz:Nat)(x:SV):Option (Nat×List SV):=
 match x with
 |.v (.slice none 0 _)=>some (0,[])
 | .own j=>(match M j with
  |some (.row _ sz' n cs)=>(match Nat.beq sz' sz with|true=>some (n,cs)|false=>none)
  |some (.sb _ n xs)=>(match Nat.beq sz 1,oneVL xs with|true,true=>some (n,valL xs)|_,_=>none)
  | _=>none)
 | .vw j lo sz'' m _=>(match M j with
  |some (.row _ sz' n cs)=>(match Nat.beq sz'' sz,Nat.beq sz' sz,Nat.ble (lo+m) n with|true,true,true=>some (m,vwS cs lo sz m)|_,_,_=>none)
  |some (.sb _ n xs)=>(match Nat.beq sz'' 1,Nat.beq sz 1,Nat.ble (lo+m) n,oneVL xs with|true,true,true,true=>some (m,valL ((xs.drop lo).take m))|_,_,_,_=>none)
  | _=>none)
 |_=>none
def xdstM(M:Mg)(e sz:Nat)(s:SV):Option (Option Nat×Nat×List SV):=
 match s with
 |.v (.slice none 0 0)=>some (none,0,[])
 |.own k=>(match M k with|some (.row e' sz' n cs)=>(match Nat.beq e' e,Nat.beq sz' sz with|true,true=>some (some k,n,cs)|_,_=>none)|_=>none)
 |.vw k 0 sz'' m true=>(match M k with|some (.row e' sz' n cs)=>(match Nat.beq e' e,Nat.beq sz' sz,Nat.ble m n with|true,true,true=>some (some k,m,takeN cs (m*sz))|_,_,_=>none)|_=>none)
 |_=>none
theorem xsrc_eq(hR:Rep M L){sz:Nat}{x:SV}:xsrc L sz x=xsrcM M.get sz x:=by
 have:M.get=getL L:=(funext hR).symm;rw[this];rfl
theorem xdst_eq(hR:Rep M L){e sz:Nat}{x:SV}:xdst L e sz x=xdstM M.get e sz x:=by
 have:M.get=getL L:=(funext hR).symm;rw[this];rfl
def xremM(M:Mm)(k:Option Nat):Option Mm:=match k with|none=>some M|some k=>xput M k none
def xappM(T:Tab)(t nk:Nat)(s x:SV)(M:Mm):Option (SV×Mm):=
 match (ty T t).d with
 |.slice e=>
  (match (ty T e).d with
  |.other=>none
  | _=>(match xsrcM M.get (ty T e).sz x with
   |none=>none
   | some (m,ys)=>(match xdstM M.get e (ty T e).sz s with
    |none=>none
    | some (k,n,cs)=>(match xcap (n+m) (ty T e).byt,xput M nk (some (.row e (ty T e).sz (n+m) (catQ cs ys))) with
     |true,some M1=>(match xremM M1 k with|some M2=>some (.own nk,M2)|none=>none)
     | _,_=>none))))
 |_=>none
theorem xfresh_of(hf:hF nk fr)(hl:hL nk L):xfresh nk nk fr L=true:=by
 unfold xfresh;rw[Nat.ble_eq_true_of_le (Nat.le_refl nk),noF hf,noL hl]
theorem Rep.newrem{M1 M2:Mm}{k:Option Nat}{x:LB}(hR:Rep M L)(hl:hL nk L)(hk:∀k',k=some k'→∃y,getL L k'=some y)(h1:xput M nk (some x)=some M1)(h2:xremM M1 k=some M2):Rep M2 ((nk,x)::xrem k L):=by
 cases k with
 |none=>cases h2;exact hR.new h1
 |some k=>
  obtain⟨y,hy⟩:=hk k rfl;have hlt:=hl.key hy;intro j;have h2:xput M1 k none=some M2:=h2;rw[xP h2,xP h1,ze];show(if nk=j then some x else getL (remL L k) j)=_;rw[zM,hR j];by_cases e:nk=j
  ·rw[if_pos e,if_pos e,if_neg ws]
  rw[if_neg e,if_neg e]
theorem xdst_h{e sz:Nat}{s:SV}{k:Option Nat}{n' m:Nat}{cs:List SV}(hl:hL m L)(h:xdst L e sz s=some (k,n',cs)):hS m cs∧∀k',k=some k'→∃y,getL L k'=some y:=by
 unfold xdst at h;split at h
 ·cases h;exact⟨.nil,λ_ h=>by cases h⟩
 ·split at h
  ·rename_i hk;split at h
   ·cases h;exact⟨hl.get hk,λk' e=>by cases e;exact⟨_,hk⟩⟩
   cases h
  cases h
 ·split at h
  ·rename_i hk;split at h
   ·cases h;exact⟨hS.take (hl.get hk),λk' e=>by cases e;exact⟨_,hk⟩⟩
   cases h
  cases h
 cases h
theorem xsrc_h{sz:Nat}{x:SV}{n' m:Nat}{cs:List SV}(hl:hL m L)(h:xsrc L sz x=some (n',cs)):hS m cs:=by
 unfold xsrc at h;split at h
 ·cases h;exact .nil
 ·split at h
  ·rename_i hk;split at h
   ·cases h;exact hl.get hk
   cases h
  ·split at h
   ·cases h;exact .valL _
   cases h
  cases h
 ·split at h
  ·rename_i hk;split at h
   ·cases h;exact hS.take (hS.drop (hl.get hk))
   cases h
  ·split at h
   ·cases h;exact .valL _
   cases h
  cases h
 cases h
theorem hL.xrem{m:Nat}{k:Option Nat}(hl:hL m L):hL m (xrem k L):=by
 cases k with
 |none=>exact hl
 |some k=>exact hL.rem hl
theorem xapp_stepM(hT:zG P E.T){o:Oper}{t:Nat}{so xo:Operand}(hop:o.op=.call ⟨.builtin .append,#[so,xo],#[t,t]⟩)(hc:Cfg w0 S B nk N S q fr L a w)(hR:Rep M L)(hf:hF nk fr)(hl:hL nk L)
  (h:xappM E.T t nk (opv fr so) (opv fr xo) M=some (y,M')) (hp:putX N o.dst y fr=some fr'):Oper.wpIn (FF r) n P o a w (St w0 S B nk N (XK (nk+1) fr' M')) Q:=by
 unfold xappM at h;split at h;rotate_left
 ·cases h
 rename_i e hd;split at h
 ·cases h
 rename_i hne;replace hne:(ty E.T e).d≠.other:=λe=>hne e;split at h
 ·cases h
 rename_i m ys hsrc;split at h
 ·cases h
 rename_i k n' cs hdst;split at h;rotate_left
 ·cases h
 rename_i M1 hcap hM1;split at h;rotate_left
 ·cases h
 rename_i M2 hM2;cases h;rw[←xsrc_eq hR] at hsrc;rw[←xdst_eq hR] at hdst;obtain⟨hcs,hk⟩:=xdst_h hl hdst;have hys:=xsrc_h hl hsrc
 have hx:xapp E.T t nk nk (opv fr so) (opv fr xo) fr L=some (.own nk,(nk,.row e (ty E.T e).sz (n'+m) (catQ cs ys))::xrem k L):=by
  unfold xapp;rw[hd];dsimp only
  have main:(match xsrc L (ty E.T e).sz (opv fr xo) with
   |none=>none
   | some (m,ys)=>(match xdst L e (ty E.T e).sz (opv fr so) with
    |none=>none
    | some (k,n,cs)=>(match xcap (n+m) (ty E.T e).byt,xfresh nk nk fr L with
     |true,true=>some (SV.own nk,(nk,LB.row e (ty E.T e).sz (n+m) (catQ cs ys))::xrem k L)
     | _,_=>none)))=some (.own nk,(nk,.row e (ty E.T e).sz (n'+m) (catQ cs ys))::xrem k L):=by
   rw[hsrc,hdst];dsimp only;rw[hcap,xfresh_of hf hl]
  revert main hne
  generalize ty E.T e=ti;obtain⟨d,sz,byt,zero,fl,cm⟩:=ti;intro hne main;cases d<;>first|exact absurd rfl hne|exact main
 refine xapp_step (key:=nk) (nk:=0) hT hop hc hx (zL hp ⟨rfl,hR.newrem hl hk hM1 hM2,y8 hp (hf.mono (Nat.le_succ nk)) (hV_own (Nat.lt_succ_self nk)),?_⟩);refine((hL.xrem hl).mono (Nat.le_succ nk)).new (Nat.lt_succ_self nk) ?_;rw[wj];exact hB.row ((hcs.append hys).mono (Nat.le_succ nk))
def xbv(c:ByteArray):List SV:=valL (c.data.toList.map bv)
def xappSM(T:Tab)(t u nk:Nat)(s x:SV)(M:Mm):Option (SV×Mm):=
 match (ty T t).d,(ty T u).d,x with
 | .slice e,.str,.v (.string c)=>(match isByte (ty T e) with
  | true=>(match s with
   |.v (.slice none 0 0)=>(match Nat.ble c.size 140737488355328,xput M nk (some (.row e 1 c.size (xbv c))) with|true,some M'=>some (.own nk,M')|_,_=>none)
   | .own k=>(match M.get k with
    | some (.row e' sz' n cs)=>(match Nat.beq e' e,Nat.beq sz' 1,Nat.ble (n+c.size) 140737488355328,xput M nk (some (.row e 1 (n+c.size) (catQ cs (xbv c)))) with
     |true,true,true,some M1=>(match xput M1 k none with|some M2=>some (.own nk,M2)|none=>none)
     | _,_,_,_=>none)
    | _=>none)
   | _=>none)
  | false=>none)
 |_,_,_=>none
theorem _root_.Go.Eng.Cfg.view{k e sz m:Nat}{cs:List SV}(hc:Cfg w0 Sb B n0 N S q fr L a w)(hk:getL L k=some (.row e sz m cs)):
  ∃xs,okL S cs xs∧zD 0 S k (.arr e sz m xs) w∧getL (setL L k (.arr e sz m xs)) k=some (.arr e sz m xs)∧Cfg w0 Sb B n0 N S q fr (setL L k (.arr e sz m xs)) a w:=by
 obtain⟨xs,h1,h2,h3,h4⟩:=hc.m.view hk;refine⟨xs,h1,h2,h3,hc.ag,λd hd hB=>?_,h4,hc.f,hc.n,hc.d⟩;have:=hc.b d hd hB;rw[zK];split
 ·rename_i e;subst e;rw[hk] at this;cases this
 exact this
theorem hB_arr{m e sz k:Nat}{xs:List Value}:hB m (.arr e sz k xs):=λj hj=>by simp[LB.has] at hj
theorem xapps_stepM(hT:zG P E.T){o:Oper}{t u:Nat}{so xo:Operand}(hop:o.op=.call ⟨.builtin .append,#[so,xo],#[t,u]⟩)(hc:Cfg w0 S B nk N S q fr L a w)(hR:Rep M L)(hf:hF nk fr)(hl:hL nk L)
  (h:xappSM E.T t u nk (opv fr so) (opv fr xo) M=some (y,M')) (hp:putX N o.dst y fr=some fr'):Oper.wpIn (FF r) n P o a w (St w0 S B nk N (XK (nk+1) fr' M')) Q:=by
 unfold xappSM at h;split at h;rotate_left
 ·cases h
 rename_i e c hd hdu hx;split at h;rotate_left
 ·cases h
 rename_i hb;split at h
 ·rename_i hs;split at h;rotate_left
  ·cases h
  rename_i M1 h1 hM;cases h;refine Oper.wpIn_mono (λa w h=>XL.to (hR.new hM) (y8 hp (hf.mono (Nat.le_succ nk)) (hV_own (Nat.lt_succ_self nk))) ((hl.mono (Nat.le_succ nk)).new (Nat.lt_succ_self nk) (.row (.valL _))) (XL.rowed (us:=c.data.toList.map bv) (yv _) (.valL _) h)) (apps_step (key:=nk) (nk:=0) hT hop hc ?_);unfold appS;rw[hd,hdu,hx,hs];dsimp only;rw[hb];exact⟨⟨Nat.le_of_ble_eq_true h1⟩,λN' zs e1 e2=>by subst e1 e2;exact newK_of hf hl (zL hp ⟨rfl,rfl⟩)⟩
 ·rename_i k hs;split at h;rotate_left
  ·cases h
  rename_i e' sz' m cs hk;split at h;rotate_left
  ·cases h
  rename_i M1 he hz h1 hM;split at h;rotate_left
  ·cases h
  rename_i M2 hM2;cases h;have he:=Nat.eq_of_beq_eq_true he;have hz:=Nat.eq_of_beq_eq_true hz;subst he hz;rw[←hR k] at hk;obtain⟨xs,hok,hch,hk',hc'⟩:=hc.view hk;have hkn:=hl.key hk;have hl':hL nk (setL L k (.arr e' 1 m xs)):=hl.set hB_arr;have hcs:hS nk cs:=hl.get hk
  have hrem:remL ((nk,LB.arr e' 1 (m+c.size) (xs++c.data.toList.map bv))::setL L k (.arr e' 1 m xs)) k=(nk,LB.arr e' 1 (m+c.size) (xs++c.data.toList.map bv))::remL L k:=by
   have hb:Nat.beq nk k=false:=by rw[Bool.eq_false_iff];exact λe=>by have:=Nat.eq_of_beq_eq_true e;omega
   rw[remL_c,hb];dsimp only;rw[remL_setL']
  refine Oper.wpIn_mono (λa w h=>XL.to (hR.newrem (k:=some k) hl (λk' e=>by cases e;exact⟨_,hk⟩) hM hM2) (y8 hp (hf.mono (Nat.le_succ nk)) (hV_own (Nat.lt_succ_self nk))) (((hL.rem hl).mono (Nat.le_succ nk)).new (Nat.lt_succ_self nk) (.row (by rw[wj];exact(hcs.append (.valL _)).mono (Nat.le_succ nk)))) (XL.rowed (us:=xs++c.data.toList.map bv) (by rw[wj];exact zV hok (yv _)) (by rw[wj];exact hcs.append (.valL _)) h)) (apps_step (key:=nk) (nk:=0) hT hop hc' ?_);unfold appS;rw[hd,hdu,hx,hs];dsimp only;rw[hb];dsimp only;rw[hk'];dsimp only;rw[Nat.beq_refl,Nat.beq_refl];refine⟨⟨Nat.le_of_ble_eq_true h1⟩,λN' zs e1 e2=>?_⟩;subst e1 e2;refine newK_of hf hl' ?_;rw[hrem,zY];exact zL hp ⟨rfl,rfl⟩
 cases h
theorem run_copy_rowS(P:Program)(w:World)(dT sT ty elem:TypeId)(g o dLen dCap:Nat)(a:Addr)(sLen sCap sz:Nat)(cur:Array Value)(t:TypeId)(cs:List Value)
  (hu:P.underlying dT=some (.slice elem)) (hs:(P.info? elem).map (·.size)=some sz)
  (hg:w.heap[g]?=some (.cells cur t (0,0))) (hn:cs.length=Nat.min sLen dLen*sz)
  (hsrc:∀j v,cs[j]?=some v→w.cell? (a.add j)=some v) (hfit:o+cs.length≤cur.size) (h1:∀v∈cs,v.oneCell'=true) :
  (Builtin.copy_ #[dT,sT] ty #[.slice (some ⟨g,o,none⟩) dLen dCap,.slice (some a) sLen sCap]).run P w =
   .ok (goInt (Nat.min sLen dLen)) (w.setRow g (cur.toList.take o++cs++cur.toList.drop (o+cs.length)).toArray):=by
 have hl:=run_loadCells_list (P:=P) w a cs hsrc;have hst:=run_storeCells_at P g o t cs 0 cur w hg (by simpa using hfit) h1;rw[hn] at hl
 cases hq:P.info? elem with
 |none=>simp[hq] at hs
 |some i=>
  have hi:i.size=sz:=by simpa[hq] using hs
  simp[Builtin.copy_,run_underlying hu,Builtin.lenOf,Builtin.firstCells,sizeOf,typeInfo,hq,hi,hl,hst]
theorem run_copy_noneS(P:Program)(w:World)(dT sT ty elem:TypeId)(d a:Option Addr)(dLen dCap sLen sCap:Nat)(hu:P.underlying dT=some (.slice elem))(hs:((P.info? elem).map (·.size)).isSome=true)(hn:Nat.min sLen dLen=0):
  (Builtin.copy_ #[dT,sT] ty #[.slice d dLen dCap,.slice a sLen sCap]).run P w=.ok (goInt 0) w:=by
 cases hq:P.info? elem with
 |none=>simp[hq] at hs
 |some i=>
  have hl:∀(x:Addr),(loadCells x 0).run P w=.ok #[] w:=λx=>by simpa using run_loadCells_list (P:=P) w x [] wv
  cases d<;>cases a<;>simp[Builtin.copy_,run_underlying hu,Builtin.lenOf,Builtin.firstCells,sizeOf,typeInfo,hq,hn,storeCells,hl]
theorem copy_goS{o:Oper}{t t' e e' k lo n0 nn m c c' sz nk0 n0':Nat}{A A':Option Addr}{xs ys:List Value}{dop sop:Operand}{K:Kt}(hc:Cfg w0 Sb B n0' N S q fr L a w)(hd:∀c,o.op≠.defer c)
  (ht:P.underlying t=some (.slice e)) (hsz:(P.info? e).map (·.size)=some sz)
  (hrun:∀{v:Value}{w':World},(Builtin.copy_ #[t,t'] o.type #[a.eval dop,a.eval sop]).run P w=.ok v w'→(execOp a.eval o).run P w=.ok (.value v) w')
  (hk:getL L k=some (.arr e' sz n0 xs)) (hb:lo+nn≤n0) (hdv:a.eval dop=.slice A nn c) (hA:nn=0∨A=(S k).A.map (·.add (lo*sz)))
  (hsv:a.eval sop=.slice A' m c') (hsrc:Src w A' m sz ys) (h1:∀y∈ys,y.oneCell'=true)
  (h:putK N o.dst (.v (.int .i64 ((min m nn:Nat):Int))) fr λfr=>K nk0 q fr (setL L k (.arr e' sz n0 (xs.take (lo*sz)++ys.take (min m nn*sz)++xs.drop (lo*sz+min m nn*sz))))):Oper.wpIn (FF r) n P o a w (St w0 Sb B n0' N K) Q:=by
 obtain⟨⟨hl,hown⟩,hn,hsz1,hone,hAk⟩:=hc.m.ch k _ hk
 have fin:∀{w':World},(Builtin.copy_ #[t,t'] o.type #[.slice A nn c,.slice A' m c']).run P w=.ok (goInt ((min m nn:Nat):Int)) w'→Mem w0 q S (setL L k (.arr e' sz n0 (xs.take (lo*sz)++ys.take (min m nn*sz)++xs.drop (lo*sz+min m nn*sz)))) w'→Oper.wpIn (FF r) n P o a w (St w0 Sb B n0' N K) Q:=by
  intro w' hr hm;rw[←hdv,←hsv] at hr;refine zA hd (hrun hr) ?_;obtain⟨fr',hK',hc'⟩:=(hc.turn hk wv hm).put (v:=.int .i64 ((min m nn:Nat):Int)) h rfl;exact⟨S,q,fr',_,nk0,hc',hK'⟩
 by_cases hz:min m nn=0
 ·refine fin (w':=w) (by rw[hz];exact run_copy_noneS P w t t' o.type e A A' nn c m c' ht (by rw[hsz];rfl) hz) ?_;rw[hz];simp only[Nat.zero_mul,List.take_zero,List.append_nil,Nat.add_zero,List.take_append_drop];exact hc.m.same hk
 have hA:=hA.resolve_left ws;rcases hown with ⟨_,hn0⟩|⟨g,cap,cur,hval,hg0,hg,hcap,hmax,hcur,htake⟩
 ·omega
 injection hval with hval hval2 hval3
 have hAb:(S k).A=some ⟨(S k).b,0,none⟩:=by
  rcases hAk with hAk|hAk
  ·rw[hAk] at hval;cases hval
  exact hAk
 have hgb:g=(S k).b:=by
  rw[hAb] at hval;injection hval with hval;injection hval with hval _ _;exact hval.symm
 subst hgb;have hA2:A=some ⟨(S k).b,lo*sz,none⟩:=by rw[hA,hAb];simp[Addr.add_lit]
 obtain⟨hys,hcell⟩:=hsrc;have hm1:min m nn*sz≤m*sz:=Nat.mul_le_mul_right _ (Nat.min_le_left _ _);have hm2:min m nn*sz≤nn*sz:=Nat.mul_le_mul_right _ (Nat.min_le_right _ _);have hlen:(ys.take (min m nn*sz)).length=min m nn*sz:=by rw[List.length_take];omega
 have hpos:0<ys.length:=by rw[hys];exact Nat.mul_pos ws hsz1
 obtain⟨y0,hy0⟩:∃y,ys[0]?=some y:=⟨ys[0]'hpos,List.getElem?_eq_getElem hpos⟩;obtain⟨a',rfl,hs',_⟩:=hcell 0 y0 hy0
 have hfit:lo*sz+min m nn*sz≤n0*sz:=by
  have:(lo+nn)*sz≤n0*sz:=Nat.mul_le_mul_right _ hb;rw[Nat.add_mul] at this;omega
 have hcap':n0*sz≤cap*sz:=Nat.mul_le_mul_right _ hcap
 have hr:=run_copy_rowS P w t t' o.type e (S k).b (lo * sz) nn c a' m c' sz cur e' (ys.take (min m nn * sz)) ht hsz hg hlen (fun j v hv=>by
  have hj:=(List.getElem?_eq_some_iff.1 hv).1;rw[hlen] at hj;rw[List.getElem?_take_of_lt hj] at hv;obtain⟨a2,e2,_,h3⟩:=hcell j v hv;injection e2 with e2;subst e2;obtain⟨b2,o2,s2⟩:=a';cases hs';rw[Addr.add_lit]
  exact h3) (by rw [hlen,hcur];omega) (fun v hv=>h1 v (List.mem_of_mem_take hv))
 rw[←hA2,hlen] at hr;refine fin hr (hc.m.turn hk wT xJ ?_ wT);refine⟨⟨?_,.inr ⟨_,cap,_,?_,hg0,setRow_heap w _ _ _ e' (0,0) hg,hcap,hmax,?_,?_⟩⟩,hn,hsz1,?_,hAk⟩
 ·rw[List.length_append,List.length_append,List.length_take,List.length_drop,hlen];omega
 ·rw[hAb,hval2,hval3]
 ·simp only[List.size_toArray,List.length_append,List.length_take,List.length_drop,hlen,Array.length_toList];omega
 ·have:=take_mid (l:=cur.toList) (m:=ys.take (min m nn*sz)) (lo:=lo*sz) (n:=n0*sz) (by rw[hlen];omega) (by rw[Array.length_toList];omega);rw[hlen,htake] at this;exact this
 intro u hu;rcases List.mem_append.1 hu with hu|hu
 ·rcases List.mem_append.1 hu with hu|hu
  ·exact hone u (List.mem_of_mem_take hu)
  exact h1 u (List.mem_of_mem_take hu)
 exact hone u (List.mem_of_mem_drop hu)
def xcopy(T:Tab)(t:Nat)(d s:SV)(M:Mm):Option (SV×Mm):=
 match (ty T t).d with
 | .slice e=>(match xsrcM M.get (ty T e).sz s with
  | some (m,ys)=>(match d with
   | .own k=>(match M.get k with
    | some (.row e' sz n cs)=>(match Nat.beq sz (ty T e).sz,xput M k (some (.row e' sz n (takeN ys (min m n * sz)++dropN cs (min m n * sz)))) with
     |true,some M'=>some (.v (.int .i64 ((min m n:Nat):Int)),M')
     | _,_=>none)
    | _=>none)
   | .vw k lo sz' nn _=>(match M.get k with
    | some (.row e' sz n cs)=>(match Nat.beq sz (ty T e).sz,Nat.beq sz' sz,Nat.ble (lo+nn) n,xput M k (some (.row e' sz n (takeN cs (lo * sz)++takeN ys (min m nn * sz)++dropN cs (lo * sz+min m nn * sz)))) with
     |true,true,true,some M'=>some (.v (.int .i64 ((min m nn:Nat):Int)),M')
     | _,_,_,_=>none)
    | _=>none)
   | _=>none)
  | none=>none)
 |_=>none
theorem xcopy_step(hT:zG P E.T){o:Oper}{t t':Nat}{dop sop:Operand}(hop:o.op=.call ⟨.builtin .copy,#[dop,sop],#[t,t']⟩)(hc:Cfg w0 S B nk N S q fr L a w)(hR:Rep M L)(hf:hF nk fr)(hl:hL nk L)
  (h:xcopy E.T t (opv fr dop) (opv fr sop) M=some (y,M')) (hp:putX N o.dst y fr=some fr'):Oper.wpIn (FF r) n P o a w (St w0 S B nk N (XK nk fr' M')) Q:=by
 unfold xcopy at h;split at h;rotate_left
 ·cases h
 rename_i e hte;split at h;rotate_left
 ·cases h
 rename_i m ys hsrc;rw[←xsrc_eq hR] at hsrc;have hysh:=xsrc_h hl hsrc;obtain⟨ht,_,i,hi,hisz,_⟩:yz P E.T t (.slice e):=by rw[←hte];exact(hT t (by rw[hte];simp)).d
 have hsz:(P.info? e).map (·.size)=some (ty E.T e).sz:=by rw[hi];simp[hisz]
 have hrun:∀{v:Value}{w':World},(Builtin.copy_ #[t,t'] o.type #[a.eval dop,a.eval sop]).run P w=.ok v w'→(execOp a.eval o).run P w=.ok (.value v) w':=by
  intro v w' hr;simp only[execOp,hop,resolve,invoke,builtin,Sem.run_bind,Sem.run_pure,Result.andThen_ok,List.map_toArray,List.map_cons,List.map_nil,hr]
 have hs:=zu hc.f sop;have hd:=zu hc.f dop;obtain⟨A',c',vs,hsv,hsr,hys,hone,_⟩:=xsrc_ok hc.m hsrc hs
 have go:∀{k lo nn n' sz:Nat}{e':Nat}{cs:List SV}{A:Option Addr}{c:Nat},sz=(ty E.T e).sz→getL L k=some (.row e' sz n' cs)→lo+nn≤n'→a.eval dop=.slice A nn c→(nn=0∨A=(S k).A.map (·.add (lo*sz))) →
   xput M k (some (.row e' sz n' (takeN cs (lo*sz)++takeN ys (min m nn*sz)++dropN cs (lo*sz+min m nn*sz))))=some M'→y=.v (.int .i64 ((min m nn:Nat):Int))→Oper.wpIn (FF r) n P o a w (St w0 S B nk N (XK nk fr' M')) Q:=by
  intro k lo nn n' sz e' cs A c hze hk hle hdv hA hM hy;subst hy;subst hze;obtain⟨xs,hok,hch,hk',hc'⟩:=hc.view hk;have hcs:hS nk cs:=hl.get hk;have hfv:hF nk fr':=y8 hp hf (λk hk=>by simp[SV.has] at hk);generalize hzz:(ty E.T e).sz=sz at *
  have hk2:getL (setL (setL L k (.arr e' sz n' xs)) k (.arr e' sz n' (xs.take (lo*sz)++vs.take (min m nn*sz)++xs.drop (lo*sz+min m nn*sz)))) k=some (.arr e' sz n' (xs.take (lo*sz)++vs.take (min m nn*sz)++xs.drop (lo*sz+min m nn*sz))):=by
   rw[zK,if_pos rfl,hk'];rfl
  have hcs':hS nk (takeN cs (lo*sz)++takeN ys (min m nn*sz)++dropN cs (lo*sz+min m nn*sz)):=(hcs.take.append hysh.take).append hcs.drop
  refine Oper.wpIn_mono (λa w h=>XL.to ?_ hfv (((hl.set hB_arr).set hB_arr).set (.row hcs')) (XL.rowed2 (zV (zV (yG _ hok) (yG _ hys)) (xg _ hok)) hcs' hk2 h))
   (copy_goS (nk0:=0) hc' (yJ hop wv) ht hsz hrun hk' hle hdv hA hsv hsr hone (zL hp ⟨rfl,rfl⟩))
  intro j;rw[xP hM];by_cases e:k=j
  ·subst e;rw[zK,if_pos rfl,hk2,if_pos rfl];rfl
  rw[zK,if_neg e,zK,if_neg e,zK,if_neg e,if_neg e,hR j]
 split at h
 ·rename_i k ed;split at h;rotate_left
  ·cases h
  rename_i e' sz n' cs hk;split at h;rotate_left
  ·cases h
  rename_i M1 h1 hM;cases h;have h1:=Nat.eq_of_beq_eq_true h1;rw[←hR k] at hk;rw[ed] at hd;obtain⟨xs,_,hch,_⟩:=hc.m.view hk;have hd:a.eval dop=.slice (S k).A (S k).n (S k).c:=hd;rw[hch.2.1] at hd
  have hA0:(S k).A=(S k).A.map (·.add (0*sz)):=by
   rcases hch.2.2.2.2 with e|e<;>rw[e]<;>simp[Addr.add_lit]
  refine go (lo:=0) h1 hk ws hd (.inr hA0) ?_ rfl;rw[Nat.zero_mul,Nat.zero_add,show takeN cs 0=[] from by cases cs<;>rfl,List.nil_append];exact hM
 ·rename_i k lo sz' nn ex ed;split at h;rotate_left
  ·cases h
  rename_i e' sz n' cs hk;split at h;rotate_left
  ·cases h
  rename_i M1 h1 h2 h3 hM;cases h;have h1:=Nat.eq_of_beq_eq_true h1;have h2:=Nat.eq_of_beq_eq_true h2;have h3:=Nat.le_of_ble_eq_true h3;subst h2;rw[←hR k] at hk;rw[ed] at hd;obtain⟨A,c,hdv,_,hA,_⟩:=hd;exact go h1 hk h3 hdv hA hM rfl
 cases h
end
end Exe
end Go.Eng
end
section
namespace Go.Eng
open Go Go.RowKit Go.MapKept
namespace Exe
noncomputable section
variable {P:Program}{S S' Sb:Pl}{fr fr':Fr}{L L':LL}{q q':PH}{w0:W0}{w w':World}{a a':Act}{n0 N:Nat}{B:Nat→Prop}{E:Env}
variable {r:Option Nat}{n:Nat}{Q:Exit→Act→World→Prop}{M M':Mm}{nk:Nat}{y:SV}
def beqS(a b:ByteArray):Bool:=@decide _ (decStr a b)
def xfind(s:ByteArray)(es:List MapEntry):Nat→Option (Option (Nat×Value)):=
 List.rec (motive:=λ_=>Nat→Option (Option (Nat×Value))) (λ_=>some none)
  (fun e _ ih i=>match e.key with
   |.string b=>(match beqS s b with|true=>some (some (i,e.val))|false=>ih (i+1))
   | _=>none) es
theorem xfind_ok{s:ByteArray}:∀{es:List MapEntry}{i:Nat}{x:Option (Nat×Value)},xfind s es i=some x→Instr.findNow .string (.string s) es i=some x ∧
  ∀j v,x=some (j,v)→∃e,es[j-i]?=some e∧i≤j∧e.key=.string s∧e.val=v
 |[],i,x,h=>by cases h;exact⟨rfl,λ_ _ h=>by cases h⟩
 |e::es,i,x,h=>by
  have hc:xfind s (e::es) i=(match e.key with
   |.string b=>(match beqS s b with|true=>some (some (i,e.val))|false=>xfind s es (i+1))
   | _=>none):=rfl
  rw[hc] at h;split at h
  ·rename_i b hk;split at h
   ·rename_i hb;cases h
    have hb:s=b:=by
     have:s.data.toList=b.data.toList:=of_decide_eq_true hb;obtain⟨x⟩:=s;obtain⟨y⟩:=b;simp only at this;rw[Array.toList_inj.1 this]
    subst hb;refine⟨?_,λj v hj=>?_⟩
    ·simp[Instr.findNow,hk,Instr.sameNow,(bytes_beq s s).2 rfl]
    cases hj;exact⟨e,by simp,Nat.le_refl _,hk,rfl⟩
   rename_i hb;obtain⟨h1,h2⟩:=xfind_ok h
   have hne:(s==b)=false:=by
    rw[Bool.eq_false_iff];intro e;have e:=(bytes_beq s b).1 e;subst e;have:beqS s s=true:=decide_eq_true rfl;rw[this] at hb;cases hb
   refine⟨?_,λj v hj=>?_⟩
   ·simp[Instr.findNow,hk,Instr.sameNow,hne,h1]
   obtain⟨e',g1,g2,g3,g4⟩:=h2 j v hj;refine⟨e',?_,by omega,g3,g4⟩;rw[show j-i=(j-(i+1))+1 from by omega];simpa using g1
  cases h
abbrev Zt:=List (Nat×Value)
def ZOk(P:Program)(Z:Zt):Prop:=∀p∈Z,(P.info? p.1).bind (·.zero)=some p.2
def zget(Z:Zt)(t:Nat):Option Value:=List.rec (motive:=λ_=>Option Value) none (λp _ ih=>match p with|(u,v)=>match Nat.beq u t with|true=>some v|false=>ih) Z
theorem zget_ok:∀{Z:Zt}{t:Nat}{v:Value},ZOk P Z→zget Z t=some v→∀w,(zeroValue t).run P w=.ok v w
 |[],t,v,_,h,w=>by cases h
 |(u,x)::r,t,v,hZ,h,w=>by
  have hc:zget ((u,x)::r) t=match Nat.beq u t with|true=>some x|false=>zget r t:=rfl
  rw[hc] at h;split at h
  ·rename_i e;cases h;have e:=Nat.eq_of_beq_eq_true e;subst e;have:=hZ (u,x) (.head _)
   cases hi:P.info? u with
   |none=>rw[hi] at this;cases this
   |some i=>
    rw[hi] at this;have hz:i.zero=some x:=this;simp[zeroValue,typeInfo,hi,hz,Result.andThen]
  exact zget_ok (λp hp=>hZ p (.tail _ hp)) h w
def nv(v:Value):SV:=match v with|.bool b=>.bb b|v=>.v v
theorem nv_ok(v:Value):okv S (nv v) v:=by cases v<;>rfl
def wp(T:Tab)(Z:Zt)(t:Nat)(x i:SV)(ok:Bool)(M:Mg):Option SV:=
 match (ty T t).d with
 | .map k e=>(match (ty T k).d,i with
  | .str,.v (.string s)=>(match (match x with
    |.v (.map none)=>some []
    |.mr b=>(match M b with|some (.mp es _)=>some es|_=>none)
    | _=>none) with
   |none=>none
   | some es=>(match xfind s es 0 with
    |none=>none
    |some (some (_,v))=>(match ok with|true=>some (.tup [nv v,.bb true])|false=>some (nv v))
    | some none=>(match zget Z e with
     |none=>none
     | some v=>(match ok with | true=>some (.tup [nv v,.bb false]) | false=>some (nv v)))))
  | _,_=>none)
 |_=>none
theorem yU{t k e:TypeId}{s:ByteArray}{m:Option Nat}{es:List MapEntry}{c:Nat}{x:Option (Nat×Value)}{ok:Bool}{u:Value}(ht:P.underlying t=some (.map k e))(hk:P.underlying k=some .string)
  (hb:(m=none∧es=[])∨∃b,m=some b∧w.heap[b]?=some (.map es.toArray c)) (hf:Instr.findNow .string (.string s) es 0=some x)
  (hu:match x with|some (_,v)=>u=(if ok then .tuple #[v,.bool true] else v)|none=>∃z,(zeroValue e).run P w=.ok z w∧u=(if ok then .tuple #[z,.bool false] else z)) :
  (Instr.lookup t (.map m) (.string s) ok).run P w=.ok u w:=by
 have h2:=run_findKey (P:=P) (w:=w) hk hf;rcases hb with ⟨rfl,rfl⟩|⟨b,rfl,hb⟩
 ·have h1:=run_checkKey (P:=P) (w:=w) hk (k:=.string s) trivial true 9999
  cases x with
  |some p=>obtain⟨i,v⟩:=p;simp only at hu;subst hu;simp[Instr.lookup,run_underlying ht,Result.andThen,h1,h2]
  |none=>
   obtain⟨z,hz,rfl⟩:=hu;simp[Instr.lookup,run_underlying ht,Result.andThen,h1,h2,hz]
 have h1:=run_checkKey (P:=P) (w:=w) hk (k:=.string s) trivial es.isEmpty 9999
 cases x with
 |some p=>obtain⟨i,v⟩:=p;simp only at hu;subst hu;simp[Instr.lookup,run_underlying ht,Result.andThen,h1,h2,Go.MapKept.run_getObj_map hb]
 |none=>
  obtain⟨z,hz,rfl⟩:=hu;simp[Instr.lookup,run_underlying ht,Result.andThen,h1,h2,hz,Go.MapKept.run_getObj_map hb]
theorem xlookup_step(hT:zG P E.T){Z:Zt}(hZ:ZOk P Z){o:Oper}{t:Nat}{x i:Operand}{ok:Bool}(hop:o.op=.lookup t x i ok)(hc:Cfg w0 S B nk N S q fr L a w)(hR:Rep M L)(hf:hF nk fr)(hl:hL nk L)
  (h:wp E.T Z t (opv fr x) (opv fr i) ok M.get=some y) (hy:hV nk y) (hp:putX N o.dst y fr=some fr'):Oper.wpIn (FF r) n P o a w (St w0 S B nk N (XK nk fr' M)) Q:=by
 have hx:=zu hc.f x;have hi:=zu hc.f i;unfold wp at h;split at h;rotate_left
 ·cases h
 rename_i k e hd;split at h;rotate_left
 ·cases h
 rename_i s hdk ei;rw[ei] at hi;have hi:a.eval i=.string s:=hi;have ht:P.underlying t=some (.map k e):=by have:=(hT t wD).d;rw[hd] at this;exact this
 have hk:P.underlying k=some .string:=by have:=(hT k (by rw[hdk];simp)).d;rw[hdk] at this;exact this
 split at h
 ·cases h
 rename_i es hes
 have hm:∃m c,a.eval x=.map m∧((m=none∧es=[])∨∃b,m=some b∧w.heap[b]?=some (.map es.toArray c)):=by
  split at hes
  ·rename_i ex;cases hes;rw[ex] at hx;exact⟨none,0,hx,.inl ⟨rfl,rfl⟩⟩
  ·rename_i b ex;rw[ex] at hx;split at hes
   ·rename_i c hb;cases hes;rw[←hR b] at hb;exact⟨_,c,hx,.inr ⟨_,rfl,(hc.m.ch b _ hb).2⟩⟩
   cases hes
  cases hes
 obtain⟨m,c,hxe,hb⟩:=hm
 have fin:∀{u:Value},okv S y u→(Instr.lookup t (.map m) (.string s) ok).run P w=.ok u w→Oper.wpIn (FF r) n P o a w (St w0 S B nk N (XK nk fr' M)) Q:=by
  intro u hu hr;refine zA (yJ hop wv) (w':=w) (v:=u) ?_ ?_
  ·simp only[execOp,hop,hxe,hi,Sem.run_bind,hr,Result.andThen_ok,Sem.run_pure]
  obtain⟨fr1,hK',hc'⟩:=hc.put (K:=λfr=>fr=fr') (zL hp rfl) hu;subst hK';exact⟨S,q,_,L,0,hc',rfl,hR,y8 hp hf hy,hl⟩
 split at h
 ·cases h
 ·rename_i j v hf1;obtain⟨h1,_⟩:=xfind_ok hf1;split at h
  ·cases h;exact fin ⟨[v,.bool true],rfl,nv_ok v,rfl,trivial⟩ (yU ht hk hb h1 wv)
  cases h;exact fin (nv_ok v) (yU ht hk hb h1 wv)
 rename_i hf1;obtain⟨h1,_⟩:=xfind_ok hf1;split at h
 ·cases h
 rename_i v hz;have hz:=zget_ok hZ hz w;split at h
 ·cases h;exact fin ⟨[v,.bool false],rfl,nv_ok v,rfl,trivial⟩ (yU ht hk hb h1 ⟨v,hz,by simp⟩)
 cases h;exact fin (nv_ok v) (yU ht hk hb h1 ⟨v,hz,by simp⟩)
def xmakeMap(r:Option Operand)(nk:Nat)(M:Mm):Option (SV×Mm):=
 match r with
 |none=>(match xput M nk (some (.mp [] 0)) with|some M'=>some (.mr nk,M')|none=>none)
 |some _=>none
theorem hV_mr{k m:Nat}(h:k<m):hV m (.mr k):=λj hj=>by
 have:Nat.beq k j=true:=by simpa[SV.has] using hj
 have:=Nat.eq_of_beq_eq_true this;omega
theorem hB_mp{m c:Nat}{es:List MapEntry}:hB m (.mp es c):=λj hj=>by simp[LB.has] at hj
theorem xmakeMap_step{o:Oper}{t:Nat}{rs:Option Operand}(hop:o.op=.makeMap t rs)(hc:Cfg w0 S B nk N S q fr L a w)(hR:Rep M L)(hf:hF nk fr)(hl:hL nk L)
  (h:xmakeMap rs nk M=some (y,M')) (hp:putX N o.dst y fr=some fr'):Oper.wpIn (FF r) n P o a w (St w0 S B nk N (XK (nk+1) fr' M')) Q:=by
 unfold xmakeMap at h;split at h;rotate_left
 ·cases h
 split at h;rotate_left
 ·cases h
 rename_i M1 hM;cases h;have hr:=run_makeMap (P:=P) t w;refine zA (yJ hop wv) (w':=w.alloc (.map #[] 0)) (v:=.map (some w.heap.size)) ?_ ?_
 ·simp only[execOp,hop,Option.map_none,Sem.run_bind,hr,Result.andThen_ok,Sem.run_pure]
 have hm:Mem w0 q (updS S nk ⟨w.heap.size,none,0,0,default⟩) ((nk,.mp [] 0)::L) (w.alloc (.map #[] 0)):=by
  refine hc.m.new (noL hl) ((Below.refl _ w).alloc (Nat.le_refl _) _) ?_ λb hb=>?_
  ·simp only[zD,zc];exact⟨Nat.zero_le _,(heap_alloc w _).1⟩
  simp only[blk,zc,Option.some.injEq] at hb;omega
 obtain⟨fr1,hK',hc'⟩:=(hc.new (Nat.le_refl _) (noF hf) (noL hl) hm).put (v:=.map (some w.heap.size)) (K:=λfr=>fr=fr') (zL hp rfl) vk;subst hK';exact⟨_,q,_,_,0,hc',rfl,hR.new hM,y8 hp (hf.mono (Nat.le_succ nk)) (hV_mr (Nat.lt_succ_self nk)),(hl.mono (Nat.le_succ nk)).new (Nat.lt_succ_self nk) hB_mp⟩
def xmodE(es:List MapEntry)(v:Value):Nat→List MapEntry:=
 List.rec (motive:=λ_=>Nat→List MapEntry) (λ_=>[]) (λe r ih i=>match i with|0=>{ e with val:=v } :: r|i+1=>e::ih i) es
def wl(T:Tab)(t:Nat)(m k x:SV)(M:Mm):Option Mm:=
 match (ty T t).d with
 | .map kt e=>(match (ty T kt).d,k,toV x with
  | .str,.v (.string s),some v=>(match m with
   | .mr b=>(match M.get b with
    | some (.mp es c)=>(match xfind s es 0 with
     |none=>none
     |some (some (i,_))=>xput M b (some (.mp (xmodE es v i) c))
     | some none=>xput M b (some (.mp (catQ es [{ key:=.string s,val:=v,born:=c }]) (c+1))))
    | _=>none)
   | _=>none)
  | _,_,_=>none)
 |_=>none
theorem xmodE_ok{v:Value}{key:Value}{f:MapEntry→MapEntry}(hf:∀e:MapEntry,e.key=key→f e={ e with val:=v }):∀(es:List MapEntry) (i:Nat),(∀e,es[i]?=some e→e.key=key)→es.modify i f=xmodE es v i
 |[],i,_=>by cases i<;>rfl
 |e::r,0,h=>by
  have:=hf e (h e rfl);show f e::r={ e with val:=v } :: r;rw[this]
 |e::r,i+1,h=>by
  show e::r.modify i f=e::xmodE r v i;rw[xmodE_ok hf r i (λe' he'=>h e' (by simpa using he'))]
theorem map_turn{k b:Nat}{es es':List MapEntry}{c c':Nat}(hm:Mem w0 q S L w)(hk:getL L k=some (.mp es c)):
  Mem w0 q S (setL L k (.mp es' c')) { w with heap:=w.heap.setIfInBounds (S k).b (.map es'.toArray c') }:=by
 have hb:=(hm.ch k _ hk).2;refine hm.turn hk rfl ⟨rfl,rfl,rfl,by simp,λj hj hne=>?_⟩ ⟨Nat.zero_le _,(heap_set hb).1⟩ rfl;exact(heap_set hb).2 j (λe=>hne vt)
theorem xmapUpd_step(hT:zG P E.T){o:Oper}{t:Nat}{m k x:Operand}(hop:o.op=.mapUpdate t m k x∨o.op=.insert t m k x)(hc:Cfg w0 S B nk N S q fr L a w)(hR:Rep M L)(hf:hF nk fr)(hl:hL nk L)
  (h:wl E.T t (opv fr m) (opv fr k) (opv fr x) M=some M') (hp:putX N o.dst (.v undef) fr=some fr'):Oper.wpIn (FF r) n P o a w (St w0 S B nk N (XK nk fr' M')) Q:=by
 have hm:=zu hc.f m;have hk:=zu hc.f k;have hx:=zu hc.f x;unfold wl at h;split at h;rotate_left
 ·cases h
 rename_i kt e hd;split at h;rotate_left
 ·cases h
 rename_i s v hdk ek ex;rw[ek] at hk;have hk:a.eval k=.string s:=hk;have hx:a.eval x=v:=toV_ok _ ex hx;split at h;rotate_left
 ·cases h
 rename_i b em;rw[em] at hm;have hm:a.eval m=.map (some (S b).b):=hm;split at h;rotate_left
 ·cases h
 rename_i es c hb;rw[←hR b] at hb;have hbw:=(hc.m.ch b _ hb).2;have ht:P.underlying t=some (.map kt e):=by have:=(hT t wD).d;rw[hd] at this;exact this
 have hkt:P.underlying kt=some .string:=by have:=(hT kt (by rw[hdk];simp)).d;rw[hdk] at this;exact this
 have hck:=run_checkKey (P:=P) (w:=w) hkt (k:=.string s) trivial false 9999;have hnd:∀c,o.op≠.defer c:=by rcases hop with h|h<;>exact yJ h wv
 have fin:∀{es':List MapEntry}{c':Nat},xput M b (some (.mp es' c'))=some M'→(Instr.mapUpdate t (.map (some (S b).b)) (.string s) v).run P w=.ok () { w with heap:=w.heap.setIfInBounds (S b).b (.map es'.toArray c') } →
   Oper.wpIn (FF r) n P o a w (St w0 S B nk N (XK nk fr' M')) Q:=by
  intro es' c' hM hr;refine wpIn_skip' hnd (w':={ w with heap:=w.heap.setIfInBounds (S b).b (.map es'.toArray c') }) ?_ ?_
  ·rcases hop with hop|hop<;>simp only[execOp,hop,hm,hk,hx,Sem.run_bind,hr,Result.andThen_ok,Sem.run_pure]
  obtain⟨fr1,hK',hc'⟩:=(hc.turn (lb':=.mp es' c') hb wv (map_turn (b:=0) hc.m hb)).put (v:=undef) (K:=λfr=>fr=fr') (zL hp rfl) rfl;subst hK';exact⟨S,q,_,_,0,hc',rfl,hR.set hb hM,y8 hp hf (λk hk=>by simp[SV.has] at hk),hl.set hB_mp⟩
 split at h
 ·cases h
 ·rename_i i v0 hf1;obtain⟨h1,h2⟩:=xfind_ok hf1;obtain⟨e1,g1,_,g3,g4⟩:=h2 i v0 rfl;rw[Nat.sub_zero] at g1;have hfk:=run_findKey (P:=P) (w:=w) hkt h1;refine fin h ?_;have hsb:Instr.sameBits 10000 (.string s) (.string s)=true:=by simp[Instr.sameBits,(bytes_beq s s).2 rfl]
  have hkey:((es.toArray[i]?).map (·.key)).getD (.string s)=.string s:=by simp[g1,g3]
  have hks:(Instr.keyThatStays (.string s) (.string s)).run P w=.ok (.string s) w:=by
   unfold Instr.keyThatStays;rw[if_pos hsb];rfl
  have hmod:es.toArray.modify i (λe=>{ e with key:=.string s,val:=v })=(xmodE es v i).toArray:=by
   apply Array.ext';rw[Array.toList_modify];exact xmodE_ok (key:=.string s) (λe he=>by rw[←he]) es i (λe he=>by rw[g1] at he;cases he;exact g3)
  have hso:=run_setObj_map (P:=P) (.map (xmodE es v i).toArray c) hbw;simp only[Instr.mapUpdate,Sem.run_bind,run_underlying ht,Result.andThen_ok,Go.MapKept.run_getObj_map hbw,hck,hfk,hkey,hks,hmod,hso]
 rename_i hf1;obtain⟨h1,_⟩:=xfind_ok hf1;have hfk:=run_findKey (P:=P) (w:=w) hkt h1;refine fin h ?_
 have hpush:es.toArray.push { key:=.string s,val:=v,born:=c }=(catQ es [{ key:=.string s,val:=v,born:=c }]).toArray:=by
  rw[wj];simp
 have hso:=run_setObj_map (P:=P) (.map (catQ es [{ key:=.string s,val:=v,born:=c }]).toArray (c+1)) hbw;simp only[Instr.mapUpdate,Sem.run_bind,run_underlying ht,Result.andThen_ok,Go.MapKept.run_getObj_map hbw,hck,hfk,hpush,hso]
end
end Exe
end Go.Eng
end
