/- Texts that the law leans on. -/
import Derived.Test.YticmemgehllacaaGreatDoorSR3
import Derived.Shelf.Strings.OnBuilder
import Derived.Shelf.Strings.Search1
import Derived.Shelf.Strings.Search2
import Derived.Shelf.Strings.Search3
import Derived.Shelf.Strings.Cut
import Derived.Test.YticmemgehllacaaGreatDoorProg
import Derived.Lib.IndexMore
import Derived.WalkKit
import Derived.WalkSpells
import Derived.WalkLawsBesides
import Derived.Laws.Externs
import Derived.Lib.Builder
import Derived.Lib.UnsafeStr
import Derived.Shelf.RegionOpenPlain
import Derived.Lib.Walk
set_option maxRecDepth 8000
set_option maxHeartbeats 4000000
set_option linter.unusedVariables false
set_option linter.unusedSimpArgs false
namespace Go.Proofs.YticmemgehllacaaGreatDoor
open Go Go.Eng
theorem zd{p q:Prop}(k:q)(h:p:=by first|exact rfl|exact Iff.rfl|exact⟨rfl,rfl⟩|exact decide_eq_true_iff|(constructor<;>first|exact rfl|(simp only[ei,eb,es,ec,gmin,gmax,List.map_append,List.flatMap_append,List.nil_append,List.append_nil,List.append_assoc];done)|omega|(simp only[List.nil_append,List.length_append,List.length_cons,List.length_nil];omega)|(simp[ei,eb,es,ec,gmin,gmax];done))|exact rfl|(simp only[ei,eb,es,ec,gmin,gmax,List.map_append,List.flatMap_append,List.nil_append,List.append_nil,List.append_assoc];done)|omega|(simp only[List.nil_append,List.length_append,List.length_cons,List.length_nil];omega)|(simp[ei,eb,es,ec,gmin,gmax];done)|simp[ei,eb,es,ec,gmin,gmax]):Ob p∧q:=⟨⟨h⟩,k⟩
theorem xQ{p q:Prop}(k:q)(h:p:=by first|(rw[←hfin]<;>first|exact rfl|exact Iff.rfl|exact⟨rfl,rfl⟩|exact decide_eq_true_iff|(constructor<;>first|exact rfl|(simp only[ei,eb,es,ec,gmin,gmax,List.map_append,List.flatMap_append,List.nil_append,List.append_nil,List.append_assoc];done)|omega|(simp only[List.nil_append,List.length_append,List.length_cons,List.length_nil];omega)|(simp[ei,eb,es,ec,gmin,gmax];done))|exact rfl|(simp only[ei,eb,es,ec,gmin,gmax,List.map_append,List.flatMap_append,List.nil_append,List.append_nil,List.append_assoc];done)|omega|(simp only[List.nil_append,List.length_append,List.length_cons,List.length_nil];omega)|(simp[ei,eb,es,ec,gmin,gmax];done)|simp[ei,eb,es,ec,gmin,gmax])|first|exact rfl|exact Iff.rfl|exact⟨rfl,rfl⟩|exact decide_eq_true_iff|(constructor<;>first|exact rfl|(simp only[ei,eb,es,ec,gmin,gmax,List.map_append,List.flatMap_append,List.nil_append,List.append_nil,List.append_assoc];done)|omega|(simp only[List.nil_append,List.length_append,List.length_cons,List.length_nil];omega)|(simp[ei,eb,es,ec,gmin,gmax];done))|exact rfl|(simp only[ei,eb,es,ec,gmin,gmax,List.map_append,List.flatMap_append,List.nil_append,List.append_nil,List.append_assoc];done)|omega|(simp only[List.nil_append,List.length_append,List.length_cons,List.length_nil];omega)|(simp[ei,eb,es,ec,gmin,gmax];done)|simp[ei,eb,es,ec,gmin,gmax]):Ob p∧q:=⟨⟨h⟩,k⟩
noncomputable def g55a(a:Int):Option (ByteArray):= if a<0 then none else(if a<10 then(ck (inR .i64 (48+a))<|ck (zx ([IntKind.wrap .u8 (48+a)]))<|some (zW ([IntKind.wrap .u8 (48+a)])))else none)
noncomputable def k55a:Eng.CS:={ f:=55,calm:=true,more:=0,ι:=Int×ByteArray,ok:=λi=>g55a i.1=some i.2,rds:=λ_=>[],args:=λi=>[.w (.v (.int .i64 (i.1)))],res:=λi=>.v (.string (i.2)) }
theorem zk{p:Prop}(h:p:=by repeat' first|refine zb H ?_ ?_<;>intro _ H|refine zr H λ_ H=>?_|(obtain⟨_,hv,H⟩:=za H;first|refine⟨(_,_),⟨hv⟩,⟨trivial⟩,?_⟩|refine⟨(_,_,_),⟨hv⟩,⟨trivial⟩,?_⟩|refine⟨(_,_,_,_),⟨hv⟩,⟨trivial⟩,?_⟩)|refine⟨⟨rfl⟩,?_⟩|(have hfin:=zo H;(repeat refine xQ ?_);trivial)|(have hfin:=zo H;(first|subst hfin|rw[←hfin]);refine⟨(none,_),⟨Nat.le_refl _⟩,⟨⟨Reads.nil,trivial⟩⟩,?_⟩;trivial)|((first|refine⟨(),⟨H⟩,⟨rfl⟩,?_⟩|refine⟨_,⟨H⟩,⟨rfl⟩,?_⟩);trivial)|(replace H:=zw H;refine⟨(_,_),⟨H,Nat.lt_succ_self _⟩,⟨trivial⟩,?_⟩;trivial)|(replace H:=zw H;dsimp only[stp,sm] at H)):p:=h
theorem k55a_ok:zp Tryz.prog k55a:=by
 refine R.calmspec Tryz.func55 (nq9 Tryz.func55) rfl ?_;rintro⟨b,r⟩ hok q _ args hargs
 match args,hargs with
 |[_],hargs=>
 obtain⟨rfl,_⟩:=hargs;refine⟨envC [] false [],6,zi (zj),rfl,(nM1 rfl),?_⟩;have H:zf (g55a b) (λa=>a=r):=⟨r,hok,rfl⟩;unfold g55a at H;clear hok;refine zb H ?_ ?_<;>intro c H
 ·exact(none_st H).elim
 refine zb H ?_ ?_<;>intro d H
 ·refine zr H λe H=>?_;refine yI (l:=[IntKind.wrap .u8 (48+b)]) H λf H=>?_;exact zk
 exact(none_st H).elim
noncomputable def g55b(a:Int):Option (ByteArray):= if a<0 then(ck (inR .i64 (0-a))<|(g55a (0-a)).bind λb=>ck ((lit [45]).size+b.size≤9223372036854775807)<|some ((lit [45])++b))else(if a<10 then(ck (inR .i64 (48+a))<|ck (zx ([IntKind.wrap .u8 (48+a)]))<|some (zW ([IntKind.wrap .u8 (48+a)])))else(ck (inR .i64 (Int.tdiv a 10))<|(g55a (Int.tdiv a 10)).bind λc=>ck (inR .i64 (48+(Int.tmod a 10)))<|ck (zx ([IntKind.wrap .u8 (48+(Int.tmod a 10))]))<|ck (c.size+(zW ([IntKind.wrap .u8 (48+(Int.tmod a 10))])).size≤9223372036854775807)<|some (c++(zW ([IntKind.wrap .u8 (48+(Int.tmod a 10))])))))
noncomputable def k55b:Eng.CS:={ f:=55,calm:=true,more:=0,ι:=Int×ByteArray,ok:=λi=>g55b i.1=some i.2,rds:=λ_=>[],args:=λi=>[.w (.v (.int .i64 (i.1)))],res:=λi=>.v (.string (i.2)) }
theorem k55b_ok:zp Tryz.prog k55b:=by
 refine R.calmspec Tryz.func55 (nq9 Tryz.func55) rfl ?_;rintro⟨b,r⟩ hok q _ args hargs
 match args,hargs with
 |[_],hargs=>
 obtain⟨rfl,_⟩:=hargs;refine⟨envC [k55a] false [],6,zi (z8 ⟨λ_=>k55a_ok,nofun⟩ (zj)),rfl,(nM1 rfl),?_⟩;have H:zf (g55b b) (λa=>a=r):=⟨r,hok,rfl⟩;unfold g55b at H;clear hok;refine zb H ?_ ?_<;>intro e H
 ·exact zk
 refine zb H ?_ ?_<;>intro f H
 ·refine zr H λg H=>?_;refine yI (l:=[IntKind.wrap .u8 (48+b)]) H λi H=>?_;exact zk
 refine And.intro ⟨by kernel_rfl⟩ ?_;refine⟨(Pn.calm 0 (Pn.calm 1 (Pn.calm 2 (Pn.calm 3 (Pn.calm 4 (Pn.calm 5 (Pn.calm 6 (Pn.eff 7 [6,5,4,3] (Pn.calm 8 (Pn.calm 9 (Pn.calm 10 Pn.done))) Pn.no)))))))),⟨by kernel_rfl⟩,?_⟩;refine And.intro ⟨by decide⟩ ?_;refine zr H λj H=>?_;obtain⟨c,d,H⟩:=za H;refine⟨(Int.tdiv b 10,c),⟨d⟩,⟨trivial⟩,?_⟩;refine⟨⟨rfl⟩,?_⟩;refine And.intro ⟨by decide⟩ ?_;refine zr H λm H=>?_;refine And.intro ?_ trivial;refine And.intro ⟨λ_ _ _ h=>h⟩ ?_;refine yI (l:=[IntKind.wrap .u8 (48+(Int.tmod b 10))]) H λn H=>?_;exact zk
noncomputable def g55(a:Int):Option (ByteArray):= if a<0 then(ck (inR .i64 (0-a))<|(g55b (0-a)).bind λb=>ck ((lit [45]).size+b.size≤9223372036854775807)<|some ((lit [45])++b))else(if a<10 then(ck (inR .i64 (48+a))<|ck (zx ([IntKind.wrap .u8 (48+a)]))<|some (zW ([IntKind.wrap .u8 (48+a)])))else(ck (inR .i64 (Int.tdiv a 10))<|(g55b (Int.tdiv a 10)).bind λc=>ck (inR .i64 (48+(Int.tmod a 10)))<|ck (zx ([IntKind.wrap .u8 (48+(Int.tmod a 10))]))<|ck (c.size+(zW ([IntKind.wrap .u8 (48+(Int.tmod a 10))])).size≤9223372036854775807)<|some (c++(zW ([IntKind.wrap .u8 (48+(Int.tmod a 10))])))))
noncomputable def k55:Eng.CS:={ f:=55,calm:=true,more:=0,ι:=Int×ByteArray,ok:=λi=>g55 i.1=some i.2,rds:=λ_=>[],args:=λi=>[.w (.v (.int .i64 (i.1)))],res:=λi=>.v (.string (i.2)) }
theorem k55_ok:zp Tryz.prog k55:=by
 refine R.calmspec Tryz.func55 (nq9 Tryz.func55) rfl ?_;rintro⟨b,r⟩ hok q _ args hargs
 match args,hargs with
 |[_],hargs=>
 obtain⟨rfl,_⟩:=hargs;refine⟨envC [k55b] false [],6,zi (z8 ⟨λ_=>k55b_ok,nofun⟩ (zj)),rfl,(nM1 rfl),?_⟩;have H:zf (g55 b) (λa=>a=r):=⟨r,hok,rfl⟩;unfold g55 at H;clear hok;refine zb H ?_ ?_<;>intro e H
 ·exact zk
 refine zb H ?_ ?_<;>intro f H
 ·refine zr H λg H=>?_;refine yI (l:=[IntKind.wrap .u8 (48+b)]) H λi H=>?_;exact zk
 refine And.intro ⟨by kernel_rfl⟩ ?_;refine⟨(Pn.calm 0 (Pn.calm 1 (Pn.calm 2 (Pn.calm 3 (Pn.calm 4 (Pn.calm 5 (Pn.calm 6 (Pn.eff 7 [6,5,4,3] (Pn.calm 8 (Pn.calm 9 (Pn.calm 10 Pn.done))) Pn.no)))))))),⟨by kernel_rfl⟩,?_⟩;refine And.intro ⟨by decide⟩ ?_;refine zr H λj H=>?_;obtain⟨c,d,H⟩:=za H;refine⟨(Int.tdiv b 10,c),⟨d⟩,⟨trivial⟩,?_⟩;refine⟨⟨rfl⟩,?_⟩;refine And.intro ⟨by decide⟩ ?_;refine zr H λm H=>?_;refine And.intro ?_ trivial;refine And.intro ⟨λ_ _ _ h=>h⟩ ?_;refine yI (l:=[IntKind.wrap .u8 (48+(Int.tmod b 10))]) H λn H=>?_;exact zk
theorem mo1PK1{p q:Prop}(k:q)(h:p:=by first|exact rfl|exact Iff.rfl|exact⟨rfl,rfl⟩|exact decide_eq_true_iff|(constructor<;>first|exact rfl|(simp only[ei,eb,es,ec,List.map_append,List.flatMap_append,List.nil_append,List.append_nil,List.append_assoc];done)|omega|(simp only[List.nil_append,List.length_append,List.length_cons,List.length_nil];omega)|(simp[ei,eb,es,ec];done))|exact rfl|(simp only[ei,eb,es,ec,List.map_append,List.flatMap_append,List.nil_append,List.append_nil,List.append_assoc];done)|omega|(simp only[List.nil_append,List.length_append,List.length_cons,List.length_nil];omega)|(simp[ei,eb,es,ec];done)|simp[ei,eb,es,ec]):Ob p∧q:=⟨⟨h⟩,k⟩
theorem mf1PK1{p q:Prop}(k:q)(h:p:=by first|(rw[←hfin]<;>first|exact rfl|exact Iff.rfl|exact⟨rfl,rfl⟩|exact decide_eq_true_iff|(constructor<;>first|exact rfl|(simp only[ei,eb,es,ec,List.map_append,List.flatMap_append,List.nil_append,List.append_nil,List.append_assoc];done)|omega|(simp only[List.nil_append,List.length_append,List.length_cons,List.length_nil];omega)|(simp[ei,eb,es,ec];done))|exact rfl|(simp only[ei,eb,es,ec,List.map_append,List.flatMap_append,List.nil_append,List.append_nil,List.append_assoc];done)|omega|(simp only[List.nil_append,List.length_append,List.length_cons,List.length_nil];omega)|(simp[ei,eb,es,ec];done)|simp[ei,eb,es,ec])|first|exact rfl|exact Iff.rfl|exact⟨rfl,rfl⟩|exact decide_eq_true_iff|(constructor<;>first|exact rfl|(simp only[ei,eb,es,ec,List.map_append,List.flatMap_append,List.nil_append,List.append_nil,List.append_assoc];done)|omega|(simp only[List.nil_append,List.length_append,List.length_cons,List.length_nil];omega)|(simp[ei,eb,es,ec];done))|exact rfl|(simp only[ei,eb,es,ec,List.map_append,List.flatMap_append,List.nil_append,List.append_nil,List.append_assoc];done)|omega|(simp only[List.nil_append,List.length_append,List.length_cons,List.length_nil];omega)|(simp[ei,eb,es,ec];done)|simp[ei,eb,es,ec]):Ob p∧q:=⟨⟨h⟩,k⟩
noncomputable def g214(a:Int):Option ((Int×Int×Int×Int)):= if a<128 then(ck (inR .i32 a)<|some (1,0,0,a))else(if a<194 then some (0,0,0,0)else(if a<224 then(ck (inR .i32 (bits .and .u8 a 31))<|some (2,128,191,bits .and .u8 a 31))else(if a=224 then some (3,160,191,0)else(if a=237 then some (3,128,159,13)else(if a<240 then(ck (inR .i32 (bits .and .u8 a 15))<|some (3,128,191,bits .and .u8 a 15))else(if a=240 then some (4,144,191,0)else(if a<244 then(ck (inR .i32 (bits .and .u8 a 7))<|some (4,128,191,bits .and .u8 a 7))else(if a=244 then some (4,128,143,4)else some (0,0,0,0)))))))))
noncomputable def k214:Eng.CS:={ f:=214,calm:=true,more:=0,ι:=Int×(Int×Int×Int×Int),ok:=λi=>g214 i.1=some i.2,rds:=λ_=>[],args:=λi=>[.w (.v (.int .u8 (i.1)))],res:=λi=>.agg [.v (.int .i64 (i.2.1)),.v (.int .u8 (i.2.2.1)),.v (.int .u8 (i.2.2.2.1)),.v (.int .i32 (i.2.2.2.2))] }
theorem zS{p:Prop}(h:p:=by repeat' first|refine zb H ?_ ?_<;>intro _ H|refine zr H λ_ H=>?_|(obtain⟨_,hv,H⟩:=za H;first|refine⟨(_,_),⟨hv⟩,⟨trivial⟩,?_⟩|refine⟨(_,_,_),⟨hv⟩,⟨trivial⟩,?_⟩|refine⟨(_,_,_,_),⟨hv⟩,⟨trivial⟩,?_⟩)|refine⟨⟨rfl⟩,?_⟩|(have hfin:=zo H;(repeat refine mf1PK1 ?_);trivial)|(have hfin:=zo H;(first|subst hfin|rw[←hfin]);refine⟨(none,_),⟨Nat.le_refl _⟩,⟨⟨Reads.nil,trivial⟩⟩,?_⟩;trivial)|((first|refine⟨(),⟨H⟩,⟨rfl⟩,?_⟩|refine⟨_,⟨H⟩,⟨rfl⟩,?_⟩);trivial)|(replace H:=zw H;refine⟨(_,_),⟨H,Nat.lt_succ_self _⟩,⟨trivial⟩,?_⟩;trivial)|(replace H:=zw H;dsimp only[stp,sm] at H)):p:=h
theorem k214_ok:zp Tryz.prog k214:=by
 refine R.calmspec Tryz.func214 (nq9 Tryz.func214) rfl ?_;rintro⟨b,r⟩ hok q _ args hargs
 match args,hargs with
 |[_],hargs=>
 obtain⟨rfl,_⟩:=hargs;refine⟨envC [] false [],6,zi (zj),rfl,(nM1 rfl),?_⟩;have H:zf (g214 b) (λa=>a=r):=⟨r,hok,rfl⟩;unfold g214 at H;clear hok;exact zS
noncomputable def g215(a:Int):Option (Bool):= if 0≤a then(if a≤1114111 then(if a<55296 then some true else some (decide (57343<a)))else some false)else some false
noncomputable def k215:Eng.CS:={ f:=215,calm:=true,more:=0,ι:=Int×Bool,ok:=λi=>g215 i.1=some i.2,rds:=λ_=>[],args:=λi=>[.w (.v (.int .i32 (i.1)))],res:=λi=>bS i.2 }
theorem k215_ok:zp Tryz.prog k215:=by
 refine R.calmspec Tryz.func215 (nq9 Tryz.func215) rfl ?_;rintro⟨b,r⟩ hok q _ args hargs
 match args,hargs with
 |[_],hargs=>
 obtain⟨rfl,_⟩:=hargs;refine⟨envC [] false [],6,zi (zj),rfl,(nM1 rfl),?_⟩;have H:zf (g215 b) (λa=>a=r):=⟨r,hok,rfl⟩;unfold g215 at H;clear hok;exact zS
noncomputable def g216(b:Int)(a:Int):Option (Int):= ck (0≤a∧a≤((IntKind.bits .i32:Nat):Int))<|some (bits .or .u8 128 (bits .and .u8 (IntKind.wrap .u8 (b/2^a.toNat)) 63))
noncomputable def k216:Eng.CS:={ f:=216,calm:=true,more:=0,ι:=Int×Int×Int,ok:=λi=>g216 i.1 i.2.1=some i.2.2,rds:=λ_=>[],args:=λi=>[.w (.v (.int .i32 (i.1))),.w (.v (.int .u64 (i.2.1)))],res:=λi=>.v (.int .u8 (i.2.2)) }
theorem k216_ok:zp Tryz.prog k216:=by
 refine R.calmspec Tryz.func216 (nq9 Tryz.func216) rfl ?_;rintro⟨b,c,r⟩ hok q _ args hargs
 match args,hargs with
 |[_,_],hargs=>
 obtain⟨rfl,rfl,_⟩:=hargs;refine⟨envC [] false [],6,zi (zj),rfl,(nM2 rfl rfl),?_⟩;have H:zf (g216 b c) (λa=>a=r):=⟨r,hok,rfl⟩;unfold g216 at H;clear hok;exact zS
noncomputable def g138(b:List Int):Option (Int×Int×Bool):= if ((b.length:Nat):Int)=0 then some (0,0,true)else(ck (0≤(0:Int)∧0<((b.length:Nat):Int))<|(g214 (b.getD (0:Int).toNat 0)).bind λc=>if c.1=0 then some (65533,1,false)else(jn (α:=_) (β:=Int) (λg=>(y7 (σ:=Int×Int) (ρ:=(Int×Int×Bool) ⊕ (Int)) (λa=>if a.2<c.1 then(if ((b.length:Nat):Int)≤a.2 then some (.out (.inl ((0,0,true))))else(jn (α:=_) (β:=Int×Int) (λe=>if a.2=1 then e (c.2.1,c.2.2.1)else e (128,191)) (λf=>ck (0≤a.2∧a.2<((b.length:Nat):Int))<|if (b.getD a.2.toNat 0)<f.1 then some (.out (.inl ((65533,1,false))))else(ck (0≤a.2∧a.2<((b.length:Nat):Int))<|if f.2<(b.getD a.2.toNat 0) then some (.out (.inl ((65533,1,false))))else(ck (0≤a.2∧a.2<((b.length:Nat):Int))<|ck (inR .i32 (bits .and .u8 (b.getD a.2.toNat 0) 63))<|ck (inR .i64 (a.2+1))<|some (.go (bits .or .i32 (IntKind.wrap .i32 (a.1*2^(6:Int).toNat)) (bits .and .u8 (b.getD a.2.toNat 0) 63),a.2+1)))))))else some (.out (.inr (a.1)))) (c.2.2.2,1)).bind λh=>sm h (λd=>some (d.1,d.2.1,d.2.2)) (λi=>g i)) (λj=>some (j,c.1,false))))
noncomputable def k138:Eng.CS:={ f:=138,calm:=true,more:=0,ι:=(List Int)×(Int×Int×Bool),ok:=λi=>g138 i.1=some i.2,rds:=λ_=>[],args:=λi=>[.sl 1 i.1.length (ei .u8 i.1)],res:=λi=>.tup [.v (.int .i32 (i.2.1)),.v (.int .i64 (i.2.2.1)),bS i.2.2.2] }
theorem xv{p:Prop}(h:p:=by repeat' first|refine zb H ?_ ?_<;>intro _ H|refine zr H λ_ H=>?_|(obtain⟨_,hv,H⟩:=za H;first|refine⟨(_,_),⟨hv⟩,⟨trivial⟩,?_⟩|refine⟨(_,_,_),⟨hv⟩,⟨trivial⟩,?_⟩|refine⟨(_,_,_,_),⟨hv⟩,⟨trivial⟩,?_⟩)|refine⟨⟨rfl⟩,?_⟩|(have hfin:=zo H;(first|subst hfin|rw[←hfin]);refine⟨(none,_),⟨Nat.le_refl _⟩,⟨⟨Reads.nil,trivial⟩⟩,?_⟩;(repeat refine mo1PK1 ?_);trivial)|((first|refine⟨(),⟨H⟩,⟨rfl⟩,?_⟩|refine⟨_,⟨H⟩,⟨rfl⟩,?_⟩);(repeat refine mo1PK1 ?_);trivial)|(replace H:=zw H;refine⟨(_,_),⟨H,Nat.lt_succ_self _⟩,⟨trivial⟩,?_⟩;(repeat refine mo1PK1 ?_);trivial)|(replace H:=zw H;dsimp only[stp,sm] at H)|refine mo1PK1 ?_):p:=h
theorem k138_ok:zp Tryz.prog k138:=by
 refine R.calmspec Tryz.func138 (nq9 Tryz.func138) rfl ?_;rintro⟨b,r⟩ hok q _ args hargs
 match args,hargs with
 |[_],hargs=>
 obtain⟨⟨t,u,rfl,w,_,d⟩,_⟩:=hargs;refine⟨envC [k214] false [(138,15),(138,18)],6,zi (z8 ⟨λ_=>k214_ok,nofun⟩ (zj)),rfl,(nM1 rfl),?_⟩;have H:zf (g138 b) (λa=>a=r):=⟨r,hok,rfl⟩;unfold g138 at H;clear hok;refine zb H ?_ ?_<;>intro x H
 ·exact zS
 refine ob_ix d (λh=>ei0 h) H λj H=>?_;refine yu (e:=b.getD (0:Int).toNat 0) (yr d (xB (l:=b) (tn j))) ?_;obtain⟨c,m,H⟩:=za H;refine⟨(b.getD (0:Int).toNat 0,c),⟨m⟩,⟨trivial⟩,?_⟩;refine⟨⟨rfl⟩,?_⟩;refine zb H ?_ ?_<;>intro y H
 ·exact zS
 refine R.cut_fam H 25 [5] [] (λi=>[(2,.v (.int .i32 (i)))]) (λi=>[]) [(10,.cells 288 [.v (.int .i64 (c.1)),.v (.int .u8 (c.2.1)),.v (.int .u8 (c.2.2.1)),.v (.int .i32 (c.2.2.2))])] 0 (λH=>?_);refine And.intro ?_ ?_
 ·refine R.loop_fam (zN H) [0,5] [] (λ_ f=>[(2,.v (.int .i32 (f.1))),(6,.v (.int .i64 (f.2)))]) (λ_ f=>[]) 0 (λn H=>?_);refine⟨(n,_),⟨H⟩,⟨trivial⟩,?_⟩
  repeat refine mo1PK1 ?_
  rintro⟨m0,f⟩ H _;obtain⟨z,hm0,H⟩:=zO H;dsimp only at hm0;subst hm0
  try dsimp only at H
  refine zb H ?_ ?_<;>intro A H
  ·refine zb H ?_ ?_<;>intro B H
   ·exact zS
   refine R.cut_fam H 38 [0,2,5,6] [] (λg=>[(7,.v (.int .u8 (g.1))),(8,.v (.int .u8 (g.2)))]) (λg=>[]) [(10,.cells 288 [.v (.int .i64 (c.1)),.v (.int .u8 (c.2.1)),.v (.int .u8 (c.2.2.1)),.v (.int .i32 (c.2.2.2))])] 0 (λH=>?_);refine And.intro ?_ ?_
   ·refine zb H ?_ ?_<;>intro C H
    ·refine And.intro ⟨by kernel_rfl⟩ ?_;exact xv
    exact xv
   intro g H;refine ob_ix d (λh=>ei0 h) H λo H=>?_;refine yu (e:=b.getD f.2.toNat 0) (yr d (xB (l:=b) (tn o))) ?_;refine zb H ?_ ?_<;>intro D H
   ·exact zS
   refine ob_ix d (λh=>ei0 h) H λp H=>?_;refine yu (e:=b.getD f.2.toNat 0) (yr d (xB (l:=b) (tn p))) ?_;refine zb H ?_ ?_<;>intro E H
   ·exact zS
   refine And.intro ⟨by decide⟩ ?_;refine ob_ix d (λh=>ei0 h) H λs H=>?_;refine yu (e:=b.getD f.2.toNat 0) (yr d (xB (l:=b) (tn s))) ?_;exact xv
  exact xv
 intro i H;refine And.intro ⟨by kernel_rfl⟩ ?_;exact zS
noncomputable def g212(a:Int):Option (Int):= ck (inR .i32 (128+(Int.tmod a 64)))<|some (IntKind.wrap .u8 (128+(Int.tmod a 64)))
noncomputable def k212:Eng.CS:={ f:=212,calm:=true,more:=0,ι:=Int×Int,ok:=λi=>g212 i.1=some i.2,rds:=λ_=>[],args:=λi=>[.w (.v (.int .i32 (i.1)))],res:=λi=>.v (.int .u8 (i.2)) }
theorem k212_ok:zp Tryz.prog k212:=by
 refine R.calmspec Tryz.func212 (nq9 Tryz.func212) rfl ?_;rintro⟨b,r⟩ hok q _ args hargs
 match args,hargs with
 |[_],hargs=>
 obtain⟨rfl,_⟩:=hargs;refine⟨envC [] false [],6,zi (zj),rfl,(nM1 rfl),?_⟩;have H:zf (g212 b) (λa=>a=r):=⟨r,hok,rfl⟩;unfold g212 at H;clear hok;refine And.intro ⟨by decide⟩ ?_;exact zS
noncomputable def g211(a:Int):Option (Bool):= if 0≤a then(if a≤1114111 then(if a<55296 then some true else some (decide (57343<a)))else some false)else some false
noncomputable def k211:Eng.CS:={ f:=211,calm:=true,more:=0,ι:=Int×Bool,ok:=λi=>g211 i.1=some i.2,rds:=λ_=>[],args:=λi=>[.w (.v (.int .i32 (i.1)))],res:=λi=>bS i.2 }
theorem k211_ok:zp Tryz.prog k211:=by
 refine R.calmspec Tryz.func211 (nq9 Tryz.func211) rfl ?_;rintro⟨b,r⟩ hok q _ args hargs
 match args,hargs with
 |[_],hargs=>
 obtain⟨rfl,_⟩:=hargs;refine⟨envC [] false [],6,zi (zj),rfl,(nM1 rfl),?_⟩;have H:zf (g211 b) (λa=>a=r):=⟨r,hok,rfl⟩;unfold g211 at H;clear hok;exact zS
noncomputable def g139(b:Int):Option (List Int):= jn (α:=_) (β:=Int) (λc=>(g215 b).bind λd=>if ¬(d=true) then c 65533 else c b) (λa=>if a<128 then some ([IntKind.wrap .u8 a])else(if a<2048 then((g216 a 0).bind λe=>some ([bits .or .u8 192 (IntKind.wrap .u8 (a/2^(6:Int).toNat)),e]))else(if a<65536 then((g216 a 6).bind λf=>(g216 a 0).bind λg=>some ([bits .or .u8 224 (IntKind.wrap .u8 (a/2^(12:Int).toNat)),f,g]))else((g216 a 12).bind λh=>(g216 a 6).bind λi=>(g216 a 0).bind λj=>some ([bits .or .u8 240 (IntKind.wrap .u8 (a/2^(18:Int).toNat)),h,i,j])))))
noncomputable def k139:Eng.CS:={ f:=139,calm:=false,more:=1,ι:=Int×List Int,ok:=λi=>g139 i.1=some i.2,rds:=λ_=>[],args:=λi=>[.w (.v (.int .i32 (i.1)))],res:=λi=>.own 0,L':=λi=>[(0,.arr 5 1 i.2.length (ei .u8 i.2))],rn:=[(0,0,5,1)] }
theorem k139_ok:CSOk Tryz.prog k139:=by
 refine R.cspec Tryz.func139 (nq9 Tryz.func139) rfl ?_;rintro⟨c,r⟩ hok q _ args hargs
 match args,hargs with
 |[_],hargs=>
 obtain⟨rfl,_⟩:=hargs;refine⟨envC [k215,k216] false [(139,3)],6,zi (z8 ⟨λ_=>k215_ok,nofun⟩ (z8 ⟨λ_=>k216_ok,nofun⟩ (zj))),?_⟩;have H:zf (g139 c) (λa=>a=r):=⟨r,hok,rfl⟩;unfold g139 at H;clear hok;refine R.cut_fam H 6 [] [] (λb=>[(0,.v (.int .i32 (b)))]) (λb=>[]) [] 0 (λH=>?_);refine And.intro ?_ ?_
 ·exact xv
 intro b H;refine zb H ?_ ?_<;>intro d H
 ·exact zS
 refine zb H ?_ ?_<;>intro e H
 ·refine And.intro ⟨by decide⟩ ?_;exact zS
 refine zb H ?_ ?_<;>intro f H
 ·refine And.intro ⟨by decide⟩ ?_;exact zS
 refine And.intro ⟨by decide⟩ ?_;exact zS
noncomputable def g130(b:Int):Option (List Int):= jn (α:=_) (β:=Int) (λk201=>(g211 b).bind λc=>if ¬(c=true) then k201 65533 else k201 b) (λa=>if a<128 then some ([IntKind.wrap .u8 a])else(if a<2048 then(ck (inR .i32 (Int.tdiv a 64))<|ck (inR .i32 (192+(Int.tdiv a 64)))<|(g212 a).bind λd=>some ([IntKind.wrap .u8 (192+(Int.tdiv a 64)),d]))else(if a<65536 then(ck (inR .i32 (Int.tdiv a 4096))<|ck (inR .i32 (224+(Int.tdiv a 4096)))<|ck (inR .i32 (Int.tdiv a 64))<|(g212 (Int.tdiv a 64)).bind λe=>(g212 a).bind λf=>some ([IntKind.wrap .u8 (224+(Int.tdiv a 4096)),e,f]))else(ck (inR .i32 (Int.tdiv a 262144))<|ck (inR .i32 (240+(Int.tdiv a 262144)))<|ck (inR .i32 (Int.tdiv a 4096))<|(g212 (Int.tdiv a 4096)).bind λg=>ck (inR .i32 (Int.tdiv a 64))<|(g212 (Int.tdiv a 64)).bind λh=>(g212 a).bind λi=>some ([IntKind.wrap .u8 (240+(Int.tdiv a 262144)),g,h,i])))))
noncomputable def k130:Eng.CS:={ f:=130,calm:=false,more:=1,ι:=Int×List Int,ok:=λi=>g130 i.1=some i.2,rds:=λ_=>[],args:=λi=>[.w (.v (.int .i32 (i.1)))],res:=λi=>.own 0,L':=λi=>[(0,.arr 5 1 i.2.length (ei .u8 i.2))],rn:=[(0,0,5,1)] }
theorem k130_ok:CSOk Tryz.prog k130:=by
 refine R.cspec Tryz.func130 (nq9 Tryz.func130) rfl ?_;rintro⟨c,r⟩ hok q _ args hargs
 match args,hargs with
 |[_],hargs=>
 obtain⟨rfl,_⟩:=hargs;refine⟨envC [k211,k212] false [(130,3)],6,zi (z8 ⟨λ_=>k211_ok,nofun⟩ (z8 ⟨λ_=>k212_ok,nofun⟩ (zj))),?_⟩;have H:zf (g130 c) (λa=>a=r):=⟨r,hok,rfl⟩;unfold g130 at H;clear hok;refine R.cut_fam H 6 [] [] (λb=>[(0,.v (.int .i32 (b)))]) (λb=>[]) [] 0 (λH=>?_);refine And.intro ?_ ?_
 ·exact xv
 intro b H;refine zb H ?_ ?_<;>intro f H
 ·exact zS
 refine zb H ?_ ?_<;>intro g H
 ·refine And.intro ⟨by decide⟩ ?_;exact zS
 refine zb H ?_ ?_<;>intro h H
 ·refine And.intro ⟨by decide⟩ ?_;refine zr H λi H=>?_;refine zr H λj H=>?_;refine And.intro ⟨by decide⟩ ?_;exact zS
 refine And.intro ⟨by decide⟩ ?_;refine zr H λl H=>?_;refine zr H λm H=>?_;refine And.intro ⟨by decide⟩ ?_;refine zr H λn H=>?_;obtain⟨d,e,H⟩:=za H;refine⟨(Int.tdiv b 4096,d),⟨e⟩,⟨trivial⟩,?_⟩;refine⟨⟨rfl⟩,?_⟩;refine And.intro ⟨by decide⟩ ?_;exact zS
noncomputable def g208(a:Int):Option (Int):= if a<128 then some 1 else(jn (α:=_) (β:=Bool) (λb=>if 194≤a then b (decide (a<224))else b false) (λc=>if c=true then some 2 else(if 224≤a then(if a<240 then some 3 else(if 240≤a then(if a<245 then some 4 else some 0)else some 0))else(if 240≤a then(if a<245 then some 4 else some 0)else some 0))))
noncomputable def k208:Eng.CS:={ f:=208,calm:=true,more:=0,ι:=Int×Int,ok:=λi=>g208 i.1=some i.2,rds:=λ_=>[],args:=λi=>[.w (.v (.int .u8 (i.1)))],res:=λi=>.v (.int .i64 (i.2)) }
theorem k208_ok:zp Tryz.prog k208:=by
 refine R.calmspec Tryz.func208 (nq9 Tryz.func208) rfl ?_;rintro⟨c,r⟩ hok q _ args hargs
 match args,hargs with
 |[_],hargs=>
 obtain⟨rfl,_⟩:=hargs;refine⟨envC [] false [(208,4)],6,zi (zj),rfl,(nM1 rfl),?_⟩;have H:zf (g208 c) (λa=>a=r):=⟨r,hok,rfl⟩;unfold g208 at H;clear hok;refine zb H ?_ ?_<;>intro d H
 ·exact zS
 refine R.cut_fam H 12 [0] [] (λb=>[(6,bS b)]) (λb=>[]) [] 0 (λH=>?_);refine And.intro ?_ ?_
 ·exact xv
 intro b H;exact zS
noncomputable def g210(a:List Int):Option (Int):= if ((a.length:Nat):Int)<2 then(ck (0≤(0:Int)∧0<((a.length:Nat):Int))<|ck (inR .i32 (a.getD (0:Int).toNat 0))<|some (a.getD (0:Int).toNat 0))else(if 4<((a.length:Nat):Int) then(ck (0≤(0:Int)∧0<((a.length:Nat):Int))<|ck (inR .i32 (a.getD (0:Int).toNat 0))<|some (a.getD (0:Int).toNat 0))else(ck (0≤(0:Int)∧0<((a.length:Nat):Int))<|ck (inR .i64 (a.getD (0:Int).toNat 0))<|ck (0≤((a.length:Nat):Int)∧((a.length:Nat):Int)<((5:Nat):Int))<|ck (inR .i64 ((a.getD (0:Int).toNat 0)-(([0,0,192,224,240]).getD ((a.length:Nat):Int).toNat 0)))<|jn (α:=_) (β:=Int) (λc=>(y7 (σ:=Int×Int) (ρ:=Int) (λb=>if b.2<((a.length:Nat):Int) then(ck (inR .i32 (b.1*64))<|ck (0≤b.2∧b.2<((a.length:Nat):Int))<|ck (inR .i32 (Int.tmod (a.getD b.2.toNat 0) 64))<|ck (inR .i32 ((b.1*64)+(Int.tmod (a.getD b.2.toNat 0) 64)))<|ck (inR .i64 (b.2+1))<|some (.go ((b.1*64)+(Int.tmod (a.getD b.2.toNat 0) 64),b.2+1)))else some (.out b.1)) (IntKind.wrap .i32 ((a.getD (0:Int).toNat 0)-(([0,0,192,224,240]).getD ((a.length:Nat):Int).toNat 0)),1)).bind λd=>c d) (λe=>some e)))
noncomputable def k210:Eng.CS:={ f:=210,calm:=true,more:=0,ι:=(List Int)×Int,ok:=λi=>g210 i.1=some i.2,rds:=λ_=>[],args:=λi=>[.sl 1 i.1.length (ei .u8 i.1)],res:=λi=>.v (.int .i32 (i.2)) }
theorem k210_ok:zp Tryz.prog k210:=by
 refine R.calmspec Tryz.func210 (nq9 Tryz.func210) rfl ?_;rintro⟨b,r⟩ hok q _ args hargs
 match args,hargs with
 |[_],hargs=>
 obtain⟨⟨p,s,rfl,t,_,c⟩,_⟩:=hargs;refine⟨envC [] false [(210,9)],6,zi (zj),rfl,(nM1 rfl),?_⟩;have H:zf (g210 b) (λa=>a=r):=⟨r,hok,rfl⟩;unfold g210 at H;clear hok;refine zb H ?_ ?_<;>intro u H
 ·refine ob_ix c (λh=>ei0 h) H λi H=>?_;refine yu (e:=b.getD (0:Int).toNat 0) (yr c (xB (l:=b) (tn i))) ?_;exact zS
 refine zb H ?_ ?_<;>intro w H
 ·refine ob_ix c (λh=>ei0 h) H λj H=>?_;refine yu (e:=b.getD (0:Int).toNat 0) (yr c (xB (l:=b) (tn j))) ?_;exact zS
 refine And.intro ⟨by kernel_rfl⟩ ?_;refine ob_ix c (λh=>ei0 h) H λm H=>?_;refine yu (e:=b.getD (0:Int).toNat 0) (yr c (xB (l:=b) (tn m))) ?_;refine zr H λx H=>?_;refine zr H λf H=>?_;refine yu (e:=([0,0,192,224,240]).getD ((b.length:Nat):Int).toNat 0) (own_get (ys:=ei .i64 ([0,0,192,224,240])) wO (xB (l:=[0,0,192,224,240]) (by first|exact tn f|(have:=tn f;simp at this ⊢;omega)|(have:=tn f;simp;omega)))) ?_;refine zr H λy H=>?_;refine R.cut_fam H 30 [] [] (λg=>[(4,.v (.int .i32 (g)))]) (λg=>[]) [(1,.arr 3 1 (5) (ei .i64 ([0,0,192,224,240])))] 0 (λH=>?_);refine And.intro ?_ ?_
 ·refine R.loop_fam (zN H) [0] [] (λ_ d=>[(4,.v (.int .i32 (d.1))),(5,.v (.int .i64 (d.2)))]) (λ_ d=>[]) 0 (λn H=>?_);refine⟨(n,_),⟨H⟩,⟨trivial⟩,?_⟩
  repeat refine mo1PK1 ?_
  rintro⟨m0,d⟩ H _;obtain⟨z,hm0,H⟩:=zO H;dsimp only at hm0;subst hm0
  try dsimp only at H
  refine zb H ?_ ?_<;>intro A H
  ·refine zr H λB H=>?_;refine ob_ix c (λh=>ei0 h) H λo H=>?_;refine yu (e:=b.getD d.2.toNat 0) (yr c (xB (l:=b) (tn o))) ?_;refine And.intro ⟨by decide⟩ ?_;exact xv
  exact xv
 intro g H;exact zS
noncomputable def g296(b:List Int):Option (Bool):= jn (α:=_) (β:=Unit) (λc=>(y7 (σ:=Int) (ρ:=(Unit) ⊕ (Unit)) (λa=>if a<((b.length:Nat):Int) then(ck (0≤a∧a<((b.length:Nat):Int))<|if (b.getD a.toNat 0)<128 then some (.out (.inl (())))else(ck (0≤a∧a<((b.length:Nat):Int))<|if 191<(b.getD a.toNat 0) then some (.out (.inl (())))else(ck (inR .i64 (a+1))<|some (.go (a+1)))))else some (.out (.inr (())))) 1).bind λd=>sm d (λe=>some false) (λf=>c ())) (λg=>some true)
noncomputable def k296:Eng.CS:={ f:=296,calm:=true,more:=0,ι:=(List Int)×Bool,ok:=λi=>g296 i.1=some i.2,rds:=λ_=>[],args:=λi=>[.sl 1 i.1.length (ei .u8 i.1)],res:=λi=>bS i.2 }
theorem zdPK1_PK1{p:Prop}(h:p:=by repeat' first|refine zb H ?_ ?_<;>intro _ H|refine zr H λ_ H=>?_|(obtain⟨_,hv,H⟩:=za H;first|refine⟨(_,_),⟨hv⟩,⟨trivial⟩,?_⟩|refine⟨(_,_,_),⟨hv⟩,⟨trivial⟩,?_⟩|refine⟨(_,_,_,_),⟨hv⟩,⟨trivial⟩,?_⟩)|refine⟨⟨rfl⟩,?_⟩|(have hfin:=zo H;(repeat refine mf1PK1 ?_);trivial)|(have hfin:=zo H;(first|subst hfin|rw[←hfin]);refine⟨(none,_),⟨Nat.le_refl _⟩,⟨⟨Reads.nil,trivial⟩⟩,?_⟩;(repeat refine mo1PK1 ?_);trivial)|((first|refine⟨(),⟨H⟩,⟨rfl⟩,?_⟩|refine⟨_,⟨H⟩,⟨rfl⟩,?_⟩);(repeat refine mo1PK1 ?_);trivial)|(replace H:=zw H;refine⟨(_,_),⟨H,Nat.lt_succ_self _⟩,⟨trivial⟩,?_⟩;(repeat refine mo1PK1 ?_);trivial)|(replace H:=zw H;dsimp only[stp,sm] at H)|refine mo1PK1 ?_):p:=h
theorem k296_ok:zp Tryz.prog k296:=by
 refine R.calmspec Tryz.func296 (nq9 Tryz.func296) rfl ?_;rintro⟨b,r⟩ hok q _ args hargs
 match args,hargs with
 |[_],hargs=>
 obtain⟨⟨m,n,rfl,o,_,d⟩,_⟩:=hargs;refine⟨envC [] false [(296,6)],6,zi (zj),rfl,(nM1 rfl),?_⟩;have H:zf (g296 b) (λa=>a=r):=⟨r,hok,rfl⟩;unfold g296 at H;clear hok;refine R.cut_fam H 8 [] [] (λf=>[]) (λf=>[]) [] 0 (λH=>?_);refine And.intro ?_ ?_
 ·refine R.loop_fam (zN H) [0] [] (λ_ c=>[(3,.v (.int .i64 (c)))]) (λ_ c=>[]) 0 (λg H=>?_);refine⟨(g,_),⟨H⟩,⟨trivial⟩,?_⟩
  repeat refine mo1PK1 ?_
  rintro⟨m0,c⟩ H _;obtain⟨p,hm0,H⟩:=zO H;dsimp only at hm0;subst hm0
  try dsimp only at H
  refine zb H ?_ ?_<;>intro s H
  ·refine ob_ix d (λh=>ei0 h) H λi H=>?_;refine yu (e:=b.getD c.toNat 0) (yr d (xB (l:=b) (tn i))) ?_;refine zb H ?_ ?_<;>intro t H
   ·exact zS
   refine ob_ix d (λh=>ei0 h) H λj H=>?_;refine yu (e:=b.getD c.toNat 0) (yr d (xB (l:=b) (tn j))) ?_;exact zdPK1_PK1
  exact xv
 intro f H;exact zS
noncomputable def g209(a:List Int):Option (Bool):= ck (0≤(0:Int)∧0<((a.length:Nat):Int))<|(g208 (a.getD (0:Int).toNat 0)).bind λc=>if c<((a.length:Nat):Int) then some false else((g296 a).bind λh=>if ¬(h=true) then some false else(ck ((0+a.length)*1≤140737488355328)<|ck ((0+a.length)*1≤140737488355328)<|jn (α:=_) (β:=List Int×List Int) (λi=>(y7 (σ:=List Int×List Int) (ρ:=List Int×List Int) (λb=>if ((b.1.length:Nat):Int)<c then(ck ((b.1.length+1)*1≤140737488355328)<|ck ((b.2.length+1)*1≤140737488355328)<|some (.go ((b.1++[128]),(b.2++[191]))))else some (.out (b.1,b.2))) (([]++a),([]++a))).bind λd=>i (d.1,d.2)) (λe=>(g210 e.1).bind λf=>(g210 e.2).bind λg=>ck (0≤c∧c<((5:Nat):Int))<|if (([0,0,128,2048,65536]).getD c.toNat 0)≤g then(if f≤1114111 then(if f<55296 then some true else some (decide (57343<g)))else some false)else some false)))
noncomputable def k209:Eng.CS:={ f:=209,calm:=true,more:=0,ι:=(List Int)×Bool,ok:=λi=>g209 i.1=some i.2,rds:=λ_=>[],args:=λi=>[.sl 1 i.1.length (ei .u8 i.1)],res:=λi=>bS i.2 }
theorem k209_ok:zp Tryz.prog k209:=by
 refine R.calmspec Tryz.func209 (nq9 Tryz.func209) rfl ?_;rintro⟨d,r⟩ hok q _ args hargs
 match args,hargs with
 |[_],hargs=>
 obtain⟨⟨G,I,rfl,j,_,f⟩,_⟩:=hargs;refine⟨envC [k208,k210,k296] false [(209,7)],6,zi (z8 ⟨λ_=>k208_ok,nofun⟩ (z8 ⟨λ_=>k210_ok,nofun⟩ (z8 ⟨λ_=>k296_ok,nofun⟩ (zj)))),rfl,(nM1 rfl),?_⟩;have H:zf (g209 d) (λa=>a=r):=⟨r,hok,rfl⟩;unfold g209 at H;clear hok;refine ob_ix f (λh=>ei0 h) H λm H=>?_;refine yu (e:=d.getD (0:Int).toNat 0) (yr f (xB (l:=d) (tn m))) ?_;obtain⟨i,n,H⟩:=za H;refine⟨(d.getD (0:Int).toNat 0,i),⟨n⟩,⟨trivial⟩,?_⟩;refine⟨⟨rfl⟩,?_⟩;refine zb H ?_ ?_<;>intro J H
 ·exact zS
 obtain⟨o,p,H⟩:=za H;refine⟨(d,o),⟨p⟩,⟨trivial⟩,?_⟩;refine And.intro ⟨rfl,j,ei_len.trans ((show _=_ from rfl).trans (Nat.mul_one _).symm),f⟩ ?_;refine zb H ?_ ?_<;>intro L H
 ·exact zS
 refine rs_st f (by rw[ei_len];simp) ?_;refine xq ww wt H λM H=>?_;intro N O s t;subst s t;refine rs_st f (by rw[ei_len];simp) ?_;refine xq ww wt H λP H=>?_;intro Q T u v;subst u v;refine R.cut_fam H 33 [3] [] (λb=>[(4,.own 33),(5,.own 34)]) (λb=>[(33,.arr 5 1 (b.1.length) (ei .u8 (b.1))),(34,.arr 5 1 (b.2.length) (ei .u8 (b.2)))]) [] 2 (λH=>?_);refine And.intro ?_ ?_
 ·refine R.loop_fam (zN H) [3] [] (λ_ c=>[(4,.own 23),(5,.own 24)]) (λ_ c=>[(23,.arr 5 1 (c.1.length) (ei .u8 (c.1))),(24,.arr 5 1 (c.2.length) (ei .u8 (c.2)))]) 2 (λw H=>?_);refine⟨(w,_),⟨H⟩,⟨trivial⟩,?_⟩
  repeat refine mo1PK1 ?_
  rintro⟨m0,c⟩ H _;obtain⟨U,hm0,H⟩:=zO H;dsimp only at hm0;subst hm0
  try dsimp only at H
  refine zb H ?_ ?_<;>intro V H
  ·refine xq ww wt H λW H=>?_;intro X Y x z;subst x z;refine xq ww wt H λZ H=>?_;intro a1 a2 A B;subst A B;exact xv
  exact xv
 intro b H;obtain⟨C,D,H⟩:=za H;refine⟨(b.1,C),⟨D⟩,⟨trivial⟩,?_⟩;refine And.intro ⟨by first|rfl|(simp;done),by first|rfl|(simp[ei,eb,es,ec];done)|(simp only[ei,eb,es,ec,List.map_append,List.nil_append,List.append_assoc];rfl)⟩ ?_;obtain⟨E,F,H⟩:=za H;refine⟨(b.2,E),⟨F⟩,⟨trivial⟩,?_⟩;refine And.intro ⟨by first|rfl|(simp;done),by first|rfl|(simp[ei,eb,es,ec];done)|(simp only[ei,eb,es,ec,List.map_append,List.nil_append,List.append_assoc];rfl)⟩ ?_;refine zr H λg H=>?_;refine yu (e:=([0,0,128,2048,65536]).getD i.toNat 0) (own_get (ys:=ei .i32 ([0,0,128,2048,65536])) wO (xB (l:=[0,0,128,2048,65536]) wP)) ?_;exact zS
noncomputable def g129(b:List Int):Option (Int×Int×Bool):= if ((b.length:Nat):Int)=0 then some (0,0,true)else(ck (0≤(0:Int)∧0<((b.length:Nat):Int))<|(g208 (b.getD (0:Int).toNat 0)).bind λa=>jn (α:=_) (β:=Bool) (λc=>if 0<a then(if a≤((b.length:Nat):Int) then(ck (0≤(0:Int)∧(0:Int)≤a∧a≤((b.length:Nat):Int))<|(g209 ((b.drop (0:Int).toNat).take (a.toNat-(0:Int).toNat))).bind λd=>c d)else c false)else c false) (λe=>if e=true then(ck (0≤(0:Int)∧(0:Int)≤a∧a≤((b.length:Nat):Int))<|(g210 ((b.drop (0:Int).toNat).take (a.toNat-(0:Int).toNat))).bind λf=>some (f,a,false))else(if 0<a then(if ((b.length:Nat):Int)<a then((g209 b).bind λg=>if g=true then some (0,0,true)else some (65533,1,false))else some (65533,1,false))else some (65533,1,false))))
noncomputable def k129:Eng.CS:={ f:=129,calm:=true,more:=0,ι:=(List Int)×(Int×Int×Bool),ok:=λi=>g129 i.1=some i.2,rds:=λ_=>[],args:=λi=>[.sl 1 i.1.length (ei .u8 i.1)],res:=λi=>.tup [.v (.int .i32 (i.2.1)),.v (.int .i64 (i.2.2.1)),bS i.2.2.2] }
theorem k129_ok:zp Tryz.prog k129:=by
 refine R.calmspec Tryz.func129 (nq9 Tryz.func129) rfl ?_;rintro⟨b,r⟩ hok q _ args hargs
 match args,hargs with
 |[_],hargs=>
 obtain⟨⟨A,B,rfl,c,_,d⟩,_⟩:=hargs;refine⟨envC [k208,k209,k210] false [(129,5)],6,zi (z8 ⟨λ_=>k208_ok,nofun⟩ (z8 ⟨λ_=>k209_ok,nofun⟩ (z8 ⟨λ_=>k210_ok,nofun⟩ (zj)))),rfl,(nM1 rfl),?_⟩;have H:zf (g129 b) (λa=>a=r):=⟨r,hok,rfl⟩;unfold g129 at H;clear hok;refine zb H ?_ ?_<;>intro C H
 ·exact zS
 refine ob_ix d (λh=>ei0 h) H λm H=>?_;refine yu (e:=b.getD (0:Int).toNat 0) (yr d (xB (l:=b) (tn m))) ?_;obtain⟨i,n,H⟩:=za H;refine⟨(b.getD (0:Int).toNat 0,i),⟨n⟩,⟨trivial⟩,?_⟩;refine⟨⟨rfl⟩,?_⟩;refine R.cut_fam H 26 [0,5] [] (λj=>[(26,bS j)]) (λj=>[]) [] 0 (λH=>?_);refine And.intro ?_ ?_
 ·refine zb H ?_ ?_<;>intro D H
  ·refine zb H ?_ ?_<;>intro E H
   ·refine ob_sl c H λo H=>?_;have f:=sl_ei d rfl c o;intro F p;subst p;obtain⟨s,t,H⟩:=za H;refine⟨(((b.drop (0:Int).toNat).take (i.toNat-(0:Int).toNat)),s),⟨t⟩,⟨trivial⟩,?_⟩;refine And.intro ⟨(f.2.1).symm,f.2.2,ei_len.trans ((show _=_ from f.2.1).trans (Nat.mul_one _).symm),f.1⟩ ?_;exact xv
   exact xv
  exact xv
 intro j H;refine zb H ?_ ?_<;>intro G H
 ·refine ob_sl c H λu H=>?_;have g:=sl_ei d rfl c u;intro I v;subst v;obtain⟨w,x,H⟩:=za H;refine⟨(((b.drop (0:Int).toNat).take (i.toNat-(0:Int).toNat)),w),⟨x⟩,⟨trivial⟩,?_⟩;refine And.intro ⟨(g.2.1).symm,g.2.2,ei_len.trans ((show _=_ from g.2.1).trans (Nat.mul_one _).symm),g.1⟩ ?_;exact zS
 refine zb H ?_ ?_<;>intro J H
 ·refine zb H ?_ ?_<;>intro L H
  ·obtain⟨y,z,H⟩:=za H;refine⟨(b,y),⟨z⟩,⟨trivial⟩,?_⟩;refine And.intro ⟨rfl,c,ei_len.trans ((show _=_ from rfl).trans (Nat.mul_one _).symm),d⟩ ?_;exact zS
  exact zS
 exact zS
noncomputable def g375(b:List Int):Option (Int×Int):= (g138 b).bind λa=>if a.2.2=true then some (65533,1)else some (a.1,a.2.1)
noncomputable def k375:Eng.CS:={ f:=375,calm:=true,more:=0,ι:=(List Int)×(Int×Int),ok:=λi=>g375 i.1=some i.2,rds:=λ_=>[],args:=λi=>[.sl 1 i.1.length (ei .u8 i.1)],res:=λi=>.tup [.v (.int .i32 (i.2.1)),.v (.int .i64 (i.2.2))] }
theorem k375_ok:zp Tryz.prog k375:=by
 refine R.calmspec Tryz.func375 (nq9 Tryz.func375) rfl ?_;rintro⟨b,r⟩ hok q _ args hargs
 match args,hargs with
 |[_],hargs=>
 obtain⟨⟨g,h,rfl,c,_,d⟩,_⟩:=hargs;refine⟨envC [k138] false [],6,zi (z8 ⟨λ_=>k138_ok,nofun⟩ (zj)),rfl,(nM1 rfl),?_⟩;have H:zf (g375 b) (λa=>a=r):=⟨r,hok,rfl⟩;unfold g375 at H;clear hok;obtain⟨e,f,H⟩:=za H;refine⟨(b,e),⟨f⟩,⟨trivial⟩,?_⟩;refine And.intro ⟨rfl,c,ei_len.trans ((show _=_ from rfl).trans (Nat.mul_one _).symm),d⟩ ?_;exact zk
noncomputable def g137(b:ByteArray):Option (Int):= jn (α:=_) (β:=Int) (λk52=>ck (b.size≤140737488355328)<|(y7 (σ:=Int×Int) (ρ:=Int) (λa=>if a.2<(((z6 b).length:Nat):Int) then(ck (0≤a.2∧a.2≤(((z6 b).length:Nat):Int)∧(((z6 b).length:Nat):Int)≤(((z6 b).length:Nat):Int))<|(g375 (((z6 b).drop a.2.toNat).take ((((z6 b).length:Nat):Int).toNat-a.2.toNat))).bind λc=>ck (inR .i64 (a.1+1))<|ck (inR .i64 (a.2+c.2))<|some (.go (a.1+1,a.2+c.2)))else some (.out a.1)) (0,0)).bind λd=>k52 d) (λe=>some e)
noncomputable def k137:Eng.CS:={ f:=137,calm:=true,more:=0,ι:=ByteArray×Int,ok:=λi=>g137 i.1=some i.2,rds:=λ_=>[],args:=λi=>[.w (.v (.string (i.1)))],res:=λi=>.v (.int .i64 (i.2)) }
theorem zg{p:Prop}(h:p:=by repeat' first|refine zb H ?_ ?_<;>intro _ H|refine zr H λ_ H=>?_|(obtain⟨_,hv,H⟩:=za H;first|refine⟨(_,_),⟨hv⟩,⟨trivial⟩,?_⟩|refine⟨(_,_,_),⟨hv⟩,⟨trivial⟩,?_⟩|refine⟨(_,_,_,_),⟨hv⟩,⟨trivial⟩,?_⟩)|refine⟨⟨rfl⟩,?_⟩|(have hfin:=zo H;(first|subst hfin|rw[←hfin]);refine⟨(none,_),⟨Nat.le_refl _⟩,⟨⟨Reads.nil,trivial⟩⟩,?_⟩;(repeat refine zd ?_);trivial)|((first|refine⟨(),⟨H⟩,⟨rfl⟩,?_⟩|refine⟨_,⟨H⟩,⟨rfl⟩,?_⟩);(repeat refine zd ?_);trivial)|(replace H:=zw H;refine⟨(_,_),⟨H,Nat.lt_succ_self _⟩,⟨trivial⟩,?_⟩;(repeat refine zd ?_);trivial)|(replace H:=zw H;dsimp only[stp,sm] at H)|refine zd ?_):p:=h
theorem k137_ok:zp Tryz.prog k137:=by
 refine R.calmspec Tryz.func137 (nq9 Tryz.func137) rfl ?_;rintro⟨b,r⟩ hok q _ args hargs
 match args,hargs with
 |[_],hargs=>
 obtain⟨rfl,_⟩:=hargs;refine⟨envC [k375] false [(137,4)],6,zi (z8 ⟨λ_=>k375_ok,nofun⟩ (zj)),rfl,(nM1 rfl),?_⟩;have H:zf (g137 b) (λa=>a=r):=⟨r,hok,rfl⟩;unfold g137 at H;clear hok;refine R.cut_famG H 23 [3] [] [] (λe=>[]) (λe=>[(1,.cells 3 [.v (.int .i64 (e))])]) [] 0 (λH=>?_);refine And.intro ?_ ?_
 ·refine ob_sb H λu H w x y g f i=>?_;intro j l;obtain rfl:j=(z6 b).length:=l.trans (zq b).symm;refine R.loop_fam (zN H) [0,1] [] (λ_ c=>[(3,.v (.int .i64 (c.2)))]) (λ_ c=>[(1,.cells 3 [.v (.int .i64 (c.1))])]) 0 (λm H=>?_);refine⟨(m,_),⟨H⟩,⟨trivial⟩,?_⟩
  repeat refine zd ?_
  rintro⟨m0,c⟩ H _;obtain⟨z,hm0,H⟩:=zO H;dsimp only at hm0;subst hm0
  try dsimp only at H
  refine zb H ?_ ?_<;>intro A H
  ·refine ob_sl (Nat.le_trans (Nat.le_of_eq (zq b)) f) H λn H=>?_;have d:=sl_ei i rfl (Nat.le_trans (Nat.le_of_eq (zq b)) f) n;intro o p;obtain rfl:o=(((z6 b).drop c.2.toNat).take ((((z6 b).length:Nat):Int).toNat-c.2.toNat)).length:=p.trans d.2.1.symm;obtain⟨s,t,H⟩:=za H;refine⟨((((z6 b).drop c.2.toNat).take ((((z6 b).length:Nat):Int).toNat-c.2.toNat)),s),⟨t⟩,⟨trivial⟩,?_⟩;refine And.intro ⟨rfl,(Nat.le_trans (Nat.le_of_eq d.2.1) d.2.2),ei_len.trans ((show _=_ from rfl).trans (Nat.mul_one _).symm),d.1⟩ ?_;exact zg
  replace H:=zw H;dsimp only[stp,sm] at H;refine⟨c.1,⟨H⟩,⟨λ_ _ _ h=>(g _ _ _ h)⟩,?_⟩
  repeat refine zd ?_
  trivial
 intro B C e H;exact zk
noncomputable def g75(b:ByteArray):Option (Bool):= ck (b.size≤140737488355328)<|jn (α:=_) (β:=Unit) (λd=>(y7 (σ:=Int) (ρ:=(Unit) ⊕ (Unit)) (λa=>if a<(((z6 b).length:Nat):Int) then(ck (0≤a∧a≤(((z6 b).length:Nat):Int)∧(((z6 b).length:Nat):Int)≤(((z6 b).length:Nat):Int))<|(g138 (((z6 b).drop a.toNat).take ((((z6 b).length:Nat):Int).toNat-a.toNat))).bind λc=>if c.2.2=true then some (.out (.inl (())))else(if ¬c.1=65533 then(ck (inR .i64 (a+c.2.1))<|some (.go (a+c.2.1)))else((g139 65533).bind λe=>if ¬c.2.1=((e.length:Nat):Int) then some (.out (.inl (())))else(ck (inR .i64 (a+c.2.1))<|some (.go (a+c.2.1))))))else some (.out (.inr (())))) 0).bind λf=>sm f (λg=>some false) (λh=>d ())) (λi=>some true)
noncomputable def k75:Eng.CS:={ f:=75,calm:=true,more:=0,ι:=ByteArray×Bool,ok:=λi=>g75 i.1=some i.2,rds:=λ_=>[],args:=λi=>[.w (.v (.string (i.1)))],res:=λi=>bS i.2 }
theorem zB{p:Prop}(h:p:=by repeat' first|refine zb H ?_ ?_<;>intro _ H|refine zr H λ_ H=>?_|(obtain⟨_,hv,H⟩:=za H;first|refine⟨(_,_),⟨hv⟩,⟨trivial⟩,?_⟩|refine⟨(_,_,_),⟨hv⟩,⟨trivial⟩,?_⟩|refine⟨(_,_,_,_),⟨hv⟩,⟨trivial⟩,?_⟩)|refine⟨⟨rfl⟩,?_⟩|(have hfin:=zo H;(repeat refine xQ ?_);trivial)|(have hfin:=zo H;(first|subst hfin|rw[←hfin]);refine⟨(none,_),⟨Nat.le_refl _⟩,⟨⟨Reads.nil,trivial⟩⟩,?_⟩;(repeat refine zd ?_);trivial)|((first|refine⟨(),⟨H⟩,⟨rfl⟩,?_⟩|refine⟨_,⟨H⟩,⟨rfl⟩,?_⟩);(repeat refine zd ?_);trivial)|(replace H:=zw H;refine⟨(_,_),⟨H,Nat.lt_succ_self _⟩,⟨trivial⟩,?_⟩;(repeat refine zd ?_);trivial)|(replace H:=zw H;dsimp only[stp,sm] at H)|refine zd ?_):p:=h
theorem k75_ok:zp Tryz.prog k75:=by
 refine R.calmspec Tryz.func75 (nq9 Tryz.func75) rfl ?_;rintro⟨b,r⟩ hok q _ args hargs
 match args,hargs with
 |[_],hargs=>
 obtain⟨rfl,_⟩:=hargs;refine⟨envC [k138,k139] false [(75,12)],6,zi (z8 ⟨λ_=>k138_ok,nofun⟩ (z8 ⟨nofun,λ_=>k139_ok⟩ (zj))),rfl,(nM1 rfl),?_⟩;have H:zf (g75 b) (λa=>a=r):=⟨r,hok,rfl⟩;unfold g75 at H;clear hok;refine ob_sb H λs H t u w x e g=>?_;intro h i;obtain rfl:h=(z6 b).length:=i.trans (zq b).symm;refine R.cut_fam H 11 [] [] (λf=>[]) (λf=>[]) [] 0 (λH=>?_);refine And.intro ?_ ?_
 ·refine R.loop_fam (zN H) [3] [] (λ_ c=>[(4,.v (.int .i64 (c)))]) (λ_ c=>[]) 0 (λj H=>?_);refine⟨(j,_),⟨H⟩,⟨trivial⟩,?_⟩
  repeat refine zd ?_
  rintro⟨m0,c⟩ H _;obtain⟨y,hm0,H⟩:=zO H;dsimp only at hm0;subst hm0
  try dsimp only at H
  refine zb H ?_ ?_<;>intro z H
  ·refine ob_sl (Nat.le_trans (Nat.le_of_eq (zq b)) e) H λl H=>?_;have d:=sl_ei g rfl (Nat.le_trans (Nat.le_of_eq (zq b)) e) l;intro m n;obtain rfl:m=(((z6 b).drop c.toNat).take ((((z6 b).length:Nat):Int).toNat-c.toNat)).length:=n.trans d.2.1.symm;obtain⟨o,p,H⟩:=za H;refine⟨((((z6 b).drop c.toNat).take ((((z6 b).length:Nat):Int).toNat-c.toNat)),o),⟨p⟩,⟨trivial⟩,?_⟩;refine And.intro ⟨rfl,(Nat.le_trans (Nat.le_of_eq d.2.1) d.2.2),ei_len.trans ((show _=_ from rfl).trans (Nat.mul_one _).symm),d.1⟩ ?_;exact zB
  exact zg
 intro f H;exact zk
noncomputable def g133(b:List Int):Option (List Int×List Int):= jn (α:=_) (β:=List Int×List Int) (λf=>(y7 (σ:=List Int×List Int×Int) (ρ:=List Int×List Int) (λa=>if a.2.2<((b.length:Nat):Int) then(ck (0≤a.2.2∧a.2.2≤((b.length:Nat):Int)∧((b.length:Nat):Int)≤((b.length:Nat):Int))<|(g129 ((b.drop a.2.2.toNat).take (((b.length:Nat):Int).toNat-a.2.2.toNat))).bind λc=>if c.2.2=true then(ck ((a.1.length+1)*4≤140737488355328)<|ck ((a.2.1.length+1)*8≤140737488355328)<|ck (inR .i64 (a.2.2+1))<|some (.go ((a.1++[65533]),(a.2.1++[a.2.2]),a.2.2+1)))else(ck ((a.1.length+1)*4≤140737488355328)<|ck ((a.2.1.length+1)*8≤140737488355328)<|ck (inR .i64 (a.2.2+c.2.1))<|some (.go ((a.1++[c.1]),(a.2.1++[a.2.2]),a.2.2+c.2.1))))else some (.out (a.1,a.2.1))) ([],[],0)).bind λd=>f (d.1,d.2)) (λe=>some (e.1,e.2))
noncomputable def k133:Eng.CS:={ f:=133,calm:=false,more:=2,ι:=(List Int)×(List Int×List Int),ok:=λi=>g133 i.1=some i.2,rds:=λ_=>[],args:=λi=>[.sl 1 i.1.length (ei .u8 i.1)],res:=λi=>.tup [.own 0,.own 1],L':=λi=>[(0,.arr 21 1 i.2.1.length (ei .i32 i.2.1)),(1,.arr 3 1 i.2.2.length (ei .i64 i.2.2))],rn:=[(0,0,21,1),(1,0,3,1)] }
theorem k133_ok:CSOk Tryz.prog k133:=by
 refine R.cspec Tryz.func133 (nq9 Tryz.func133) rfl ?_;rintro⟨e,r⟩ hok q _ args hargs
 match args,hargs with
 |[_],hargs=>
 obtain⟨⟨L,M,rfl,l,_,n⟩,_⟩:=hargs;refine⟨envC [k129] false [(133,10)],6,zi (z8 ⟨λ_=>k129_ok,nofun⟩ (zj)),?_⟩;have H:zf (g133 e) (λa=>a=r):=⟨r,hok,rfl⟩;unfold g133 at H;clear hok;refine R.cut_fam H 17 [] [] (λc=>[(4,.own 17),(5,.own 18)]) (λc=>[(17,.arr 21 1 (c.1.length) (ei .i32 (c.1))),(18,.arr 3 1 (c.2.length) (ei .i64 (c.2)))]) [] 2 (λH=>?_);refine And.intro ?_ ?_
 ·refine R.loop_fam (zN H) [0] [(4,0,21,1),(5,0,3,1)] (λ_ b=>[(4,.own 7),(5,.own 8),(6,.v (.int .i64 (b.2.2)))]) (λ_ b=>[(7,.arr 21 1 (b.1.length) (ei .i32 (b.1))),(8,.arr 3 1 (b.2.1.length) (ei .i64 (b.2.1)))]) 2 (λo H=>?_);refine⟨(o,_),⟨H⟩,⟨trivial⟩,?_⟩
  repeat refine zd ?_
  rintro⟨m0,b⟩ H _;obtain⟨m,hm0,H⟩:=zO H;dsimp only at hm0;subst hm0
  try dsimp only at H
  refine zb H ?_ ?_<;>intro N H
  ·refine ob_sl l H λp H=>?_;have f:=sl_ei n rfl l p;intro s t;obtain rfl:s=((e.drop b.2.2.toNat).take (((e.length:Nat):Int).toNat-b.2.2.toNat)).length:=t.trans f.2.1.symm;obtain⟨d,u,H⟩:=za H;refine⟨(((e.drop b.2.2.toNat).take (((e.length:Nat):Int).toNat-b.2.2.toNat)),d),⟨u⟩,⟨trivial⟩,?_⟩;refine And.intro ⟨rfl,(Nat.le_trans (Nat.le_of_eq f.2.1) f.2.2),ei_len.trans ((show _=_ from rfl).trans (Nat.mul_one _).symm),f.1⟩ ?_;refine zb H ?_ ?_<;>intro O H
   ·refine xq ww wt H λP H=>?_;intro w x z g;obtain rfl:w=(b.1++[65533]).length:=z.trans wy;obtain rfl:x=ei .i32 (b.1++[65533]):=by first|exact g.trans (ei_app (xs:=b.1) (ys:=([65533]))).symm|(rw[g,ei_vw];first|exact ei_app.symm|exact(ei_app (xs:=b.1)).symm)|(rw[g];simp[ei,eb,es,ec])
    refine xq ww wt H λQ H=>?_;intro A B C h;obtain rfl:A=(b.2.1++[b.2.2]).length:=C.trans wy;obtain rfl:B=ei .i64 (b.2.1++[b.2.2]):=by first|exact h.trans (ei_app (xs:=b.2.1) (ys:=([b.2.2]))).symm|(rw[h,ei_vw];first|exact ei_app.symm|exact(ei_app (xs:=b.2.1)).symm)|(rw[h];simp[ei,eb,es,ec])
    refine zr H λT H=>?_;replace H:=zw H;refine⟨(m,((b.1++[65533]),(b.2.1++[b.2.2]),b.2.2+1)),⟨H,Nat.lt_succ_self _⟩,⟨trivial⟩,⟨rfl⟩,?_⟩
    repeat refine zd ?_
    trivial
   refine xq ww wt H λU H=>?_;intro D E F i;obtain rfl:D=(b.1++[d.1]).length:=F.trans wy;obtain rfl:E=ei .i32 (b.1++[d.1]):=by first|exact i.trans (ei_app (xs:=b.1) (ys:=([d.1]))).symm|(rw[i,ei_vw];first|exact ei_app.symm|exact(ei_app (xs:=b.1)).symm)|(rw[i];simp[ei,eb,es,ec])
   refine xq ww wt H λV H=>?_;intro G I J j;obtain rfl:G=(b.2.1++[b.2.2]).length:=J.trans wy;obtain rfl:I=ei .i64 (b.2.1++[b.2.2]):=by first|exact j.trans (ei_app (xs:=b.2.1) (ys:=([b.2.2]))).symm|(rw[j,ei_vw];first|exact ei_app.symm|exact(ei_app (xs:=b.2.1)).symm)|(rw[j];simp[ei,eb,es,ec])
   refine zr H λW H=>?_;replace H:=zw H;refine⟨(m,((b.1++[d.1]),(b.2.1++[b.2.2]),b.2.2+d.2.1)),⟨H,Nat.lt_succ_self _⟩,⟨trivial⟩,⟨rfl⟩,?_⟩
   repeat refine zd ?_
   trivial
  replace H:=zw H;dsimp only[stp,sm] at H;refine⟨(b.1,b.2.1),⟨H⟩,⟨rfl⟩,?_⟩
  repeat refine zd ?_
  trivial
 intro c H;have hfin:=zo H
 repeat refine xQ ?_
 trivial
noncomputable def g69(e:List Int):Option (ByteArray):= (g133 e).bind λb=>jn (α:=_) (β:=List Int) (λf=>(y7 (σ:=List Int×Int) (ρ:=List Int) (λa=>if a.2<((b.1.length:Nat):Int) then(ck (0≤a.2∧a.2<((b.1.length:Nat):Int))<|(g130 (b.1.getD a.2.toNat 0)).bind λc=>ck ((a.1.length+c.length)*1≤140737488355328)<|ck (inR .i64 (a.2+1))<|some (.go ((a.1++c),a.2+1)))else some (.out a.1)) ([],0)).bind λg=>f g) (λd=>ck (zx d)<|some (zW d))
noncomputable def k69:Eng.CS:={ f:=69,calm:=true,more:=0,ι:=(List Int)×ByteArray,ok:=λi=>g69 i.1=some i.2,rds:=λ_=>[],args:=λi=>[.sl 1 i.1.length (ei .u8 i.1)],res:=λi=>.v (.string (i.2)) }
theorem k69_ok:zp Tryz.prog k69:=by
 refine R.calmspec Tryz.func69 (nq9 Tryz.func69) rfl ?_;rintro⟨i,r⟩ hok q _ args hargs
 match args,hargs with
 |[_],hargs=>
 obtain⟨⟨w,x,rfl,j,_,m⟩,_⟩:=hargs;refine⟨envC [k130,k133] false [(69,7)],6,zi (z8 ⟨nofun,λ_=>k130_ok⟩ (z8 ⟨nofun,λ_=>k133_ok⟩ (zj))),rfl,(nM1 rfl),?_⟩;have H:zf (g69 i) (λa=>a=r):=⟨r,hok,rfl⟩;unfold g69 at H;clear hok;obtain⟨c,n,H⟩:=za H;refine⟨(i,c),⟨n⟩,⟨trivial⟩,?_⟩;refine And.intro ⟨rfl,j,ei_len.trans ((show _=_ from rfl).trans (Nat.mul_one _).symm),m⟩ ?_;refine R.cut_fam H 21 [] [] (λd=>[(3,.own 21)]) (λd=>[(21,.arr 5 1 (d.length) (ei .u8 (d)))]) [(9,.arr 21 1 (c.1.length) (ei .i32 (c.1))),(10,.arr 3 1 (c.2.length) (ei .i64 (c.2)))] 1 (λH=>?_);refine And.intro ?_ ?_
 ·refine R.loop_fam (zN H) [4] [(3,0,5,1)] (λ_ b=>[(3,.own 13),(6,.v (.int .i64 (b.2)))]) (λ_ b=>[(13,.arr 5 1 (b.1.length) (ei .u8 (b.1)))]) 1 (λo H=>?_);refine⟨(o,_),⟨H⟩,⟨trivial⟩,?_⟩
  repeat refine zd ?_
  rintro⟨m0,b⟩ H _;obtain⟨z,hm0,H⟩:=zO H;dsimp only at hm0;subst hm0
  try dsimp only at H
  refine zb H ?_ ?_<;>intro A H
  ·refine zr H λg H=>?_;refine yu (e:=c.1.getD b.2.toNat 0) (own_get (ys:=ei .i32 c.1) wO (xB (l:=c.1) wP)) ?_;obtain⟨f,p,H⟩:=za H;refine⟨(c.1.getD b.2.toNat 0,f),⟨p⟩,⟨trivial⟩,?_⟩;refine⟨⟨rfl⟩,?_⟩;refine xq ww wt H λB H=>?_;intro s t u h;obtain rfl:s=(b.1++f).length:=u.trans wy;obtain rfl:t=ei .u8 (b.1++f):=by first|exact h.trans (ei_app (xs:=b.1) (ys:=f)).symm|(rw[h,ei_vw];first|exact ei_app.symm|exact(ei_app (xs:=b.1)).symm)|(rw[h];simp[ei,eb,es,ec])
   exact zg
  exact zg
 intro d H;refine yI (l:=d) H λC H=>?_;exact zk
noncomputable def g68(a:(Int×ByteArray×Int×Bool×Bool×Bool)):Option (Bool):= if ¬(a.2.2.2.1=true) then(if ¬(a.2.2.2.2.1=true) then some (decide (¬(a.2.2.2.2.2=true)))else some false)else some false
noncomputable def k68:Eng.CS:={ f:=68,calm:=true,more:=0,ι:=(Int×ByteArray×Int×Bool×Bool×Bool)×Bool,ok:=λi=>g68 i.1=some i.2,rds:=λ_=>[],args:=λi=>[.w (.agg [.v (.int .i64 (i.1.1)),.v (.string (i.1.2.1)),.v (.int .i64 (i.1.2.2.1)),bS i.1.2.2.2.1,bS i.1.2.2.2.2.1,bS i.1.2.2.2.2.2])],res:=λi=>bS i.2 }
theorem k68_ok:zp Tryz.prog k68:=by
 refine R.calmspec Tryz.func68 (nq9 Tryz.func68) rfl ?_;rintro⟨b,r⟩ hok q _ args hargs
 match args,hargs with
 |[_],hargs=>
 obtain⟨rfl,_⟩:=hargs;refine⟨envC [] false [],6,zi (zj),rfl,(nM1 rfl),?_⟩;have H:zf (g68 b) (λa=>a=r):=⟨r,hok,rfl⟩;unfold g68 at H;clear hok;exact zk
noncomputable def g131(a:(Int×ByteArray×Int×Bool×Bool×Bool)):Option (Bool):= if a.2.1.data.toList=(lit []).data.toList then some (decide (a.2.2.1=0))else some false
noncomputable def k131:Eng.CS:={ f:=131,calm:=true,more:=0,ι:=(Int×ByteArray×Int×Bool×Bool×Bool)×Bool,ok:=λi=>g131 i.1=some i.2,rds:=λ_=>[],args:=λi=>[.w (.agg [.v (.int .i64 (i.1.1)),.v (.string (i.1.2.1)),.v (.int .i64 (i.1.2.2.1)),bS i.1.2.2.2.1,bS i.1.2.2.2.2.1,bS i.1.2.2.2.2.2])],res:=λi=>bS i.2 }
theorem k131_ok:zp Tryz.prog k131:=by
 refine R.calmspec Tryz.func131 (nq9 Tryz.func131) rfl ?_;rintro⟨b,r⟩ hok q _ args hargs
 match args,hargs with
 |[_],hargs=>
 obtain⟨rfl,_⟩:=hargs;refine⟨envC [] false [],6,zi (zj),rfl,(nM1 rfl),?_⟩;have H:zf (g131 b) (λa=>a=r):=⟨r,hok,rfl⟩;unfold g131 at H;clear hok;exact zk
noncomputable def g132(a:Int):Option (List Int):= jn (α:=_) (β:=Bool) (λk36=>if a=104 then k36 true else(if a=105 then k36 true else(if a=106 then k36 true else k36 (decide (a=109))))) (λc=>if c=true then some ([]:List Int)else(jn (α:=_) (β:=Bool) (λb=>if 97≤a then b (decide (a≤122))else b false) (λd=>if d=true then(ck (inR .u8 (a-96))<|some ([a-96]))else(if 92≤a then(if a≤95 then(ck (inR .u8 (a-64))<|some ([a-64]))else(if a=64 then(ck (inR .u8 (a-64))<|some ([a-64]))else some ([]:List Int)))else(if a=64 then(ck (inR .u8 (a-64))<|some ([a-64]))else some ([]:List Int))))))
noncomputable def k132:Eng.CS:={ f:=132,calm:=false,more:=0,ι:=Int×List Int,ok:=λi=>g132 i.1=some i.2,rds:=λ_=>[],args:=λi=>[.w (.v (.int .u8 (i.1)))],res:=λ_=>.bad,rn:=[],gr:=true,γ:=(Option Addr×Nat),resG:=λi g=>.v (.slice g.1 i.2.length g.2),LG:=λi g=>[],okG:=λi g=>i.2.length≤g.2,rdsG:=λi g=>[(g.1,ei .u8 i.2)],fzr:=[(0,0)] }
theorem k132_ok:CSOk Tryz.prog k132:=by
 refine R.cspecG Tryz.func132 (nq9 Tryz.func132) rfl rfl (λ_=>rfl) ?_;rintro⟨b,r⟩ hok q hrds args hargs;dsimp only[k132] at hargs ⊢
 match args,hargs with
 |[_],hargs=>
 obtain⟨rfl,_⟩:=hargs;refine⟨envC [] false [(132,2),(132,4)],6,zi (zj),?_⟩;have H:zf (g132 b) (λa=>a=r):=⟨r,hok,rfl⟩;unfold g132 at H;clear hok;refine R.cut_fam H 17 [0] [] (λc=>[(3,bS c)]) (λc=>[]) [] 0 (λH=>?_);refine And.intro ?_ ?_
 ·exact zg
 intro c H;refine zb H ?_ ?_<;>intro B H
 ·exact zg
 refine R.cut_fam H 25 [0] [] (λd=>[(18,bS d)]) (λd=>[]) [] 0 (λH=>?_);refine And.intro ?_ ?_
 ·exact zg
 intro d H;refine zb H ?_ ?_<;>intro C H
 ·refine zr H λD H=>?_;intro o e c49 E u f;replace f:Reads o e (ei .u8 ([b-96])):=Eq.mp (congrArg (Reads o e) wu) f;have hfin:=zo H
  first|subst hfin|rw[←hfin]
  refine⟨(e,c49),⟨(Nat.le_trans (Nat.le_of_eq (show _=_ from(show([b-96]).length=1 from by first|rfl|(simp;done)|(simp;omega)))) u)⟩,⟨⟨f,trivial⟩⟩,?_⟩
  repeat (first|refine And.intro (Ob.mk (by first|exact congrArg (λm=>Value.slice _ m _) (show _=_ from(show([b-96]).length=1 from by first|rfl|(simp;done)|(simp;omega))))) ?_|refine zd ?_)
  trivial
 refine zb H ?_ ?_<;>intro F H
 ·refine zb H ?_ ?_<;>intro G H
  ·refine zr H λI H=>?_;intro p g v J w h;replace h:Reads p g (ei .u8 ([b-64])):=Eq.mp (congrArg (Reads p g) wu) h;have hfin:=zo H
   first|subst hfin|rw[←hfin]
   refine⟨(g,v),⟨(Nat.le_trans (Nat.le_of_eq (show _=_ from(show([b-64]).length=1 from by first|rfl|(simp;done)|(simp;omega)))) w)⟩,⟨⟨h,trivial⟩⟩,?_⟩
   repeat (first|refine And.intro (Ob.mk wA) ?_|refine zd ?_)
   trivial
  refine zb H ?_ ?_<;>intro L H
  ·refine zr H λM H=>?_;intro s i x N y j;replace j:Reads s i (ei .u8 ([b-64])):=Eq.mp (congrArg (Reads s i) wu) j;have hfin:=zo H
   first|subst hfin|rw[←hfin]
   refine⟨(i,x),⟨(Nat.le_trans (Nat.le_of_eq (show _=_ from(show([b-64]).length=1 from by first|rfl|(simp;done)|(simp;omega)))) y)⟩,⟨⟨j,trivial⟩⟩,?_⟩
   repeat (first|refine And.intro (Ob.mk wA) ?_|refine zd ?_)
   trivial
  exact zg
 refine zb H ?_ ?_<;>intro O H
 ·refine zr H λP H=>?_;intro t l z Q A n;replace n:Reads t l (ei .u8 ([b-64])):=Eq.mp (congrArg (Reads t l) wu) n;have hfin:=zo H
  first|subst hfin|rw[←hfin]
  refine⟨(l,z),⟨(Nat.le_trans (Nat.le_of_eq (show _=_ from(show([b-64]).length=1 from by first|rfl|(simp;done)|(simp;omega)))) A)⟩,⟨⟨n,trivial⟩⟩,?_⟩
  repeat (first|refine And.intro (Ob.mk wA) ?_|refine zd ?_)
  trivial
 exact zg
noncomputable def g67(a:(Int×ByteArray×Int×Bool×Bool×Bool)):Option (List Int):= if a.1=1 then(ck (a.2.1.size+(lit [0]).size≤9223372036854775807)<|ck ((a.2.1++(lit [0])).size≤140737488355328)<|(g129 (z6 (a.2.1++(lit [0])))).bind λc=>jn (α:=_) (β:=Bool) (λb=>if a.2.2.1=0 then(if ¬(c.2.2=true) then(if c.2.1=(a.2.1.size:Int) then(if 32≤c.1 then(if ¬c.1=127 then((g130 c.1).bind λd=>ck (zx d)<|b (decide ((zW d).data.toList=a.2.1.data.toList)))else b false)else b false)else b false)else b false)else b false) (λe=>if e=true then(ck (a.2.1.size≤140737488355328)<|some (z6 a.2.1))else some ([]:List Int)))else(if a.1=2 then((g131 (a.1,a.2.1,a.2.2.1,a.2.2.2.1,a.2.2.2.2.1,a.2.2.2.2.2)).bind λf=>if f=true then some ([13])else some ([]:List Int))else(if a.1=3 then((g131 (a.1,a.2.1,a.2.2.1,a.2.2.2.1,a.2.2.2.2.1,a.2.2.2.2.2)).bind λg=>if g=true then some ([9])else some ([]:List Int))else(if a.1=6 then((g131 (a.1,a.2.1,a.2.2.1,a.2.2.2.1,a.2.2.2.2.1,a.2.2.2.2.2)).bind λh=>if h=true then some ([127])else some ([]:List Int))else(if a.1=17 then(if a.2.2.1=0 then(if (a.2.1.size:Int)=1 then(ck (0≤(0:Int)∧0<(a.2.1.size:Int))<|(g132 ((a.2.1.data.toList[(0:Int).toNat]?.getD 0).toNat:Int)).bind λi=>some i)else some ([]:List Int))else some ([]:List Int))else some ([]:List Int)))))
noncomputable def k67:Eng.CS:={ f:=67,calm:=false,more:=0,ι:=(Int×ByteArray×Int×Bool×Bool×Bool)×List Int,ok:=λi=>g67 i.1=some i.2,rds:=λ_=>[],args:=λi=>[.w (.agg [.v (.int .i64 (i.1.1)),.v (.string (i.1.2.1)),.v (.int .i64 (i.1.2.2.1)),bS i.1.2.2.2.1,bS i.1.2.2.2.2.1,bS i.1.2.2.2.2.2])],res:=λ_=>.bad,rn:=[],gr:=true,γ:=(Option Addr×Nat),resG:=λi g=>.v (.slice g.1 i.2.length g.2),LG:=λi g=>[],okG:=λi g=>i.2.length≤g.2,rdsG:=λi g=>[(g.1,ei .u8 i.2)],fzr:=[(0,0)] }
theorem k67_ok:CSOk Tryz.prog k67:=by
 refine R.cspecG Tryz.func67 (nq9 Tryz.func67) rfl rfl (λ_=>rfl) ?_;rintro⟨b,r⟩ hok q hrds args hargs;dsimp only[k67] at hargs ⊢
 match args,hargs with
 |[_],hargs=>
 obtain⟨rfl,_⟩:=hargs;refine⟨envC [k129,k130,k131,k132] false [(67,5)],6,zi (z8 ⟨λ_=>k129_ok,nofun⟩ (z8 ⟨nofun,λ_=>k130_ok⟩ (z8 ⟨λ_=>k131_ok,nofun⟩ (z8 ⟨nofun,λ_=>k132_ok⟩ (zj))))),?_⟩;have H:zf (g67 b) (λa=>a=r):=⟨r,hok,rfl⟩;unfold g67 at H;clear hok;refine zb H ?_ ?_<;>intro a7 H
 ·refine zr H λa8 H=>?_;refine ob_sb H λa9 H aa ab ac ad x y=>?_;intro z A;obtain rfl:z=(z6 (b.2.1++(lit [0]))).length:=A.trans (zq (b.2.1++(lit [0]))).symm;obtain⟨n,B,H⟩:=za H;refine⟨(z6 (b.2.1++(lit [0])),n),⟨B⟩,⟨trivial⟩,?_⟩;refine And.intro ⟨rfl,(Nat.le_trans (Nat.le_of_eq (zq (b.2.1++(lit [0])))) x),ei_len.trans ((show _=_ from rfl).trans (Nat.mul_one _).symm),y⟩ ?_;refine R.cut_fam H 21 [1] [] (λc=>[(48,bS c)]) (λc=>[]) [(0,.cells 55 [.v (.int .i64 (b.1)),.v (.string (b.2.1)),.v (.int .i64 (b.2.2.1)),bS b.2.2.2.1,bS b.2.2.2.2.1,bS b.2.2.2.2.2])] 0 (λH=>?_);refine And.intro ?_ ?_
  ·refine And.intro ⟨by kernel_rfl⟩ ?_;refine⟨(Pn.calm 0 (Pn.calm 1 (Pn.calm 2 (Pn.calm 3 (Pn.calm 4 (Pn.calm 5 (Pn.calm 6 (Pn.calm 7 (Pn.calm 8 (Pn.calm 9 (Pn.calm 10 (Pn.calm 11 (Pn.calm 12 (Pn.calm 13 (Pn.calm 14 (Pn.calm 15 (Pn.calm 16 (Pn.calm 17 (Pn.calm 18 (Pn.calm 19 (Pn.calm 20 (Pn.calm 21 (Pn.calm 22 (Pn.calm 23 (Pn.calm 26 (Pn.calm 27 (Pn.eff 24 [23,22,21,18,20,17,14,19,16,13,7,15,12,6,3,8,11,5,2,10,4,1,9,0] (Pn.calm 25 (Pn.calm 28 (Pn.calm 29 Pn.done))) Pn.no))))))))))))))))))))))))))),⟨by kernel_rfl⟩,?_⟩;refine zb H ?_ ?_<;>intro ae H
   ·refine zb H ?_ ?_<;>intro af H
    ·refine zb H ?_ ?_<;>intro ag H
     ·refine zb H ?_ ?_<;>intro ah H
      ·refine zb H ?_ ?_<;>intro ai H
       ·refine And.intro ?_ trivial;obtain⟨o,C,H⟩:=za H;refine⟨(n.1,o),⟨C⟩,⟨trivial⟩,?_⟩;refine⟨⟨rfl⟩,?_⟩;refine And.intro ⟨λ_ _ _ h=>h⟩ ?_;refine yI (l:=o) H λaj H=>?_;exact zg
       refine And.intro ?_ trivial;exact zg
      refine And.intro ?_ trivial;exact zg
     refine And.intro ?_ trivial;exact zg
    refine And.intro ?_ trivial;exact zg
   refine And.intro ?_ trivial;exact zg
  intro c H;refine zb H ?_ ?_<;>intro al H
  ·refine ob_sb H λam H an D E ao F G=>?_;intro I J;obtain rfl:I=(z6 b.2.1).length:=J.trans (zq b.2.1).symm;have hfin:=zo H
   first|subst hfin|rw[←hfin]
   refine⟨(D,E),⟨(Nat.le_trans (Nat.le_of_eq (zq b.2.1)) F)⟩,⟨⟨G,trivial⟩⟩,?_⟩
   repeat refine zd ?_
   trivial
  exact zg
 refine zb H ?_ ?_<;>intro ap H
 ·obtain⟨L,M,H⟩:=za H;refine⟨((b.1,b.2.1,b.2.2.1,b.2.2.2.1,b.2.2.2.2.1,b.2.2.2.2.2),L),⟨M⟩,⟨trivial⟩,?_⟩
  iterate 6 refine zd ?_
  refine zb H ?_ ?_<;>intro aq H
  ·intro p d N ar O e;replace e:Reads p d (ei .u8 ([13])):=Eq.mp (congrArg (Reads p d) wu) e;have hfin:=zo H
   first|subst hfin|rw[←hfin]
   refine⟨(d,N),⟨(Nat.le_trans (Nat.le_of_eq (show _=_ from(show([13]).length=1 from by first|rfl|(simp;done)|(simp;omega)))) O)⟩,⟨⟨e,trivial⟩⟩,?_⟩
   repeat (first|refine And.intro (Ob.mk (by first|exact congrArg (λm=>Value.slice _ m _) (show _=_ from(show([13]).length=1 from by first|rfl|(simp;done)|(simp;omega))))) ?_|refine zd ?_)
   trivial
  exact zg
 refine zb H ?_ ?_<;>intro au H
 ·obtain⟨P,Q,H⟩:=za H;refine⟨((b.1,b.2.1,b.2.2.1,b.2.2.2.1,b.2.2.2.2.1,b.2.2.2.2.2),P),⟨Q⟩,⟨trivial⟩,?_⟩
  iterate 6 refine zd ?_
  refine zb H ?_ ?_<;>intro av H
  ·intro s f T aw U g;replace g:Reads s f (ei .u8 ([9])):=Eq.mp (congrArg (Reads s f) wu) g;have hfin:=zo H
   first|subst hfin|rw[←hfin]
   refine⟨(f,T),⟨(Nat.le_trans (Nat.le_of_eq (show _=_ from(show([9]).length=1 from by first|rfl|(simp;done)|(simp;omega)))) U)⟩,⟨⟨g,trivial⟩⟩,?_⟩
   repeat (first|refine And.intro (Ob.mk (by first|exact congrArg (λm=>Value.slice _ m _) (show _=_ from(show([9]).length=1 from by first|rfl|(simp;done)|(simp;omega))))) ?_|refine zd ?_)
   trivial
  exact zg
 refine zb H ?_ ?_<;>intro ax H
 ·obtain⟨V,W,H⟩:=za H;refine⟨((b.1,b.2.1,b.2.2.1,b.2.2.2.1,b.2.2.2.2.1,b.2.2.2.2.2),V),⟨W⟩,⟨trivial⟩,?_⟩
  iterate 6 refine zd ?_
  refine zb H ?_ ?_<;>intro ay H
  ·intro t i X az Y j;replace j:Reads t i (ei .u8 ([127])):=Eq.mp (congrArg (Reads t i) wu) j;have hfin:=zo H
   first|subst hfin|rw[←hfin]
   refine⟨(i,X),⟨(Nat.le_trans (Nat.le_of_eq (show _=_ from(show([127]).length=1 from by first|rfl|(simp;done)|(simp;omega)))) Y)⟩,⟨⟨j,trivial⟩⟩,?_⟩
   repeat (first|refine And.intro (Ob.mk (by first|exact congrArg (λm=>Value.slice _ m _) (show _=_ from(show([127]).length=1 from by first|rfl|(simp;done)|(simp;omega))))) ?_|refine zd ?_)
   trivial
  exact zg
 refine zb H ?_ ?_<;>intro aA H
 ·refine zb H ?_ ?_<;>intro aB H
  ·refine zb H ?_ ?_<;>intro aC H
   ·refine zr H λaD H=>?_;obtain⟨Z,a1,H⟩:=za H;refine⟨(((b.2.1.data.toList[(0:Int).toNat]?.getD 0).toNat:Int),Z),⟨a1⟩,⟨trivial⟩,?_⟩;refine⟨⟨rfl⟩,?_⟩;intro aE a2 aF a3 a4;obtain⟨a5,a6⟩:=a2;have u:=a3;obtain⟨w,_⟩:=a4
    try dsimp only at u w
    have hfin:=zo H
    first|subst hfin|rw[←hfin]
    refine⟨(a5,a6),⟨u⟩,⟨⟨w,trivial⟩⟩,?_⟩
    repeat refine zd ?_
    trivial
   exact zg
  exact zg
 exact zg
noncomputable def g134(a:Int):Option (Int):= if a=8 then some 65 else(if a=9 then some 66 else(if a=11 then some 67 else(if a=10 then some 68 else(if a=12 then some 72 else(if a=13 then some 70 else some 0)))))
noncomputable def k134:Eng.CS:={ f:=134,calm:=true,more:=0,ι:=Int×Int,ok:=λi=>g134 i.1=some i.2,rds:=λ_=>[],args:=λi=>[.w (.v (.int .i64 (i.1)))],res:=λi=>.v (.int .u8 (i.2)) }
theorem k134_ok:zp Tryz.prog k134:=by
 refine R.calmspec Tryz.func134 (nq9 Tryz.func134) rfl ?_;rintro⟨b,r⟩ hok q _ args hargs
 match args,hargs with
 |[_],hargs=>
 obtain⟨rfl,_⟩:=hargs;refine⟨envC [] false [],6,zi (zj),rfl,(nM1 rfl),?_⟩;have H:zf (g134 b) (λa=>a=r):=⟨r,hok,rfl⟩;unfold g134 at H;clear hok;exact zk
noncomputable def g135(a:(Int×ByteArray×Int×Bool×Bool×Bool)):Option (Int):= jn (α:=_) (β:=Bool) (λb=>if a.1=18 then(if 1≤a.2.2.1 then b (decide (a.2.2.1≤5))else b false)else b false) (λe=>if e=true then(ck (inR .i64 (10+a.2.2.1))<|some (10+a.2.2.1))else(jn (α:=_) (β:=Bool) (λc=>if a.1=18 then(if 6≤a.2.2.1 then c (decide (a.2.2.1≤10))else c false)else c false) (λf=>if f=true then(ck (inR .i64 (11+a.2.2.1))<|some (11+a.2.2.1))else(jn (α:=_) (β:=Bool) (λd=>if a.1=18 then(if a.2.2.1=11 then d true else d (decide (a.2.2.1=12)))else d false) (λg=>if g=true then(ck (inR .i64 (12+a.2.2.1))<|some (12+a.2.2.1))else(if ¬a.2.2.1=0 then some 0 else(if a.1=7 then some 3 else(if a.1=14 then some 5 else(if a.1=15 then some 6 else some 0)))))))))
noncomputable def k135:Eng.CS:={ f:=135,calm:=true,more:=0,ι:=(Int×ByteArray×Int×Bool×Bool×Bool)×Int,ok:=λi=>g135 i.1=some i.2,rds:=λ_=>[],args:=λi=>[.w (.agg [.v (.int .i64 (i.1.1)),.v (.string (i.1.2.1)),.v (.int .i64 (i.1.2.2.1)),bS i.1.2.2.2.1,bS i.1.2.2.2.2.1,bS i.1.2.2.2.2.2])],res:=λi=>.v (.int .i64 (i.2)) }
theorem k135_ok:zp Tryz.prog k135:=by
 refine R.calmspec Tryz.func135 (nq9 Tryz.func135) rfl ?_;rintro⟨b,r⟩ hok q _ args hargs
 match args,hargs with
 |[_],hargs=>
 obtain⟨rfl,_⟩:=hargs;refine⟨envC [] false [(135,2),(135,4),(135,6)],6,zi (zj),rfl,(nM1 rfl),?_⟩;have H:zf (g135 b) (λa=>a=r):=⟨r,hok,rfl⟩;unfold g135 at H;clear hok;refine R.cut_fam H 17 [1] [] (λc=>[(3,bS c)]) (λc=>[]) [(0,.cells 55 [.v (.int .i64 (b.1)),.v (.string (b.2.1)),.v (.int .i64 (b.2.2.1)),bS b.2.2.2.1,bS b.2.2.2.2.1,bS b.2.2.2.2.2])] 0 (λH=>?_);refine And.intro ?_ ?_
 ·exact zg
 intro c H;refine zb H ?_ ?_<;>intro f H
 ·exact zk
 refine R.cut_fam H 32 [1] [] (λd=>[(20,bS d)]) (λd=>[]) [(0,.cells 55 [.v (.int .i64 (b.1)),.v (.string (b.2.1)),.v (.int .i64 (b.2.2.1)),bS b.2.2.2.1,bS b.2.2.2.2.1,bS b.2.2.2.2.2])] 0 (λH=>?_);refine And.intro ?_ ?_
 ·exact zg
 intro d H;refine zb H ?_ ?_<;>intro g H
 ·exact zk
 refine R.cut_fam H 47 [1] [] (λe=>[(37,bS e)]) (λe=>[]) [(0,.cells 55 [.v (.int .i64 (b.1)),.v (.string (b.2.1)),.v (.int .i64 (b.2.2.1)),bS b.2.2.2.1,bS b.2.2.2.2.1,bS b.2.2.2.2.2])] 0 (λH=>?_);refine And.intro ?_ ?_
 ·exact zg
 intro e H;exact zk
noncomputable def g136(b:(Int×ByteArray×Int×Bool×Bool×Bool)):Option (ByteArray):= jn (α:=_) (β:=Int) (λk6=>if b.2.2.2.2.1=true then(ck (inR .i64 (1+1))<|k6 (1+1))else k6 1) (λa=>if b.2.2.2.1=true then(ck (inR .i64 (a+2))<|if b.2.2.2.2.2=true then(ck (inR .i64 ((a+2)+4))<|(g55 ((a+2)+4)).bind λc=>some c)else((g55 (a+2)).bind λd=>some d))else(if b.2.2.2.2.2=true then(ck (inR .i64 (a+4))<|(g55 (a+4)).bind λe=>some e)else((g55 a).bind λf=>some f)))
noncomputable def k136:Eng.CS:={ f:=136,calm:=true,more:=0,ι:=(Int×ByteArray×Int×Bool×Bool×Bool)×ByteArray,ok:=λi=>g136 i.1=some i.2,rds:=λ_=>[],args:=λi=>[.w (.agg [.v (.int .i64 (i.1.1)),.v (.string (i.1.2.1)),.v (.int .i64 (i.1.2.2.1)),bS i.1.2.2.2.1,bS i.1.2.2.2.2.1,bS i.1.2.2.2.2.2])],res:=λi=>.v (.string (i.2)) }
theorem k136_ok:zp Tryz.prog k136:=by
 refine R.calmspec Tryz.func136 (nq9 Tryz.func136) rfl ?_;rintro⟨b,r⟩ hok q _ args hargs
 match args,hargs with
 |[_],hargs=>
 obtain⟨rfl,_⟩:=hargs;refine⟨envC [k55] false [(136,4)],6,zi (z8 ⟨λ_=>k55_ok,nofun⟩ (zj)),rfl,(nM1 rfl),?_⟩;have H:zf (g136 b) (λa=>a=r):=⟨r,hok,rfl⟩;unfold g136 at H;clear hok;refine R.cut_fam H 9 [1] [] (λc=>[(3,.v (.int .i64 (c)))]) (λc=>[]) [(0,.cells 55 [.v (.int .i64 (b.1)),.v (.string (b.2.1)),.v (.int .i64 (b.2.2.1)),bS b.2.2.2.1,bS b.2.2.2.2.1,bS b.2.2.2.2.2])] 0 (λH=>?_);refine And.intro ?_ ?_
 ·exact zg
 intro c H;exact zk
noncomputable def g71(a:(Int×ByteArray×Int×Bool×Bool×Bool)):Option (ByteArray):= (g134 a.1).bind λb=>(g135 (a.1,a.2.1,a.2.2.1,a.2.2.2.1,a.2.2.2.2.1,a.2.2.2.2.2)).bind λd=>if ¬(a.2.1.data.toList=(lit []).data.toList) then some (lit [])else(jn (α:=_) (β:=Bool) (λe=>if ¬b=0 then(if a.2.2.1=0 then((g68 (a.1,a.2.1,a.2.2.1,a.2.2.2.1,a.2.2.2.2.1,a.2.2.2.2.2)).bind λj=>e j)else e false)else e false) (λl=>if l=true then(ck (zx ([b]))<|ck ((lit [27,91]).size+(zW ([b])).size≤9223372036854775807)<|some ((lit [27,91])++(zW ([b]))))else(jn (α:=_) (β:=Bool) (λi=>if ¬b=0 then i (decide (a.2.2.1=0))else i false) (λm=>if m=true then((g136 (a.1,a.2.1,a.2.2.1,a.2.2.2.1,a.2.2.2.2.1,a.2.2.2.2.2)).bind λf=>ck ((lit [27,91,49,59]).size+f.size≤9223372036854775807)<|ck (zx ([b]))<|ck (((lit [27,91,49,59])++f).size+(zW ([b])).size≤9223372036854775807)<|some (((lit [27,91,49,59])++f)++(zW ([b]))))else(jn (α:=_) (β:=Bool) (λk122=>if ¬d=0 then((g68 (a.1,a.2.1,a.2.2.1,a.2.2.2.1,a.2.2.2.2.1,a.2.2.2.2.2)).bind λn=>k122 n)else k122 false) (λo=>if o=true then((g55 d).bind λg=>ck ((lit [27,91]).size+g.size≤9223372036854775807)<|ck (((lit [27,91])++g).size+(lit [126]).size≤9223372036854775807)<|some (((lit [27,91])++g)++(lit [126])))else(if ¬d=0 then((g55 d).bind λc=>ck ((lit [27,91]).size+c.size≤9223372036854775807)<|ck (((lit [27,91])++c).size+(lit [59]).size≤9223372036854775807)<|(g136 (a.1,a.2.1,a.2.2.1,a.2.2.2.1,a.2.2.2.2.1,a.2.2.2.2.2)).bind λh=>ck ((((lit [27,91])++c)++(lit [59])).size+h.size≤9223372036854775807)<|ck (((((lit [27,91])++c)++(lit [59]))++h).size+(lit [126]).size≤9223372036854775807)<|some (((((lit [27,91])++c)++(lit [59]))++h)++(lit [126])))else(if a.1=4 then(if a.2.2.1=0 then((g68 (a.1,a.2.1,a.2.2.1,a.2.2.2.1,a.2.2.2.2.1,a.2.2.2.2.2)).bind λp=>if p=true then some (lit [27,91,90])else some (lit []))else some (lit []))else some (lit [])))))))))
noncomputable def k71:Eng.CS:={ f:=71,calm:=true,more:=0,ι:=(Int×ByteArray×Int×Bool×Bool×Bool)×ByteArray,ok:=λi=>g71 i.1=some i.2,rds:=λ_=>[],args:=λi=>[.w (.agg [.v (.int .i64 (i.1.1)),.v (.string (i.1.2.1)),.v (.int .i64 (i.1.2.2.1)),bS i.1.2.2.2.1,bS i.1.2.2.2.2.1,bS i.1.2.2.2.2.2])],res:=λi=>.v (.string (i.2)) }
theorem k71_ok:zp Tryz.prog k71:=by
 refine R.calmspec Tryz.func71 (nq9 Tryz.func71) rfl ?_;rintro⟨b,r⟩ hok q _ args hargs
 match args,hargs with
 |[_],hargs=>
 obtain⟨rfl,_⟩:=hargs;refine⟨envC [k55,k68,k134,k135,k136] false [(71,5),(71,7),(71,9)],6,zi (z8 ⟨λ_=>k55_ok,nofun⟩ (z8 ⟨λ_=>k68_ok,nofun⟩ (z8 ⟨λ_=>k134_ok,nofun⟩ (z8 ⟨λ_=>k135_ok,nofun⟩ (z8 ⟨λ_=>k136_ok,nofun⟩ (zj)))))),rfl,(nM1 rfl),?_⟩;have H:zf (g71 b) (λa=>a=r):=⟨r,hok,rfl⟩;unfold g71 at H;clear hok;refine And.intro ⟨by kernel_rfl⟩ ?_;obtain⟨c,g,H⟩:=za H;refine⟨(b.1,c),⟨g⟩,⟨trivial⟩,?_⟩;refine⟨⟨rfl⟩,?_⟩;obtain⟨i,j,H⟩:=za H;refine⟨((b.1,b.2.1,b.2.2.1,b.2.2.2.1,b.2.2.2.2.1,b.2.2.2.2.2),i),⟨j⟩,⟨trivial⟩,?_⟩
 iterate 6 refine zd ?_
 refine zb H ?_ ?_<;>intro o H
 ·exact zk
 refine R.cut_fam H 26 [1,3,4] [] (λd=>[(14,bS d)]) (λd=>[]) [(0,.cells 55 [.v (.int .i64 (b.1)),.v (.string (b.2.1)),.v (.int .i64 (b.2.2.1)),bS b.2.2.2.1,bS b.2.2.2.2.1,bS b.2.2.2.2.2])] 0 (λH=>?_);refine And.intro ?_ ?_
 ·exact zg
 intro d H;refine zb H ?_ ?_<;>intro p H
 ·refine yI (l:=[c]) H λs H=>?_;exact zk
 refine R.cut_fam H 35 [1,3,4] [] (λe=>[(30,bS e)]) (λe=>[]) [(0,.cells 55 [.v (.int .i64 (b.1)),.v (.string (b.2.1)),.v (.int .i64 (b.2.2.1)),bS b.2.2.2.1,bS b.2.2.2.2.1,bS b.2.2.2.2.2])] 0 (λH=>?_);refine And.intro ?_ ?_
 ·exact zg
 intro e H;refine zb H ?_ ?_<;>intro t H
 ·refine And.intro ⟨by kernel_rfl⟩ ?_;refine⟨(Pn.calm 0 (Pn.calm 1 (Pn.calm 2 (Pn.calm 3 (Pn.eff 4 [3] (Pn.calm 5 (Pn.calm 6 (Pn.calm 7 Pn.done))) Pn.no))))),⟨by kernel_rfl⟩,?_⟩;obtain⟨m,n,H⟩:=za H;refine⟨((b.1,b.2.1,b.2.2.1,b.2.2.2.1,b.2.2.2.2.1,b.2.2.2.2.2),m),⟨n⟩,⟨trivial⟩,?_⟩
  iterate 6 refine zd ?_
  refine zr H λu H=>?_;refine And.intro ?_ trivial;refine And.intro ⟨λ_ _ _ h=>h⟩ ?_;refine yI (l:=[c]) H λw H=>?_;exact zk
 refine R.cut_fam H 43 [1,4] [] (λf=>[(45,bS f)]) (λf=>[]) [(0,.cells 55 [.v (.int .i64 (b.1)),.v (.string (b.2.1)),.v (.int .i64 (b.2.2.1)),bS b.2.2.2.1,bS b.2.2.2.2.1,bS b.2.2.2.2.2])] 0 (λH=>?_);refine And.intro ?_ ?_
 ·exact zg
 intro f H;refine zb H ?_ ?_<;>intro x H
 ·exact zk
 refine zb H ?_ ?_<;>intro y H
 ·refine And.intro ⟨by kernel_rfl⟩ ?_;exact zB
 exact zB
noncomputable def g70(b:ByteArray)(c:ByteArray):Option (Bool):= jn (α:=_) (β:=Unit) (λd=>(y7 (σ:=Int) (ρ:=(Unit) ⊕ (Unit)) (λa=>ck (inR .i64 (a+(b.size:Int)))<|if (a+(b.size:Int))≤(c.size:Int) then(ck (inR .i64 (a+(b.size:Int)))<|ck (0≤a∧a≤a+(b.size:Int)∧a+(b.size:Int)≤(c.size:Int))<|if (c.extract a.toNat (a+(b.size:Int)).toNat).data.toList=b.data.toList then some (.out (.inl (())))else(ck (inR .i64 (a+1))<|some (.go (a+1))))else some (.out (.inr (())))) 0).bind λe=>sm e (λf=>some true) (λg=>d ())) (λh=>some false)
noncomputable def k70:Eng.CS:={ f:=70,calm:=true,more:=0,ι:=ByteArray×ByteArray×Bool,ok:=λi=>g70 i.1 i.2.1=some i.2.2,rds:=λ_=>[],args:=λi=>[.w (.v (.string (i.1))),.w (.v (.string (i.2.1)))],res:=λi=>bS i.2.2 }
theorem k70_ok:zp Tryz.prog k70:=by
 refine R.calmspec Tryz.func70 (nq9 Tryz.func70) rfl ?_;rintro⟨d,e,r⟩ hok q _ args hargs
 match args,hargs with
 |[_,_],hargs=>
 obtain⟨rfl,rfl,_⟩:=hargs;refine⟨envC [] false [(70,6)],6,zi (zj),rfl,(nM2 rfl rfl),?_⟩;have H:zf (g70 d e) (λa=>a=r):=⟨r,hok,rfl⟩;unfold g70 at H;clear hok;refine R.cut_fam H 11 [] [] (λc=>[]) (λc=>[]) [] 0 (λH=>?_);refine And.intro ?_ ?_
 ·refine R.loop_fam (zN H) [0,1] [] (λ_ b=>[(5,.v (.int .i64 (b)))]) (λ_ b=>[]) 0 (λf H=>?_);refine⟨(f,_),⟨H⟩,⟨trivial⟩,?_⟩
  repeat refine zd ?_
  rintro⟨m0,b⟩ H _;obtain⟨g,hm0,H⟩:=zO H;dsimp only at hm0;subst hm0
  try dsimp only at H
  exact zB
 intro c H;exact zk
noncomputable def g37(a:(Int×ByteArray×Int×Bool×Bool×Bool)):Option (List Int×Int):= (g67 (a.1,a.2.1,a.2.2.1,a.2.2.2.1,a.2.2.2.2.1,a.2.2.2.2.2)).bind λb=>if 0<((b.length:Nat):Int) then(jn (α:=_) (β:=Bool) (λk63=>if a.2.2.2.2.1=true then k63 true else(if a.2.2.2.2.2=true then k63 true else(if a.2.2.2.1=true then(if a.1=1 then(if a.2.1.data.toList=(lit [91]).data.toList then k63 true else k63 (decide (a.2.1.data.toList=(lit [79]).data.toList)))else k63 false)else k63 false))) (λd=>if d=true then some (([]:List Int),290)else(if a.2.2.2.1=true then(ck ((1+b.length)*1≤140737488355328)<|some (([27]++b),0))else some (b,0))))else(if a.1=16 then((g68 (a.1,a.2.1,a.2.2.1,a.2.2.2.1,a.2.2.2.2.1,a.2.2.2.2.2)).bind λe=>if ¬(e=true) then some (([]:List Int),290)else(if ¬a.2.2.1=0 then some (([]:List Int),290)else(if 65536<(a.2.1.size:Int) then some (([]:List Int),290)else(ck (a.2.1.size≤140737488355328)<|(g69 (z6 a.2.1)).bind λf=>if ¬(f.data.toList=a.2.1.data.toList) then some (([]:List Int),290)else((g70 (lit [27,91,50,48,49,126]) a.2.1).bind λg=>if g=true then some (([]:List Int),290)else(ck ((lit [27,91,50,48,48,126]).size+a.2.1.size≤9223372036854775807)<|ck (((lit [27,91,50,48,48,126])++a.2.1).size+(lit [27,91,50,48,49,126]).size≤9223372036854775807)<|ck ((((lit [27,91,50,48,48,126])++a.2.1)++(lit [27,91,50,48,49,126])).size≤140737488355328)<|some (z6 (((lit [27,91,50,48,48,126])++a.2.1)++(lit [27,91,50,48,49,126])),0)))))))else((g71 (a.1,a.2.1,a.2.2.1,a.2.2.2.1,a.2.2.2.2.1,a.2.2.2.2.2)).bind λc=>if c.data.toList=(lit []).data.toList then some (([]:List Int),290)else(ck (c.size≤140737488355328)<|some (z6 c,0))))
noncomputable def k37:Eng.CS:={ f:=37,calm:=false,more:=0,ι:=(Int×ByteArray×Int×Bool×Bool×Bool)×(List Int×Int),ok:=λi=>g37 i.1=some i.2,rds:=λ_=>[],args:=λi=>[.w (.agg [.v (.int .i64 (i.1.1)),.v (.string (i.1.2.1)),.v (.int .i64 (i.1.2.2.1)),bS i.1.2.2.2.1,bS i.1.2.2.2.2.1,bS i.1.2.2.2.2.2])],res:=λ_=>.bad,rn:=[],gr:=true,γ:=(Option Addr×Nat),resG:=λi g=>.tup [.v (.slice g.1 i.2.1.length g.2),.v (.int .i64 (i.2.2))],LG:=λi g=>[],okG:=λi g=>i.2.1.length≤g.2,rdsG:=λi g=>[(g.1,ei .u8 i.2.1)],fzr:=[(0,0)] }
theorem k37_ok:CSOk Tryz.prog k37:=by
 refine R.cspecG Tryz.func37 (nq9 Tryz.func37) rfl rfl (λ_=>rfl) ?_;rintro⟨b,r⟩ hok q hrds args hargs;dsimp only[k37] at hargs ⊢
 match args,hargs with
 |[_],hargs=>
 obtain⟨rfl,_⟩:=hargs;refine⟨envC [k67,k68,k69,k70,k71] false [(37,4)],6,zi (z8 ⟨nofun,λ_=>k67_ok⟩ (z8 ⟨λ_=>k68_ok,nofun⟩ (z8 ⟨λ_=>k69_ok,nofun⟩ (z8 ⟨λ_=>k70_ok,nofun⟩ (z8 ⟨λ_=>k71_ok,nofun⟩ (zj)))))),?_⟩;have H:zf (g37 b) (λa=>a=r):=⟨r,hok,rfl⟩;unfold g37 at H;clear hok;obtain⟨c,n,H⟩:=za H;refine⟨((b.1,b.2.1,b.2.2.1,b.2.2.2.1,b.2.2.2.2.1,b.2.2.2.2.2),c),⟨n⟩,⟨trivial⟩,?_⟩
 iterate 3 refine⟨⟨rfl⟩,?_⟩
 iterate 3 refine zd ?_
 intro q3 o hq5 p s;obtain⟨t,u⟩:=o;have l:=p;obtain⟨e,_⟩:=s
 try dsimp only at l e
 refine zb H ?_ ?_<;>intro h56 H
 ·refine R.cut_fam H 35 [1,4] [] (λf=>[(35,bS f)]) (λf=>[]) [(0,.cells 55 [.v (.int .i64 (b.1)),.v (.string (b.2.1)),.v (.int .i64 (b.2.2.1)),bS b.2.2.2.1,bS b.2.2.2.2.1,bS b.2.2.2.2.2])] 0 (λH=>?_);refine And.intro ?_ ?_
  ·exact zg
  intro f H;refine zb H ?_ ?_<;>intro h69 H
  ·exact zg
  refine zb H ?_ ?_<;>intro h70 H
  ·refine rs_st e (ei_len.trans (Nat.mul_one _).symm) ?_;refine xq ww wt H λh71 H=>?_;intro w x z g;obtain rfl:w=([27]++c).length:=z.trans wy;obtain rfl:x=ei .u8 ([27]++c):=by first|exact g.trans (ei_app (xs:=([27])) (ys:=c)).symm|(rw[g,ei_vw];first|exact ei_app.symm|exact(ei_app (xs:=([27]))).symm)|(rw[g];simp[ei,eb,es,ec])
   intro m i A hq79 B j;replace j:Reads m i (ei .u8 ([27]++c)):=Eq.mp (congrArg (Reads m i) wu) j;have hfin:=zo H
   first|subst hfin|rw[←hfin]
   refine⟨(i,A),⟨B⟩,⟨⟨j,trivial⟩⟩,?_⟩
   repeat refine zd ?_
   trivial
  have hfin:=zo H
  first|subst hfin|rw[←hfin]
  refine⟨(t,u),⟨l⟩,⟨⟨e,trivial⟩⟩,?_⟩
  repeat refine zd ?_
  trivial
 refine zb H ?_ ?_<;>intro h153 H
 ·refine And.intro ⟨by kernel_rfl⟩ ?_;refine⟨(Pn.calm 0 (Pn.calm 1 (Pn.calm 2 (Pn.calm 3 (Pn.calm 4 (Pn.calm 5 (Pn.calm 6 (Pn.calm 7 (Pn.calm 8 (Pn.calm 9 (Pn.calm 10 (Pn.calm 11 (Pn.calm 12 (Pn.calm 13 (Pn.calm 14 (Pn.calm 15 (Pn.calm 16 (Pn.calm 19 (Pn.calm 20 (Pn.eff 17 [16,14,15,13,8,12,7,3,11,6,2,1,10,5,0,9,4] (Pn.calm 18 (Pn.calm 21 (Pn.calm 22 (Pn.calm 23 (Pn.calm 24 (Pn.calm 25 (Pn.calm 26 (Pn.calm 27 Pn.done)))))))) Pn.no)))))))))))))))))))),⟨by kernel_rfl⟩,?_⟩;obtain⟨C,D,H⟩:=za H;refine⟨((b.1,b.2.1,b.2.2.1,b.2.2.2.1,b.2.2.2.2.1,b.2.2.2.2.2),C),⟨D⟩,⟨trivial⟩,?_⟩
  iterate 6 refine zd ?_
  refine zb H ?_ ?_<;>intro h156 H
  ·refine And.intro ?_ trivial;exact zg
  refine zb H ?_ ?_<;>intro h157 H
  ·refine And.intro ?_ trivial;exact zg
  refine zb H ?_ ?_<;>intro h158 H
  ·refine And.intro ?_ trivial;exact zg
  refine And.intro ?_ trivial;refine ob_sb H λh164 H q165 A159 c160 E F G=>?_;intro I J;obtain rfl:I=(z6 b.2.1).length:=J.trans (zq b.2.1).symm;refine And.intro ⟨λ_ _ _ h=>(E _ _ _ h)⟩ ?_;obtain⟨L,M,H⟩:=za H;refine⟨(z6 b.2.1,L),⟨M⟩,⟨trivial⟩,?_⟩;refine And.intro ⟨rfl,(Nat.le_trans (Nat.le_of_eq (zq b.2.1)) F),ei_len.trans ((show _=_ from rfl).trans (Nat.mul_one _).symm),G⟩ ?_;refine zb H ?_ ?_<;>intro h170 H
  ·exact zg
  obtain⟨N,O,H⟩:=za H;refine⟨((lit [27,91,50,48,49,126]),b.2.1,N),⟨O⟩,⟨trivial⟩,?_⟩
  iterate 2 refine⟨⟨rfl⟩,?_⟩
  refine zb H ?_ ?_<;>intro h173 H
  ·exact zg
  refine zr H λh174 H=>?_;refine zr H λh175 H=>?_;refine ob_sb H λh181 H q182 P Q hq178 T U=>?_;intro V W;obtain rfl:V=(z6 (((lit [27,91,50,48,48,126])++b.2.1)++(lit [27,91,50,48,49,126]))).length:=W.trans (zq (((lit [27,91,50,48,48,126])++b.2.1)++(lit [27,91,50,48,49,126]))).symm;have hfin:=zo H
  first|subst hfin|rw[←hfin]
  refine⟨(P,Q),⟨(Nat.le_trans (Nat.le_of_eq (zq (((lit [27,91,50,48,48,126])++b.2.1)++(lit [27,91,50,48,49,126])))) T)⟩,⟨⟨U,trivial⟩⟩,?_⟩
  repeat refine zd ?_
  trivial
 obtain⟨d,X,H⟩:=za H;refine⟨((b.1,b.2.1,b.2.2.1,b.2.2.2.1,b.2.2.2.2.1,b.2.2.2.2.2),d),⟨X⟩,⟨trivial⟩,?_⟩
 iterate 6 refine zd ?_
 refine zb H ?_ ?_<;>intro h188 H
 ·exact zg
 refine ob_sb H λh194 H q195 Y Z hq191 a1 a2=>?_;intro a3 a4;obtain rfl:a3=(z6 d).length:=a4.trans (zq d).symm;have hfin:=zo H
 first|subst hfin|rw[←hfin]
 refine⟨(Y,Z),⟨(Nat.le_trans (Nat.le_of_eq (zq d)) a1)⟩,⟨⟨a2,trivial⟩⟩,?_⟩
 repeat refine zd ?_
 trivial
noncomputable def g65(a:ByteArray)(b:ByteArray):Option (ByteArray×Bool):= if (a.size:Int)<(b.size:Int) then some (a,false)else(ck (0≤(0:Int)∧(0:Int)≤(b.size:Int)∧(b.size:Int)≤(a.size:Int))<|if ¬((a.extract (0:Int).toNat (b.size:Int).toNat).data.toList=b.data.toList) then some (a,false)else(ck (0≤(b.size:Int)∧(b.size:Int)≤(a.size:Int)∧(a.size:Int)≤(a.size:Int))<|some (a.extract (b.size:Int).toNat (a.size:Int).toNat,true)))
noncomputable def k65:Eng.CS:={ f:=65,calm:=true,more:=0,ι:=ByteArray×ByteArray×(ByteArray×Bool),ok:=λi=>g65 i.1 i.2.1=some i.2.2,rds:=λ_=>[],args:=λi=>[.w (.v (.string (i.1))),.w (.v (.string (i.2.1)))],res:=λi=>.tup [.v (.string (i.2.2.1)),bS i.2.2.2] }
theorem k65_ok:zp Tryz.prog k65:=by
 refine R.calmspec Tryz.func65 (nq9 Tryz.func65) rfl ?_;rintro⟨b,c,r⟩ hok q _ args hargs
 match args,hargs with
 |[_,_],hargs=>
 obtain⟨rfl,rfl,_⟩:=hargs;refine⟨envC [] false [],6,zi (zj),rfl,(nM2 rfl rfl),?_⟩;have H:zf (g65 b c) (λa=>a=r):=⟨r,hok,rfl⟩;unfold g65 at H;clear hok;exact zk
noncomputable def g126(a:Int):Option (ByteArray):= if a<0 then some (lit [])else(if ((19:Nat):Int)≤a then some (lit [])else(ck (0≤a∧a<((19:Nat):Int))<|some (([(lit []),(lit [116,101,120,116]),(lit [101,110,116,101,114]),(lit [116,97,98]),(lit [98,97,99,107,116,97,98]),(lit [101,115,99,97,112,101]),(lit [98,97,99,107,115,112,97,99,101]),(lit [100,101,108,101,116,101]),(lit [117,112]),(lit [100,111,119,110]),(lit [108,101,102,116]),(lit [114,105,103,104,116]),(lit [104,111,109,101]),(lit [101,110,100]),(lit [112,97,103,101,117,112]),(lit [112,97,103,101,100,111,119,110]),(lit [112,97,115,116,101]),(lit [99,116,114,108,45]),(lit [102])]).getD a.toNat default)))
noncomputable def k126:Eng.CS:={ f:=126,calm:=true,more:=0,ι:=Int×ByteArray,ok:=λi=>g126 i.1=some i.2,rds:=λ_=>[],args:=λi=>[.w (.v (.int .i64 (i.1)))],res:=λi=>.v (.string (i.2)) }
set_option maxRecDepth 60000 in
set_option maxHeartbeats 4000000 in
theorem k126_ok:zp Tryz.prog k126:=by
 refine R.calmspec Tryz.func126 (nq9 Tryz.func126) rfl ?_;rintro⟨a0,r⟩ hok q _ args hargs
 match args,hargs with
 |[_],hargs=>
 obtain⟨rfl,_⟩:=hargs;refine⟨envC [] false [],6,zi (zj),rfl,(nM1 rfl),?_⟩;have H:zf (g126 a0) (λa=>a=r):=⟨r,hok,rfl⟩;unfold g126 at H;clear hok;refine zb H ?_ ?_<;>intro h13 H
 ·have hfin:=zo H
  repeat refine xQ ?_
  trivial
 refine zb H ?_ ?_<;>intro h14 H
 ·have hfin:=zo H
  repeat refine xQ ?_
  trivial
 refine zr H λh15 H=>?_;refine ld_str (e:=([(lit []),(lit [116,101,120,116]),(lit [101,110,116,101,114]),(lit [116,97,98]),(lit [98,97,99,107,116,97,98]),(lit [101,115,99,97,112,101]),(lit [98,97,99,107,115,112,97,99,101]),(lit [100,101,108,101,116,101]),(lit [117,112]),(lit [100,111,119,110]),(lit [108,101,102,116]),(lit [114,105,103,104,116]),(lit [104,111,109,101]),(lit [101,110,100]),(lit [112,97,103,101,117,112]),(lit [112,97,103,101,100,111,119,110]),(lit [112,97,115,116,101]),(lit [99,116,114,108,45]),(lit [102])]).getD a0.toNat default) (own_get (ys:=es ([(lit []),(lit [116,101,120,116]),(lit [101,110,116,101,114]),(lit [116,97,98]),(lit [98,97,99,107,116,97,98]),(lit [101,115,99,97,112,101]),(lit [98,97,99,107,115,112,97,99,101]),(lit [100,101,108,101,116,101]),(lit [117,112]),(lit [100,111,119,110]),(lit [108,101,102,116]),(lit [114,105,103,104,116]),(lit [104,111,109,101]),(lit [101,110,100]),(lit [112,97,103,101,117,112]),(lit [112,97,103,101,100,111,119,110]),(lit [112,97,115,116,101]),(lit [99,116,114,108,45]),(lit [102])])) wO (es_get (l:=[(lit []),(lit [116,101,120,116]),(lit [101,110,116,101,114]),(lit [116,97,98]),(lit [98,97,99,107,116,97,98]),(lit [101,115,99,97,112,101]),(lit [98,97,99,107,115,112,97,99,101]),(lit [100,101,108,101,116,101]),(lit [117,112]),(lit [100,111,119,110]),(lit [108,101,102,116]),(lit [114,105,103,104,116]),(lit [104,111,109,101]),(lit [101,110,100]),(lit [112,97,103,101,117,112]),(lit [112,97,103,101,100,111,119,110]),(lit [112,97,115,116,101]),(lit [99,116,114,108,45]),(lit [102])]) (by first|exact tn h15|(have:=tn h15;simp at this ⊢;omega)|(have:=tn h15;simp;omega)))) ?_;have hfin:=zo H
 repeat refine xQ ?_
 trivial
noncomputable def g127(a:Int):Option (ByteArray):= if a<10 then(ck (inR .i64 (48+a))<|ck (zx ([IntKind.wrap .u8 (48+a)]))<|some (zW ([IntKind.wrap .u8 (48+a)])))else(ck (inR .i64 (48+a))<|ck (inR .i64 ((48+a)-10))<|ck (zx ([49,IntKind.wrap .u8 ((48+a)-10)]))<|some (zW ([49,IntKind.wrap .u8 ((48+a)-10)])))
noncomputable def k127:Eng.CS:={ f:=127,calm:=true,more:=0,ι:=Int×ByteArray,ok:=λi=>g127 i.1=some i.2,rds:=λ_=>[],args:=λi=>[.w (.v (.int .i64 (i.1)))],res:=λi=>.v (.string (i.2)) }
theorem k127_ok:zp Tryz.prog k127:=by
 refine R.calmspec Tryz.func127 (nq9 Tryz.func127) rfl ?_;rintro⟨b,r⟩ hok q _ args hargs
 match args,hargs with
 |[_],hargs=>
 obtain⟨rfl,_⟩:=hargs;refine⟨envC [] false [],6,zi (zj),rfl,(nM1 rfl),?_⟩;have H:zf (g127 b) (λa=>a=r):=⟨r,hok,rfl⟩;unfold g127 at H;clear hok;refine zb H ?_ ?_<;>intro c H
 ·refine zr H λd H=>?_;refine yI (l:=[IntKind.wrap .u8 (48+b)]) H λe H=>?_;exact zk
 refine zr H λf H=>?_;refine zr H λg H=>?_;refine yI (l:=[49,IntKind.wrap .u8 ((48+b)-10)]) H λh H=>?_;exact zk
noncomputable def g207(a:ByteArray):Option (Bool):= if (a.size:Int)=1 then(ck (0≤(0:Int)∧0<(a.size:Int))<|if 97≤((a.data.toList[(0:Int).toNat]?.getD 0).toNat:Int) then(ck (0≤(0:Int)∧0<(a.size:Int))<|if ((a.data.toList[(0:Int).toNat]?.getD 0).toNat:Int)≤122 then some true else(ck (0≤(0:Int)∧0<(a.size:Int))<|if ((a.data.toList[(0:Int).toNat]?.getD 0).toNat:Int)=64 then some true else(ck (0≤(0:Int)∧0<(a.size:Int))<|if 91≤((a.data.toList[(0:Int).toNat]?.getD 0).toNat:Int) then(ck (0≤(0:Int)∧0<(a.size:Int))<|some (decide (((a.data.toList[(0:Int).toNat]?.getD 0).toNat:Int)≤95)))else some false)))else(ck (0≤(0:Int)∧0<(a.size:Int))<|if ((a.data.toList[(0:Int).toNat]?.getD 0).toNat:Int)=64 then some true else(ck (0≤(0:Int)∧0<(a.size:Int))<|if 91≤((a.data.toList[(0:Int).toNat]?.getD 0).toNat:Int) then(ck (0≤(0:Int)∧0<(a.size:Int))<|some (decide (((a.data.toList[(0:Int).toNat]?.getD 0).toNat:Int)≤95)))else some false)))else some false
noncomputable def k207:Eng.CS:={ f:=207,calm:=true,more:=0,ι:=ByteArray×Bool,ok:=λi=>g207 i.1=some i.2,rds:=λ_=>[],args:=λi=>[.w (.v (.string (i.1)))],res:=λi=>bS i.2 }
theorem k207_ok:zp Tryz.prog k207:=by
 refine R.calmspec Tryz.func207 (nq9 Tryz.func207) rfl ?_;rintro⟨b,r⟩ hok q _ args hargs
 match args,hargs with
 |[_],hargs=>
 obtain⟨rfl,_⟩:=hargs;refine⟨envC [] false [],6,zi (zj),rfl,(nM1 rfl),?_⟩;have H:zf (g207 b) (λa=>a=r):=⟨r,hok,rfl⟩;unfold g207 at H;clear hok;exact zk
noncomputable def g128(a:(Int×ByteArray×Int×Bool×Bool×Bool)):Option (Int):= if a.1<1 then some 80 else(if 18<a.1 then some 80 else(jn (α:=_) (β:=Bool) (λk65=>if a.1=1 then(if a.1=1 then k65 (decide ((a.2.1.size:Int)≤65536))else(if a.1=17 then((g207 a.2.1).bind λc=>k65 c)else k65 (decide (a.2.1.data.toList=(lit []).data.toList))))else(if a.1=16 then k65 (decide ((a.2.1.size:Int)≤65536))else(if a.1=17 then((g207 a.2.1).bind λd=>k65 d)else k65 (decide (a.2.1.data.toList=(lit []).data.toList))))) (λe=>jn (α:=_) (β:=Bool) (λb=>if a.1=18 then(if 1≤a.2.2.1 then b (decide (a.2.2.1≤12))else b false)else b (decide (a.2.2.1=0))) (λf=>if ¬(e=true) then some 80 else(if ¬(f=true) then some 80 else some 0)))))
noncomputable def k128:Eng.CS:={ f:=128,calm:=true,more:=0,ι:=(Int×ByteArray×Int×Bool×Bool×Bool)×Int,ok:=λi=>g128 i.1=some i.2,rds:=λ_=>[],args:=λi=>[.w (.agg [.v (.int .i64 (i.1.1)),.v (.string (i.1.2.1)),.v (.int .i64 (i.1.2.2.1)),bS i.1.2.2.2.1,bS i.1.2.2.2.2.1,bS i.1.2.2.2.2.2])],res:=λi=>.v (.int .i64 (i.2)) }
theorem k128_ok:zp Tryz.prog k128:=by
 refine R.calmspec Tryz.func128 (nq9 Tryz.func128) rfl ?_;rintro⟨b,r⟩ hok q _ args hargs
 match args,hargs with
 |[_],hargs=>
 obtain⟨rfl,_⟩:=hargs;refine⟨envC [k207] false [(128,10),(128,13)],6,zi (z8 ⟨λ_=>k207_ok,nofun⟩ (zj)),rfl,(nM1 rfl),?_⟩;have H:zf (g128 b) (λa=>a=r):=⟨r,hok,rfl⟩;unfold g128 at H;clear hok;refine zb H ?_ ?_<;>intro e H
 ·exact zk
 refine zb H ?_ ?_<;>intro f H
 ·exact zk
 refine R.cut_fam H 27 [1] [] (λc=>[(3,bS c)]) (λc=>[]) [(0,.cells 55 [.v (.int .i64 (b.1)),.v (.string (b.2.1)),.v (.int .i64 (b.2.2.1)),bS b.2.2.2.1,bS b.2.2.2.2.1,bS b.2.2.2.2.2])] 0 (λH=>?_);refine And.intro ?_ ?_
 ·exact zg
 intro c H;refine R.cut_fam H 44 [3] [] (λd=>[(4,bS d)]) (λd=>[]) [(0,.cells 55 [.v (.int .i64 (b.1)),.v (.string (b.2.1)),.v (.int .i64 (b.2.2.1)),bS b.2.2.2.1,bS b.2.2.2.2.1,bS b.2.2.2.2.2])] 0 (λH=>?_);refine And.intro ?_ ?_
 ·exact zg
 intro d H;exact zk
noncomputable def g66(b:(Int×ByteArray×Int×Bool×Bool×Bool))(n:ByteArray):Option ((Int×ByteArray×Int×Bool×Bool×Bool)×Int):= jn (α:=_) (β:=Int×ByteArray×Int) (λo=>(y7 (σ:=Int×ByteArray×Int×Int) (ρ:=(Int×ByteArray×Int×Int×ByteArray×Int) ⊕ (Int×ByteArray×Int)) (λa=>if a.2.2.2≤18 then(jn (α:=_) (β:=ByteArray×Int) (λh=>(g126 a.2.2.2).bind λp=>(g65 n p).bind λe=>if ¬(e.2=true) then h ((lit []),0)else(jn (α:=_) (β:=ByteArray×Int) (λg=>if a.2.2.2=1 then(if b.2.2.2.1=true then((g65 e.1 (lit [46])).bind λl=>if ¬(l.2=true) then h ((lit []),0)else g (l.1,0))else(if a.2.2.2=17 then g (e.1,0)else(if a.2.2.2=18 then((y7 (σ:=Int×Int) (ρ:=Int) (λc=>if c.2≤12 then((g127 c.2).bind λq=>if q.data.toList=e.1.data.toList then(ck (inR .i64 (c.2+1))<|some (.go (c.2,c.2+1)))else(ck (inR .i64 (c.2+1))<|some (.go (c.1,c.2+1))))else some (.out c.1)) (0,1)).bind λr=>g ((lit []),r))else(if ¬(e.1.data.toList=(lit []).data.toList) then h ((lit []),0)else g ((lit []),0)))))else(if a.2.2.2=17 then g (e.1,0)else(if a.2.2.2=18 then((y7 (σ:=Int×Int) (ρ:=Int) (λd=>if d.2≤12 then((g127 d.2).bind λs=>if s.data.toList=e.1.data.toList then(ck (inR .i64 (d.2+1))<|some (.go (d.2,d.2+1)))else(ck (inR .i64 (d.2+1))<|some (.go (d.1,d.2+1))))else some (.out d.1)) (0,1)).bind λt=>g ((lit []),t))else(if ¬(e.1.data.toList=(lit []).data.toList) then h ((lit []),0)else g ((lit []),0))))) (λf=>(g128 (a.2.2.2,f.1,f.2,b.2.2.2.1,b.2.2.2.2.1,b.2.2.2.2.2)).bind λu=>if u=0 then some (.out (.inl ((a.2.2.2,f.1,f.2,a.2.2.2,f.1,f.2))))else h (f.1,f.2)))) (λm=>ck (inR .i64 (a.2.2.2+1))<|some (.go (a.2.2.2,m.1,m.2,a.2.2.2+1))))else some (.out (.inr ((a.1,a.2.1,a.2.2.1))))) (b.1,b.2.1,b.2.2.1,1)).bind λv=>sm v (λi=>some ((i.2.2.2.1,i.2.2.2.2.1,i.2.2.2.2.2,b.2.2.2.1,b.2.2.2.2.1,b.2.2.2.2.2),0)) (λj=>o (j.1,j.2.1,j.2.2))) (λw=>some ((0,(⟨#[]⟩:ByteArray),0,false,false,false),80))
noncomputable def k66:Eng.CS:={ f:=66,calm:=true,more:=0,ι:=(Int×ByteArray×Int×Bool×Bool×Bool)×ByteArray×((Int×ByteArray×Int×Bool×Bool×Bool)×Int),ok:=λi=>g66 i.1 i.2.1=some i.2.2,rds:=λ_=>[],args:=λi=>[.w (.agg [.v (.int .i64 (i.1.1)),.v (.string (i.1.2.1)),.v (.int .i64 (i.1.2.2.1)),bS i.1.2.2.2.1,bS i.1.2.2.2.2.1,bS i.1.2.2.2.2.2]),.w (.v (.string (i.2.1)))],res:=λi=>.tup [.agg [.v (.int .i64 (i.2.2.1.1)),.v (.string (i.2.2.1.2.1)),.v (.int .i64 (i.2.2.1.2.2.1)),bS i.2.2.1.2.2.2.1,bS i.2.2.1.2.2.2.2.1,bS i.2.2.1.2.2.2.2.2],.v (.int .i64 (i.2.2.2))] }
theorem k66_ok:zp Tryz.prog k66:=by
 refine R.calmspec Tryz.func66 (nq9 Tryz.func66) rfl ?_;rintro⟨b,j,r⟩ hok q _ args hargs
 match args,hargs with
 |[_,_],hargs=>
 obtain⟨rfl,rfl,_⟩:=hargs;refine⟨envC [k65,k126,k127,k128] false [(66,3),(66,22),(66,24)],6,zi (z8 ⟨λ_=>k65_ok,nofun⟩ (z8 ⟨λ_=>k126_ok,nofun⟩ (z8 ⟨λ_=>k127_ok,nofun⟩ (z8 ⟨λ_=>k128_ok,nofun⟩ (zj))))),rfl,(nM2 rfl rfl),?_⟩;have H:zf (g66 b j) (λa=>a=r):=⟨r,hok,rfl⟩;unfold g66 at H;clear hok;refine R.cut_fam H 8 [4] [] (λh=>[]) (λh=>[(0,.cells 55 [.v (.int .i64 (h.1)),.v (.string (h.2.1)),.v (.int .i64 (h.2.2)),bS b.2.2.2.1,bS b.2.2.2.2.1,bS b.2.2.2.2.2])]) [(1,.cells 55 [.v (.int .i64 (0)),.v (.string ((⟨#[]⟩:ByteArray))),.v (.int .i64 (0)),.bb false,.bb false,.bb false])] 0 (λH=>?_);refine And.intro ?_ ?_
 ·refine R.loop_fam (zN H) [1,2,4] [] (λ_ c=>[(6,.v (.int .i64 (c.2.2.2)))]) (λ_ c=>[(0,.cells 55 [.v (.int .i64 (c.1)),.v (.string (c.2.1)),.v (.int .i64 (c.2.2.1)),bS b.2.2.2.1,bS b.2.2.2.2.1,bS b.2.2.2.2.2])]) 0 (λp H=>?_);refine⟨(p,_),⟨H⟩,⟨trivial⟩,?_⟩
  repeat refine zd ?_
  rintro⟨m0,c⟩ H _;obtain⟨s,hm0,H⟩:=zO H;dsimp only at hm0;subst hm0
  try dsimp only at H
  refine zb H ?_ ?_<;>intro F H
  ·refine R.cut_fam H 48 [1,2,4,6] [] (λg=>[]) (λg=>[(0,.cells 55 [.v (.int .i64 (c.2.2.2)),.v (.string (g.1)),.v (.int .i64 (g.2)),bS b.2.2.2.1,bS b.2.2.2.2.1,bS b.2.2.2.2.2])]) [(1,.cells 55 [.v (.int .i64 (0)),.v (.string ((⟨#[]⟩:ByteArray))),.v (.int .i64 (0)),.bb false,.bb false,.bb false])] 0 (λH=>?_);refine And.intro ?_ ?_
   ·obtain⟨l,t,H⟩:=za H;refine⟨(c.2.2.2,l),⟨t⟩,⟨trivial⟩,?_⟩;refine⟨⟨rfl⟩,?_⟩;obtain⟨i,u,H⟩:=za H;refine⟨(j,l,i),⟨u⟩,⟨trivial⟩,?_⟩
    iterate 2 refine⟨⟨rfl⟩,?_⟩
    refine zb H ?_ ?_<;>intro G H
    ·refine⟨((lit []),0),⟨H⟩,⟨rfl⟩,?_⟩
     repeat refine zd ?_
     trivial
    refine R.cut_fam H 44 [1,2,4,6] [] (λf=>[]) (λf=>[(0,.cells 55 [.v (.int .i64 (c.2.2.2)),.v (.string (f.1)),.v (.int .i64 (f.2)),bS b.2.2.2.1,bS b.2.2.2.2.1,bS b.2.2.2.2.2])]) [(1,.cells 55 [.v (.int .i64 (0)),.v (.string ((⟨#[]⟩:ByteArray))),.v (.int .i64 (0)),.bb false,.bb false,.bb false])] 0 (λH=>?_);refine And.intro ?_ ?_
    ·refine zb H ?_ ?_<;>intro I H
     ·refine zb H ?_ ?_<;>intro J H
      ·obtain⟨m,w,H⟩:=za H;refine⟨(i.1,(lit [46]),m),⟨w⟩,⟨trivial⟩,?_⟩
       iterate 2 refine⟨⟨rfl⟩,?_⟩
       refine zb H ?_ ?_<;>intro L H
       ·refine⟨((lit []),0),⟨H⟩,⟨rfl⟩,?_⟩
        repeat refine zd ?_
        trivial
       refine⟨(m.1,0),⟨H⟩,⟨rfl⟩,?_⟩
       repeat refine zd ?_
       trivial
      refine zb H ?_ ?_<;>intro M H
      ·refine⟨(i.1,0),⟨H⟩,⟨rfl⟩,?_⟩
       repeat refine zd ?_
       trivial
      refine zb H ?_ ?_<;>intro N H
      ·refine R.loop_fam (zN H) [1,2,4,6,7,33,34] [] (λ_ d=>[(11,.v (.int .i64 (d.2)))]) (λ_ d=>[(0,.cells 55 [.v (.int .i64 (c.2.2.2)),.v (.string ((lit []))),.v (.int .i64 (d.1)),bS b.2.2.2.1,bS b.2.2.2.2.1,bS b.2.2.2.2.2])]) 0 (λx H=>?_);refine⟨(x,_),⟨H⟩,⟨trivial⟩,?_⟩
       repeat refine zd ?_
       rintro⟨m0,d⟩ H _;obtain⟨n,hm0,H⟩:=zO H;dsimp only at hm0;subst hm0
       try dsimp only at H
       refine zb H ?_ ?_<;>intro O H
       ·obtain⟨y,z,H⟩:=za H;refine⟨(d.2,y),⟨z⟩,⟨trivial⟩,?_⟩;refine⟨⟨rfl⟩,?_⟩;refine zb H ?_ ?_<;>intro P H
        ·refine zr H λQ H=>?_;replace H:=zw H;refine⟨(n,(d.2,d.2+1)),⟨H,Nat.lt_succ_self _⟩,⟨trivial⟩,⟨rfl⟩,?_⟩
         repeat refine zd ?_
         trivial
        refine zr H λT H=>?_;replace H:=zw H;refine⟨(n,(d.1,d.2+1)),⟨H,Nat.lt_succ_self _⟩,⟨trivial⟩,⟨rfl⟩,?_⟩
        repeat refine zd ?_
        trivial
       replace H:=zw H;dsimp only[stp,sm] at H;refine⟨((lit []),d.1),⟨H⟩,⟨rfl⟩,?_⟩
       repeat refine zd ?_
       trivial
      refine zb H ?_ ?_<;>intro U H
      ·refine⟨((lit []),0),⟨H⟩,⟨rfl⟩,?_⟩
       repeat refine zd ?_
       trivial
      refine⟨((lit []),0),⟨H⟩,⟨rfl⟩,?_⟩
      repeat refine zd ?_
      trivial
     refine zb H ?_ ?_<;>intro V H
     ·refine⟨(i.1,0),⟨H⟩,⟨rfl⟩,?_⟩
      repeat refine zd ?_
      trivial
     refine zb H ?_ ?_<;>intro W H
     ·refine R.loop_fam (zN H) [1,2,4,6,7] [] (λ_ e=>[(11,.v (.int .i64 (e.2)))]) (λ_ e=>[(0,.cells 55 [.v (.int .i64 (c.2.2.2)),.v (.string ((lit []))),.v (.int .i64 (e.1)),bS b.2.2.2.1,bS b.2.2.2.2.1,bS b.2.2.2.2.2])]) 0 (λA H=>?_);refine⟨(A,_),⟨H⟩,⟨trivial⟩,?_⟩
      repeat refine zd ?_
      rintro⟨m0,e⟩ H _;obtain⟨o,hm0,H⟩:=zO H;dsimp only at hm0;subst hm0
      try dsimp only at H
      refine zb H ?_ ?_<;>intro X H
      ·obtain⟨B,C,H⟩:=za H;refine⟨(e.2,B),⟨C⟩,⟨trivial⟩,?_⟩;refine⟨⟨rfl⟩,?_⟩;refine zb H ?_ ?_<;>intro Y H
       ·refine zr H λZ H=>?_;replace H:=zw H;refine⟨(o,(e.2,e.2+1)),⟨H,Nat.lt_succ_self _⟩,⟨trivial⟩,⟨rfl⟩,?_⟩
        repeat refine zd ?_
        trivial
       refine zr H λa2 H=>?_;replace H:=zw H;refine⟨(o,(e.1,e.2+1)),⟨H,Nat.lt_succ_self _⟩,⟨trivial⟩,⟨rfl⟩,?_⟩
       repeat refine zd ?_
       trivial
      replace H:=zw H;dsimp only[stp,sm] at H;refine⟨((lit []),e.1),⟨H⟩,⟨rfl⟩,?_⟩
      repeat refine zd ?_
      trivial
     refine zb H ?_ ?_<;>intro a3 H
     ·refine⟨((lit []),0),⟨H⟩,⟨rfl⟩,?_⟩
      repeat refine zd ?_
      trivial
     refine⟨((lit []),0),⟨H⟩,⟨rfl⟩,?_⟩
     repeat refine zd ?_
     trivial
    intro f H;obtain⟨D,E,H⟩:=za H;refine⟨((c.2.2.2,f.1,f.2,b.2.2.2.1,b.2.2.2.2.1,b.2.2.2.2.2),D),⟨E⟩,⟨trivial⟩,?_⟩
    iterate 6 refine zd ?_
    refine zb H ?_ ?_<;>intro a4 H
    ·replace H:=zw H;dsimp only[stp,sm] at H;have hfin:=zo H
     repeat refine xQ ?_
     trivial
    refine⟨(f.1,f.2),⟨H⟩,⟨rfl⟩,?_⟩
    repeat refine zd ?_
    trivial
   intro g H;refine zr H λa5 H=>?_;replace H:=zw H;refine⟨(s,(c.2.2.2,g.1,g.2,c.2.2.2+1)),⟨H,Nat.lt_succ_self _⟩,⟨trivial⟩,⟨rfl⟩,?_⟩
   repeat refine zd ?_
   trivial
  replace H:=zw H;dsimp only[stp,sm] at H;refine⟨(c.1,c.2.1,c.2.2.1),⟨H⟩,⟨rfl⟩,?_⟩
  repeat refine zd ?_
  trivial
 intro h H;have hfin:=zo H
 repeat refine xQ ?_
 trivial
noncomputable def g36(e:ByteArray):Option ((Int×ByteArray×Int×Bool×Bool×Bool)×Int):= (g65 e (lit [97,108,116,45])).bind λb=>(g65 b.1 (lit [99,116,108,45])).bind λc=>(g65 c.1 (lit [115,104,105,102,116,45])).bind λd=>(g66 (0,(⟨#[]⟩:ByteArray),0,b.2,d.2,c.2) d.1).bind λa=>some ((a.1.1,a.1.2.1,a.1.2.2.1,a.1.2.2.2.1,a.1.2.2.2.2.1,a.1.2.2.2.2.2),a.2)
noncomputable def k36:Eng.CS:={ f:=36,calm:=true,more:=0,ι:=ByteArray×((Int×ByteArray×Int×Bool×Bool×Bool)×Int),ok:=λi=>g36 i.1=some i.2,rds:=λ_=>[],args:=λi=>[.w (.v (.string (i.1)))],res:=λi=>.tup [.agg [.v (.int .i64 (i.2.1.1)),.v (.string (i.2.1.2.1)),.v (.int .i64 (i.2.1.2.2.1)),bS i.2.1.2.2.2.1,bS i.2.1.2.2.2.2.1,bS i.2.1.2.2.2.2.2],.v (.int .i64 (i.2.2))] }
theorem k36_ok:zp Tryz.prog k36:=by
 refine R.calmspec Tryz.func36 (nq9 Tryz.func36) rfl ?_;rintro⟨e,r⟩ hok q _ args hargs
 match args,hargs with
 |[_],hargs=>
 obtain⟨rfl,_⟩:=hargs;refine⟨envC [k65,k66] false [],6,zi (z8 ⟨λ_=>k65_ok,nofun⟩ (z8 ⟨λ_=>k66_ok,nofun⟩ (zj))),rfl,(nM1 rfl),?_⟩;have H:zf (g36 e) (λa=>a=r):=⟨r,hok,rfl⟩;unfold g36 at H;clear hok;obtain⟨b,f,H⟩:=za H;refine⟨(e,(lit [97,108,116,45]),b),⟨f⟩,⟨trivial⟩,?_⟩
 iterate 2 refine⟨⟨rfl⟩,?_⟩
 obtain⟨c,g,H⟩:=za H;refine⟨(b.1,(lit [99,116,108,45]),c),⟨g⟩,⟨trivial⟩,?_⟩
 iterate 2 refine⟨⟨rfl⟩,?_⟩
 obtain⟨d,h,H⟩:=za H;refine⟨(c.1,(lit [115,104,105,102,116,45]),d),⟨h⟩,⟨trivial⟩,?_⟩
 iterate 2 refine⟨⟨rfl⟩,?_⟩
 obtain⟨i,j,H⟩:=za H;refine⟨((0,(⟨#[]⟩:ByteArray),0,b.2,d.2,c.2),d.1,i),⟨j⟩,⟨trivial⟩,?_⟩
 iterate 6 refine zd ?_
 refine⟨⟨rfl⟩,?_⟩;have hfin:=zo H
 repeat refine xQ ?_
 trivial
noncomputable def g32(a:ByteArray)(b:ByteArray):Option (ByteArray×Bool):= if (a.size:Int)<(b.size:Int) then some ((lit []),false)else(ck (0≤(0:Int)∧(0:Int)≤(b.size:Int)∧(b.size:Int)≤(a.size:Int))<|if ¬((a.extract (0:Int).toNat (b.size:Int).toNat).data.toList=b.data.toList) then some ((lit []),false)else(ck (0≤(b.size:Int)∧(b.size:Int)≤(a.size:Int)∧(a.size:Int)≤(a.size:Int))<|some (a.extract (b.size:Int).toNat (a.size:Int).toNat,true)))
noncomputable def k32:Eng.CS:={ f:=32,calm:=true,more:=0,ι:=ByteArray×ByteArray×(ByteArray×Bool),ok:=λi=>g32 i.1 i.2.1=some i.2.2,rds:=λ_=>[],args:=λi=>[.w (.v (.string (i.1))),.w (.v (.string (i.2.1)))],res:=λi=>.tup [.v (.string (i.2.2.1)),bS i.2.2.2] }
theorem k32_ok:zp Tryz.prog k32:=by
 refine R.calmspec Tryz.func32 (nq9 Tryz.func32) rfl ?_;rintro⟨b,c,r⟩ hok q _ args hargs
 match args,hargs with
 |[_,_],hargs=>
 obtain⟨rfl,rfl,_⟩:=hargs;refine⟨envC [] false [],6,zi (zj),rfl,(nM2 rfl rfl),?_⟩;have H:zf (g32 b c) (λa=>a=r):=⟨r,hok,rfl⟩;unfold g32 at H;clear hok;exact zk
noncomputable def g63(b:ByteArray):Option (Int):= jn (α:=_) (β:=Int) (λd=>(y7 (σ:=Int×Int) (ρ:=(Unit) ⊕ (Int)) (λa=>if a.2<(b.size:Int) then(ck (0≤a.2∧a.2<(b.size:Int))<|if ((b.data.toList[a.2.toNat]?.getD 0).toNat:Int)<48 then some (.out (.inl (())))else(ck (0≤a.2∧a.2<(b.size:Int))<|if 57<((b.data.toList[a.2.toNat]?.getD 0).toNat:Int) then some (.out (.inl (())))else(if 2<a.2 then some (.out (.inl (())))else(ck (inR .i64 (10*a.1))<|ck (0≤a.2∧a.2<(b.size:Int))<|ck (inR .u8 (((b.data.toList[a.2.toNat]?.getD 0).toNat:Int)-48))<|ck (inR .i64 (((b.data.toList[a.2.toNat]?.getD 0).toNat:Int)-48))<|ck (inR .i64 ((10*a.1)+(((b.data.toList[a.2.toNat]?.getD 0).toNat:Int)-48)))<|ck (inR .i64 (a.2+1))<|some (.go ((10*a.1)+(((b.data.toList[a.2.toNat]?.getD 0).toNat:Int)-48),a.2+1))))))else some (.out (.inr (a.1)))) (0,0)).bind λe=>sm e (λh=>some 0) (λf=>d f)) (λc=>if c<1 then some 0 else(if 500<c then some 0 else((g55 c).bind λg=>if ¬(g.data.toList=b.data.toList) then some 0 else some c)))
noncomputable def k63:Eng.CS:={ f:=63,calm:=true,more:=0,ι:=ByteArray×Int,ok:=λi=>g63 i.1=some i.2,rds:=λ_=>[],args:=λi=>[.w (.v (.string (i.1)))],res:=λi=>.v (.int .i64 (i.2)) }
theorem k63_ok:zp Tryz.prog k63:=by
 refine R.calmspec Tryz.func63 (nq9 Tryz.func63) rfl ?_;rintro⟨d,r⟩ hok q _ args hargs
 match args,hargs with
 |[_],hargs=>
 obtain⟨rfl,_⟩:=hargs;refine⟨envC [k55] false [(63,8)],6,zi (z8 ⟨λ_=>k55_ok,nofun⟩ (zj)),rfl,(nM1 rfl),?_⟩;have H:zf (g63 d) (λa=>a=r):=⟨r,hok,rfl⟩;unfold g63 at H;clear hok;refine R.cut_fam H 9 [0] [] (λc=>[(3,.v (.int .i64 (c)))]) (λc=>[]) [] 0 (λH=>?_);refine And.intro ?_ ?_
 ·refine R.loop_fam (zN H) [0] [] (λ_ b=>[(3,.v (.int .i64 (b.1))),(4,.v (.int .i64 (b.2)))]) (λ_ b=>[]) 0 (λe H=>?_);refine⟨(e,_),⟨H⟩,⟨trivial⟩,?_⟩
  repeat refine zd ?_
  rintro⟨m0,b⟩ H _;obtain⟨f,hm0,H⟩:=zO H;dsimp only at hm0;subst hm0
  try dsimp only at H
  exact zB
 intro c H;exact zk
noncomputable def g64(a:Int):Option (Int):= jn (α:=_) (β:=Bool) (λb=>if 48≤a then b (decide (a≤57))else b false) (λc=>if c=true then(ck (inR .u8 (a-48))<|ck (inR .i64 (a-48))<|some (a-48))else(if 97≤a then(if a≤102 then(ck (inR .u8 (a-97))<|ck (inR .i64 (a-97))<|ck (inR .i64 ((a-97)+10))<|some ((a-97)+10))else some (-1))else some (-1)))
noncomputable def k64:Eng.CS:={ f:=64,calm:=true,more:=0,ι:=Int×Int,ok:=λi=>g64 i.1=some i.2,rds:=λ_=>[],args:=λi=>[.w (.v (.int .u8 (i.1)))],res:=λi=>.v (.int .i64 (i.2)) }
theorem k64_ok:zp Tryz.prog k64:=by
 refine R.calmspec Tryz.func64 (nq9 Tryz.func64) rfl ?_;rintro⟨c,r⟩ hok q _ args hargs
 match args,hargs with
 |[_],hargs=>
 obtain⟨rfl,_⟩:=hargs;refine⟨envC [] false [(64,2)],6,zi (zj),rfl,(nM1 rfl),?_⟩;have H:zf (g64 c) (λa=>a=r):=⟨r,hok,rfl⟩;unfold g64 at H;clear hok;refine R.cut_fam H 9 [0] [] (λb=>[(3,bS b)]) (λb=>[]) [] 0 (λH=>?_);refine And.intro ?_ ?_
 ·exact zg
 intro b H;exact zk
noncomputable def g33(b:ByteArray):Option ((Int×List Int×Int×Int)×Bool):= jn (α:=_) (β:=Unit) (λf=>(y7 (σ:=Int) (ρ:=(Int×Int×Bool) ⊕ (Unit)) (λa=>if a<(b.size:Int) then(ck (0≤a∧a<(b.size:Int))<|if ((b.data.toList[a.toNat]?.getD 0).toNat:Int)=32 then(ck (0≤(0:Int)∧(0:Int)≤a∧a≤(b.size:Int))<|(g63 (b.extract (0:Int).toNat a.toNat)).bind λc=>ck (inR .i64 (a+1))<|ck (0≤a+1∧a+1≤(b.size:Int)∧(b.size:Int)≤(b.size:Int))<|(g63 (b.extract (a+1).toNat (b.size:Int).toNat)).bind λd=>if 0<c then some (.out (.inl ((c,d,(decide (0<d))))))else some (.out (.inl ((c,d,false)))))else(ck (inR .i64 (a+1))<|some (.go (a+1))))else some (.out (.inr (())))) 0).bind λg=>sm g (λe=>some ((3,([]:List Int),e.1,e.2.1),e.2.2)) (λh=>f ())) (λi=>some ((0,([]:List Int),0,0),false))
noncomputable def k33:Eng.CS:={ f:=33,calm:=false,more:=0,ι:=ByteArray×((Int×List Int×Int×Int)×Bool),ok:=λi=>g33 i.1=some i.2,rds:=λ_=>[],args:=λi=>[.w (.v (.string (i.1)))],res:=λ_=>.bad,rn:=[],gr:=true,γ:=(Option Addr×Nat),resG:=λi g=>.tup [.agg [.v (.int .i64 (i.2.1.1)),.v (.slice g.1 i.2.1.2.1.length g.2),.v (.int .i64 (i.2.1.2.2.1)),.v (.int .i64 (i.2.1.2.2.2))],bS i.2.2],LG:=λi g=>[],okG:=λi g=>i.2.1.2.1.length≤g.2,rdsG:=λi g=>[(g.1,ei .u8 i.2.1.2.1)],fzr:=[(0,1)] }
theorem k33_ok:CSOk Tryz.prog k33:=by
 refine R.cspecG Tryz.func33 (nq9 Tryz.func33) rfl rfl (λ_=>rfl) ?_;rintro⟨d,r⟩ hok q hrds args hargs;dsimp only[k33] at hargs ⊢
 match args,hargs with
 |[_],hargs=>
 obtain⟨rfl,_⟩:=hargs;refine⟨envC [k63] false [(33,7)],6,zi (z8 ⟨λ_=>k63_ok,nofun⟩ (zj)),?_⟩;have H:zf (g33 d) (λa=>a=r):=⟨r,hok,rfl⟩;unfold g33 at H;clear hok;refine R.cut_fam H 9 [2] [] (λc=>[]) (λc=>[]) [(0,.cells 37 [.v (.int .i64 (0)),.v (.slice none 0 0),.v (.int .i64 (0)),.v (.int .i64 (0))])] 0 (λH=>?_);refine And.intro ?_ ?_
 ·refine R.loop_fam (zN H) [0,2] [] (λ_ b=>[(4,.v (.int .i64 (b)))]) (λ_ b=>[]) 0 (λe H=>?_);refine⟨(e,_),⟨H⟩,⟨trivial⟩,?_⟩
  repeat refine zd ?_
  rintro⟨m0,b⟩ H _;obtain⟨f,hm0,H⟩:=zO H;dsimp only at hm0;subst hm0
  try dsimp only at H
  refine zb H ?_ ?_<;>intro g H
  ·refine zr H λh H=>?_;refine zb H ?_ ?_<;>intro i H
   ·refine And.intro ⟨by kernel_rfl⟩ ?_;exact zg
   exact zg
  exact zg
 intro c H;exact zg
noncomputable def g35(b:ByteArray):Option ((Int×List Int×Int×Int)×Bool):= if b.data.toList=(lit []).data.toList then some ((1,([]:List Int),0,0),false)else(if ¬(Int.tmod (b.size:Int) 2)=0 then some ((1,([]:List Int),0,0),false)else(jn (α:=_) (β:=List Int) (λe=>(y7 (σ:=List Int×Int) (ρ:=(List Int×List Int) ⊕ (List Int)) (λa=>ck (inR .i64 (a.2+1))<|if (a.2+1)<(b.size:Int) then(ck (0≤a.2∧a.2<(b.size:Int))<|(g64 ((b.data.toList[a.2.toNat]?.getD 0).toNat:Int)).bind λc=>ck (inR .i64 (a.2+1))<|ck (0≤a.2+1∧a.2+1<(b.size:Int))<|(g64 ((b.data.toList[(a.2+1).toNat]?.getD 0).toNat:Int)).bind λd=>if c<0 then some (.out (.inl ((a.1,a.1))))else(if d<0 then some (.out (.inl ((a.1,a.1))))else(ck (inR .i64 (16*c))<|ck (inR .i64 ((16*c)+d))<|ck ((a.1.length+1)*1≤140737488355328)<|ck (inR .i64 (a.2+2))<|some (.go ((a.1++[IntKind.wrap .u8 ((16*c)+d)]),a.2+2)))))else some (.out (.inr (a.1)))) ([],0)).bind λf=>sm f (λg=>some ((1,g.1,0,0),false)) (λh=>e h)) (λi=>some ((1,i,0,0),true))))
noncomputable def k35:Eng.CS:={ f:=35,calm:=false,more:=0,ι:=ByteArray×((Int×List Int×Int×Int)×Bool),ok:=λi=>g35 i.1=some i.2,rds:=λ_=>[],args:=λi=>[.w (.v (.string (i.1)))],res:=λ_=>.bad,rn:=[],gr:=true,γ:=(Option Addr×Nat),resG:=λi g=>.tup [.agg [.v (.int .i64 (i.2.1.1)),.v (.slice g.1 i.2.1.2.1.length g.2),.v (.int .i64 (i.2.1.2.2.1)),.v (.int .i64 (i.2.1.2.2.2))],bS i.2.2],LG:=λi g=>[],okG:=λi g=>i.2.1.2.1.length≤g.2,rdsG:=λi g=>[(g.1,ei .u8 i.2.1.2.1)],fzr:=[(0,1)] }
theorem k35_ok:CSOk Tryz.prog k35:=by
 refine R.cspecG Tryz.func35 (nq9 Tryz.func35) rfl rfl (λ_=>rfl) ?_;rintro⟨f,r⟩ hok q hrds args hargs;dsimp only[k35] at hargs ⊢
 match args,hargs with
 |[_],hargs=>
 obtain⟨rfl,_⟩:=hargs;refine⟨envC [k64] false [(35,11)],6,zi (z8 ⟨λ_=>k64_ok,nofun⟩ (zj)),?_⟩;have H:zf (g35 f) (λa=>a=r):=⟨r,hok,rfl⟩;unfold g35 at H;clear hok;refine zb H ?_ ?_<;>intro I H
 ·exact zg
 refine And.intro ⟨by decide⟩ ?_;refine zb H ?_ ?_<;>intro J H
 ·exact zg
 refine R.cut_fam H 24 [2,4] [] (λc=>[]) (λc=>[(3,.cells 37 [.v (.int .i64 (1)),.own 24,.v (.int .i64 (0)),.v (.int .i64 (0))]),(24,.arr 5 1 (c.length) (ei .u8 (c)))]) [(0,.cells 37 [.v (.int .i64 (0)),.v (.slice none 0 0),.v (.int .i64 (0)),.v (.int .i64 (0))])] 1 (λH=>?_);refine And.intro ?_ ?_
 ·refine R.loop_fam (zN H) [0,2,4] [(100003,1,5,1)] (λ_ b=>[(5,.v (.int .i64 (b.2)))]) (λ_ b=>[(3,.cells 37 [.v (.int .i64 (1)),.own 15,.v (.int .i64 (0)),.v (.int .i64 (0))]),(15,.arr 5 1 (b.1.length) (ei .u8 (b.1)))]) 1 (λt H=>?_);refine⟨(t,_),⟨H⟩,⟨trivial⟩,?_⟩
  repeat refine zd ?_
  rintro⟨m0,b⟩ H _;obtain⟨L,hm0,H⟩:=zO H;dsimp only at hm0;subst hm0
  try dsimp only at H
  refine zr H λM H=>?_;refine zb H ?_ ?_<;>intro N H
  ·refine And.intro ⟨by kernel_rfl⟩ ?_;refine zr H λO H=>?_;obtain⟨d,u,H⟩:=za H;refine⟨(((f.data.toList[b.2.toNat]?.getD 0).toNat:Int),d),⟨u⟩,⟨trivial⟩,?_⟩;refine⟨⟨rfl⟩,?_⟩;refine zr H λP H=>?_;refine zr H λQ H=>?_;obtain⟨e,w,H⟩:=za H;refine⟨(((f.data.toList[(b.2+1).toNat]?.getD 0).toNat:Int),e),⟨w⟩,⟨trivial⟩,?_⟩;refine⟨⟨rfl⟩,?_⟩;refine zb H ?_ ?_<;>intro T H
   ·replace H:=zw H;dsimp only[stp,sm] at H;intro o g x U z h;replace h:Reads o g (ei .u8 b.1):=Eq.mp (congrArg (Reads o g) wu) h;have hfin:=zo H
    first|subst hfin|rw[←hfin]
    refine⟨(g,x),⟨z⟩,⟨⟨h,trivial⟩⟩,?_⟩
    repeat refine zd ?_
    trivial
   refine zb H ?_ ?_<;>intro V H
   ·replace H:=zw H;dsimp only[stp,sm] at H;intro p i A W B j;replace j:Reads p i (ei .u8 b.1):=Eq.mp (congrArg (Reads p i) wu) j;have hfin:=zo H
    first|subst hfin|rw[←hfin]
    refine⟨(i,A),⟨B⟩,⟨⟨j,trivial⟩⟩,?_⟩
    repeat refine zd ?_
    trivial
   refine zr H λX H=>?_;refine zr H λY H=>?_;refine xq ww wt H λZ H=>?_;intro C D E l;obtain rfl:C=(b.1++[IntKind.wrap .u8 ((16*d)+e)]).length:=E.trans wy;obtain rfl:D=ei .u8 (b.1++[IntKind.wrap .u8 ((16*d)+e)]):=by first|exact l.trans (ei_app (xs:=b.1) (ys:=([IntKind.wrap .u8 ((16*d)+e)]))).symm|(rw[l,ei_vw];first|exact ei_app.symm|exact(ei_app (xs:=b.1)).symm)|(rw[l];simp[ei,eb,es,ec])
   exact zg
  exact zg
 intro c H;intro s m F a1 G n;replace n:Reads s m (ei .u8 c):=Eq.mp (congrArg (Reads s m) wu) n;have hfin:=zo H
 first|subst hfin|rw[←hfin]
 refine⟨(m,F),⟨G⟩,⟨⟨n,trivial⟩⟩,?_⟩
 repeat refine zd ?_
 trivial
noncomputable def g34(b:ByteArray):Option (Bool):= jn (α:=_) (β:=Unit) (λc=>(y7 (σ:=Int) (ρ:=(Unit) ⊕ (Unit)) (λa=>if a<(b.size:Int) then(ck (0≤a∧a<(b.size:Int))<|if ((b.data.toList[a.toNat]?.getD 0).toNat:Int)<32 then some (.out (.inl (())))else(ck (0≤a∧a<(b.size:Int))<|if 126<((b.data.toList[a.toNat]?.getD 0).toNat:Int) then some (.out (.inl (())))else(ck (inR .i64 (a+1))<|some (.go (a+1)))))else some (.out (.inr (())))) 0).bind λd=>sm d (λe=>some false) (λf=>c ())) (λg=>some (decide (¬(b.data.toList=(lit []).data.toList))))
noncomputable def k34:Eng.CS:={ f:=34,calm:=true,more:=0,ι:=ByteArray×Bool,ok:=λi=>g34 i.1=some i.2,rds:=λ_=>[],args:=λi=>[.w (.v (.string (i.1)))],res:=λi=>bS i.2 }
theorem k34_ok:zp Tryz.prog k34:=by
 refine R.calmspec Tryz.func34 (nq9 Tryz.func34) rfl ?_;rintro⟨d,r⟩ hok q _ args hargs
 match args,hargs with
 |[_],hargs=>
 obtain⟨rfl,_⟩:=hargs;refine⟨envC [] false [(34,6)],6,zi (zj),rfl,(nM1 rfl),?_⟩;have H:zf (g34 d) (λa=>a=r):=⟨r,hok,rfl⟩;unfold g34 at H;clear hok;refine R.cut_fam H 8 [0] [] (λc=>[]) (λc=>[]) [] 0 (λH=>?_);refine And.intro ?_ ?_
 ·refine R.loop_fam (zN H) [0] [] (λ_ b=>[(3,.v (.int .i64 (b)))]) (λ_ b=>[]) 0 (λe H=>?_);refine⟨(e,_),⟨H⟩,⟨trivial⟩,?_⟩
  repeat refine zd ?_
  rintro⟨m0,b⟩ H _;obtain⟨f,hm0,H⟩:=zO H;dsimp only at hm0;subst hm0
  try dsimp only at H
  exact zB
 intro c H;exact zk
noncomputable def g15(a:ByteArray):Option ((Int×List Int×Int×Int)×Bool):= if a.data.toList=(lit [116,105,99,107]).data.toList then some ((2,([]:List Int),0,0),true)else(if a.data.toList=(lit [99,108,111,115,101]).data.toList then some ((4,([]:List Int),0,0),true)else(if a.data.toList=(lit [98,121,116,101,115]).data.toList then some ((1,([]:List Int),0,0),true)else((g32 a (lit [114,101,115,105,122,101,32])).bind λg=>if g.2=true then((g33 g.1).bind λc=>some ((c.1.1,c.1.2.1,c.1.2.2.1,c.1.2.2.2),c.2))else((g32 a (lit [116,121,112,101,32])).bind λe=>if e.2=true then(ck (e.1.size≤140737488355328)<|(g34 e.1).bind λj=>some ((1,z6 e.1,0,0),j))else((g32 a (lit [98,121,116,101,115,32])).bind λh=>if h.2=true then((g35 h.1).bind λd=>some ((d.1.1,d.1.2.1,d.1.2.2.1,d.1.2.2.2),d.2))else((g32 a (lit [107,101,121,32])).bind λi=>if ¬(i.2=true) then some ((0,([]:List Int),0,0),false)else((g36 i.1).bind λb=>(g37 (b.1.1,b.1.2.1,b.1.2.2.1,b.1.2.2.2.1,b.1.2.2.2.2.1,b.1.2.2.2.2.2)).bind λf=>if b.2=0 then some ((1,f.1,0,0),(decide (f.2=0)))else some ((1,f.1,0,0),false))))))))
noncomputable def k15:Eng.CS:={ f:=15,calm:=false,more:=0,ι:=ByteArray×((Int×List Int×Int×Int)×Bool),ok:=λi=>g15 i.1=some i.2,rds:=λ_=>[],args:=λi=>[.w (.v (.string (i.1)))],res:=λ_=>.bad,rn:=[],gr:=true,γ:=(Option Addr×Nat),resG:=λi g=>.tup [.agg [.v (.int .i64 (i.2.1.1)),.v (.slice g.1 i.2.1.2.1.length g.2),.v (.int .i64 (i.2.1.2.2.1)),.v (.int .i64 (i.2.1.2.2.2))],bS i.2.2],LG:=λi g=>[],okG:=λi g=>i.2.1.2.1.length≤g.2,rdsG:=λi g=>[(g.1,ei .u8 i.2.1.2.1)],fzr:=[(0,1)] }
theorem k15_ok:CSOk Tryz.prog k15:=by
 refine R.cspecG Tryz.func15 (nq9 Tryz.func15) rfl rfl (λ_=>rfl) ?_;rintro⟨c,r⟩ hok q hrds args hargs;dsimp only[k15] at hargs ⊢
 match args,hargs with
 |[_],hargs=>
 obtain⟨rfl,_⟩:=hargs;refine⟨envC [k32,k33,k34,k35,k36,k37] false [],6,zi (z8 ⟨λ_=>k32_ok,nofun⟩ (z8 ⟨nofun,λ_=>k33_ok⟩ (z8 ⟨λ_=>k34_ok,nofun⟩ (z8 ⟨nofun,λ_=>k35_ok⟩ (z8 ⟨λ_=>k36_ok,nofun⟩ (z8 ⟨nofun,λ_=>k37_ok⟩ (zj))))))),?_⟩;have H:zf (g15 c) (λa=>a=r):=⟨r,hok,rfl⟩;unfold g15 at H;clear hok;refine zb H ?_ ?_<;>intro a3 H
 ·exact zg
 refine zb H ?_ ?_<;>intro a4 H
 ·exact zg
 refine zb H ?_ ?_<;>intro a5 H
 ·exact zg
 obtain⟨g,s,H⟩:=za H;refine⟨(c,(lit [114,101,115,105,122,101,32]),g),⟨s⟩,⟨trivial⟩,?_⟩
 iterate 2 refine⟨⟨rfl⟩,?_⟩
 refine zb H ?_ ?_<;>intro a6 H
 ·obtain⟨t,u,H⟩:=za H;refine⟨(g.1,t),⟨u⟩,⟨trivial⟩,?_⟩;refine⟨⟨rfl⟩,?_⟩;intro a7 v a8 w x;obtain⟨y,z⟩:=v;have h:=w;obtain⟨i,_⟩:=x
  try dsimp only at h i
  have hfin:=zo H
  first|subst hfin|rw[←hfin]
  refine⟨(y,z),⟨h⟩,⟨⟨i,trivial⟩⟩,?_⟩
  repeat refine zd ?_
  trivial
 obtain⟨d,A,H⟩:=za H;refine⟨(c,(lit [116,121,112,101,32]),d),⟨A⟩,⟨trivial⟩,?_⟩
 iterate 2 refine⟨⟨rfl⟩,?_⟩
 refine zb H ?_ ?_<;>intro a9 H
 ·refine ob_sb H λaa H ab B C ac D E=>?_;intro F G;obtain rfl:F=(z6 d.1).length:=G.trans (zq d.1).symm;obtain⟨I,J,H⟩:=za H;refine⟨(d.1,I),⟨J⟩,⟨trivial⟩,?_⟩;refine⟨⟨rfl⟩,?_⟩;have hfin:=zo H
  first|subst hfin|rw[←hfin]
  refine⟨(B,C),⟨(Nat.le_trans (Nat.le_of_eq (zq d.1)) D)⟩,⟨⟨E,trivial⟩⟩,?_⟩
  repeat refine zd ?_
  trivial
 obtain⟨j,L,H⟩:=za H;refine⟨(c,(lit [98,121,116,101,115,32]),j),⟨L⟩,⟨trivial⟩,?_⟩
 iterate 2 refine⟨⟨rfl⟩,?_⟩
 refine zb H ?_ ?_<;>intro ad H
 ·obtain⟨M,N,H⟩:=za H;refine⟨(j.1,M),⟨N⟩,⟨trivial⟩,?_⟩;refine⟨⟨rfl⟩,?_⟩;intro ae O af P Q;obtain⟨T,U⟩:=O;have l:=P;obtain⟨m,_⟩:=Q
  try dsimp only at l m
  have hfin:=zo H
  first|subst hfin|rw[←hfin]
  refine⟨(T,U),⟨l⟩,⟨⟨m,trivial⟩⟩,?_⟩
  repeat refine zd ?_
  trivial
 obtain⟨n,V,H⟩:=za H;refine⟨(c,(lit [107,101,121,32]),n),⟨V⟩,⟨trivial⟩,?_⟩
 iterate 2 refine⟨⟨rfl⟩,?_⟩
 refine zb H ?_ ?_<;>intro ag H
 ·exact zg
 obtain⟨b,W,H⟩:=za H;refine⟨(n.1,b),⟨W⟩,⟨trivial⟩,?_⟩;refine⟨⟨rfl⟩,?_⟩;obtain⟨X,Y,H⟩:=za H;refine⟨((b.1.1,b.1.2.1,b.1.2.2.1,b.1.2.2.2.1,b.1.2.2.2.2.1,b.1.2.2.2.2.2),X),⟨Y⟩,⟨trivial⟩,?_⟩
 iterate 3 refine⟨⟨rfl⟩,?_⟩
 iterate 3 refine zd ?_
 intro ah Z ai a1 a2;obtain⟨o,p⟩:=Z;have e:=a1;obtain⟨f,_⟩:=a2
 try dsimp only at e f
 refine zb H ?_ ?_<;>intro aj H
 ·have hfin:=zo H
  first|subst hfin|rw[←hfin]
  refine⟨(o,p),⟨e⟩,⟨⟨f,trivial⟩⟩,?_⟩
  repeat refine zd ?_
  trivial
 have hfin:=zo H
 first|subst hfin|rw[←hfin]
 refine⟨(o,p),⟨e⟩,⟨⟨f,trivial⟩⟩,?_⟩
 repeat refine zd ?_
 trivial
end Go.Proofs.YticmemgehllacaaGreatDoor
namespace Go.Proofs
open Go.Shelf
def Tryz.lays156_ren:Go.Shelf.Ren:=⟨λ| 156=>376|165=>243|166=>21|169=>23|240=>54|241=>324|276=>118|277=>411|n=>n,λ| 31=>57|9=>9|3=>3|4=>4|0=>0|20=>20|72=>74|76=>79|70=>72|37=>35|75=>78|127=>123|164=>213|5=>5|80=>82|n=>n,λ| n=>n⟩
theorem Tryz.lays156:Go.Proofs.Lays.n156 Tryz.prog Tryz.lays156_ren:={
 mixed:=by kernel_rfl
 f156:=Tryz.func376.trans (congrArg some wz)
 f165:=Tryz.func243.trans (congrArg some wz)
 f166:=Tryz.func21.trans (congrArg some wz)
 f169:=Tryz.func23.trans (congrArg some wz)
 f240:=Tryz.func54.trans (congrArg some wz)
 f241:=Tryz.func324.trans (congrArg some wz)
 f276:=Tryz.func118.trans (congrArg some wz)
 f277:=Tryz.func411.trans (congrArg some wz)
 t0:=Tryz.underlying0
 a0:=Tryz.isAgg0
 z0:=Tryz.sizeOf0
 v0:=Tryz.zeroValue0
 t3:=Tryz.underlying3
 a3:=Tryz.isAgg3
 z3:=Tryz.sizeOf3
 v3:=Tryz.zeroValue3
 t4:=Tryz.underlying4
 a4:=Tryz.isAgg4
 z4:=Tryz.sizeOf4
 v4:=Tryz.zeroValue4
 t9:=Tryz.underlying9
 a9:=Tryz.isAgg9
 z9:=Tryz.sizeOf9
 v9:=Tryz.zeroValue9
 t20:=Tryz.underlying20
 a20:=Tryz.isAgg20
 z20:=Tryz.sizeOf20
 v20:=Tryz.zeroValue20
 t31:=Tryz.underlying57
 a31:=Tryz.isAgg57
 z31:=Tryz.sizeOf57
 v31:=Tryz.zeroValue57
 t37:=Tryz.underlying35
 a37:=Tryz.isAgg35
 z37:=Tryz.sizeOf35
 v37:=Tryz.zeroValue35
 t70:=Tryz.underlying72
 a70:=Tryz.isAgg72
 z70:=Tryz.sizeOf72
 v70:=Tryz.zeroValue72
 t72:=Tryz.underlying74
 a72:=Tryz.isAgg74
 z72:=Tryz.sizeOf74
 v72:=Tryz.zeroValue74
 t75:=Tryz.underlying78
 a75:=Tryz.isAgg78
 z75:=Tryz.sizeOf78
 v75:=Tryz.zeroValue78
 t76:=Tryz.underlying79
 a76:=Tryz.isAgg79
 z76:=Tryz.sizeOf79
 v76:=Tryz.zeroValue79
 t127:=Tryz.underlying123
 a127:=Tryz.isAgg123
 z127:=Tryz.sizeOf123
 v127:=Tryz.zeroValue123
 t164:=Tryz.underlying213
 a164:=Tryz.isAgg213
 z164:=Tryz.sizeOf213
 v164:=Tryz.zeroValue213 }
theorem Tryz.Builder_Extra_156:Builder.Extra Tryz.prog Tryz.lays156_ren:={
 sizeBuilder:=by kernel_rfl
 liesBuilder:=by kernel_rfl
 t5:=Tryz.underlying5
 a5:=Tryz.isAgg5
 z5:=Tryz.sizeOf5
 v5:=Tryz.zeroValue5
 infoByte:=by kernel_rfl
 cellsByte:=by kernel_rfl
 sizeByte:=by kernel_rfl
 neB5:=by decide }
open Go.RowKit in
theorem Tryz.strings_Join_none(a:Option Addr)(c:Nat)(sep:ByteArray)(w:World):
  Calls Tryz.prog 376 #[.slice a 0 c,.string sep] w λe w'=>e=.returned (.string ⟨#[]⟩)∧w'=w:=Any.strings_Join_none Tryz.lays156 Tryz.Builder_Extra_156 a c sep w
open Go.RowKit in
theorem Tryz.strings_Join(bk o c:Nat)(xs:List ByteArray)(sep:ByteArray)(w:World)(hcells:∀(j:Nat) x,xs[j]?=some x→w.cell? ⟨bk,o+j,none⟩=some (.string x))(hbk:bk<w.heap.size)(hN:xs.length≤140737488355328)(hcap:xs.length≤c)(hlen:(Lib.join (xs.map (·.data.toList)) sep.data.toList).length≤140737488355328):
  Calls Tryz.prog 376 #[.slice (some ⟨bk,o,none⟩) xs.length c,.string sep] w λe w'=>e=.returned (.string ⟨(Lib.join (xs.map (·.data.toList)) sep.data.toList).toArray⟩)∧Below w.heap.size w w':=Any.strings_Join Tryz.lays156 Tryz.Builder_Extra_156 bk o c xs sep w hcells hbk hN hcap hlen
def Tryz.lays217_ren:Go.Shelf.Ren:=⟨λ| 217=>57|266=>119|n=>n,λ| 9=>9|5=>5|3=>3|n=>n,λ| n=>n⟩
theorem Tryz.lays217:Go.Proofs.Lays.n217 Tryz.prog Tryz.lays217_ren:={
 mixed:=by kernel_rfl
 f217:=Tryz.func57.trans (congrArg some wz)
 f266:=Tryz.func119.trans (congrArg some wz)
 t3:=Tryz.underlying3
 a3:=Tryz.isAgg3
 z3:=Tryz.sizeOf3
 v3:=Tryz.zeroValue3
 t5:=Tryz.underlying5
 a5:=Tryz.isAgg5
 z5:=Tryz.sizeOf5
 v5:=Tryz.zeroValue5
 t9:=Tryz.underlying9
 a9:=Tryz.isAgg9
 z9:=Tryz.sizeOf9
 v9:=Tryz.zeroValue9 }
open Go.RowKit Go.Lib in
theorem Tryz.stringslite_IndexByte(s:ByteArray)(c:Int)(w:World):
  Calls Tryz.prog 57 #[.string s,.int .u8 c] w λe w'=>e=.returned (.int .i64 (Lib.indexByte s.data.toList c.toNat.toUInt8))∧w'=w:=Any.stringslite_IndexByte Tryz.lays217 s c w
def Tryz.lays144_ren:Go.Shelf.Ren:=⟨λ| 144=>76|143=>140|219=>120|217=>57|225=>202|224=>203|267=>204|266=>119|314=>295|n=>n,λ| 9=>9|4=>4|3=>3|5=>5|46=>126|146=>356|51=>355|n=>n,λ| 1=>0|n=>n⟩
theorem Tryz.lays144:Go.Proofs.Lays.n144 Tryz.prog Tryz.lays144_ren:={
 mixed:=by kernel_rfl
 f143:=Tryz.func140.trans (congrArg some wz)
 f144:=Tryz.func76.trans (congrArg some wz)
 f217:=Tryz.func57.trans (congrArg some wz)
 f219:=Tryz.func120.trans (congrArg some wz)
 f224:=Tryz.func203.trans (congrArg some wz)
 f225:=Tryz.func202.trans (congrArg some wz)
 f266:=Tryz.func119.trans (congrArg some wz)
 f267:=Tryz.func204.trans (congrArg some wz)
 f314:=Tryz.func295.trans (congrArg some wz)
 t3:=Tryz.underlying3
 a3:=Tryz.isAgg3
 z3:=Tryz.sizeOf3
 v3:=Tryz.zeroValue3
 t4:=Tryz.underlying4
 a4:=Tryz.isAgg4
 z4:=Tryz.sizeOf4
 v4:=Tryz.zeroValue4
 t5:=Tryz.underlying5
 a5:=Tryz.isAgg5
 z5:=Tryz.sizeOf5
 v5:=Tryz.zeroValue5
 t9:=Tryz.underlying9
 a9:=Tryz.isAgg9
 z9:=Tryz.sizeOf9
 v9:=Tryz.zeroValue9
 t46:=Tryz.underlying126
 a46:=Tryz.isAgg126
 z46:=Tryz.sizeOf126
 v46:=Tryz.zeroValue126
 t51:=Tryz.underlying355
 a51:=Tryz.isAgg355
 z51:=Tryz.sizeOf355
 v51:=Tryz.zeroValue355
 t146:=Tryz.underlying356
 a146:=Tryz.isAgg356
 z146:=Tryz.sizeOf356
 v146:=Tryz.zeroValue356
 g1:=by kernel_rfl }
open Go.RowKit Go.Lib in
theorem Tryz.strings_Contains(s sub:ByteArray)(m:Int)(w:World)(hs:s.size<4294967281)(hm:w.cell? ⟨0,0,none⟩=some (.int .i64 m)):
  Calls Tryz.prog 76 #[.string s,.string sub] w λe w'=>e=.returned (.bool (Lib.contains s.data.toList sub.data.toList))∧w'=w:=Any.strings_Contains Tryz.lays144 s sub m w hs hm
def Tryz.lays145_ren:Go.Shelf.Ren:=⟨λ| 145=>27|220=>58|219=>120|217=>57|225=>202|224=>203|267=>204|266=>119|314=>295|n=>n,λ| 9=>9|4=>4|59=>85|3=>3|5=>5|46=>126|146=>356|51=>355|n=>n,λ| 1=>0|n=>n⟩
theorem Tryz.lays145:Go.Proofs.Lays.n145 Tryz.prog Tryz.lays145_ren:={
 mixed:=by kernel_rfl
 f145:=Tryz.func27.trans (congrArg some wz)
 f217:=Tryz.func57.trans (congrArg some wz)
 f219:=Tryz.func120.trans (congrArg some wz)
 f220:=Tryz.func58.trans (congrArg some wz)
 f224:=Tryz.func203.trans (congrArg some wz)
 f225:=Tryz.func202.trans (congrArg some wz)
 f266:=Tryz.func119.trans (congrArg some wz)
 f267:=Tryz.func204.trans (congrArg some wz)
 f314:=Tryz.func295.trans (congrArg some wz)
 t3:=Tryz.underlying3
 a3:=Tryz.isAgg3
 z3:=Tryz.sizeOf3
 v3:=Tryz.zeroValue3
 t4:=Tryz.underlying4
 a4:=Tryz.isAgg4
 z4:=Tryz.sizeOf4
 v4:=Tryz.zeroValue4
 t5:=Tryz.underlying5
 a5:=Tryz.isAgg5
 z5:=Tryz.sizeOf5
 v5:=Tryz.zeroValue5
 t9:=Tryz.underlying9
 a9:=Tryz.isAgg9
 z9:=Tryz.sizeOf9
 v9:=Tryz.zeroValue9
 t46:=Tryz.underlying126
 a46:=Tryz.isAgg126
 z46:=Tryz.sizeOf126
 v46:=Tryz.zeroValue126
 t51:=Tryz.underlying355
 a51:=Tryz.isAgg355
 z51:=Tryz.sizeOf355
 v51:=Tryz.zeroValue355
 t59:=Tryz.underlying85
 a59:=Tryz.isAgg85
 z59:=Tryz.sizeOf85
 v59:=Tryz.zeroValue85
 t146:=Tryz.underlying356
 a146:=Tryz.isAgg356
 z146:=Tryz.sizeOf356
 v146:=Tryz.zeroValue356
 g1:=by kernel_rfl }
open Go.RowKit Go.Lib in
theorem Tryz.strings_Cut(s sep:ByteArray)(m:Int)(w:World)(hs:s.size<4294967281)(hm:w.cell? ⟨0,0,none⟩=some (.int .i64 m)):
  Calls Tryz.prog 27 #[.string s,.string sep] w λe w'=>e=.returned (.tuple #[.string ⟨(Lib.cut s.data.toList sep.data.toList).1.toArray⟩,.string ⟨(Lib.cut s.data.toList sep.data.toList).2.1.toArray⟩,.bool (Lib.cut s.data.toList sep.data.toList).2.2])∧∃n,w'=w.drewN n:=Any.strings_Cut Tryz.lays145 s sep m w hs hm
end Go.Proofs
namespace Go.Proofs.YticmemgehllacaaGreatDoor
open Go Go.Eng Go.RowKit
noncomputable def g57(a:ByteArray)(b:Int):Option Int:=some (Lib.indexByte a.data.toList b.toNat.toUInt8)
noncomputable def k57:Eng.CS:={ f:=57,calm:=true,more:=0,ι:=ByteArray×Int×Int,ok:=λi=>g57 i.1 i.2.1=some i.2.2,rds:=λi=>[],args:=λi=>[.w (.v (.string i.1)),.w (.v (.int .u8 i.2.1))],res:=λi=>.v (.int .i64 i.2.2),rn:=[] }
theorem k57_ok:zp Tryz.prog k57:=by
 refine⟨λargs w=>?_,?_⟩
 ·have hname' : ¬ Tryz.f57.name = "runtime.NumGoroutine" := by simpa using (nq9 Tryz.func57)
  obtain⟨c,hc⟩:=Option.isSome_iff_exists.1 (show Tryz.f57.body.isSome=true from rfl);have hP:=Tryz.func57;simp[callFunc,k57,hP,hname',hc]
 rintro w q S ⟨a,b,r⟩ vs hok hrds hm hargs;have hr:Lib.indexByte a.data.toList b.toNat.toUInt8=r:=Option.some.inj hok;subst hr
 match vs,hargs with
 |[v,s],hargs=>
 obtain⟨hv,hs,_⟩:=hargs;have hv:v=.string a:=hv;have hs:s=.int .u8 b:=hs;subst hs hv;refine(Tryz.stringslite_IndexByte a b w).mono ?_;rintro e w' ⟨rfl,rfl⟩;exact⟨by simp[k57,den],Below.refl _ _⟩
noncomputable def cut23(a0 a1:ByteArray):ByteArray×ByteArray×Bool:=(⟨(Lib.cut a0.data.toList a1.data.toList).1.toArray⟩,⟨(Lib.cut a0.data.toList a1.data.toList).2.1.toArray⟩,(Lib.cut a0.data.toList a1.data.toList).2.2)
noncomputable def g27(a:ByteArray)(b:ByteArray):Option (ByteArray×ByteArray×Bool):=ck (a.size<4294967281)<|some (cut23 a b)
noncomputable def k27:Eng.CS:={ f:=27,calm:=true,more:=0,ι:=ByteArray×ByteArray×(ByteArray×ByteArray×Bool)×Int,ok:=λi=>g27 i.1 i.2.1=some i.2.2.1,rds:=λi=>[(some ⟨0,0,none⟩,[.int .i64 i.2.2.2])],args:=λi=>[.w (.v (.string i.1)),.w (.v (.string i.2.1))],res:=λi=>.tup [.v (.string i.2.2.1.1),.v (.string i.2.2.1.2.1),bS i.2.2.1.2.2],rn:=[] }
theorem k27_ok:zp Tryz.prog k27:=by
 refine⟨λargs w=>?_,?_⟩
 ·have hname' : ¬ Tryz.f27.name = "runtime.NumGoroutine" := by simpa using (nq9 Tryz.func27)
  obtain⟨c,hc⟩:=Option.isSome_iff_exists.1 (show Tryz.f27.body.isSome=true from rfl);have hP:=Tryz.func27;simp[callFunc,k27,hP,hname',hc]
 rintro w q S ⟨a,b,r,m⟩ vs hok hrds hm hargs
 have hr:a.size<4294967281∧cut23 a b=r:=by
  have:g27 a b=some r:=hok;unfold g27 ck at this;split at this
  ·rename_i d;cases this;exact⟨d,rfl⟩
  cases this
 obtain⟨d,rfl⟩:=hr
 match vs,hargs with
 |[v,s],hargs=>
 obtain⟨hv,hs,_⟩:=hargs;have hv:v=.string a:=hv;have hs:s=.string b:=hs;subst hs hv;have hR:Reads q (some ⟨0,0,none⟩) [.int .i64 m]:=hrds.1;have f:q 0 0=some (.int .i64 m):=hR 0 (Nat.zero_lt_succ 0);refine(Tryz.strings_Cut a b m w d (hm 0 0 _ f)).mono ?_;rintro e w' ⟨rfl,n,rfl⟩;exact⟨by simp[k27,cut23,bS,den,denL],(Below.refl _ _).trans ⟨rfl,rfl,rfl,Nat.le_refl _,λ_ _=>rfl⟩⟩
end Go.Proofs.YticmemgehllacaaGreatDoor
namespace Go.Proofs.YticmemgehllacaaGreatDoor
open Go Go.Eng
noncomputable def g26(a:ByteArray)(b:Int):Option (Int):= (g57 a b).bind λc=>some c
noncomputable def k26:Eng.CS:={ f:=26,calm:=true,more:=0,ι:=ByteArray×Int×Int,ok:=λi=>g26 i.1 i.2.1=some i.2.2,rds:=λ_=>[],args:=λi=>[.w (.v (.string (i.1))),.w (.v (.int .u8 (i.2.1)))],res:=λi=>.v (.int .i64 (i.2.2)) }
theorem k26_ok:zp Tryz.prog k26:=by
 refine R.calmspec Tryz.func26 (nq9 Tryz.func26) rfl ?_;rintro⟨b,c,r⟩ hok q _ args hargs
 match args,hargs with
 |[_,_],hargs=>
 obtain⟨rfl,rfl,_⟩:=hargs;refine⟨envC [k57] false [],6,zi (z8 ⟨λ_=>k57_ok,nofun⟩ (zj)),rfl,(nM2 rfl rfl),?_⟩;have H:zf (g26 b c) (λa=>a=r):=⟨r,hok,rfl⟩;unfold g26 at H;clear hok;exact zk
noncomputable def g59(b:ByteArray):Option (Int×Bool):= if (b.size:Int)<1 then some (0,false)else(if 3<(b.size:Int) then some (0,false)else(ck (0≤(0:Int)∧0<(b.size:Int))<|if ((b.data.toList[(0:Int).toNat]?.getD 0).toNat:Int)=48 then some (0,false)else(jn (α:=_) (β:=Int) (λk73=>(y7 (σ:=Int×Int) (ρ:=(Unit) ⊕ (Int)) (λa=>if a.2<(b.size:Int) then(ck (0≤a.2∧a.2<(b.size:Int))<|if ((b.data.toList[a.2.toNat]?.getD 0).toNat:Int)<48 then some (.out (.inl (())))else(ck (0≤a.2∧a.2<(b.size:Int))<|if 57<((b.data.toList[a.2.toNat]?.getD 0).toNat:Int) then some (.out (.inl (())))else(ck (inR .i64 (a.1*10))<|ck (0≤a.2∧a.2<(b.size:Int))<|ck (inR .u8 (((b.data.toList[a.2.toNat]?.getD 0).toNat:Int)-48))<|ck (inR .i64 (((b.data.toList[a.2.toNat]?.getD 0).toNat:Int)-48))<|ck (inR .i64 ((a.1*10)+(((b.data.toList[a.2.toNat]?.getD 0).toNat:Int)-48)))<|ck (inR .i64 (a.2+1))<|some (.go ((a.1*10)+(((b.data.toList[a.2.toNat]?.getD 0).toNat:Int)-48),a.2+1)))))else some (.out (.inr (a.1)))) (0,0)).bind λd=>sm d (λf=>some (0,false)) (λe=>k73 e)) (λc=>some (c,(decide (c≤500)))))))
noncomputable def k59:Eng.CS:={ f:=59,calm:=true,more:=0,ι:=ByteArray×(Int×Bool),ok:=λi=>g59 i.1=some i.2,rds:=λ_=>[],args:=λi=>[.w (.v (.string (i.1)))],res:=λi=>.tup [.v (.int .i64 (i.2.1)),bS i.2.2] }
theorem k59_ok:zp Tryz.prog k59:=by
 refine R.calmspec Tryz.func59 (nq9 Tryz.func59) rfl ?_;rintro⟨d,r⟩ hok q _ args hargs
 match args,hargs with
 |[_],hargs=>
 obtain⟨rfl,_⟩:=hargs;refine⟨envC [] false [(59,10)],6,zi (zj),rfl,(nM1 rfl),?_⟩;have H:zf (g59 d) (λa=>a=r):=⟨r,hok,rfl⟩;unfold g59 at H;clear hok;refine zb H ?_ ?_<;>intro f H
 ·exact zk
 refine zb H ?_ ?_<;>intro g H
 ·exact zk
 refine zr H λh H=>?_;refine zb H ?_ ?_<;>intro i H
 ·exact zk
 refine R.cut_fam H 23 [] [] (λc=>[(4,.v (.int .i64 (c)))]) (λc=>[]) [] 0 (λH=>?_);refine And.intro ?_ ?_
 ·refine R.loop_fam (zN H) [0] [] (λ_ b=>[(4,.v (.int .i64 (b.1))),(5,.v (.int .i64 (b.2)))]) (λ_ b=>[]) 0 (λe H=>?_);refine⟨(e,_),⟨H⟩,⟨trivial⟩,?_⟩
  repeat refine zd ?_
  rintro⟨m0,b⟩ H _;obtain⟨j,hm0,H⟩:=zO H;dsimp only at hm0;subst hm0
  try dsimp only at H
  exact zB
 intro c H;exact zk
noncomputable def g29(b:ByteArray):Option (Bool):= jn (α:=_) (β:=Unit) (λc=>(y7 (σ:=Int) (ρ:=(Unit) ⊕ (Unit)) (λa=>if a<(b.size:Int) then(ck (0≤a∧a<(b.size:Int))<|if ((b.data.toList[a.toNat]?.getD 0).toNat:Int)<32 then some (.out (.inl (())))else(ck (0≤a∧a<(b.size:Int))<|if 126<((b.data.toList[a.toNat]?.getD 0).toNat:Int) then some (.out (.inl (())))else(ck (inR .i64 (a+1))<|some (.go (a+1)))))else some (.out (.inr (())))) 0).bind λd=>sm d (λe=>some false) (λf=>c ())) (λg=>some (decide (¬(b.data.toList=(lit []).data.toList))))
noncomputable def k29:Eng.CS:={ f:=29,calm:=true,more:=0,ι:=ByteArray×Bool,ok:=λi=>g29 i.1=some i.2,rds:=λ_=>[],args:=λi=>[.w (.v (.string (i.1)))],res:=λi=>bS i.2 }
theorem k29_ok:zp Tryz.prog k29:=by
 refine R.calmspec Tryz.func29 (nq9 Tryz.func29) rfl ?_;rintro⟨d,r⟩ hok q _ args hargs
 match args,hargs with
 |[_],hargs=>
 obtain⟨rfl,_⟩:=hargs;refine⟨envC [] false [(29,6)],6,zi (zj),rfl,(nM1 rfl),?_⟩;have H:zf (g29 d) (λa=>a=r):=⟨r,hok,rfl⟩;unfold g29 at H;clear hok;refine R.cut_fam H 8 [0] [] (λc=>[]) (λc=>[]) [] 0 (λH=>?_);refine And.intro ?_ ?_
 ·refine R.loop_fam (zN H) [0] [] (λ_ b=>[(3,.v (.int .i64 (b)))]) (λ_ b=>[]) 0 (λe H=>?_);refine⟨(e,_),⟨H⟩,⟨trivial⟩,?_⟩
  repeat refine zd ?_
  rintro⟨m0,b⟩ H _;obtain⟨f,hm0,H⟩:=zO H;dsimp only at hm0;subst hm0
  try dsimp only at H
  exact zB
 intro c H;exact zk
noncomputable def g30(b:ByteArray):Option (List Int×Bool):= if ¬(Int.tmod (b.size:Int) 2)=0 then some (([]:List Int),false)else(jn (α:=_) (β:=List Int) (λe=>(y7 (σ:=List Int×Int) (ρ:=(Unit) ⊕ (List Int)) (λa=>ck (inR .i64 (a.2+1))<|if (a.2+1)<(b.size:Int) then(ck (0≤a.2∧a.2<(b.size:Int))<|(g26 (lit [48,49,50,51,52,53,54,55,56,57,97,98,99,100,101,102]) ((b.data.toList[a.2.toNat]?.getD 0).toNat:Int)).bind λc=>ck (inR .i64 (a.2+1))<|ck (0≤a.2+1∧a.2+1<(b.size:Int))<|(g26 (lit [48,49,50,51,52,53,54,55,56,57,97,98,99,100,101,102]) ((b.data.toList[(a.2+1).toNat]?.getD 0).toNat:Int)).bind λd=>if c<0 then some (.out (.inl (())))else(if d<0 then some (.out (.inl (())))else(ck ((a.1.length+1)*1≤140737488355328)<|ck (inR .i64 (a.2+2))<|some (.go ((a.1++[IntKind.wrap .u8 (bits .or .i64 (IntKind.wrap .i64 (c*2^(4:Int).toNat)) d)]),a.2+2)))))else some (.out (.inr (a.1)))) ([],0)).bind λf=>sm f (λi=>some (([]:List Int),false)) (λg=>e g)) (λh=>some (h,true)))
noncomputable def k30:Eng.CS:={ f:=30,calm:=false,more:=0,ι:=ByteArray×(List Int×Bool),ok:=λi=>g30 i.1=some i.2,rds:=λ_=>[],args:=λi=>[.w (.v (.string (i.1)))],res:=λ_=>.bad,rn:=[],gr:=true,γ:=(Option Addr×Nat),resG:=λi g=>.tup [.v (.slice g.1 i.2.1.length g.2),bS i.2.2],LG:=λi g=>[],okG:=λi g=>i.2.1.length≤g.2,rdsG:=λi g=>[(g.1,ei .u8 i.2.1)],fzr:=[(0,0)] }
theorem k30_ok:CSOk Tryz.prog k30:=by
 refine R.cspecG Tryz.func30 (nq9 Tryz.func30) rfl rfl (λ_=>rfl) ?_;rintro⟨f,r⟩ hok q hrds args hargs;dsimp only[k30] at hargs ⊢
 match args,hargs with
 |[_],hargs=>
 obtain⟨rfl,_⟩:=hargs;refine⟨envC [k26] false [(30,11)],6,zi (z8 ⟨λ_=>k26_ok,nofun⟩ (zj)),?_⟩;have H:zf (g30 f) (λa=>a=r):=⟨r,hok,rfl⟩;unfold g30 at H;clear hok;refine And.intro ⟨by decide⟩ ?_;refine zb H ?_ ?_<;>intro w H
 ·exact zg
 refine R.cut_fam H 18 [] [] (λc=>[(4,.own 18)]) (λc=>[(18,.arr 5 1 (c.length) (ei .u8 (c)))]) [] 1 (λH=>?_);refine And.intro ?_ ?_
 ·refine R.loop_fam (zN H) [0] [(4,0,5,1)] (λ_ b=>[(4,.own 9),(5,.v (.int .i64 (b.2)))]) (λ_ b=>[(9,.arr 5 1 (b.1.length) (ei .u8 (b.1)))]) 1 (λl H=>?_);refine⟨(l,_),⟨H⟩,⟨trivial⟩,?_⟩
  repeat refine zd ?_
  rintro⟨m0,b⟩ H _;obtain⟨x,hm0,H⟩:=zO H;dsimp only at hm0;subst hm0
  try dsimp only at H
  refine zr H λz H=>?_;refine zb H ?_ ?_<;>intro A H
  ·refine And.intro ⟨by kernel_rfl⟩ ?_;refine zr H λB H=>?_;obtain⟨d,m,H⟩:=za H;refine⟨((lit [48,49,50,51,52,53,54,55,56,57,97,98,99,100,101,102]),((f.data.toList[b.2.toNat]?.getD 0).toNat:Int),d),⟨m⟩,⟨trivial⟩,?_⟩
   iterate 2 refine⟨⟨rfl⟩,?_⟩
   refine zr H λC H=>?_;refine zr H λD H=>?_;obtain⟨e,n,H⟩:=za H;refine⟨((lit [48,49,50,51,52,53,54,55,56,57,97,98,99,100,101,102]),((f.data.toList[(b.2+1).toNat]?.getD 0).toNat:Int),e),⟨n⟩,⟨trivial⟩,?_⟩
   iterate 2 refine⟨⟨rfl⟩,?_⟩
   refine zb H ?_ ?_<;>intro E H
   ·exact zg
   refine zb H ?_ ?_<;>intro F H
   ·exact zg
   refine And.intro ⟨by decide⟩ ?_;refine xq ww wt H λG H=>?_;intro o p s g;obtain rfl:o=(b.1++[IntKind.wrap .u8 (bits .or .i64 (IntKind.wrap .i64 (d*2^(4:Int).toNat)) e)]).length:=s.trans wy;obtain rfl:p=ei .u8 (b.1++[IntKind.wrap .u8 (bits .or .i64 (IntKind.wrap .i64 (d*2^(4:Int).toNat)) e)]):=by first|exact g.trans (ei_app (xs:=b.1) (ys:=([IntKind.wrap .u8 (bits .or .i64 (IntKind.wrap .i64 (d*2^(4:Int).toNat)) e)]))).symm|(rw[g,ei_vw];first|exact ei_app.symm|exact(ei_app (xs:=b.1)).symm)|(rw[g];simp[ei,eb,es,ec])
   exact zg
  exact zg
 intro c H;intro j h t I u i;replace i:Reads j h (ei .u8 c):=Eq.mp (congrArg (Reads j h) wu) i;have hfin:=zo H
 first|subst hfin|rw[←hfin]
 refine⟨(h,t),⟨u⟩,⟨⟨i,trivial⟩⟩,?_⟩
 repeat refine zd ?_
 trivial
noncomputable def g28(d:ByteArray):Option ((Int×List Int×Int×Int)×Bool):= (g27 d (lit [32])).bind λc=>(g59 c.1).bind λa=>(g59 c.2.1).bind λb=>if a.2=true then some ((3,([]:List Int),a.1,b.1),b.2)else some ((3,([]:List Int),a.1,b.1),false)
noncomputable def k28:Eng.CS:={ f:=28,calm:=false,more:=0,ι:=ByteArray×((Int×List Int×Int×Int)×Bool)×Int,ok:=λi=>g28 i.1=some i.2.1,rds:=λi=>[(some ⟨0,0,none⟩,[.int .i64 i.2.2])],args:=λi=>[.w (.v (.string (i.1)))],res:=λ_=>.bad,rn:=[],gr:=true,γ:=(Option Addr×Nat),resG:=λi g=>.tup [.agg [.v (.int .i64 (i.2.1.1.1)),.v (.slice g.1 i.2.1.1.2.1.length g.2),.v (.int .i64 (i.2.1.1.2.2.1)),.v (.int .i64 (i.2.1.1.2.2.2))],bS i.2.1.2],LG:=λi g=>[],okG:=λi g=>i.2.1.1.2.1.length≤g.2,rdsG:=λi g=>[(g.1,ei .u8 i.2.1.1.2.1)],fzr:=[(0,1)] }
theorem k28_ok:CSOk Tryz.prog k28:=by
 refine R.cspecG Tryz.func28 (nq9 Tryz.func28) rfl rfl (λ_=>rfl) ?_;rintro⟨b,r,mM⟩ hok q hrds args hargs;obtain⟨hM,_⟩:=hrds;dsimp only[k28] at hargs ⊢
 match args,hargs with
 |[_],hargs=>
 obtain⟨rfl,_⟩:=hargs;refine⟨envC [k27,k59] false [],6,zi (z8 ⟨λ_=>k27_ok,nofun⟩ (z8 ⟨λ_=>k59_ok,nofun⟩ (zj))),?_⟩;have H:zf (g28 b) (λa=>a=r):=⟨r,hok,rfl⟩;unfold g28 at H;clear hok;obtain⟨c,d,H⟩:=za H;refine⟨(b,(lit [32]),c,mM),⟨d⟩,⟨⟨hM,trivial⟩⟩,?_⟩
 iterate 2 refine⟨⟨rfl⟩,?_⟩
 exact zg
end Go.Proofs.YticmemgehllacaaGreatDoor
namespace Go.Proofs.YticmemgehllacaaGreatDoor
open Go Go.Eng Go.RowKit
set_option maxHeartbeats 1000000 in
set_option maxRecDepth 100000 in
theorem lcc_used(b:Nat)(w:World)(h0:w.cell? ⟨b,0,none⟩=some (.pointer (some ⟨b,0,none⟩))):
  Calls Tryz.prog 54 #[.pointer (some ⟨b,0,none⟩)] w λe w'=>e=.returned (.tuple #[])∧w'=w:=by
 have hj:(Tryz.prog.info? 74).map (·.size)=some 2:=by kernel_rfl
 obtain⟨j,hj,hjs⟩:=Option.map_eq_some_iff.1 hj;go_enter Tryz.func54,Tryz.ntmps54;go_wp2;rw[Lib.run_neq_ptr_same w _ Tryz.underlying72 hj];go_wp2;go_end0;exact⟨rfl,rfl⟩
set_option maxHeartbeats 1000000 in
set_option maxRecDepth 100000 in
theorem lcc_fresh(b:Nat)(w:World)(h0:w.cell? ⟨b,0,none⟩=some (.pointer none))(hsh:w.shape? b=some (74,2))(hfz:w.frozen? ⟨b,0,none⟩=false):
  Calls Tryz.prog 54 #[.pointer (some ⟨b,0,none⟩)] w λe w'=>e=.returned (.tuple #[])∧w'=w.setCell ⟨b,0,none⟩ (.pointer (some ⟨b,0,none⟩)):=by
 have hj:(Tryz.prog.info? 74).map (·.size)=some 2:=by kernel_rfl
 obtain⟨j,hj,hjs⟩:=Option.map_eq_some_iff.1 hj;go_enter Tryz.func54,Tryz.ntmps54;go_wp2;rw[Lib.run_to_unsafe w ⟨b,0,none⟩ Tryz.underlying72 Tryz.underlying213 hj (by rw[hjs];decide) hsh (Nat.zero_lt_succ 1)];simp only[Result.andThen];rw[Oper.upon_value];go_wp2;rw[run_callFunc_extern Tryz.func118 wz wz wz (e:=Extern.AbiNoEscape.same) wz];rw[Lib.run_noEscape];simp only[Result.andThen];rw[Oper.upon_value];go_wp2;rw[Lib.run_from_unsafe w ⟨b,0,none⟩ Tryz.underlying213 Tryz.underlying72 hj hsh wz];simp only[Result.andThen];rw[Oper.upon_value];go_wp2;go_end0;exact⟨rfl,rfl⟩
theorem lus_nil(W:World)(q:Option Addr):(Builtin.unsafeString_ #[123,3] 9 #[.pointer q,.int .i64 0]).run Tryz.prog W=.ok (.string .empty) W:=
 Lib.run_unsafeString_none W _ _ _ q
set_option maxHeartbeats 2000000 in
set_option maxRecDepth 100000 in
theorem lstr_nil(b:Nat)(p:Value)(w:World)(hbk:w.heap[b]?=some (.cells #[p,.slice none 0 0] 74 (0,0))):
  Calls Tryz.prog 23 #[.pointer (some ⟨b,0,none⟩)] w λe w'=>e=.returned (.string ⟨#[]⟩)∧w.grownBy w' none:=by
 have mixed:Tryz.prog.follows Departure.mixedOrders=true:=by kernel_rfl
 have hUS:=lus_nil
 have c1:w.drew.cell? ⟨b,1,none⟩=some (.slice none 0 0):=by
  have:w.drew.heap[b]?=some (.cells #[p,.slice none 0 0] 74 (0,0)):=hbk;rw[Lib.cell_of_heap this];rfl
 have hSD:(Builtin.unsafeSliceData_ #[35] 123 #[.slice none 0 0]).run Tryz.prog w.drew=.ok (.pointer none) w.drew:=rfl;go_enter Tryz.func23,Tryz.ntmps23;go_wp2;go_region_o
 all_goals (go_wp2;go_ret;exact⟨rfl,rfl,rfl,rfl,Nat.le_refl _,λ_ _ _=>rfl⟩)
set_option maxHeartbeats 2000000 in
set_option maxRecDepth 100000 in
theorem lstr_noroom(b g:Nat)(p:Value)(cur:Array Value)(w:World)(hbk:w.heap[b]?=some (.cells #[p,.slice (some ⟨g,0,none⟩) 0 0] 74 (0,0)))(hg:w.heap[g]?=some (.cells cur 5 (0,0))):
  Calls Tryz.prog 23 #[.pointer (some ⟨b,0,none⟩)] w λe w'=>e=.returned (.string ⟨#[]⟩)∧w.grownBy w' (some g):=by
 have mixed:Tryz.prog.follows Departure.mixedOrders=true:=by kernel_rfl
 have hUS:=lus_nil;have hlt:b<w.heap.size:=(Array.getElem?_eq_some_iff.1 hbk).1
 have c1:w.drew.cell? ⟨b,1,none⟩=some (.slice (some ⟨g,0,none⟩) 0 0):=by
  have:w.drew.heap[b]?=some (.cells #[p,.slice (some ⟨g,0,none⟩) 0 0] 74 (0,0)):=hbk;rw[Lib.cell_of_heap this];rfl
 have hSD:(Builtin.unsafeSliceData_ #[35] 123 #[.slice (some ⟨g,0,none⟩) 0 0]).run Tryz.prog w.drew=.ok (.pointer (some ⟨w.drew.heap.size,0,none⟩)) (w.drew.alloc (.view ⟨g,0,none⟩ 5)):=
  Lib.run_unsafeSliceData_zero w.drew _ _ 5 Tryz.underlying123 ⟨g,0,none⟩ 0 (5,cur.size) wC
 have c2:(w.drew.alloc (.view ⟨g,0,none⟩ 5)).cell? ⟨b,1,none⟩=some (.slice (some ⟨g,0,none⟩) 0 0):=by
  have:(w.drew.alloc (.view ⟨g,0,none⟩ 5)).heap[b]?=_:=(Lib.alloc_old w.drew _ b hlt).trans hbk;rw[Lib.cell_of_heap this];rfl
 have c3:(w.alloc (.view ⟨g,0,none⟩ 5)).drew.cell? ⟨b,1,none⟩=some (.slice (some ⟨g,0,none⟩) 0 0):=c2;have c0:w.cell? ⟨b,1,none⟩=some (.slice (some ⟨g,0,none⟩) 0 0):=c1;go_enter Tryz.func23,Tryz.ntmps23;go_wp2;go_region_o
 all_goals (go_wp2;go_ret;exact⟨rfl,rfl,rfl,rfl,by simp,λk hk _=>heap_alloc_old w.drew _ hk⟩)
set_option maxHeartbeats 2000000 in
set_option maxRecDepth 100000 in
theorem lstr_room(b g cap:Nat)(p:Value)(w:World)(hc0:cap≠0)(hbk:w.heap[b]?=some (.cells #[p,.slice (some ⟨g,0,none⟩) 0 cap] 74 (0,0))):
  Calls Tryz.prog 23 #[.pointer (some ⟨b,0,none⟩)] w λe w'=>e=.returned (.string ⟨#[]⟩)∧w.grownBy w' (some g):=by
 have mixed:Tryz.prog.follows Departure.mixedOrders=true:=by kernel_rfl
 have hUS:=lus_nil
 have c1:w.drew.cell? ⟨b,1,none⟩=some (.slice (some ⟨g,0,none⟩) 0 cap):=by
  have:w.drew.heap[b]?=some (.cells #[p,.slice (some ⟨g,0,none⟩) 0 cap] 74 (0,0)):=hbk;rw[Lib.cell_of_heap this];rfl
 have hSD:(Builtin.unsafeSliceData_ #[35] 123 #[.slice (some ⟨g,0,none⟩) 0 cap]).run Tryz.prog w.drew=.ok (.pointer (some ⟨g,0,none⟩)) w.drew:=
  Lib.run_unsafeSliceData_row _ _ _ _ _ _ hc0
 clear hc0;go_enter Tryz.func23,Tryz.ntmps23;go_wp2;go_region_o
 all_goals (go_wp2;go_ret;exact⟨rfl,rfl,rfl,rfl,Nat.le_refl _,λ_ _ _=>rfl⟩)
set_option maxHeartbeats 2000000 in
set_option maxRecDepth 100000 in
theorem lstr_some(b g cap:Nat)(p:Value)(cur:Array Value)(l:List UInt8)(w:World)(h0:l≠[])(hbk:w.heap[b]?=some (.cells #[p,.slice (some ⟨g,0,none⟩) l.length cap] 74 (0,0)))(hg:w.heap[g]?=some (.cells cur 5 (0,0)))
  (hnc:l.length≤cap) (hcm:cap≤maxLen) (hcs:cur.size=cap) (hcell:∀j x,l[j]?=some x→w.cell? ((⟨g,0,none⟩:Addr).add j)=some (.int .u8 x.toNat)) :
  Calls Tryz.prog 23 #[.pointer (some ⟨b,0,none⟩)] w λe w'=>e=.returned (.string ⟨l.toArray⟩)∧w.grownBy w' (some g):=by
 have mixed:Tryz.prog.follows Departure.mixedOrders=true:=by kernel_rfl
 have hl0:l.length≠0:=by simpa using h0
 have c1:w.drew.cell? ⟨b,1,none⟩=some (.slice (some ⟨g,0,none⟩) l.length cap):=by
  have:w.drew.heap[b]?=some (.cells #[p,.slice (some ⟨g,0,none⟩) l.length cap] 74 (0,0)):=hbk;rw[Lib.cell_of_heap this];rfl
 have hSD:(Builtin.unsafeSliceData_ #[35] 123 #[.slice (some ⟨g,0,none⟩) l.length cap]).run Tryz.prog w.drew=.ok (.pointer (some ⟨g,0,none⟩)) w.drew:=
  Lib.run_unsafeSliceData_row _ _ _ _ _ _ ws
 have hUS:(Builtin.unsafeString_ #[123,3] 9 #[.pointer (some ⟨g,0,none⟩),.int .i64 l.length]).run Tryz.prog w.drew=.ok (.string ⟨l.toArray⟩) (w.drew.freeze ⟨g,0,none⟩ l.length):=by
  refine Lib.run_unsafeString_row w.drew 123 3 9 5 Tryz.underlying123 wz g cur.size wC l h0 ws (by unfold maxLen at hcm;omega) ?_;intro j x hx;exact hcell j x hx
 have hfz:w.grownBy (w.drew.freeze ⟨g,0,none⟩ l.length) (some g):=by
  unfold World.freeze;rw[if_neg hl0];refine⟨rfl,rfl,rfl,by simp,λk _ hk=>?_⟩;have hne:g≠k:=λe=>hk vt;show(Array.modify _ g _)[k]?=_;rw[Array.getElem?_modify,if_neg hne];rfl
 clear hcell hcs hnc hcm h0;go_enter Tryz.func23,Tryz.ntmps23;go_wp2;go_region_o
 all_goals (go_wp2;go_ret;exact⟨rfl,hfz⟩)
noncomputable def g54(a:List Int):Option (List Int):=some a
noncomputable def k54:Eng.CS:={ f:=54,calm:=false,more:=3,ι:=(List Int)×List Int,ok:=λi=>g54 i.1=some i.2,rds:=λ_=>[],args:=λi=>[.w (.lp 0 0)],res:=λi=>.tup [],L':=λi=>[(0,.cells 74 [.lq 0,.own 2]),(2,.arr 5 1 i.2.length (ei .u8 i.2))],rn:=[],keys:=2,L:=λi=>[(0,.cells 74 [.lq 0,.own 1]),(1,.arr 5 1 i.1.length (ei .u8 i.1))] }
theorem lbld_cells{S:Pl}{w:World}{n:Nat}{xs:List Value}(h0:zD 0 S 0 (.cells 74 [.lq 0,.own 1]) w):
  ∃p,w.heap[(S 0).b]?=some (.cells #[p,.slice (S 1).A (S 1).n (S 1).c] 74 (0,0))∧(p=.pointer none∨p=.pointer (some ⟨(S 0).b,0,none⟩)):=by
 obtain⟨_,vs,hh,hok⟩:=h0
 match vs,hok with
 |[p,u],hok=>
  obtain⟨h1,h2,_⟩:=hok;have h2:u=.slice (S 1).A (S 1).n (S 1).c:=h2;subst h2;exact⟨p,hh,h1⟩
theorem k54_ok:CSOk Tryz.prog k54:=by
 refine CSOk.plain (λargs w=>?_) ?_
 ·have hname' : ¬ Tryz.f54.name = "runtime.NumGoroutine" := by simpa using (nq9 Tryz.func54)
  obtain⟨c,hc⟩:=Option.isSome_iff_exists.1 (show Tryz.f54.body.isSome=true from rfl);have hP:=Tryz.func54;simp[callFunc,k54,hP,hname',hc]
 rintro w q S ⟨a,r⟩ vs hok _ hm hargs
 have hr:r=a:=by
  have:g54 a=some r:=hok;unfold g54 at this;cases this;rfl
 subst hr
 match vs,hargs with
 |[v],hargs=>
 have hv:v=.pointer (some ⟨(S 0).b,0,none⟩):=hargs.1;subst hv;obtain⟨p,hh,hp⟩:=lbld_cells (n:=0) (xs:=[]) (hm.ch 0 _ rfl)
 have fin:∀w',Mem (yh q w S (k54.L (r,r))) q S [(0,.cells 74 [.lp 0 0,.own 1]),(1,.arr 5 1 r.length (ei .u8 r))] w' →
   ∃v S',Ending.returned (.tuple #[])=.returned v∧okv S' (k54.res (r,r)) v∧(∀k,k<k54.keys→S' k=S k)∧Mem (yh q w S (k54.L (r,r))) q S' (k54.L' (r,r)) w':=λw' hm'=>by
  obtain ⟨S',_,d,f⟩:=resM_fin (s:=k54) (i:=(r,r)) (fr:=[]) (tf:=[]) (vs:=[]) (nk:=3) hm' (fun t=>by simp [get_n,okv]) (by
   rw[←R.nilF_eq,←R.mFr_eq,←R.mLL_eq]
   exact ⟨⟨rfl,rfl⟩,trivial⟩)
  exact⟨_,S',rfl,⟨[],rfl,trivial⟩,d,f⟩
 rcases hp with rfl|rfl
 ·refine(lcc_fresh (S 0).b w ?_ ?_ ?_).mono ?_
  ·rw[Lib.cell_of_heap hh];rfl
  ·simp[World.shape?,hh]
  ·exact Lib.frozen_of_heap hh 0
  rintro e w' ⟨rfl,rfl⟩;refine fin _ ?_;have hset:w.setCell ⟨(S 0).b,0,none⟩ (.pointer (some ⟨(S 0).b,0,none⟩))=w.setRow (S 0).b #[.pointer (some ⟨(S 0).b,0,none⟩),.slice (S 1).A (S 1).n (S 1).c]:=setCell_eq_setRow w _ 0 _ _ _ _ hh;rw[hset];refine hm.turn (k:=0) (lb':=.cells 74 [.lp 0 0,.own 1]) rfl rfl ⟨rfl,rfl,rfl,by simp,λk _ hk=>setRow_other w _ k _ (λe=>hk vt)⟩ ?_ rfl;exact⟨Nat.zero_le _,[_,_],setRow_heap w _ _ _ _ _ hh,rfl,rfl,trivial⟩
 refine(lcc_used (S 0).b w ?_).mono ?_
 ·rw[Lib.cell_of_heap hh];rfl
 rintro e w' ⟨rfl,rfl⟩;refine fin _ ?_;exact hm.relabel (k:=0) (lb':=.cells 74 [.lp 0 0,.own 1]) rfl ⟨Nat.zero_le _,[_,_],hh,rfl,rfl,trivial⟩ rfl
noncomputable def g23(a:List Int):Option ByteArray:=ck (zx a)<|some ⟨(a.map λn=>UInt8.ofNat n.toNat).toArray⟩
noncomputable def k23:Eng.CS:={ f:=23,calm:=false,more:=2,ι:=(List Int)×ByteArray,ok:=λi=>g23 i.1=some i.2,rds:=λ_=>[],args:=λi=>[.w (.lp 0 0)],res:=λi=>.v (.string i.2),L':=λi=>[],rn:=[],keys:=2,L:=λi=>[(0,.cells 74 [.lq 0,.own 1]),(1,.arr 5 1 i.1.length (ei .u8 i.1))] }
theorem k23_ok:CSOk Tryz.prog k23:=by
 refine CSOk.plain (λargs w=>?_) ?_
 ·have hname' : ¬ Tryz.f23.name = "runtime.NumGoroutine" := by simpa using (nq9 Tryz.func23)
  obtain⟨c,hc⟩:=Option.isSome_iff_exists.1 (show Tryz.f23.body.isSome=true from rfl);have hP:=Tryz.func23;simp[callFunc,k23,hP,hname',hc]
 rintro w q S ⟨a,r⟩ vs hok _ hm hargs
 have hr:zx a∧r=⟨(a.map λn=>UInt8.ofNat n.toNat).toArray⟩:=by
  have:g23 a=some r:=hok;unfold g23 ck at this;split at this
  ·rename_i h;cases this;exact⟨h,rfl⟩
  cases this
 obtain⟨hb,rfl⟩:=hr
 match vs,hargs with
 |[v],hargs=>
 have hv:v=.pointer (some ⟨(S 0).b,0,none⟩):=hargs.1;subst hv;obtain⟨p,hh,hp⟩:=lbld_cells (n:=0) (xs:=[]) (hm.ch 0 _ rfl);obtain⟨hown,hn,_,_,hA⟩:w.ownsRow 0 5 1 (.slice (S 1).A (S 1).n (S 1).c) a.length (ei .u8 a)∧(S 1).n=a.length∧0<1∧(∀x∈ei .u8 a,x.oneCell'=true)∧((S 1).A=none∨(S 1).A=some ⟨(S 1).b,0,none⟩):=hm.ch 1 _ rfl;rw[hn] at hh hown;have l:∀{w'},Mem (yh q w S (k23.L (a,⟨(a.map λn=>UInt8.ofNat n.toNat).toArray⟩))) q S [(0,.cells 74 [.lq 0,.own 1])] w'→Mem (yh q w S (k23.L (a,⟨(a.map λn=>UInt8.ofNat n.toNat).toArray⟩))) q S [] w':=λh=>h.rem 0;rcases hown.2 with ⟨hv,f⟩|⟨g,cap,cur,hv,_,hg,hnc,hcm,hcs,htake⟩
 ·injection hv with d m i;have ha:a=[]:=List.eq_nil_of_length_eq_zero m;subst ha;rw[d,i] at hh;refine(lstr_nil (S 0).b p w hh).mono ?_;rintro e w' ⟨rfl,hgr⟩;exact⟨_,S,rfl,rfl,λ_ _=>rfl,l ((hm.below ((Below.refl _ w).grown hgr (Nat.le_refl _) (λk e=>by cases e))).rem 1)⟩
 injection hv with d m i;rw[d,i] at hh
 have done:∀e w',(e=Ending.returned (.string ⟨(a.map λn=>UInt8.ofNat n.toNat).toArray⟩)∧w.grownBy w' (some g))→∃v S',e=.returned v∧okv S' (k23.res (a,⟨(a.map λn=>UInt8.ofNat n.toNat).toArray⟩)) v∧(∀k,k<k23.keys→S' k=S k)∧Mem (yh q w S (k23.L (a,⟨(a.map λn=>UInt8.ofNat n.toNat).toArray⟩))) q S' (k23.L' (a,⟨(a.map λn=>UInt8.ofNat n.toNat).toArray⟩)) w':=by
  rintro e w' ⟨rfl,hgr⟩;exact⟨_,S,rfl,rfl,λ_ _=>rfl,l (hm.lose (k:=1) rfl (by simp[blk,d]) hgr)⟩
 by_cases f:a=[]
 ·subst f;by_cases hc:cap=0
  ·subst hc;exact(lstr_noroom (S 0).b g p cur w hh hg).mono done
  exact(lstr_room (S 0).b g cap p w hc hh).mono done
 have hl:(a.map λn=>UInt8.ofNat n.toNat).length=a.length:=by simp
 refine(lstr_some (S 0).b g cap p cur (a.map λn=>UInt8.ofNat n.toNat) w (by simpa using f) (by rw[hl];exact hh) hg (by rw[hl];exact hnc) hcm (by simpa using hcs) λj x hx=>?_).mono done
 have hcell:=hown.cells (g:=g) (by rw [d];rfl) j (.int .u8 x.toNat) (by
  rw[bv_bytes hb,List.getElem?_map,hx]
  rfl)
 exact hcell
end Go.Proofs.YticmemgehllacaaGreatDoor
