/- Texts that the law leans on. -/
import Derived.Test.YtlehbfahkjhgnaaGreatFB3
import Derived.Shelf.Strings.OnBuilder
import Derived.Shelf.Strings.Repeat
import Derived.Test.YtlehbfahkjhgnaaGreatProg
import Derived.WalkKit
import Derived.WalkSpells
import Derived.WalkLawsBesides
import Derived.Laws.IdiomStrings
import Derived.Laws.BytesString
import Derived.Shelf.RegionOpenPlain
import Derived.Lib.Walk
import Derived.Laws.FloatArith
import Derived.Laws.NewFold
set_option linter.unusedVariables false
set_option linter.unusedSimpArgs false
section
set_option maxRecDepth 8000
set_option maxHeartbeats 4000000
namespace Go.Proofs.YtlehbfahkjhgnaaGreat
open Go Go.Eng
theorem mo1FB1 {p q:Prop} (k:q) (h:p:=by first | exact rfl | exact Iff.rfl | exact ⟨rfl,rfl⟩ | exact decide_eq_true_iff | (constructor<;>first | exact rfl | (simp only [ei,eb,es,ec,List.map_append,List.flatMap_append,List.nil_append,List.append_nil,List.append_assoc];done) | omega | (simp only [List.nil_append,List.length_append,List.length_cons,List.length_nil];omega) | (simp [ei,eb,es,ec];done)) | exact rfl | (simp only [ei,eb,es,ec,List.map_append,List.flatMap_append,List.nil_append,List.append_nil,List.append_assoc];done) | omega | (simp only [List.nil_append,List.length_append,List.length_cons,List.length_nil];omega) | (simp [ei,eb,es,ec];done) | simp [ei,eb,es,ec]):Ob p∧q:=⟨⟨h⟩,k⟩
theorem mf1FB1 {p q:Prop} (k:q) (h:p:=by first | (rw [←hfin]<;>first | exact rfl | exact Iff.rfl | exact ⟨rfl,rfl⟩ | exact decide_eq_true_iff | (constructor<;>first | exact rfl | (simp only [ei,eb,es,ec,List.map_append,List.flatMap_append,List.nil_append,List.append_nil,List.append_assoc];done) | omega | (simp only [List.nil_append,List.length_append,List.length_cons,List.length_nil];omega) | (simp [ei,eb,es,ec];done)) | exact rfl | (simp only [ei,eb,es,ec,List.map_append,List.flatMap_append,List.nil_append,List.append_nil,List.append_assoc];done) | omega | (simp only [List.nil_append,List.length_append,List.length_cons,List.length_nil];omega) | (simp [ei,eb,es,ec];done) | simp [ei,eb,es,ec]) | first | exact rfl | exact Iff.rfl | exact ⟨rfl,rfl⟩ | exact decide_eq_true_iff | (constructor<;>first | exact rfl | (simp only [ei,eb,es,ec,List.map_append,List.flatMap_append,List.nil_append,List.append_nil,List.append_assoc];done) | omega | (simp only [List.nil_append,List.length_append,List.length_cons,List.length_nil];omega) | (simp [ei,eb,es,ec];done)) | exact rfl | (simp only [ei,eb,es,ec,List.map_append,List.flatMap_append,List.nil_append,List.append_nil,List.append_assoc];done) | omega | (simp only [List.nil_append,List.length_append,List.length_cons,List.length_nil];omega) | (simp [ei,eb,es,ec];done) | simp [ei,eb,es,ec]):Ob p∧q:=⟨⟨h⟩,k⟩
noncomputable def g240 (a0:Int):Option ((Int×Int×Int×Int)):=
 if a0<128 then
  (
   ck (inR .i32 a0) <|
   some (1,0,0,a0)
  )
 else
  (
   if a0<194 then
    some (0,0,0,0)
   else
    (
     if a0<224 then
      (
       ck (inR .i32 (bits .and .u8 a0 31)) <|
       some (2,128,191,bits .and .u8 a0 31)
      )
     else
      (
       if a0=224 then
        some (3,160,191,0)
       else
        (
         if a0=237 then
          some (3,128,159,13)
         else
          (
           if a0<240 then
            (
             ck (inR .i32 (bits .and .u8 a0 15)) <|
             some (3,128,191,bits .and .u8 a0 15)
            )
           else
            (
             if a0=240 then
              some (4,144,191,0)
             else
              (
               if a0<244 then
                (
                 ck (inR .i32 (bits .and .u8 a0 7)) <|
                 some (4,128,191,bits .and .u8 a0 7)
                )
               else
                (
                 if a0=244 then
                  some (4,128,143,4)
                 else
                  some (0,0,0,0)
                )
              )
            )
          )
        )
      )
    )
  )
noncomputable def k240:Eng.CS:={ f:=240,calm:=true,more:=0,ι:=Int×(Int×Int×Int×Int),ok:=fun i=>g240 i.1=some i.2,rds:=fun _=>[],args:=fun i=>[.w (.v (.int .u8 (i.1)))],res:=fun i=>.agg [.v (.int .i64 (i.2.1)),.v (.int .u8 (i.2.2.1)),.v (.int .u8 (i.2.2.2.1)),.v (.int .i32 (i.2.2.2.2))] }
theorem k240_ok:CalmOk Tryz.prog k240:=by
 refine R.calmspec Tryz.func240 (nq9 Tryz.func240) rfl ?_
 rintro ⟨a0,r⟩ hok q _ args hargs
 match args,hargs with
 | [_],hargs=>
 obtain ⟨rfl,_⟩:=hargs
 refine ⟨envC [] false [],6,envC_ok (css_nil),rfl,(by intro x hx;simp only [List.mem_cons,List.not_mem_nil,or_false] at hx;rcases hx with rfl<;>rfl),?_⟩
 have H:Gives (g240 a0) (fun a=>a=r):=⟨r,hok,rfl⟩
 unfold g240 at H
 clear hok
 refine if_st H (fun h14 H=>?_) (fun h14 H=>?_)
 ·refine ob_ck H fun h15 H=>?_
  have hfin:=fin_st H
  repeat refine mf1FB1 ?_
  first | exact trivial | exact rfl
 ·refine if_st H (fun h16 H=>?_) (fun h16 H=>?_)
  ·have hfin:=fin_st H
   repeat refine mf1FB1 ?_
   first | exact trivial | exact rfl
  ·refine if_st H (fun h17 H=>?_) (fun h17 H=>?_)
   ·refine ob_ck H fun h18 H=>?_
    have hfin:=fin_st H
    repeat refine mf1FB1 ?_
    first | exact trivial | exact rfl
   ·refine if_st H (fun h19 H=>?_) (fun h19 H=>?_)
    ·have hfin:=fin_st H
     repeat refine mf1FB1 ?_
     first | exact trivial | exact rfl
    ·refine if_st H (fun h20 H=>?_) (fun h20 H=>?_)
     ·have hfin:=fin_st H
      repeat refine mf1FB1 ?_
      first | exact trivial | exact rfl
     ·refine if_st H (fun h21 H=>?_) (fun h21 H=>?_)
      ·refine ob_ck H fun h22 H=>?_
       have hfin:=fin_st H
       repeat refine mf1FB1 ?_
       first | exact trivial | exact rfl
      ·refine if_st H (fun h23 H=>?_) (fun h23 H=>?_)
       ·have hfin:=fin_st H
        repeat refine mf1FB1 ?_
        first | exact trivial | exact rfl
       ·refine if_st H (fun h24 H=>?_) (fun h24 H=>?_)
        ·refine ob_ck H fun h25 H=>?_
         have hfin:=fin_st H
         repeat refine mf1FB1 ?_
         first | exact trivial | exact rfl
        ·refine if_st H (fun _ H=>?_) (fun _ H=>?_)
         all_goals
          have hfin:=fin_st H
          repeat refine mf1FB1 ?_
          first | exact trivial | exact rfl
noncomputable def g231 (a0:Int):Option (Bool):=
 if 0≤a0 then
  (
   if a0≤1114111 then
    (
     if a0<55296 then
      some true
     else
      some (decide (57343<a0))
    )
   else
    some false
  )
 else
  some false
noncomputable def k231:Eng.CS:={ f:=231,calm:=true,more:=0,ι:=Int×Bool,ok:=fun i=>g231 i.1=some i.2,rds:=fun _=>[],args:=fun i=>[.w (.v (.int .i32 (i.1)))],res:=fun i=>bS i.2 }
theorem k231_ok:CalmOk Tryz.prog k231:=by
 refine R.calmspec Tryz.func231 (nq9 Tryz.func231) rfl ?_
 rintro ⟨a0,r⟩ hok q _ args hargs
 match args,hargs with
 | [_],hargs=>
 obtain ⟨rfl,_⟩:=hargs
 refine ⟨envC [] false [],6,envC_ok (css_nil),rfl,(by intro x hx;simp only [List.mem_cons,List.not_mem_nil,or_false] at hx;rcases hx with rfl<;>rfl),?_⟩
 have H:Gives (g231 a0) (fun a=>a=r):=⟨r,hok,rfl⟩
 unfold g231 at H
 clear hok
 repeat' refine if_st H (fun _ H=>?_) (fun _ H=>?_)
 all_goals
  have hfin:=fin_st H
  repeat refine mf1FB1 ?_
  first | exact trivial | exact rfl
noncomputable def g232 (a0:Int) (a1:Int):Option (Int):=
 ck (0≤a1∧a1≤((IntKind.bits .i32:Nat):Int)) <|
 some (bits .or .u8 128 (bits .and .u8 (IntKind.wrap .u8 (a0 / 2 ^ a1.toNat)) 63))
noncomputable def k232:Eng.CS:={ f:=232,calm:=true,more:=0,ι:=Int×Int×Int,ok:=fun i=>g232 i.1 i.2.1=some i.2.2,rds:=fun _=>[],args:=fun i=>[.w (.v (.int .i32 (i.1))),.w (.v (.int .u64 (i.2.1)))],res:=fun i=>.v (.int .u8 (i.2.2)) }
theorem k232_ok:CalmOk Tryz.prog k232:=by
 refine R.calmspec Tryz.func232 (nq9 Tryz.func232) rfl ?_
 rintro ⟨a0,a1,r⟩ hok q _ args hargs
 match args,hargs with
 | [_,_],hargs=>
 obtain ⟨rfl,rfl,_⟩:=hargs
 refine ⟨envC [] false [],6,envC_ok (css_nil),rfl,(by intro x hx;simp only [List.mem_cons,List.not_mem_nil,or_false] at hx;rcases hx with rfl | rfl<;>rfl),?_⟩
 have H:Gives (g232 a0 a1) (fun a=>a=r):=⟨r,hok,rfl⟩
 unfold g232 at H
 clear hok
 refine ob_ck H fun h30 H=>?_
 have hfin:=fin_st H
 repeat refine mf1FB1 ?_
 first | exact trivial | exact rfl
noncomputable def g237 (a0:List Int):Option (Int×Int×Bool):=
 if ((a0.length:Nat):Int)=0 then
  some (0,0,true)
 else
  (
   ck (0≤(0:Int)∧0<((a0.length:Nat):Int)) <|
   (g240 (a0.getD (0:Int).toNat 0)).bind fun v34=>
   if v34.1=0 then
    some (65533,1,false)
   else
    (
     jn (α:=_) (β:=Int) (fun k107=>
       (loopO (σ:=Int×Int) (ρ:=(Int×Int×Bool) ⊕ (Int)) (fun s110=>
         if s110.2<v34.1 then
          (
           if ((a0.length:Nat):Int)≤s110.2 then
            some (.out (.inl ((0,0,true))))
           else
            (
             jn (α:=_) (β:=Int×Int) (fun k143=>
               if s110.2=1 then
                k143 (v34.2.1,v34.2.2.1)
               else
                k143 (128,191)
             ) (fun v142=>
              ck (0≤s110.2∧s110.2<((a0.length:Nat):Int)) <|
              if (a0.getD s110.2.toNat 0)<v142.1 then
               some (.out (.inl ((65533,1,false))))
              else
               (
                ck (0≤s110.2∧s110.2<((a0.length:Nat):Int)) <|
                if v142.2<(a0.getD s110.2.toNat 0) then
                 some (.out (.inl ((65533,1,false))))
                else
                 (
                  ck (0≤s110.2∧s110.2<((a0.length:Nat):Int)) <|
                  ck (inR .i32 (bits .and .u8 (a0.getD s110.2.toNat 0) 63)) <|
                  ck (inR .i64 (s110.2+1)) <|
                  some (.go (bits .or .i32 (IntKind.wrap .i32 (s110.1 * 2 ^ (6:Int).toNat)) (bits .and .u8 (a0.getD s110.2.toNat 0) 63),s110.2+1))
                 )
               )
             )
            )
          )
         else
          some (.out (.inr (s110.1)))
        ) (v34.2.2.2,1)).bind fun o138=>
       sm o138 (fun o152=>
         some o152
        ) (fun o153=>
         k107 o153
        )
     ) (fun v106=>
      some (v106,v34.1,false)
     )
    )
  )
noncomputable def k237:Eng.CS:={ f:=237,calm:=true,more:=0,ι:=(List Int)×(Int×Int×Bool),ok:=fun i=>g237 i.1=some i.2,rds:=fun _=>[],args:=fun i=>[.sl 1 i.1.length (ei .u8 i.1)],res:=fun i=>.tup [.v (.int .i32 (i.2.1)),.v (.int .i64 (i.2.2.1)),bS i.2.2.2] }
theorem k237_ok:CalmOk Tryz.prog k237:=by
 refine R.calmspec Tryz.func237 (nq9 Tryz.func237) rfl ?_
 rintro ⟨a0,r⟩ hok q _ args hargs
 match args,hargs with
 | [_],hargs=>
 obtain ⟨⟨A0,cp0,rfl,hc0,_,hR0⟩,_⟩:=hargs
 refine ⟨envC [k240] false [(237,15),(237,18)],6,envC_ok (css_cons ⟨fun _=>k240_ok,fun h=>(by cases h)⟩ (css_nil)),rfl,(by intro x hx;simp only [List.mem_cons,List.not_mem_nil,or_false] at hx;rcases hx with rfl<;>rfl),?_⟩
 have H:Gives (g237 a0) (fun a=>a=r):=⟨r,hok,rfl⟩
 unfold g237 at H
 clear hok
 refine if_st H (fun h32 H=>?_) (fun h32 H=>?_)
 ·have hfin:=fin_st H
  repeat refine mf1FB1 ?_
  first | exact trivial | exact rfl
 ·refine ob_ix hR0 (fun h=>ei0 h) H fun h33 H=>?_
  refine ld_int (e:=a0.getD (0:Int).toNat 0) (rd_get hR0 (ei_get (l:=a0) (tn h33))) ?_
  obtain ⟨v34,hv35,H⟩:=call_st H
  refine ⟨(a0.getD (0:Int).toNat 0,v34),⟨hv35⟩,⟨trivial⟩,?_⟩
  refine And.intro ⟨rfl⟩ ?_
  refine if_st H (fun h37 H=>?_) (fun h37 H=>?_)
  ·have hfin:=fin_st H
   repeat refine mf1FB1 ?_
   first | exact trivial | exact rfl
  ·refine R.cut_fam H 25 [5] [] (fun v106=>[(2,.v (.int .i32 (v106)))]) (fun v106=>[]) [(10,.cells 253 [.v (.int .i64 (v34.1)),.v (.int .u8 (v34.2.1)),.v (.int .u8 (v34.2.2.1)),.v (.int .i32 (v34.2.2.2))])] 0 (fun H=>?_)
   refine And.intro ?_ ?_
   ·refine R.loop_fam (bind_st H) [0,5] [] (fun _ s110=>[(2,.v (.int .i32 (s110.1))),(6,.v (.int .i64 (s110.2)))]) (fun _ s110=>[]) 0 (fun n154 H=>?_)
    refine ⟨(n154,_),⟨H⟩,⟨trivial⟩,?_⟩
    repeat refine mo1FB1 ?_
    rintro ⟨m0,s110⟩ H _
    obtain ⟨m111,hm0,H⟩:=IG_succ H
    dsimp only at hm0
    subst hm0
    try dsimp only at H
    refine if_st H (fun h139 H=>?_) (fun h139 H=>?_)
    ·refine if_st H (fun h140 H=>?_) (fun h140 H=>?_)
     ·replace H:=some_st H
      dsimp only [stp,sm] at H
      have hfin:=fin_st H
      repeat refine mf1FB1 ?_
      first | exact trivial | exact rfl
     ·refine R.cut_fam H 38 [0,2,5,6] [] (fun v142=>[(7,.v (.int .u8 (v142.1))),(8,.v (.int .u8 (v142.2)))]) (fun v142=>[]) [(10,.cells 253 [.v (.int .i64 (v34.1)),.v (.int .u8 (v34.2.1)),.v (.int .u8 (v34.2.2.1)),.v (.int .i32 (v34.2.2.2))])] 0 (fun H=>?_)
      refine And.intro ?_ ?_
      ·refine if_st H (fun h144 H=>?_) (fun h144 H=>?_)
       ·refine And.intro ⟨by kernel_rfl⟩ ?_
        refine ⟨(v34.2.1,v34.2.2.1),⟨H⟩,⟨rfl⟩,?_⟩
        repeat refine mo1FB1 ?_
        first | exact trivial | exact rfl
       ·refine ⟨(128,191),⟨H⟩,⟨rfl⟩,?_⟩
        repeat refine mo1FB1 ?_
        first | exact trivial | exact rfl
      ·intro v142 H
       refine ob_ix hR0 (fun h=>ei0 h) H fun h145 H=>?_
       refine ld_int (e:=a0.getD s110.2.toNat 0) (rd_get hR0 (ei_get (l:=a0) (tn h145))) ?_
       refine if_st H (fun h146 H=>?_) (fun h146 H=>?_)
       ·replace H:=some_st H
        dsimp only [stp,sm] at H
        have hfin:=fin_st H
        repeat refine mf1FB1 ?_
        first | exact trivial | exact rfl
       ·refine ob_ix hR0 (fun h=>ei0 h) H fun h147 H=>?_
        refine ld_int (e:=a0.getD s110.2.toNat 0) (rd_get hR0 (ei_get (l:=a0) (tn h147))) ?_
        refine if_st H (fun h148 H=>?_) (fun h148 H=>?_)
        ·replace H:=some_st H
         dsimp only [stp,sm] at H
         have hfin:=fin_st H
         repeat refine mf1FB1 ?_
         first | exact trivial | exact rfl
        ·refine And.intro ⟨by decide⟩ ?_
         refine ob_ix hR0 (fun h=>ei0 h) H fun h149 H=>?_
         refine ld_int (e:=a0.getD s110.2.toNat 0) (rd_get hR0 (ei_get (l:=a0) (tn h149))) ?_
         refine ob_ck H fun h150 H=>?_
         refine ob_ck H fun h151 H=>?_
         replace H:=some_st H
         refine ⟨(m111,(bits .or .i32 (IntKind.wrap .i32 (s110.1 * 2 ^ (6:Int).toNat)) (bits .and .u8 (a0.getD s110.2.toNat 0) 63),s110.2+1)),⟨H,Nat.lt_succ_self _⟩,⟨trivial⟩,⟨rfl⟩,?_⟩
         repeat refine mo1FB1 ?_
         first | exact trivial | exact rfl
    ·replace H:=some_st H
     dsimp only [stp,sm] at H
     refine ⟨s110.1,⟨H⟩,⟨rfl⟩,?_⟩
     repeat refine mo1FB1 ?_
     first | exact trivial | exact rfl
   ·intro v106 H
    refine And.intro ⟨by kernel_rfl⟩ ?_
    have hfin:=fin_st H
    repeat refine mf1FB1 ?_
    first | exact trivial | exact rfl
noncomputable def g161 (a0:Int):Option (Int):=
 ck (inR .i32 (128+(Int.tmod a0 64))) <|
 some (IntKind.wrap .u8 (128+(Int.tmod a0 64)))
noncomputable def k161:Eng.CS:={ f:=161,calm:=true,more:=0,ι:=Int×Int,ok:=fun i=>g161 i.1=some i.2,rds:=fun _=>[],args:=fun i=>[.w (.v (.int .i32 (i.1)))],res:=fun i=>.v (.int .u8 (i.2)) }
theorem k161_ok:CalmOk Tryz.prog k161:=by
 refine R.calmspec Tryz.func161 (nq9 Tryz.func161) rfl ?_
 rintro ⟨a0,r⟩ hok q _ args hargs
 match args,hargs with
 | [_],hargs=>
 obtain ⟨rfl,_⟩:=hargs
 refine ⟨envC [] false [],6,envC_ok (css_nil),rfl,(by intro x hx;simp only [List.mem_cons,List.not_mem_nil,or_false] at hx;rcases hx with rfl<;>rfl),?_⟩
 have H:Gives (g161 a0) (fun a=>a=r):=⟨r,hok,rfl⟩
 unfold g161 at H
 clear hok
 refine And.intro ⟨by decide⟩ ?_
 refine ob_ck H fun h155 H=>?_
 have hfin:=fin_st H
 repeat refine mf1FB1 ?_
 first | exact trivial | exact rfl
noncomputable def g160 (a0:Int):Option (Bool):=
 if 0≤a0 then
  (
   if a0≤1114111 then
    (
     if a0<55296 then
      some true
     else
      some (decide (57343<a0))
    )
   else
    some false
  )
 else
  some false
noncomputable def k160:Eng.CS:={ f:=160,calm:=true,more:=0,ι:=Int×Bool,ok:=fun i=>g160 i.1=some i.2,rds:=fun _=>[],args:=fun i=>[.w (.v (.int .i32 (i.1)))],res:=fun i=>bS i.2 }
theorem k160_ok:CalmOk Tryz.prog k160:=by
 refine R.calmspec Tryz.func160 (nq9 Tryz.func160) rfl ?_
 rintro ⟨a0,r⟩ hok q _ args hargs
 match args,hargs with
 | [_],hargs=>
 obtain ⟨rfl,_⟩:=hargs
 refine ⟨envC [] false [],6,envC_ok (css_nil),rfl,(by intro x hx;simp only [List.mem_cons,List.not_mem_nil,or_false] at hx;rcases hx with rfl<;>rfl),?_⟩
 have H:Gives (g160 a0) (fun a=>a=r):=⟨r,hok,rfl⟩
 unfold g160 at H
 clear hok
 repeat' refine if_st H (fun _ H=>?_) (fun _ H=>?_)
 all_goals
  have hfin:=fin_st H
  repeat refine mf1FB1 ?_
  first | exact trivial | exact rfl
noncomputable def g212 (a0:Int):Option (List Int):=
 jn (α:=_) (β:=Int) (fun k166=>
   (g231 a0).bind fun v167=>
   if ¬(v167=true) then
    k166 65533
   else
    k166 a0
 ) (fun v165=>
  if v165<128 then
   some ([IntKind.wrap .u8 v165])
  else
   (
    if v165<2048 then
     (
      (g232 v165 0).bind fun v181=>
      some ([bits .or .u8 192 (IntKind.wrap .u8 (v165 / 2 ^ (6:Int).toNat)),v181])
     )
    else
     (
      if v165<65536 then
       (
        (g232 v165 6).bind fun v184=>
        (g232 v165 0).bind fun v186=>
        some ([bits .or .u8 224 (IntKind.wrap .u8 (v165 / 2 ^ (12:Int).toNat)),v184,v186])
       )
      else
       (
        (g232 v165 12).bind fun v188=>
        (g232 v165 6).bind fun v190=>
        (g232 v165 0).bind fun v192=>
        some ([bits .or .u8 240 (IntKind.wrap .u8 (v165 / 2 ^ (18:Int).toNat)),v188,v190,v192])
       )
     )
   )
 )
noncomputable def k212:Eng.CS:={ f:=212,calm:=false,more:=1,ι:=Int×List Int,ok:=fun i=>g212 i.1=some i.2,rds:=fun _=>[],args:=fun i=>[.w (.v (.int .i32 (i.1)))],res:=fun i=>.own 0,L':=fun i=>[(0,.arr 5 1 i.2.length (ei .u8 i.2))],rn:=[(0,0,5,1)] }
theorem k212_ok:CSOk Tryz.prog k212:=by
 refine R.cspec Tryz.func212 (nq9 Tryz.func212) rfl ?_
 rintro ⟨a0,r⟩ hok q _ args hargs
 match args,hargs with
 | [_],hargs=>
 obtain ⟨rfl,_⟩:=hargs
 refine ⟨envC [k231,k232] false [(212,3)],6,envC_ok (css_cons ⟨fun _=>k231_ok,fun h=>(by cases h)⟩ (css_cons ⟨fun _=>k232_ok,fun h=>(by cases h)⟩ (css_nil))),?_⟩
 have H:Gives (g212 a0) (fun a=>a=r):=⟨r,hok,rfl⟩
 unfold g212 at H
 clear hok
 refine R.cut_fam H 6 [] [] (fun v165=>[(0,.v (.int .i32 (v165)))]) (fun v165=>[]) [] 0 (fun H=>?_)
 refine And.intro ?_ ?_
 ·obtain ⟨v167,hv168,H⟩:=call_st H
  refine ⟨(a0,v167),⟨hv168⟩,⟨trivial⟩,?_⟩
  refine And.intro ⟨rfl⟩ ?_
  refine if_st H (fun h169 H=>?_) (fun h169 H=>?_)
  ·refine ⟨65533,⟨H⟩,⟨rfl⟩,?_⟩
   repeat refine mo1FB1 ?_
   first | exact trivial | exact rfl
  ·refine ⟨a0,⟨H⟩,⟨rfl⟩,?_⟩
   repeat refine mo1FB1 ?_
   first | exact trivial | exact rfl
 ·intro v165 H
  refine if_st H (fun h179 H=>?_) (fun h179 H=>?_)
  ·have hfin:=fin_st H
   repeat refine mf1FB1 ?_
   first | exact trivial | exact rfl
  ·refine if_st H (fun h180 H=>?_) (fun h180 H=>?_)
   ·refine And.intro ⟨by decide⟩ ?_
    obtain ⟨v181,hv182,H⟩:=call_st H
    refine ⟨(v165,0,v181),⟨hv182⟩,⟨trivial⟩,?_⟩
    iterate 2 refine And.intro ⟨rfl⟩ ?_
    have hfin:=fin_st H
    repeat refine mf1FB1 ?_
    first | exact trivial | exact rfl
   ·refine if_st H (fun h183 H=>?_) (fun h183 H=>?_)
    ·refine And.intro ⟨by decide⟩ ?_
     obtain ⟨v184,hv185,H⟩:=call_st H
     refine ⟨(v165,6,v184),⟨hv185⟩,⟨trivial⟩,?_⟩
     iterate 2 refine And.intro ⟨rfl⟩ ?_
     obtain ⟨v186,hv187,H⟩:=call_st H
     refine ⟨(v165,0,v186),⟨hv187⟩,⟨trivial⟩,?_⟩
     iterate 2 refine And.intro ⟨rfl⟩ ?_
     have hfin:=fin_st H
     repeat refine mf1FB1 ?_
     first | exact trivial | exact rfl
    ·refine And.intro ⟨by decide⟩ ?_
     obtain ⟨v188,hv189,H⟩:=call_st H
     refine ⟨(v165,12,v188),⟨hv189⟩,⟨trivial⟩,?_⟩
     iterate 2 refine And.intro ⟨rfl⟩ ?_
     obtain ⟨v190,hv191,H⟩:=call_st H
     refine ⟨(v165,6,v190),⟨hv191⟩,⟨trivial⟩,?_⟩
     iterate 2 refine And.intro ⟨rfl⟩ ?_
     obtain ⟨v192,hv193,H⟩:=call_st H
     refine ⟨(v165,0,v192),⟨hv193⟩,⟨trivial⟩,?_⟩
     iterate 2 refine And.intro ⟨rfl⟩ ?_
     have hfin:=fin_st H
     repeat refine mf1FB1 ?_
     first | exact trivial | exact rfl
noncomputable def g106 (a0:Int):Option (List Int):=
 jn (α:=_) (β:=Int) (fun k201=>
   (g160 a0).bind fun v202=>
   if ¬(v202=true) then
    k201 65533
   else
    k201 a0
 ) (fun v200=>
  if v200<128 then
   some ([IntKind.wrap .u8 v200])
  else
   (
    if v200<2048 then
     (
      ck (inR .i32 (Int.tdiv v200 64)) <|
      ck (inR .i32 (192+(Int.tdiv v200 64))) <|
      (g161 v200).bind fun v223=>
      some ([IntKind.wrap .u8 (192+(Int.tdiv v200 64)),v223])
     )
    else
     (
      if v200<65536 then
       (
        ck (inR .i32 (Int.tdiv v200 4096)) <|
        ck (inR .i32 (224+(Int.tdiv v200 4096))) <|
        ck (inR .i32 (Int.tdiv v200 64)) <|
        (g161 (Int.tdiv v200 64)).bind fun v229=>
        (g161 v200).bind fun v231=>
        some ([IntKind.wrap .u8 (224+(Int.tdiv v200 4096)),v229,v231])
       )
      else
       (
        ck (inR .i32 (Int.tdiv v200 262144)) <|
        ck (inR .i32 (240+(Int.tdiv v200 262144))) <|
        ck (inR .i32 (Int.tdiv v200 4096)) <|
        (g161 (Int.tdiv v200 4096)).bind fun v236=>
        ck (inR .i32 (Int.tdiv v200 64)) <|
        (g161 (Int.tdiv v200 64)).bind fun v239=>
        (g161 v200).bind fun v241=>
        some ([IntKind.wrap .u8 (240+(Int.tdiv v200 262144)),v236,v239,v241])
       )
     )
   )
 )
noncomputable def k106:Eng.CS:={ f:=106,calm:=false,more:=1,ι:=Int×List Int,ok:=fun i=>g106 i.1=some i.2,rds:=fun _=>[],args:=fun i=>[.w (.v (.int .i32 (i.1)))],res:=fun i=>.own 0,L':=fun i=>[(0,.arr 5 1 i.2.length (ei .u8 i.2))],rn:=[(0,0,5,1)] }
theorem k106_ok:CSOk Tryz.prog k106:=by
 refine R.cspec Tryz.func106 (nq9 Tryz.func106) rfl ?_
 rintro ⟨a0,r⟩ hok q _ args hargs
 match args,hargs with
 | [_],hargs=>
 obtain ⟨rfl,_⟩:=hargs
 refine ⟨envC [k160,k161] false [(106,3)],6,envC_ok (css_cons ⟨fun _=>k160_ok,fun h=>(by cases h)⟩ (css_cons ⟨fun _=>k161_ok,fun h=>(by cases h)⟩ (css_nil))),?_⟩
 have H:Gives (g106 a0) (fun a=>a=r):=⟨r,hok,rfl⟩
 unfold g106 at H
 clear hok
 refine R.cut_fam H 6 [] [] (fun v200=>[(0,.v (.int .i32 (v200)))]) (fun v200=>[]) [] 0 (fun H=>?_)
 refine And.intro ?_ ?_
 ·obtain ⟨v202,hv203,H⟩:=call_st H
  refine ⟨(a0,v202),⟨hv203⟩,⟨trivial⟩,?_⟩
  refine And.intro ⟨rfl⟩ ?_
  refine if_st H (fun h204 H=>?_) (fun h204 H=>?_)
  ·refine ⟨65533,⟨H⟩,⟨rfl⟩,?_⟩
   repeat refine mo1FB1 ?_
   first | exact trivial | exact rfl
  ·refine ⟨a0,⟨H⟩,⟨rfl⟩,?_⟩
   repeat refine mo1FB1 ?_
   first | exact trivial | exact rfl
 ·intro v200 H
  refine if_st H (fun h219 H=>?_) (fun h219 H=>?_)
  ·have hfin:=fin_st H
   repeat refine mf1FB1 ?_
   first | exact trivial | exact rfl
  ·refine if_st H (fun h220 H=>?_) (fun h220 H=>?_)
   ·refine And.intro ⟨by decide⟩ ?_
    refine ob_ck H fun h221 H=>?_
    refine ob_ck H fun h222 H=>?_
    obtain ⟨v223,hv224,H⟩:=call_st H
    refine ⟨(v200,v223),⟨hv224⟩,⟨trivial⟩,?_⟩
    refine And.intro ⟨rfl⟩ ?_
    have hfin:=fin_st H
    repeat refine mf1FB1 ?_
    first | exact trivial | exact rfl
   ·refine if_st H (fun h225 H=>?_) (fun h225 H=>?_)
    ·refine And.intro ⟨by decide⟩ ?_
     refine ob_ck H fun h226 H=>?_
     refine ob_ck H fun h227 H=>?_
     refine And.intro ⟨by decide⟩ ?_
     refine ob_ck H fun h228 H=>?_
     obtain ⟨v229,hv230,H⟩:=call_st H
     refine ⟨(Int.tdiv v200 64,v229),⟨hv230⟩,⟨trivial⟩,?_⟩
     refine And.intro ⟨rfl⟩ ?_
     obtain ⟨v231,hv232,H⟩:=call_st H
     refine ⟨(v200,v231),⟨hv232⟩,⟨trivial⟩,?_⟩
     refine And.intro ⟨rfl⟩ ?_
     have hfin:=fin_st H
     repeat refine mf1FB1 ?_
     first | exact trivial | exact rfl
    ·refine And.intro ⟨by decide⟩ ?_
     refine ob_ck H fun h233 H=>?_
     refine ob_ck H fun h234 H=>?_
     refine And.intro ⟨by decide⟩ ?_
     refine ob_ck H fun h235 H=>?_
     obtain ⟨v236,hv237,H⟩:=call_st H
     refine ⟨(Int.tdiv v200 4096,v236),⟨hv237⟩,⟨trivial⟩,?_⟩
     refine And.intro ⟨rfl⟩ ?_
     refine And.intro ⟨by decide⟩ ?_
     refine ob_ck H fun h238 H=>?_
     obtain ⟨v239,hv240,H⟩:=call_st H
     refine ⟨(Int.tdiv v200 64,v239),⟨hv240⟩,⟨trivial⟩,?_⟩
     refine And.intro ⟨rfl⟩ ?_
     obtain ⟨v241,hv242,H⟩:=call_st H
     refine ⟨(v200,v241),⟨hv242⟩,⟨trivial⟩,?_⟩
     refine And.intro ⟨rfl⟩ ?_
     have hfin:=fin_st H
     repeat refine mf1FB1 ?_
     first | exact trivial | exact rfl
noncomputable def g202 (a0:Int):Option (Int):=
 if a0<128 then
  some 1
 else
  (
   jn (α:=_) (β:=Bool) (fun k261=>
     if 194≤a0 then
      k261 (decide (a0<224))
     else
      k261 false
   ) (fun v260=>
    if v260=true then
     some 2
    else
     (
      if 224≤a0 then
       (
        if a0<240 then
         some 3
        else
         (
          if 240≤a0 then
           (
            if a0<245 then
             some 4
            else
             some 0
           )
          else
           some 0
         )
       )
      else
       (
        if 240≤a0 then
         (
          if a0<245 then
           some 4
          else
           some 0
         )
        else
         some 0
       )
     )
   )
  )
noncomputable def k202:Eng.CS:={ f:=202,calm:=true,more:=0,ι:=Int×Int,ok:=fun i=>g202 i.1=some i.2,rds:=fun _=>[],args:=fun i=>[.w (.v (.int .u8 (i.1)))],res:=fun i=>.v (.int .i64 (i.2)) }
theorem k202_ok:CalmOk Tryz.prog k202:=by
 refine R.calmspec Tryz.func202 (nq9 Tryz.func202) rfl ?_
 rintro ⟨a0,r⟩ hok q _ args hargs
 match args,hargs with
 | [_],hargs=>
 obtain ⟨rfl,_⟩:=hargs
 refine ⟨envC [] false [(202,4)],6,envC_ok (css_nil),rfl,(by intro x hx;simp only [List.mem_cons,List.not_mem_nil,or_false] at hx;rcases hx with rfl<;>rfl),?_⟩
 have H:Gives (g202 a0) (fun a=>a=r):=⟨r,hok,rfl⟩
 unfold g202 at H
 clear hok
 refine if_st H (fun h258 H=>?_) (fun h258 H=>?_)
 ·have hfin:=fin_st H
  repeat refine mf1FB1 ?_
  first | exact trivial | exact rfl
 ·refine R.cut_fam H 12 [0] [] (fun v260=>[(6,bS v260)]) (fun v260=>[]) [] 0 (fun H=>?_)
  refine And.intro ?_ ?_
  ·refine if_st H (fun h262 H=>?_) (fun h262 H=>?_)
   ·refine ⟨(decide (a0<224)),⟨H⟩,⟨rfl⟩,?_⟩
    repeat refine mo1FB1 ?_
    first | exact trivial | exact rfl
   ·refine ⟨false,⟨H⟩,⟨rfl⟩,?_⟩
    repeat refine mo1FB1 ?_
    first | exact trivial | exact rfl
  ·intro v260 H
   repeat' refine if_st H (fun _ H=>?_) (fun _ H=>?_)
   all_goals
    have hfin:=fin_st H
    repeat refine mf1FB1 ?_
    first | exact trivial | exact rfl
noncomputable def g204 (a0:List Int):Option (Int):=
 if ((a0.length:Nat):Int)<2 then
  (
   ck (0≤(0:Int)∧0<((a0.length:Nat):Int)) <|
   ck (inR .i32 (a0.getD (0:Int).toNat 0)) <|
   some (a0.getD (0:Int).toNat 0)
  )
 else
  (
   if 4<((a0.length:Nat):Int) then
    (
     ck (0≤(0:Int)∧0<((a0.length:Nat):Int)) <|
     ck (inR .i32 (a0.getD (0:Int).toNat 0)) <|
     some (a0.getD (0:Int).toNat 0)
    )
   else
    (
     ck (0≤(0:Int)∧0<((a0.length:Nat):Int)) <|
     ck (inR .i64 (a0.getD (0:Int).toNat 0)) <|
     ck (0≤((a0.length:Nat):Int)∧((a0.length:Nat):Int)<((5:Nat):Int)) <|
     ck (inR .i64 ((a0.getD (0:Int).toNat 0)-(([0,0,192,224,240]).getD ((a0.length:Nat):Int).toNat 0))) <|
     jn (α:=_) (β:=Int) (fun k317=>
       (loopO (σ:=Int×Int) (ρ:=Int) (fun s320=>
         if s320.2<((a0.length:Nat):Int) then
          (
           ck (inR .i32 (s320.1 * 64)) <|
           ck (0≤s320.2∧s320.2<((a0.length:Nat):Int)) <|
           ck (inR .i32 (Int.tmod (a0.getD s320.2.toNat 0) 64)) <|
           ck (inR .i32 ((s320.1 * 64)+(Int.tmod (a0.getD s320.2.toNat 0) 64))) <|
           ck (inR .i64 (s320.2+1)) <|
           some (.go ((s320.1 * 64)+(Int.tmod (a0.getD s320.2.toNat 0) 64),s320.2+1))
          )
         else
          some (.out s320.1)
        ) (IntKind.wrap .i32 ((a0.getD (0:Int).toNat 0)-(([0,0,192,224,240]).getD ((a0.length:Nat):Int).toNat 0)),1)).bind fun o334=>
        k317 o334
     ) (fun v316=>
      some v316
     )
    )
  )
noncomputable def k204:Eng.CS:={ f:=204,calm:=true,more:=0,ι:=(List Int)×Int,ok:=fun i=>g204 i.1=some i.2,rds:=fun _=>[],args:=fun i=>[.sl 1 i.1.length (ei .u8 i.1)],res:=fun i=>.v (.int .i32 (i.2)) }
theorem k204_ok:CalmOk Tryz.prog k204:=by
 refine R.calmspec Tryz.func204 (nq9 Tryz.func204) rfl ?_
 rintro ⟨a0,r⟩ hok q _ args hargs
 match args,hargs with
 | [_],hargs=>
 obtain ⟨⟨A0,cp0,rfl,hc0,_,hR0⟩,_⟩:=hargs
 refine ⟨envC [] false [(204,9)],6,envC_ok (css_nil),rfl,(by intro x hx;simp only [List.mem_cons,List.not_mem_nil,or_false] at hx;rcases hx with rfl<;>rfl),?_⟩
 have H:Gives (g204 a0) (fun a=>a=r):=⟨r,hok,rfl⟩
 unfold g204 at H
 clear hok
 refine if_st H (fun h277 H=>?_) (fun h277 H=>?_)
 ·refine ob_ix hR0 (fun h=>ei0 h) H fun h278 H=>?_
  refine ld_int (e:=a0.getD (0:Int).toNat 0) (rd_get hR0 (ei_get (l:=a0) (tn h278))) ?_
  refine ob_ck H fun h279 H=>?_
  have hfin:=fin_st H
  repeat refine mf1FB1 ?_
  first | exact trivial | exact rfl
 ·refine if_st H (fun h280 H=>?_) (fun h280 H=>?_)
  ·refine ob_ix hR0 (fun h=>ei0 h) H fun h281 H=>?_
   refine ld_int (e:=a0.getD (0:Int).toNat 0) (rd_get hR0 (ei_get (l:=a0) (tn h281))) ?_
   refine ob_ck H fun h282 H=>?_
   have hfin:=fin_st H
   repeat refine mf1FB1 ?_
   first | exact trivial | exact rfl
  ·refine And.intro ⟨by kernel_rfl⟩ ?_
   refine ob_ix hR0 (fun h=>ei0 h) H fun h283 H=>?_
   refine ld_int (e:=a0.getD (0:Int).toNat 0) (rd_get hR0 (ei_get (l:=a0) (tn h283))) ?_
   refine ob_ck H fun h284 H=>?_
   refine ob_ck H fun h285 H=>?_
   refine ld_int (e:=([0,0,192,224,240]).getD ((a0.length:Nat):Int).toNat 0) (own_get (ys:=ei .i64 ([0,0,192,224,240])) (by first | rfl | simp [ei,eb,es,ec]) (ei_get (l:=[0,0,192,224,240]) (by first | exact tn h285 | (have:=tn h285;simp at this ⊢;omega) | (have:=tn h285;simp;omega)))) ?_
   refine ob_ck H fun h286 H=>?_
   refine R.cut_fam H 30 [] [] (fun v316=>[(4,.v (.int .i32 (v316)))]) (fun v316=>[]) [(1,.arr 3 1 (5) (ei .i64 ([0,0,192,224,240])))] 0 (fun H=>?_)
   refine And.intro ?_ ?_
   ·refine R.loop_fam (bind_st H) [0] [] (fun _ s320=>[(4,.v (.int .i32 (s320.1))),(5,.v (.int .i64 (s320.2)))]) (fun _ s320=>[]) 0 (fun n341 H=>?_)
    refine ⟨(n341,_),⟨H⟩,⟨trivial⟩,?_⟩
    repeat refine mo1FB1 ?_
    rintro ⟨m0,s320⟩ H _
    obtain ⟨m321,hm0,H⟩:=IG_succ H
    dsimp only at hm0
    subst hm0
    try dsimp only at H
    refine if_st H (fun h335 H=>?_) (fun h335 H=>?_)
    ·refine ob_ck H fun h336 H=>?_
     refine ob_ix hR0 (fun h=>ei0 h) H fun h337 H=>?_
     refine ld_int (e:=a0.getD s320.2.toNat 0) (rd_get hR0 (ei_get (l:=a0) (tn h337))) ?_
     refine And.intro ⟨by decide⟩ ?_
     refine ob_ck H fun h338 H=>?_
     refine ob_ck H fun h339 H=>?_
     refine ob_ck H fun h340 H=>?_
     replace H:=some_st H
     refine ⟨(m321,((s320.1 * 64)+(Int.tmod (a0.getD s320.2.toNat 0) 64),s320.2+1)),⟨H,Nat.lt_succ_self _⟩,⟨trivial⟩,⟨rfl⟩,?_⟩
     repeat refine mo1FB1 ?_
     first | exact trivial | exact rfl
    ·replace H:=some_st H
     dsimp only [stp,sm] at H
     refine ⟨s320.1,⟨H⟩,⟨rfl⟩,?_⟩
     repeat refine mo1FB1 ?_
     first | exact trivial | exact rfl
   ·intro v316 H
    have hfin:=fin_st H
    repeat refine mf1FB1 ?_
    first | exact trivial | exact rfl
noncomputable def g227 (a0:List Int):Option (Bool):=
 jn (α:=_) (β:=Unit) (fun k377=>
   (loopO (σ:=Int) (ρ:=(Unit) ⊕ (Unit)) (fun s380=>
     if s380<((a0.length:Nat):Int) then
      (
       ck (0≤s380∧s380<((a0.length:Nat):Int)) <|
       if (a0.getD s380.toNat 0)<128 then
        some (.out (.inl (())))
       else
        (
         ck (0≤s380∧s380<((a0.length:Nat):Int)) <|
         if 191<(a0.getD s380.toNat 0) then
          some (.out (.inl (())))
         else
          (
           ck (inR .i64 (s380+1)) <|
           some (.go (s380+1))
          )
        )
      )
     else
      some (.out (.inr (())))
    ) 1).bind fun o394=>
   sm o394 (fun o401=>
     some false
    ) (fun o402=>
     k377 ()
    )
 ) (fun v376=>
  some true
 )
noncomputable def k227:Eng.CS:={ f:=227,calm:=true,more:=0,ι:=(List Int)×Bool,ok:=fun i=>g227 i.1=some i.2,rds:=fun _=>[],args:=fun i=>[.sl 1 i.1.length (ei .u8 i.1)],res:=fun i=>bS i.2 }
theorem k227_ok:CalmOk Tryz.prog k227:=by
 refine R.calmspec Tryz.func227 (nq9 Tryz.func227) rfl ?_
 rintro ⟨a0,r⟩ hok q _ args hargs
 match args,hargs with
 | [_],hargs=>
 obtain ⟨⟨A0,cp0,rfl,hc0,_,hR0⟩,_⟩:=hargs
 refine ⟨envC [] false [(227,6)],6,envC_ok (css_nil),rfl,(by intro x hx;simp only [List.mem_cons,List.not_mem_nil,or_false] at hx;rcases hx with rfl<;>rfl),?_⟩
 have H:Gives (g227 a0) (fun a=>a=r):=⟨r,hok,rfl⟩
 unfold g227 at H
 clear hok
 refine R.cut_fam H 8 [] [] (fun v376=>[]) (fun v376=>[]) [] 0 (fun H=>?_)
 refine And.intro ?_ ?_
 ·refine R.loop_fam (bind_st H) [0] [] (fun _ s380=>[(3,.v (.int .i64 (s380)))]) (fun _ s380=>[]) 0 (fun n403 H=>?_)
  refine ⟨(n403,_),⟨H⟩,⟨trivial⟩,?_⟩
  repeat refine mo1FB1 ?_
  rintro ⟨m0,s380⟩ H _
  obtain ⟨m381,hm0,H⟩:=IG_succ H
  dsimp only at hm0
  subst hm0
  try dsimp only at H
  refine if_st H (fun h395 H=>?_) (fun h395 H=>?_)
  ·refine ob_ix hR0 (fun h=>ei0 h) H fun h396 H=>?_
   refine ld_int (e:=a0.getD s380.toNat 0) (rd_get hR0 (ei_get (l:=a0) (tn h396))) ?_
   refine if_st H (fun h397 H=>?_) (fun h397 H=>?_)
   ·replace H:=some_st H
    dsimp only [stp,sm] at H
    have hfin:=fin_st H
    repeat refine mf1FB1 ?_
    first | exact trivial | exact rfl
   ·refine ob_ix hR0 (fun h=>ei0 h) H fun h398 H=>?_
    refine ld_int (e:=a0.getD s380.toNat 0) (rd_get hR0 (ei_get (l:=a0) (tn h398))) ?_
    refine if_st H (fun h399 H=>?_) (fun h399 H=>?_)
    ·replace H:=some_st H
     dsimp only [stp,sm] at H
     have hfin:=fin_st H
     repeat refine mf1FB1 ?_
     first | exact trivial | exact rfl
    ·refine ob_ck H fun h400 H=>?_
     replace H:=some_st H
     refine ⟨(m381,s380+1),⟨H,Nat.lt_succ_self _⟩,⟨trivial⟩,⟨rfl⟩,?_⟩
     repeat refine mo1FB1 ?_
     first | exact trivial | exact rfl
  ·replace H:=some_st H
   dsimp only [stp,sm] at H
   refine ⟨(),⟨H⟩,⟨rfl⟩,?_⟩
   repeat refine mo1FB1 ?_
   first | exact trivial | exact rfl
 ·intro v376 H
  have hfin:=fin_st H
  repeat refine mf1FB1 ?_
  first | exact trivial | exact rfl
noncomputable def g203 (a0:List Int):Option (Bool):=
 ck (0≤(0:Int)∧0<((a0.length:Nat):Int)) <|
 (g202 (a0.getD (0:Int).toNat 0)).bind fun v405=>
 if v405<((a0.length:Nat):Int) then
  some false
 else
  (
   (g227 a0).bind fun v415=>
   if ¬(v415=true) then
    some false
   else
    (
     ck ((0+a0.length) * 1≤140737488355328) <|
     ck ((0+a0.length) * 1≤140737488355328) <|
     jn (α:=_) (β:=List Int×List Int) (fun k469=>
       (loopO (σ:=List Int×List Int) (ρ:=List Int×List Int) (fun s472=>
         if ((s472.1.length:Nat):Int)<v405 then
          (
           ck ((s472.1.length+1) * 1≤140737488355328) <|
           ck ((s472.2.length+1) * 1≤140737488355328) <|
           some (.go ((s472.1++[128]),(s472.2++[191])))
          )
         else
          some (.out s472)
        ) (([]++a0),([]++a0))).bind fun o496=>
        k469 o496
     ) (fun v468=>
      (g204 v468.1).bind fun v509=>
      (g204 v468.2).bind fun v511=>
      ck (0≤v405∧v405<((5:Nat):Int)) <|
      if (([0,0,128,2048,65536]).getD v405.toNat 0)≤v511 then
       (
        if v509≤1114111 then
         (
          if v509<55296 then
           some true
          else
           some (decide (57343<v511))
         )
        else
         some false
       )
      else
       some false
     )
    )
  )
noncomputable def k203:Eng.CS:={ f:=203,calm:=true,more:=0,ι:=(List Int)×Bool,ok:=fun i=>g203 i.1=some i.2,rds:=fun _=>[],args:=fun i=>[.sl 1 i.1.length (ei .u8 i.1)],res:=fun i=>bS i.2 }
theorem k203_ok:CalmOk Tryz.prog k203:=by
 refine R.calmspec Tryz.func203 (nq9 Tryz.func203) rfl ?_
 rintro ⟨a0,r⟩ hok q _ args hargs
 match args,hargs with
 | [_],hargs=>
 obtain ⟨⟨A0,cp0,rfl,hc0,_,hR0⟩,_⟩:=hargs
 refine ⟨envC [k202,k204,k227] false [(203,7)],6,envC_ok (css_cons ⟨fun _=>k202_ok,fun h=>(by cases h)⟩ (css_cons ⟨fun _=>k204_ok,fun h=>(by cases h)⟩ (css_cons ⟨fun _=>k227_ok,fun h=>(by cases h)⟩ (css_nil)))),rfl,(by intro x hx;simp only [List.mem_cons,List.not_mem_nil,or_false] at hx;rcases hx with rfl<;>rfl),?_⟩
 have H:Gives (g203 a0) (fun a=>a=r):=⟨r,hok,rfl⟩
 unfold g203 at H
 clear hok
 refine ob_ix hR0 (fun h=>ei0 h) H fun h404 H=>?_
 refine ld_int (e:=a0.getD (0:Int).toNat 0) (rd_get hR0 (ei_get (l:=a0) (tn h404))) ?_
 obtain ⟨v405,hv406,H⟩:=call_st H
 refine ⟨(a0.getD (0:Int).toNat 0,v405),⟨hv406⟩,⟨trivial⟩,?_⟩
 refine And.intro ⟨rfl⟩ ?_
 refine if_st H (fun h414 H=>?_) (fun h414 H=>?_)
 ·have hfin:=fin_st H
  repeat refine mf1FB1 ?_
  first | exact trivial | exact rfl
 ·obtain ⟨v415,hv416,H⟩:=call_st H
  refine ⟨(a0,v415),⟨hv416⟩,⟨trivial⟩,?_⟩
  refine And.intro ⟨rfl,hc0,ei_len.trans ((show _=_ from rfl).trans (Nat.mul_one _).symm),hR0⟩ ?_
  refine if_st H (fun h417 H=>?_) (fun h417 H=>?_)
  ·have hfin:=fin_st H
   repeat refine mf1FB1 ?_
   first | exact trivial | exact rfl
  ·refine rs_st hR0 (by rw [ei_len];simp) ?_
   refine ob_app (by decide) (by first | exact ei_one | ((repeat (refine List.forall_mem_cons.2 ⟨rfl,?_⟩));intro y hy;cases hy;done) | (intro y hy;simp [ei,eb,es,ec] at hy;(first | (rcases hy with rfl | hy) | subst hy | skip);all_goals first | rfl | simp_all [Value.oneCell'])) H fun h418 H=>?_
   intro n419 zs421 hn420 hz422
   subst hn420 hz422
   refine rs_st hR0 (by rw [ei_len];simp) ?_
   refine ob_app (by decide) (by first | exact ei_one | ((repeat (refine List.forall_mem_cons.2 ⟨rfl,?_⟩));intro y hy;cases hy;done) | (intro y hy;simp [ei,eb,es,ec] at hy;(first | (rcases hy with rfl | hy) | subst hy | skip);all_goals first | rfl | simp_all [Value.oneCell'])) H fun h423 H=>?_
   intro n424 zs426 hn425 hz427
   subst hn425 hz427
   refine R.cut_fam H 33 [3] [] (fun v468=>[(4,.own 33),(5,.own 34)]) (fun v468=>[(33,.arr 5 1 (v468.1.length) (ei .u8 (v468.1))),(34,.arr 5 1 (v468.2.length) (ei .u8 (v468.2)))]) [] 2 (fun H=>?_)
   refine And.intro ?_ ?_
   ·refine R.loop_fam (bind_st H) [3] [] (fun _ s472=>[(4,.own 23),(5,.own 24)]) (fun _ s472=>[(23,.arr 5 1 (s472.1.length) (ei .u8 (s472.1))),(24,.arr 5 1 (s472.2.length) (ei .u8 (s472.2)))]) 2 (fun n508 H=>?_)
    refine ⟨(n508,_),⟨H⟩,⟨trivial⟩,?_⟩
    repeat refine mo1FB1 ?_
    rintro ⟨m0,s472⟩ H _
    obtain ⟨m473,hm0,H⟩:=IG_succ H
    dsimp only at hm0
    subst hm0
    try dsimp only at H
    refine if_st H (fun h497 H=>?_) (fun h497 H=>?_)
    ·refine ob_app (by decide) (by first | exact ei_one | ((repeat (refine List.forall_mem_cons.2 ⟨rfl,?_⟩));intro y hy;cases hy;done) | (intro y hy;simp [ei,eb,es,ec] at hy;(first | (rcases hy with rfl | hy) | subst hy | skip);all_goals first | rfl | simp_all [Value.oneCell'])) H fun h498 H=>?_
     intro n499 zs501 hn500 hz502
     subst hn500 hz502
     refine ob_app (by decide) (by first | exact ei_one | ((repeat (refine List.forall_mem_cons.2 ⟨rfl,?_⟩));intro y hy;cases hy;done) | (intro y hy;simp [ei,eb,es,ec] at hy;(first | (rcases hy with rfl | hy) | subst hy | skip);all_goals first | rfl | simp_all [Value.oneCell'])) H fun h503 H=>?_
     intro n504 zs506 hn505 hz507
     subst hn505 hz507
     replace H:=some_st H
     refine ⟨(m473,((s472.1++[128]),(s472.2++[191]))),⟨H,Nat.lt_succ_self _⟩,⟨trivial⟩,⟨rfl⟩,?_⟩
     repeat refine mo1FB1 ?_
     first | exact trivial | exact rfl
    ·replace H:=some_st H
     dsimp only [stp,sm] at H
     refine ⟨s472,⟨H⟩,⟨rfl⟩,?_⟩
     repeat refine mo1FB1 ?_
     first | exact trivial | exact rfl
   ·intro v468 H
    obtain ⟨v509,hv510,H⟩:=call_st H
    refine ⟨(v468.1,v509),⟨hv510⟩,⟨trivial⟩,?_⟩
    refine And.intro ⟨by first | rfl | (simp;done),by first | rfl | (simp [ei,eb,es,ec];done) | (simp only [ei,eb,es,ec,List.map_append,List.nil_append,List.append_assoc];rfl)⟩ ?_
    obtain ⟨v511,hv512,H⟩:=call_st H
    refine ⟨(v468.2,v511),⟨hv512⟩,⟨trivial⟩,?_⟩
    refine And.intro ⟨by first | rfl | (simp;done),by first | rfl | (simp [ei,eb,es,ec];done) | (simp only [ei,eb,es,ec,List.map_append,List.nil_append,List.append_assoc];rfl)⟩ ?_
    refine ob_ck H fun h513 H=>?_
    refine ld_int (e:=([0,0,128,2048,65536]).getD v405.toNat 0) (own_get (ys:=ei .i32 ([0,0,128,2048,65536])) (by first | rfl | simp [ei,eb,es,ec]) (ei_get (l:=[0,0,128,2048,65536]) (by first | exact tn h513 | (have:=tn h513;simp at this ⊢;omega) | (have:=tn h513;simp;omega)))) ?_
    repeat' refine if_st H (fun _ H=>?_) (fun _ H=>?_)
    all_goals
     have hfin:=fin_st H
     repeat refine mf1FB1 ?_
     first | exact trivial | exact rfl
noncomputable def g159 (a0:List Int):Option (Int×Int×Bool):=
 if ((a0.length:Nat):Int)=0 then
  some (0,0,true)
 else
  (
   ck (0≤(0:Int)∧0<((a0.length:Nat):Int)) <|
   (g202 (a0.getD (0:Int).toNat 0)).bind fun v520=>
   jn (α:=_) (β:=Bool) (fun k564=>
     if 0<v520 then
      (
       if v520≤((a0.length:Nat):Int) then
        (
         ck (0≤(0:Int)∧(0:Int)≤v520∧v520≤((a0.length:Nat):Int)) <|
         (g203 ((a0.drop (0:Int).toNat).take (v520.toNat-(0:Int).toNat))).bind fun v571=>
         k564 v571
        )
       else
        k564 false
      )
     else
      k564 false
   ) (fun v563=>
    if v563=true then
     (
      ck (0≤(0:Int)∧(0:Int)≤v520∧v520≤((a0.length:Nat):Int)) <|
      (g204 ((a0.drop (0:Int).toNat).take (v520.toNat-(0:Int).toNat))).bind fun v578=>
      some (v578,v520,false)
     )
    else
     (
      if 0<v520 then
       (
        if ((a0.length:Nat):Int)<v520 then
         (
          (g203 a0).bind fun v591=>
          if v591=true then
           some (0,0,true)
          else
           some (65533,1,false)
         )
        else
         some (65533,1,false)
       )
      else
       some (65533,1,false)
     )
   )
  )
noncomputable def k159:Eng.CS:={ f:=159,calm:=true,more:=0,ι:=(List Int)×(Int×Int×Bool),ok:=fun i=>g159 i.1=some i.2,rds:=fun _=>[],args:=fun i=>[.sl 1 i.1.length (ei .u8 i.1)],res:=fun i=>.tup [.v (.int .i32 (i.2.1)),.v (.int .i64 (i.2.2.1)),bS i.2.2.2] }
theorem k159_ok:CalmOk Tryz.prog k159:=by
 refine R.calmspec Tryz.func159 (nq9 Tryz.func159) rfl ?_
 rintro ⟨a0,r⟩ hok q _ args hargs
 match args,hargs with
 | [_],hargs=>
 obtain ⟨⟨A0,cp0,rfl,hc0,_,hR0⟩,_⟩:=hargs
 refine ⟨envC [k202,k203,k204] false [(159,5)],6,envC_ok (css_cons ⟨fun _=>k202_ok,fun h=>(by cases h)⟩ (css_cons ⟨fun _=>k203_ok,fun h=>(by cases h)⟩ (css_cons ⟨fun _=>k204_ok,fun h=>(by cases h)⟩ (css_nil)))),rfl,(by intro x hx;simp only [List.mem_cons,List.not_mem_nil,or_false] at hx;rcases hx with rfl<;>rfl),?_⟩
 have H:Gives (g159 a0) (fun a=>a=r):=⟨r,hok,rfl⟩
 unfold g159 at H
 clear hok
 refine if_st H (fun h518 H=>?_) (fun h518 H=>?_)
 ·have hfin:=fin_st H
  repeat refine mf1FB1 ?_
  first | exact trivial | exact rfl
 ·refine ob_ix hR0 (fun h=>ei0 h) H fun h519 H=>?_
  refine ld_int (e:=a0.getD (0:Int).toNat 0) (rd_get hR0 (ei_get (l:=a0) (tn h519))) ?_
  obtain ⟨v520,hv521,H⟩:=call_st H
  refine ⟨(a0.getD (0:Int).toNat 0,v520),⟨hv521⟩,⟨trivial⟩,?_⟩
  refine And.intro ⟨rfl⟩ ?_
  refine R.cut_fam H 26 [0,5] [] (fun v563=>[(26,bS v563)]) (fun v563=>[]) [] 0 (fun H=>?_)
  refine And.intro ?_ ?_
  ·refine if_st H (fun h565 H=>?_) (fun h565 H=>?_)
   ·refine if_st H (fun h566 H=>?_) (fun h566 H=>?_)
    ·refine ob_sl hc0 H fun h567 H=>?_
     have hs568:=sl_ei hR0 rfl hc0 h567
     intro n569 hn570
     subst hn570
     obtain ⟨v571,hv572,H⟩:=call_st H
     refine ⟨(((a0.drop (0:Int).toNat).take (v520.toNat-(0:Int).toNat)),v571),⟨hv572⟩,⟨trivial⟩,?_⟩
     refine And.intro ⟨(hs568.2.1).symm,hs568.2.2,ei_len.trans ((show _=_ from hs568.2.1).trans (Nat.mul_one _).symm),hs568.1⟩ ?_
     refine ⟨v571,⟨H⟩,⟨rfl⟩,?_⟩
     repeat refine mo1FB1 ?_
     first | exact trivial | exact rfl
    ·refine ⟨false,⟨H⟩,⟨rfl⟩,?_⟩
     repeat refine mo1FB1 ?_
     first | exact trivial | exact rfl
   ·refine ⟨false,⟨H⟩,⟨rfl⟩,?_⟩
    repeat refine mo1FB1 ?_
    first | exact trivial | exact rfl
  ·intro v563 H
   refine if_st H (fun h573 H=>?_) (fun h573 H=>?_)
   ·refine ob_sl hc0 H fun h574 H=>?_
    have hs575:=sl_ei hR0 rfl hc0 h574
    intro n576 hn577
    subst hn577
    obtain ⟨v578,hv579,H⟩:=call_st H
    refine ⟨(((a0.drop (0:Int).toNat).take (v520.toNat-(0:Int).toNat)),v578),⟨hv579⟩,⟨trivial⟩,?_⟩
    refine And.intro ⟨(hs575.2.1).symm,hs575.2.2,ei_len.trans ((show _=_ from hs575.2.1).trans (Nat.mul_one _).symm),hs575.1⟩ ?_
    have hfin:=fin_st H
    repeat refine mf1FB1 ?_
    first | exact trivial | exact rfl
   ·refine if_st H (fun h589 H=>?_) (fun h589 H=>?_)
    ·refine if_st H (fun h590 H=>?_) (fun h590 H=>?_)
     ·obtain ⟨v591,hv592,H⟩:=call_st H
      refine ⟨(a0,v591),⟨hv592⟩,⟨trivial⟩,?_⟩
      refine And.intro ⟨rfl,hc0,ei_len.trans ((show _=_ from rfl).trans (Nat.mul_one _).symm),hR0⟩ ?_
      refine if_st H (fun _ H=>?_) (fun _ H=>?_)
      all_goals
       have hfin:=fin_st H
       repeat refine mf1FB1 ?_
       first | exact trivial | exact rfl
     ·have hfin:=fin_st H
      repeat refine mf1FB1 ?_
      first | exact trivial | exact rfl
    ·have hfin:=fin_st H
     repeat refine mf1FB1 ?_
     first | exact trivial | exact rfl
end Go.Proofs.YtlehbfahkjhgnaaGreat
end
section
set_option maxRecDepth 8000
set_option maxHeartbeats 4000000
namespace Go.Proofs.YtlehbfahkjhgnaaGreat
open Go Go.Eng
theorem mo1FB2 {p q:Prop} (k:q) (h:p:=by first | exact rfl | exact Iff.rfl | exact ⟨rfl,rfl⟩ | exact decide_eq_true_iff | (constructor<;>first | exact rfl | (simp only [ei,eb,es,ec,gmin,gmax,List.map_append,List.flatMap_append,List.nil_append,List.append_nil,List.append_assoc];done) | omega | (simp only [List.nil_append,List.length_append,List.length_cons,List.length_nil];omega) | (simp [ei,eb,es,ec,gmin,gmax];done)) | exact rfl | (simp only [ei,eb,es,ec,gmin,gmax,List.map_append,List.flatMap_append,List.nil_append,List.append_nil,List.append_assoc];done) | omega | (simp only [List.nil_append,List.length_append,List.length_cons,List.length_nil];omega) | (simp [ei,eb,es,ec,gmin,gmax];done) | simp [ei,eb,es,ec,gmin,gmax]):Ob p∧q:=⟨⟨h⟩,k⟩
theorem mf1FB2 {p q:Prop} (k:q) (h:p:=by first | (rw [←hfin]<;>first | exact rfl | exact Iff.rfl | exact ⟨rfl,rfl⟩ | exact decide_eq_true_iff | (constructor<;>first | exact rfl | (simp only [ei,eb,es,ec,gmin,gmax,List.map_append,List.flatMap_append,List.nil_append,List.append_nil,List.append_assoc];done) | omega | (simp only [List.nil_append,List.length_append,List.length_cons,List.length_nil];omega) | (simp [ei,eb,es,ec,gmin,gmax];done)) | exact rfl | (simp only [ei,eb,es,ec,gmin,gmax,List.map_append,List.flatMap_append,List.nil_append,List.append_nil,List.append_assoc];done) | omega | (simp only [List.nil_append,List.length_append,List.length_cons,List.length_nil];omega) | (simp [ei,eb,es,ec,gmin,gmax];done) | simp [ei,eb,es,ec,gmin,gmax]) | first | exact rfl | exact Iff.rfl | exact ⟨rfl,rfl⟩ | exact decide_eq_true_iff | (constructor<;>first | exact rfl | (simp only [ei,eb,es,ec,gmin,gmax,List.map_append,List.flatMap_append,List.nil_append,List.append_nil,List.append_assoc];done) | omega | (simp only [List.nil_append,List.length_append,List.length_cons,List.length_nil];omega) | (simp [ei,eb,es,ec,gmin,gmax];done)) | exact rfl | (simp only [ei,eb,es,ec,gmin,gmax,List.map_append,List.flatMap_append,List.nil_append,List.append_nil,List.append_assoc];done) | omega | (simp only [List.nil_append,List.length_append,List.length_cons,List.length_nil];omega) | (simp [ei,eb,es,ec,gmin,gmax];done) | simp [ei,eb,es,ec,gmin,gmax]):Ob p∧q:=⟨⟨h⟩,k⟩
noncomputable def g105 (a0:List Int):Option (List Int×List Int):=
 jn (α:=_) (β:=List Int×List Int) (fun k100=>
   (loopO (σ:=List Int×List Int×Int) (ρ:=List Int×List Int) (fun s103=>
     if s103.2.2<((a0.length:Nat):Int) then
      (
       ck (0≤s103.2.2∧s103.2.2≤((a0.length:Nat):Int)∧((a0.length:Nat):Int)≤((a0.length:Nat):Int)) <|
       (g159 ((a0.drop s103.2.2.toNat).take (((a0.length:Nat):Int).toNat-s103.2.2.toNat))).bind fun v171=>
       if v171.2.2=true then
        (
         ck ((s103.1.length+1) * 4≤140737488355328) <|
         ck ((s103.2.1.length+1) * 8≤140737488355328) <|
         ck (inR .i64 (s103.2.2+1)) <|
         some (.go ((s103.1++[65533]),(s103.2.1++[s103.2.2]),s103.2.2+1))
        )
       else
        (
         ck ((s103.1.length+1) * 4≤140737488355328) <|
         ck ((s103.2.1.length+1) * 8≤140737488355328) <|
         ck (inR .i64 (s103.2.2+v171.2.1)) <|
         some (.go ((s103.1++[v171.1]),(s103.2.1++[s103.2.2]),s103.2.2+v171.2.1))
        )
      )
     else
      some (.out (s103.1,s103.2.1))
    ) ([],[],0)).bind fun o165=>
    k100 o165
 ) (fun v99=>
  some v99
 )
noncomputable def k105:Eng.CS:={ f:=105,calm:=false,more:=2,ι:=(List Int)×(List Int×List Int),ok:=fun i=>g105 i.1=some i.2,rds:=fun _=>[],args:=fun i=>[.sl 1 i.1.length (ei .u8 i.1)],res:=fun i=>.tup [.own 0,.own 1],L':=fun i=>[(0,.arr 21 1 i.2.1.length (ei .i32 i.2.1)),(1,.arr 3 1 i.2.2.length (ei .i64 i.2.2))],rn:=[(0,0,21,1),(1,0,3,1)] }
theorem k105_ok:CSOk Tryz.prog k105:=by
 refine R.cspec Tryz.func105 (nq9 Tryz.func105) rfl ?_
 rintro ⟨a0,r⟩ hok q _ args hargs
 match args,hargs with
 | [_],hargs=>
 obtain ⟨⟨A0,cp0,rfl,hc0,_,hR0⟩,_⟩:=hargs
 refine ⟨envC [k159] false [(105,10)],6,envC_ok (css_cons ⟨fun _=>k159_ok,fun h=>(by cases h)⟩ (css_nil)),?_⟩
 have H:Gives (g105 a0) (fun a=>a=r):=⟨r,hok,rfl⟩
 unfold g105 at H
 clear hok
 refine R.cut_fam H 17 [] [] (fun v99=>[(4,.own 17),(5,.own 18)]) (fun v99=>[(17,.arr 21 1 (v99.1.length) (ei .i32 (v99.1))),(18,.arr 3 1 (v99.2.length) (ei .i64 (v99.2)))]) [] 2 (fun H=>?_)
 refine And.intro ?_ ?_
 ·refine R.loop_fam (bind_st H) [0] [(4,0,21,1),(5,0,3,1)] (fun _ s103=>[(4,.own 7),(5,.own 8),(6,.v (.int .i64 (s103.2.2)))]) (fun _ s103=>[(7,.arr 21 1 (s103.1.length) (ei .i32 (s103.1))),(8,.arr 3 1 (s103.2.1.length) (ei .i64 (s103.2.1)))]) 2 (fun n196 H=>?_)
  refine ⟨(n196,_),⟨H⟩,⟨trivial⟩,?_⟩
  repeat refine mo1FB2 ?_
  rintro ⟨m0,s103⟩ H _
  obtain ⟨m104,hm0,H⟩:=IG_succ H
  dsimp only at hm0
  subst hm0
  try dsimp only at H
  refine if_st H (fun h166 H=>?_) (fun h166 H=>?_)
  ·refine ob_sl hc0 H fun h167 H=>?_
   have hs168:=sl_ei hR0 rfl hc0 h167
   intro n169 hn170
   obtain rfl:n169=((a0.drop s103.2.2.toNat).take (((a0.length:Nat):Int).toNat-s103.2.2.toNat)).length:=hn170.trans hs168.2.1.symm
   obtain ⟨v171,hv172,H⟩:=call_st H
   refine ⟨(((a0.drop s103.2.2.toNat).take (((a0.length:Nat):Int).toNat-s103.2.2.toNat)),v171),⟨hv172⟩,⟨trivial⟩,?_⟩
   refine And.intro ⟨rfl,(Nat.le_trans (Nat.le_of_eq hs168.2.1) hs168.2.2),ei_len.trans ((show _=_ from rfl).trans (Nat.mul_one _).symm),hs168.1⟩ ?_
   refine if_st H (fun h173 H=>?_) (fun h173 H=>?_)
   ·refine ob_app (by decide) (by first | exact ei_one | ((repeat (refine List.forall_mem_cons.2 ⟨rfl,?_⟩));intro y hy;cases hy;done) | (intro y hy;simp [ei,eb,es,ec] at hy;(first | (rcases hy with rfl | hy) | subst hy | skip);all_goals first | rfl | simp_all [Value.oneCell'])) H fun h174 H=>?_
    intro n175 zs177 hn176 hz178
    obtain rfl:n175=(s103.1++[65533]).length:=hn176.trans (by first | exact List.length_append.symm | (simp;done) | (simp;omega))
    obtain rfl:zs177=ei .i32 (s103.1++[65533]):=by first | exact hz178.trans (ei_app (xs:=s103.1) (ys:=([65533]))).symm | (rw [hz178,ei_vw];first | exact ei_app.symm | exact (ei_app (xs:=s103.1)).symm) | (rw [hz178];simp [ei,eb,es,ec])
    refine ob_app (by decide) (by first | exact ei_one | ((repeat (refine List.forall_mem_cons.2 ⟨rfl,?_⟩));intro y hy;cases hy;done) | (intro y hy;simp [ei,eb,es,ec] at hy;(first | (rcases hy with rfl | hy) | subst hy | skip);all_goals first | rfl | simp_all [Value.oneCell'])) H fun h179 H=>?_
    intro n180 zs182 hn181 hz183
    obtain rfl:n180=(s103.2.1++[s103.2.2]).length:=hn181.trans (by first | exact List.length_append.symm | (simp;done) | (simp;omega))
    obtain rfl:zs182=ei .i64 (s103.2.1++[s103.2.2]):=by first | exact hz183.trans (ei_app (xs:=s103.2.1) (ys:=([s103.2.2]))).symm | (rw [hz183,ei_vw];first | exact ei_app.symm | exact (ei_app (xs:=s103.2.1)).symm) | (rw [hz183];simp [ei,eb,es,ec])
    refine ob_ck H fun h184 H=>?_
    replace H:=some_st H
    refine ⟨(m104,((s103.1++[65533]),(s103.2.1++[s103.2.2]),s103.2.2+1)),⟨H,Nat.lt_succ_self _⟩,⟨trivial⟩,⟨rfl⟩,?_⟩
    repeat refine mo1FB2 ?_
    first | exact trivial | exact rfl
   ·refine ob_app (by decide) (by first | exact ei_one | ((repeat (refine List.forall_mem_cons.2 ⟨rfl,?_⟩));intro y hy;cases hy;done) | (intro y hy;simp [ei,eb,es,ec] at hy;(first | (rcases hy with rfl | hy) | subst hy | skip);all_goals first | rfl | simp_all [Value.oneCell'])) H fun h185 H=>?_
    intro n186 zs188 hn187 hz189
    obtain rfl:n186=(s103.1++[v171.1]).length:=hn187.trans (by first | exact List.length_append.symm | (simp;done) | (simp;omega))
    obtain rfl:zs188=ei .i32 (s103.1++[v171.1]):=by first | exact hz189.trans (ei_app (xs:=s103.1) (ys:=([v171.1]))).symm | (rw [hz189,ei_vw];first | exact ei_app.symm | exact (ei_app (xs:=s103.1)).symm) | (rw [hz189];simp [ei,eb,es,ec])
    refine ob_app (by decide) (by first | exact ei_one | ((repeat (refine List.forall_mem_cons.2 ⟨rfl,?_⟩));intro y hy;cases hy;done) | (intro y hy;simp [ei,eb,es,ec] at hy;(first | (rcases hy with rfl | hy) | subst hy | skip);all_goals first | rfl | simp_all [Value.oneCell'])) H fun h190 H=>?_
    intro n191 zs193 hn192 hz194
    obtain rfl:n191=(s103.2.1++[s103.2.2]).length:=hn192.trans (by first | exact List.length_append.symm | (simp;done) | (simp;omega))
    obtain rfl:zs193=ei .i64 (s103.2.1++[s103.2.2]):=by first | exact hz194.trans (ei_app (xs:=s103.2.1) (ys:=([s103.2.2]))).symm | (rw [hz194,ei_vw];first | exact ei_app.symm | exact (ei_app (xs:=s103.2.1)).symm) | (rw [hz194];simp [ei,eb,es,ec])
    refine ob_ck H fun h195 H=>?_
    replace H:=some_st H
    refine ⟨(m104,((s103.1++[v171.1]),(s103.2.1++[s103.2.2]),s103.2.2+v171.2.1)),⟨H,Nat.lt_succ_self _⟩,⟨trivial⟩,⟨rfl⟩,?_⟩
    repeat refine mo1FB2 ?_
    first | exact trivial | exact rfl
  ·replace H:=some_st H
   dsimp only [stp,sm] at H
   refine ⟨(s103.1,s103.2.1),⟨H⟩,⟨rfl⟩,?_⟩
   repeat refine mo1FB2 ?_
   first | exact trivial | exact rfl
 ·intro v99 H
  have hfin:=fin_st H
  repeat refine mf1FB2 ?_
  first | exact trivial | exact rfl
def c241 (p:(Int×Int)):List Value:=[.int .i32 p.1,.int .i32 p.2]
theorem c241_len:∀a,(c241 a).length=2:=fun _=>rfl
theorem mo2FB2 {p q:Prop} (k:q) (h:p:=by first | exact rfl | exact Iff.rfl | exact ⟨rfl,rfl⟩ | exact decide_eq_true_iff | (constructor<;>first | exact rfl | (simp only [ei,eb,es,ec,c241,gmin,gmax,List.map_append,List.flatMap_append,List.nil_append,List.append_nil,List.append_assoc];done) | omega | (simp only [List.nil_append,List.length_append,List.length_cons,List.length_nil];omega) | (simp [ei,eb,es,ec,c241,gmin,gmax];done)) | exact rfl | (simp only [ei,eb,es,ec,c241,gmin,gmax,List.map_append,List.flatMap_append,List.nil_append,List.append_nil,List.append_assoc];done) | omega | (simp only [List.nil_append,List.length_append,List.length_cons,List.length_nil];omega) | (simp [ei,eb,es,ec,c241,gmin,gmax];done) | simp [ei,eb,es,ec,c241,gmin,gmax]):Ob p∧q:=⟨⟨h⟩,k⟩
theorem mf2FB2 {p q:Prop} (k:q) (h:p:=by first | (rw [←hfin]<;>first | exact rfl | exact Iff.rfl | exact ⟨rfl,rfl⟩ | exact decide_eq_true_iff | (constructor<;>first | exact rfl | (simp only [ei,eb,es,ec,c241,gmin,gmax,List.map_append,List.flatMap_append,List.nil_append,List.append_nil,List.append_assoc];done) | omega | (simp only [List.nil_append,List.length_append,List.length_cons,List.length_nil];omega) | (simp [ei,eb,es,ec,c241,gmin,gmax];done)) | exact rfl | (simp only [ei,eb,es,ec,c241,gmin,gmax,List.map_append,List.flatMap_append,List.nil_append,List.append_nil,List.append_assoc];done) | omega | (simp only [List.nil_append,List.length_append,List.length_cons,List.length_nil];omega) | (simp [ei,eb,es,ec,c241,gmin,gmax];done) | simp [ei,eb,es,ec,c241,gmin,gmax]) | first | exact rfl | exact Iff.rfl | exact ⟨rfl,rfl⟩ | exact decide_eq_true_iff | (constructor<;>first | exact rfl | (simp only [ei,eb,es,ec,c241,gmin,gmax,List.map_append,List.flatMap_append,List.nil_append,List.append_nil,List.append_assoc];done) | omega | (simp only [List.nil_append,List.length_append,List.length_cons,List.length_nil];omega) | (simp [ei,eb,es,ec,c241,gmin,gmax];done)) | exact rfl | (simp only [ei,eb,es,ec,c241,gmin,gmax,List.map_append,List.flatMap_append,List.nil_append,List.append_nil,List.append_assoc];done) | omega | (simp only [List.nil_append,List.length_append,List.length_cons,List.length_nil];omega) | (simp [ei,eb,es,ec,c241,gmin,gmax];done) | simp [ei,eb,es,ec,c241,gmin,gmax]):Ob p∧q:=⟨⟨h⟩,k⟩
noncomputable def g206  : Option (List (Int×Int)):=
 some ([(768,879),(1155,1161),(1425,1469),(1471,1471),(1473,1474),(1476,1477),(1479,1479),(1552,1562),(1611,1631),(1648,1648),(1750,1756),(1759,1764),(1767,1768),(1770,1773),(3633,3633),(3636,3642),(3655,3662),(6832,6911),(7616,7679),(8203,8207),(8288,8292),(8400,8432),(12330,12333),(12441,12442),(65024,65039),(65056,65071),(65279,65279),(917760,917999)])
noncomputable def k206:Eng.CS:={ f:=206,calm:=false,more:=1,ι:=List (Int×Int),ok:=fun i=>g206  = some i,rds:=fun _=>[],args:=fun i=>[],res:=fun i=>.own 0,L':=fun i=>[(0,.arr 241 2 i.length (ec c241 i))],rn:=[(0,0,241,2)] }
set_option maxRecDepth 60000 in
set_option maxHeartbeats 4000000 in
theorem k206_ok:CSOk Tryz.prog k206:=by
 refine R.cspec Tryz.func206 (nq9 Tryz.func206) rfl ?_
 rintro r hok q _ args hargs
 match args,hargs with
 | [],hargs=>
 refine ⟨envC [] false [],6,envC_ok (css_nil),?_⟩
 have H:Gives (g206 ) (fun a=>a=r):=⟨r,hok,rfl⟩
 unfold g206 at H
 clear hok
 have hfin:=fin_st H
 repeat refine mf2FB2 ?_
 first | exact trivial | exact rfl
noncomputable def g207  : Option (List (Int×Int)):=
 some ([(4352,4447),(8986,8987),(9001,9002),(9193,9196),(9200,9200),(9203,9203),(9725,9726),(9748,9749),(9800,9811),(9855,9855),(9875,9875),(9889,9889),(9898,9899),(9917,9918),(9924,9925),(9934,9934),(9940,9940),(9962,9962),(9970,9971),(9973,9973),(9978,9978),(9981,9981),(9989,9989),(9994,9995),(10024,10024),(10060,10060),(10062,10062),(10067,10069),(10071,10071),(10133,10135),(10160,10160),(10175,10175),(11035,11036),(11088,11088),(11093,11093),(11904,12350),(12353,19903),(19968,42191),(43360,43391),(44032,55203),(63744,64255),(65040,65049),(65072,65135),(65281,65376),(65504,65510),(127744,128591),(128640,128767),(129280,129535),(129648,129791),(131072,196605),(196608,262141)])
noncomputable def k207:Eng.CS:={ f:=207,calm:=false,more:=1,ι:=List (Int×Int),ok:=fun i=>g207  = some i,rds:=fun _=>[],args:=fun i=>[],res:=fun i=>.own 0,L':=fun i=>[(0,.arr 241 2 i.length (ec c241 i))],rn:=[(0,0,241,2)] }
set_option maxRecDepth 60000 in
set_option maxHeartbeats 4000000 in
theorem k207_ok:CSOk Tryz.prog k207:=by
 refine R.cspec Tryz.func207 (nq9 Tryz.func207) rfl ?_
 rintro r hok q _ args hargs
 match args,hargs with
 | [],hargs=>
 refine ⟨envC [] false [],6,envC_ok (css_nil),?_⟩
 have H:Gives (g207 ) (fun a=>a=r):=⟨r,hok,rfl⟩
 unfold g207 at H
 clear hok
 have hfin:=fin_st H
 repeat refine mf2FB2 ?_
 first | exact trivial | exact rfl
noncomputable def g205 (a0:List (Int×Int)) (a1:Int):Option (Bool):=
 jn (α:=_) (β:=Unit) (fun k235=>
   (loopO (σ:=Int) (ρ:=(Unit) ⊕ (Unit)) (fun s238=>
     if s238<((a0.length:Nat):Int) then
      (
       ck (0≤s238∧s238<((a0.length:Nat):Int)) <|
       if ((a0.getD s238.toNat default).1)≤a1 then
        (
         ck (0≤s238∧s238<((a0.length:Nat):Int)) <|
         if a1≤((a0.getD s238.toNat default).2) then
          some (.out (.inl (())))
         else
          (
           ck (inR .i64 (s238+1)) <|
           some (.go (s238+1))
          )
        )
       else
        (
         ck (inR .i64 (s238+1)) <|
         some (.go (s238+1))
        )
      )
     else
      some (.out (.inr (())))
    ) 0).bind fun o254=>
   sm o254 (fun o262=>
     some true
    ) (fun o263=>
     k235 ()
    )
 ) (fun v234=>
  some false
 )
noncomputable def k205:Eng.CS:={ f:=205,calm:=true,more:=0,ι:=(List (Int×Int))×Int×Bool,ok:=fun i=>g205 i.1 i.2.1=some i.2.2,rds:=fun _=>[],args:=fun i=>[.sl 2 i.1.length (ec c241 i.1),.w (.v (.int .i32 (i.2.1)))],res:=fun i=>bS i.2.2 }
theorem k205_ok:CalmOk Tryz.prog k205:=by
 refine R.calmspec Tryz.func205 (nq9 Tryz.func205) rfl ?_
 rintro ⟨a0,a1,r⟩ hok q _ args hargs
 match args,hargs with
 | [_,_],hargs=>
 obtain ⟨⟨A0,cp0,rfl,hc0,_,hR0⟩,rfl,_⟩:=hargs
 refine ⟨envC [] false [(205,6)],6,envC_ok (css_nil),rfl,(by intro x hx;simp only [List.mem_cons,List.not_mem_nil,or_false] at hx;rcases hx with rfl | rfl<;>rfl),?_⟩
 have H:Gives (g205 a0 a1) (fun a=>a=r):=⟨r,hok,rfl⟩
 unfold g205 at H
 clear hok
 refine R.cut_fam H 8 [] [] (fun v234=>[]) (fun v234=>[]) [] 0 (fun H=>?_)
 refine And.intro ?_ ?_
 ·refine R.loop_fam (bind_st H) [0,1] [] (fun _ s238=>[(5,.v (.int .i64 (s238)))]) (fun _ s238=>[]) 0 (fun n264 H=>?_)
  refine ⟨(n264,_),⟨H⟩,⟨trivial⟩,?_⟩
  repeat refine mo2FB2 ?_
  rintro ⟨m0,s238⟩ H _
  obtain ⟨m239,hm0,H⟩:=IG_succ H
  dsimp only at hm0
  subst hm0
  try dsimp only at H
  refine if_st H (fun h255 H=>?_) (fun h255 H=>?_)
  ·refine ob_ix hR0 (fun h=>ec0 c241_len (by decide) h) H fun h256 H=>?_
   refine ld_int (e:=(a0.getD s238.toNat default).1) (rd_get hR0 ((ec_get (i:=s238.toNat) (o:=0) c241_len (tn h256) (by decide)).trans rfl)) ?_
   refine if_st H (fun h257 H=>?_) (fun h257 H=>?_)
   ·refine ob_ix hR0 (fun h=>ec0 c241_len (by decide) h) H fun h258 H=>?_
    refine ld_int (e:=(a0.getD s238.toNat default).2) (rd_get hR0 ((ec_get (i:=s238.toNat) (o:=1) c241_len (tn h258) (by decide)).trans rfl)) ?_
    refine if_st H (fun h259 H=>?_) (fun h259 H=>?_)
    ·replace H:=some_st H
     dsimp only [stp,sm] at H
     have hfin:=fin_st H
     repeat refine mf2FB2 ?_
     first | exact trivial | exact rfl
    ·refine ob_ck H fun h260 H=>?_
     replace H:=some_st H
     refine ⟨(m239,s238+1),⟨H,Nat.lt_succ_self _⟩,⟨trivial⟩,⟨rfl⟩,?_⟩
     repeat refine mo2FB2 ?_
     first | exact trivial | exact rfl
   ·refine ob_ck H fun h261 H=>?_
    replace H:=some_st H
    refine ⟨(m239,s238+1),⟨H,Nat.lt_succ_self _⟩,⟨trivial⟩,⟨rfl⟩,?_⟩
    repeat refine mo2FB2 ?_
    first | exact trivial | exact rfl
  ·replace H:=some_st H
   dsimp only [stp,sm] at H
   refine ⟨(),⟨H⟩,⟨rfl⟩,?_⟩
   repeat refine mo2FB2 ?_
   first | exact trivial | exact rfl
 ·intro v234 H
  have hfin:=fin_st H
  repeat refine mf2FB2 ?_
  first | exact trivial | exact rfl
noncomputable def g162 (a0:Int):Option (Bool):=
 if 0≤a0 then
  (
   if a0≤1114111 then
    (
     if 55296≤a0 then
      some (decide (¬(a0≤57343)))
     else
      some true
    )
   else
    some false
  )
 else
  some false
noncomputable def k162:Eng.CS:={ f:=162,calm:=true,more:=0,ι:=Int×Bool,ok:=fun i=>g162 i.1=some i.2,rds:=fun _=>[],args:=fun i=>[.w (.v (.int .i32 (i.1)))],res:=fun i=>bS i.2 }
theorem k162_ok:CalmOk Tryz.prog k162:=by
 refine R.calmspec Tryz.func162 (nq9 Tryz.func162) rfl ?_
 rintro ⟨a0,r⟩ hok q _ args hargs
 match args,hargs with
 | [_],hargs=>
 obtain ⟨rfl,_⟩:=hargs
 refine ⟨envC [] false [],6,envC_ok (css_nil),rfl,(by intro x hx;simp only [List.mem_cons,List.not_mem_nil,or_false] at hx;rcases hx with rfl<;>rfl),?_⟩
 have H:Gives (g162 a0) (fun a=>a=r):=⟨r,hok,rfl⟩
 unfold g162 at H
 clear hok
 repeat' refine if_st H (fun _ H=>?_) (fun _ H=>?_)
 all_goals
  have hfin:=fin_st H
  repeat refine mf2FB2 ?_
  first | exact trivial | exact rfl
noncomputable def g163 (a0:Int):Option (Bool):=
 if 0≤a0 then
  (
   if a0≤31 then
    some true
   else
    (
     if 127≤a0 then
      some (decide (a0≤159))
     else
      some false
    )
  )
 else
  (
   if 127≤a0 then
    some (decide (a0≤159))
   else
    some false
  )
noncomputable def k163:Eng.CS:={ f:=163,calm:=true,more:=0,ι:=Int×Bool,ok:=fun i=>g163 i.1=some i.2,rds:=fun _=>[],args:=fun i=>[.w (.v (.int .i32 (i.1)))],res:=fun i=>bS i.2 }
theorem k163_ok:CalmOk Tryz.prog k163:=by
 refine R.calmspec Tryz.func163 (nq9 Tryz.func163) rfl ?_
 rintro ⟨a0,r⟩ hok q _ args hargs
 match args,hargs with
 | [_],hargs=>
 obtain ⟨rfl,_⟩:=hargs
 refine ⟨envC [] false [],6,envC_ok (css_nil),rfl,(by intro x hx;simp only [List.mem_cons,List.not_mem_nil,or_false] at hx;rcases hx with rfl<;>rfl),?_⟩
 have H:Gives (g163 a0) (fun a=>a=r):=⟨r,hok,rfl⟩
 unfold g163 at H
 clear hok
 repeat' refine if_st H (fun _ H=>?_) (fun _ H=>?_)
 all_goals
  have hfin:=fin_st H
  repeat refine mf2FB2 ?_
  first | exact trivial | exact rfl
noncomputable def g164 (a0:Int):Option (Bool):=
 (g206).bind fun v272=>
 (g205 v272 a0).bind fun v274=>
 some v274
noncomputable def k164:Eng.CS:={ f:=164,calm:=true,more:=0,ι:=Int×Bool,ok:=fun i=>g164 i.1=some i.2,rds:=fun _=>[],args:=fun i=>[.w (.v (.int .i32 (i.1)))],res:=fun i=>bS i.2 }
theorem k164_ok:CalmOk Tryz.prog k164:=by
 refine R.calmspec Tryz.func164 (nq9 Tryz.func164) rfl ?_
 rintro ⟨a0,r⟩ hok q _ args hargs
 match args,hargs with
 | [_],hargs=>
 obtain ⟨rfl,_⟩:=hargs
 refine ⟨envC [k205,k206] false [],6,envC_ok (css_cons ⟨fun _=>k205_ok,fun h=>(by cases h)⟩ (css_cons ⟨fun h=>(by cases h),fun _=>k206_ok⟩ (css_nil))),rfl,(by intro x hx;simp only [List.mem_cons,List.not_mem_nil,or_false] at hx;rcases hx with rfl<;>rfl),?_⟩
 have H:Gives (g164 a0) (fun a=>a=r):=⟨r,hok,rfl⟩
 unfold g164 at H
 clear hok
 obtain ⟨v272,hv273,H⟩:=call_st H
 refine ⟨v272,⟨hv273⟩,⟨trivial⟩,?_⟩
 obtain ⟨v274,hv275,H⟩:=call_st H
 refine ⟨(v272,a0,v274),⟨hv275⟩,⟨trivial⟩,?_⟩
 refine And.intro ⟨by first | rfl | (simp;done),by first | rfl | (simp [ei,eb,es,ec,c241];done) | (simp only [ei,eb,es,ec,c241,List.map_append,List.nil_append,List.append_assoc];rfl)⟩ ?_
 refine And.intro ⟨rfl⟩ ?_
 have hfin:=fin_st H
 repeat refine mf2FB2 ?_
 first | exact trivial | exact rfl
noncomputable def g165 (a0:Int):Option (Bool):=
 (g164 a0).bind fun v276=>
 if ¬(v276=true) then
  (
   (g207).bind fun v279=>
   (g205 v279 a0).bind fun v281=>
   some v281
  )
 else
  some false
noncomputable def k165:Eng.CS:={ f:=165,calm:=true,more:=0,ι:=Int×Bool,ok:=fun i=>g165 i.1=some i.2,rds:=fun _=>[],args:=fun i=>[.w (.v (.int .i32 (i.1)))],res:=fun i=>bS i.2 }
theorem k165_ok:CalmOk Tryz.prog k165:=by
 refine R.calmspec Tryz.func165 (nq9 Tryz.func165) rfl ?_
 rintro ⟨a0,r⟩ hok q _ args hargs
 match args,hargs with
 | [_],hargs=>
 obtain ⟨rfl,_⟩:=hargs
 refine ⟨envC [k164,k205,k207] false [],6,envC_ok (css_cons ⟨fun _=>k164_ok,fun h=>(by cases h)⟩ (css_cons ⟨fun _=>k205_ok,fun h=>(by cases h)⟩ (css_cons ⟨fun h=>(by cases h),fun _=>k207_ok⟩ (css_nil)))),rfl,(by intro x hx;simp only [List.mem_cons,List.not_mem_nil,or_false] at hx;rcases hx with rfl<;>rfl),?_⟩
 have H:Gives (g165 a0) (fun a=>a=r):=⟨r,hok,rfl⟩
 unfold g165 at H
 clear hok
 obtain ⟨v276,hv277,H⟩:=call_st H
 refine ⟨(a0,v276),⟨hv277⟩,⟨trivial⟩,?_⟩
 refine And.intro ⟨rfl⟩ ?_
 refine if_st H (fun h278 H=>?_) (fun h278 H=>?_)
 ·obtain ⟨v279,hv280,H⟩:=call_st H
  refine ⟨v279,⟨hv280⟩,⟨trivial⟩,?_⟩
  obtain ⟨v281,hv282,H⟩:=call_st H
  refine ⟨(v279,a0,v281),⟨hv282⟩,⟨trivial⟩,?_⟩
  refine And.intro ⟨by first | rfl | (simp;done),by first | rfl | (simp [ei,eb,es,ec,c241];done) | (simp only [ei,eb,es,ec,c241,List.map_append,List.nil_append,List.append_assoc];rfl)⟩ ?_
  refine And.intro ⟨rfl⟩ ?_
  have hfin:=fin_st H
  repeat refine mf2FB2 ?_
  first | exact trivial | exact rfl
 ·have hfin:=fin_st H
  repeat refine mf2FB2 ?_
  first | exact trivial | exact rfl
noncomputable def g107 (a0:Int):Option (Int):=
 (g162 a0).bind fun v300=>
 if ¬(v300=true) then
  some 0
 else
  (
   (g163 a0).bind fun v303=>
   if v303=true then
    some 0
   else
    (
     (g164 a0).bind fun v306=>
     if v306=true then
      some 0
     else
      (
       (g165 a0).bind fun v312=>
       if v312=true then
        some 2
       else
        some 1
      )
    )
  )
noncomputable def k107:Eng.CS:={ f:=107,calm:=true,more:=0,ι:=Int×Int,ok:=fun i=>g107 i.1=some i.2,rds:=fun _=>[],args:=fun i=>[.w (.v (.int .i32 (i.1)))],res:=fun i=>.v (.int .i64 (i.2)) }
theorem k107_ok:CalmOk Tryz.prog k107:=by
 refine R.calmspec Tryz.func107 (nq9 Tryz.func107) rfl ?_
 rintro ⟨a0,r⟩ hok q _ args hargs
 match args,hargs with
 | [_],hargs=>
 obtain ⟨rfl,_⟩:=hargs
 refine ⟨envC [k162,k163,k164,k165] false [],6,envC_ok (css_cons ⟨fun _=>k162_ok,fun h=>(by cases h)⟩ (css_cons ⟨fun _=>k163_ok,fun h=>(by cases h)⟩ (css_cons ⟨fun _=>k164_ok,fun h=>(by cases h)⟩ (css_cons ⟨fun _=>k165_ok,fun h=>(by cases h)⟩ (css_nil))))),rfl,(by intro x hx;simp only [List.mem_cons,List.not_mem_nil,or_false] at hx;rcases hx with rfl<;>rfl),?_⟩
 have H:Gives (g107 a0) (fun a=>a=r):=⟨r,hok,rfl⟩
 unfold g107 at H
 clear hok
 obtain ⟨v300,hv301,H⟩:=call_st H
 refine ⟨(a0,v300),⟨hv301⟩,⟨trivial⟩,?_⟩
 refine And.intro ⟨rfl⟩ ?_
 refine if_st H (fun h302 H=>?_) (fun h302 H=>?_)
 ·have hfin:=fin_st H
  repeat refine mf2FB2 ?_
  first | exact trivial | exact rfl
 ·obtain ⟨v303,hv304,H⟩:=call_st H
  refine ⟨(a0,v303),⟨hv304⟩,⟨trivial⟩,?_⟩
  refine And.intro ⟨rfl⟩ ?_
  refine if_st H (fun h305 H=>?_) (fun h305 H=>?_)
  ·have hfin:=fin_st H
   repeat refine mf2FB2 ?_
   first | exact trivial | exact rfl
  ·obtain ⟨v306,hv307,H⟩:=call_st H
   refine ⟨(a0,v306),⟨hv307⟩,⟨trivial⟩,?_⟩
   refine And.intro ⟨rfl⟩ ?_
   refine if_st H (fun h308 H=>?_) (fun h308 H=>?_)
   ·have hfin:=fin_st H
    repeat refine mf2FB2 ?_
    first | exact trivial | exact rfl
   ·obtain ⟨v312,hv313,H⟩:=call_st H
    refine ⟨(a0,v312),⟨hv313⟩,⟨trivial⟩,?_⟩
    refine And.intro ⟨rfl⟩ ?_
    refine if_st H (fun _ H=>?_) (fun _ H=>?_)
    all_goals
     have hfin:=fin_st H
     repeat refine mf2FB2 ?_
     first | exact trivial | exact rfl
noncomputable def g166 (a0:Int):Option (Bool):=
 if 0≤a0 then
  (
   if a0≤31 then
    some true
   else
    (
     if 127≤a0 then
      some (decide (a0≤159))
     else
      some false
    )
  )
 else
  (
   if 127≤a0 then
    some (decide (a0≤159))
   else
    some false
  )
noncomputable def k166:Eng.CS:={ f:=166,calm:=true,more:=0,ι:=Int×Bool,ok:=fun i=>g166 i.1=some i.2,rds:=fun _=>[],args:=fun i=>[.w (.v (.int .i32 (i.1)))],res:=fun i=>bS i.2 }
theorem k166_ok:CalmOk Tryz.prog k166:=by
 refine R.calmspec Tryz.func166 (nq9 Tryz.func166) rfl ?_
 rintro ⟨a0,r⟩ hok q _ args hargs
 match args,hargs with
 | [_],hargs=>
 obtain ⟨rfl,_⟩:=hargs
 refine ⟨envC [] false [],6,envC_ok (css_nil),rfl,(by intro x hx;simp only [List.mem_cons,List.not_mem_nil,or_false] at hx;rcases hx with rfl<;>rfl),?_⟩
 have H:Gives (g166 a0) (fun a=>a=r):=⟨r,hok,rfl⟩
 unfold g166 at H
 clear hok
 repeat' refine if_st H (fun _ H=>?_) (fun _ H=>?_)
 all_goals
  have hfin:=fin_st H
  repeat refine mf2FB2 ?_
  first | exact trivial | exact rfl
noncomputable def g108 (a0:Int):Option (Bool):=
 (g107 a0).bind fun v319=>
 if v319=0 then
  (
   (g160 a0).bind fun v322=>
   if v322=true then
    (
     (g166 a0).bind fun v325=>
     some (decide (¬(v325=true)))
    )
   else
    some false
  )
 else
  some false
noncomputable def k108:Eng.CS:={ f:=108,calm:=true,more:=0,ι:=Int×Bool,ok:=fun i=>g108 i.1=some i.2,rds:=fun _=>[],args:=fun i=>[.w (.v (.int .i32 (i.1)))],res:=fun i=>bS i.2 }
theorem k108_ok:CalmOk Tryz.prog k108:=by
 refine R.calmspec Tryz.func108 (nq9 Tryz.func108) rfl ?_
 rintro ⟨a0,r⟩ hok q _ args hargs
 match args,hargs with
 | [_],hargs=>
 obtain ⟨rfl,_⟩:=hargs
 refine ⟨envC [k107,k160,k166] false [],6,envC_ok (css_cons ⟨fun _=>k107_ok,fun h=>(by cases h)⟩ (css_cons ⟨fun _=>k160_ok,fun h=>(by cases h)⟩ (css_cons ⟨fun _=>k166_ok,fun h=>(by cases h)⟩ (css_nil)))),rfl,(by intro x hx;simp only [List.mem_cons,List.not_mem_nil,or_false] at hx;rcases hx with rfl<;>rfl),?_⟩
 have H:Gives (g108 a0) (fun a=>a=r):=⟨r,hok,rfl⟩
 unfold g108 at H
 clear hok
 obtain ⟨v319,hv320,H⟩:=call_st H
 refine ⟨(a0,v319),⟨hv320⟩,⟨trivial⟩,?_⟩
 refine And.intro ⟨rfl⟩ ?_
 refine if_st H (fun h321 H=>?_) (fun h321 H=>?_)
 ·obtain ⟨v322,hv323,H⟩:=call_st H
  refine ⟨(a0,v322),⟨hv323⟩,⟨trivial⟩,?_⟩
  refine And.intro ⟨rfl⟩ ?_
  refine if_st H (fun h324 H=>?_) (fun h324 H=>?_)
  ·obtain ⟨v325,hv326,H⟩:=call_st H
   refine ⟨(a0,v325),⟨hv326⟩,⟨trivial⟩,?_⟩
   refine And.intro ⟨rfl⟩ ?_
   have hfin:=fin_st H
   repeat refine mf2FB2 ?_
   first | exact trivial | exact rfl
  ·have hfin:=fin_st H
   repeat refine mf2FB2 ?_
   first | exact trivial | exact rfl
 ·have hfin:=fin_st H
  repeat refine mf2FB2 ?_
  first | exact trivial | exact rfl
noncomputable def g59 (a0:ByteArray):Option (List ByteArray):=
 ck (a0.size≤140737488355328) <|
 (g105 (bytesOf a0)).bind fun v336=>
 jn (α:=_) (β:=List ByteArray) (fun k465=>
   (loopO (σ:=List ByteArray×Int) (ρ:=List ByteArray) (fun s468=>
     if s468.2<((v336.1.length:Nat):Int) then
      (
       ck (0≤s468.2∧s468.2<((v336.1.length:Nat):Int)) <|
       (g106 (v336.1.getD s468.2.toNat 0)).bind fun v532=>
       ck (isBytes v532) <|
       ck (inR .i64 (((s468.1.length:Nat):Int)-1)) <|
       ck (0≤s468.2∧s468.2<((v336.1.length:Nat):Int)) <|
       (g107 (v336.1.getD s468.2.toNat 0)).bind fun v537=>
       if 0<v537 then
        (
         ck ((s468.1.length+1) * 16≤140737488355328) <|
         ck (inR .i64 (s468.2+1)) <|
         some (.go ((s468.1++[strOf v532]),s468.2+1))
        )
       else
        (
         ck (0≤s468.2∧s468.2<((v336.1.length:Nat):Int)) <|
         (g108 (v336.1.getD s468.2.toNat 0)).bind fun v547=>
         if v547=true then
          (
           if 0≤(((s468.1.length:Nat):Int)-1) then
            (
             ck (0≤((s468.1.length:Nat):Int)-1∧((s468.1.length:Nat):Int)-1<((s468.1.length:Nat):Int)) <|
             ck (inR .i64 (((s468.1.getD (((s468.1.length:Nat):Int)-1).toNat default).size:Int)+((strOf v532).size:Int))) <|
             if (((s468.1.getD (((s468.1.length:Nat):Int)-1).toNat default).size:Int)+((strOf v532).size:Int))≤64 then
              (
               ck (0≤((s468.1.length:Nat):Int)-1∧((s468.1.length:Nat):Int)-1<((s468.1.length:Nat):Int)) <|
               ck ((s468.1.getD (((s468.1.length:Nat):Int)-1).toNat default).size+(strOf v532).size≤9223372036854775807) <|
               ck (0≤((s468.1.length:Nat):Int)-1∧((s468.1.length:Nat):Int)-1<((s468.1.length:Nat):Int)) <|
               ck (inR .i64 (s468.2+1)) <|
               some (.go ((s468.1.set (((s468.1.length:Nat):Int)-1).toNat ((s468.1.getD (((s468.1.length:Nat):Int)-1).toNat default)++(strOf v532))),s468.2+1))
              )
             else
              (
               ck (inR .i64 (s468.2+1)) <|
               some (.go (s468.1,s468.2+1))
              )
            )
           else
            (
             ck (inR .i64 (s468.2+1)) <|
             some (.go (s468.1,s468.2+1))
            )
          )
         else
          (
           ck (inR .i64 (s468.2+1)) <|
           some (.go (s468.1,s468.2+1))
          )
        )
      )
     else
      some (.out s468.1)
    ) ([],0)).bind fun o529=>
    k465 o529
 ) (fun v464=>
  some v464
 )
noncomputable def k59:Eng.CS:={ f:=59,calm:=false,more:=1,ι:=ByteArray×List ByteArray,ok:=fun i=>g59 i.1=some i.2,rds:=fun _=>[],args:=fun i=>[.w (.v (.string (i.1)))],res:=fun i=>.own 0,L':=fun i=>[(0,.arr 9 1 i.2.length (es i.2))],rn:=[(0,0,9,1)] }
theorem k59_ok:CSOk Tryz.prog k59:=by
 refine R.cspec Tryz.func59 (nq9 Tryz.func59) rfl ?_
 rintro ⟨a0,r⟩ hok q _ args hargs
 match args,hargs with
 | [_],hargs=>
 obtain ⟨rfl,_⟩:=hargs
 refine ⟨envC [k105,k106,k107,k108] false [(59,12)],6,envC_ok (css_cons ⟨fun h=>(by cases h),fun _=>k105_ok⟩ (css_cons ⟨fun h=>(by cases h),fun _=>k106_ok⟩ (css_cons ⟨fun _=>k107_ok,fun h=>(by cases h)⟩ (css_cons ⟨fun _=>k108_ok,fun h=>(by cases h)⟩ (css_nil))))),?_⟩
 have H:Gives (g59 a0) (fun a=>a=r):=⟨r,hok,rfl⟩
 unfold g59 at H
 clear hok
 refine ob_sb H fun h332 H q333 A327 c328 hq329 hc330 hR331=>?_
 intro n334 hn335
 obtain rfl:n334=(bytesOf a0).length:=hn335.trans (bytesOf_len a0).symm
 obtain ⟨v336,hv337,H⟩:=call_st H
 refine ⟨(bytesOf a0,v336),⟨hv337⟩,⟨trivial⟩,?_⟩
 refine And.intro ⟨rfl,(Nat.le_trans (Nat.le_of_eq (bytesOf_len a0)) hc330),ei_len.trans ((show _=_ from rfl).trans (Nat.mul_one _).symm),hR331⟩ ?_
 refine R.cut_fam H 22 [] [] (fun v464=>[(3,.own 22)]) (fun v464=>[(22,.arr 9 1 (v464.length) (es (v464)))]) [(10,.arr 21 1 (v336.1.length) (ei .i32 (v336.1))),(11,.arr 3 1 (v336.2.length) (ei .i64 (v336.2)))] 1 (fun H=>?_)
 refine And.intro ?_ ?_
 ·refine R.loop_fam (bind_st H) [4] [(3,0,9,1)] (fun _ s468=>[(3,.own 14),(6,.v (.int .i64 (s468.2)))]) (fun _ s468=>[(14,.arr 9 1 (s468.1.length) (es (s468.1)))]) 1 (fun n566 H=>?_)
  refine ⟨(n566,_),⟨H⟩,⟨trivial⟩,?_⟩
  repeat refine mo2FB2 ?_
  rintro ⟨m0,s468⟩ H _
  obtain ⟨m469,hm0,H⟩:=IG_succ H
  dsimp only at hm0
  subst hm0
  try dsimp only at H
  refine if_st H (fun h530 H=>?_) (fun h530 H=>?_)
  ·refine ob_ck H fun h531 H=>?_
   refine ld_int (e:=v336.1.getD s468.2.toNat 0) (own_get (ys:=ei .i32 v336.1) (by first | rfl | simp [ei,eb,es,ec,c241]) (ei_get (l:=v336.1) (by first | exact tn h531 | (have:=tn h531;simp at this ⊢;omega) | (have:=tn h531;simp;omega)))) ?_
   obtain ⟨v532,hv533,H⟩:=call_st H
   refine ⟨(v336.1.getD s468.2.toNat 0,v532),⟨hv533⟩,⟨trivial⟩,?_⟩
   refine And.intro ⟨rfl⟩ ?_
   refine ob_str (l:=v532) H fun h534 H=>?_
   refine ob_ck H fun h535 H=>?_
   refine ob_ck H fun h536 H=>?_
   refine ld_int (e:=v336.1.getD s468.2.toNat 0) (own_get (ys:=ei .i32 v336.1) (by first | rfl | simp [ei,eb,es,ec,c241]) (ei_get (l:=v336.1) (by first | exact tn h536 | (have:=tn h536;simp at this ⊢;omega) | (have:=tn h536;simp;omega)))) ?_
   obtain ⟨v537,hv538,H⟩:=call_st H
   refine ⟨(v336.1.getD s468.2.toNat 0,v537),⟨hv538⟩,⟨trivial⟩,?_⟩
   refine And.intro ⟨rfl⟩ ?_
   refine if_st H (fun h539 H=>?_) (fun h539 H=>?_)
   ·refine ob_app (by decide) (by first | exact es_one | ((repeat (refine List.forall_mem_cons.2 ⟨rfl,?_⟩));intro y hy;cases hy;done) | (intro y hy;simp [ei,eb,es,ec,c241] at hy;(first | (rcases hy with rfl | hy) | subst hy | skip);all_goals first | rfl | simp_all [Value.oneCell'])) H fun h540 H=>?_
    intro n541 zs543 hn542 hz544
    obtain rfl:n541=(s468.1++[strOf v532]).length:=hn542.trans (by first | exact List.length_append.symm | (simp;done) | (simp;omega))
    obtain rfl:zs543=es (s468.1++[strOf v532]):=by first | exact hz544.trans (es_app (xs:=s468.1) (ys:=([strOf v532]))).symm | (rw [hz544,es_vw];first | exact es_app.symm | exact (es_app (xs:=s468.1)).symm) | (rw [hz544];simp [ei,eb,es,ec,c241])
    refine ob_ck H fun h545 H=>?_
    replace H:=some_st H
    refine ⟨(m469,((s468.1++[strOf v532]),s468.2+1)),⟨H,Nat.lt_succ_self _⟩,⟨trivial⟩,⟨rfl⟩,?_⟩
    repeat refine mo2FB2 ?_
    first | exact trivial | exact rfl
   ·refine ob_ck H fun h546 H=>?_
    refine ld_int (e:=v336.1.getD s468.2.toNat 0) (own_get (ys:=ei .i32 v336.1) (by first | rfl | simp [ei,eb,es,ec,c241]) (ei_get (l:=v336.1) (by first | exact tn h546 | (have:=tn h546;simp at this ⊢;omega) | (have:=tn h546;simp;omega)))) ?_
    obtain ⟨v547,hv548,H⟩:=call_st H
    refine ⟨(v336.1.getD s468.2.toNat 0,v547),⟨hv548⟩,⟨trivial⟩,?_⟩
    refine And.intro ⟨rfl⟩ ?_
    refine if_st H (fun h549 H=>?_) (fun h549 H=>?_)
    ·refine if_st H (fun h550 H=>?_) (fun h550 H=>?_)
     ·refine ob_ck H fun h551 H=>?_
      refine ld_str (e:=s468.1.getD (((s468.1.length:Nat):Int)-1).toNat default) (own_get (ys:=es s468.1) (by first | rfl | simp [ei,eb,es,ec,c241]) (es_get (l:=s468.1) (by first | exact tn h551 | (have:=tn h551;simp at this ⊢;omega) | (have:=tn h551;simp;omega)))) ?_
      refine ob_ck H fun h552 H=>?_
      refine if_st H (fun h553 H=>?_) (fun h553 H=>?_)
      ·refine ob_ck H fun h554 H=>?_
       refine ld_str (e:=s468.1.getD (((s468.1.length:Nat):Int)-1).toNat default) (own_get (ys:=es s468.1) (by first | rfl | simp [ei,eb,es,ec,c241]) (es_get (l:=s468.1) (by first | exact tn h554 | (have:=tn h554;simp at this ⊢;omega) | (have:=tn h554;simp;omega)))) ?_
       refine ob_ck H fun h555 H=>?_
       refine ob_ck H fun h556 H=>?_
       refine And.intro ⟨by first | (have:=tn h556;simp [ei,eb,es,ec,c241] at this ⊢;omega) | (have:=tn h556;simp [ei,eb,es,ec,c241];omega)⟩ ?_
       intro n557 zs559 hn558 hz560
       subst hn558
       have hl561:(s468.1.set (((s468.1.length:Nat):Int)-1).toNat ((s468.1.getD (((s468.1.length:Nat):Int)-1).toNat default)++(strOf v532))).length=s468.1.length:=List.length_set
       obtain rfl:zs559=es (s468.1.set (((s468.1.length:Nat):Int)-1).toNat ((s468.1.getD (((s468.1.length:Nat):Int)-1).toNat default)++(strOf v532))):=hz560.trans es_set.symm
       refine ob_ck H fun h562 H=>?_
       replace H:=some_st H
       refine ⟨(m469,((s468.1.set (((s468.1.length:Nat):Int)-1).toNat ((s468.1.getD (((s468.1.length:Nat):Int)-1).toNat default)++(strOf v532))),s468.2+1)),⟨H,Nat.lt_succ_self _⟩,⟨trivial⟩,⟨rfl⟩,?_⟩
       repeat refine mo2FB2 ?_
       first | exact trivial | exact rfl
      ·refine ob_ck H fun h563 H=>?_
       replace H:=some_st H
       refine ⟨(m469,(s468.1,s468.2+1)),⟨H,Nat.lt_succ_self _⟩,⟨trivial⟩,⟨rfl⟩,?_⟩
       repeat refine mo2FB2 ?_
       first | exact trivial | exact rfl
     ·refine ob_ck H fun h564 H=>?_
      replace H:=some_st H
      refine ⟨(m469,(s468.1,s468.2+1)),⟨H,Nat.lt_succ_self _⟩,⟨trivial⟩,⟨rfl⟩,?_⟩
      repeat refine mo2FB2 ?_
      first | exact trivial | exact rfl
    ·refine ob_ck H fun h565 H=>?_
     replace H:=some_st H
     refine ⟨(m469,(s468.1,s468.2+1)),⟨H,Nat.lt_succ_self _⟩,⟨trivial⟩,⟨rfl⟩,?_⟩
     repeat refine mo2FB2 ?_
     first | exact trivial | exact rfl
  ·replace H:=some_st H
   dsimp only [stp,sm] at H
   refine ⟨s468.1,⟨H⟩,⟨rfl⟩,?_⟩
   repeat refine mo2FB2 ?_
   first | exact trivial | exact rfl
 ·intro v464 H
  have hfin:=fin_st H
  repeat refine mf2FB2 ?_
  first | exact trivial | exact rfl
noncomputable def g238  : Option (List Int):=
 some ([768,879,1155,1161,1425,1469,1471,1471,1473,1474,1476,1477,1479,1479,1552,1562,1611,1631,1648,1648,1750,1756,1759,1764,1767,1768,1770,1773,3633,3633,3636,3642,3655,3662,6832,6911,7616,7679,8203,8207,8288,8292,8400,8432,12330,12333,12441,12442,65024,65039,65056,65071,65279,65279,917760,917999])
noncomputable def k238:Eng.CS:={ f:=238,calm:=false,more:=1,ι:=List Int,ok:=fun i=>g238  = some i,rds:=fun _=>[],args:=fun i=>[],res:=fun i=>.own 0,L':=fun i=>[(0,.arr 21 1 i.length (ei .i32 i))],rn:=[(0,0,21,1)] }
set_option maxRecDepth 60000 in
set_option maxHeartbeats 4000000 in
theorem k238_ok:CSOk Tryz.prog k238:=by
 refine R.cspec Tryz.func238 (nq9 Tryz.func238) rfl ?_
 rintro r hok q _ args hargs
 match args,hargs with
 | [],hargs=>
 refine ⟨envC [] false [],6,envC_ok (css_nil),?_⟩
 have H:Gives (g238 ) (fun a=>a=r):=⟨r,hok,rfl⟩
 unfold g238 at H
 clear hok
 have hfin:=fin_st H
 repeat refine mf2FB2 ?_
 first | exact trivial | exact rfl
noncomputable def g235  : Option (List Int):=
 some ([4352,4447,8986,8987,9001,9002,9193,9196,9200,9200,9203,9203,9725,9726,9748,9749,9800,9811,9855,9855,9875,9875,9889,9889,9898,9899,9917,9918,9924,9925,9934,9934,9940,9940,9962,9962,9970,9971,9973,9973,9978,9978,9981,9981,9989,9989,9994,9995,10024,10024,10060,10060,10062,10062,10067,10069,10071,10071,10133,10135,10160,10160,10175,10175,11035,11036,11088,11088,11093,11093,11904,12350,12353,19903,19968,42191,43360,43391,44032,55203,63744,64255,65040,65049,65072,65135,65281,65376,65504,65510,127744,128591,128640,128767,129280,129535,129648,129791,131072,196605,196608,262141])
noncomputable def k235:Eng.CS:={ f:=235,calm:=false,more:=1,ι:=List Int,ok:=fun i=>g235  = some i,rds:=fun _=>[],args:=fun i=>[],res:=fun i=>.own 0,L':=fun i=>[(0,.arr 21 1 i.length (ei .i32 i))],rn:=[(0,0,21,1)] }
set_option maxRecDepth 60000 in
set_option maxHeartbeats 4000000 in
theorem k235_ok:CSOk Tryz.prog k235:=by
 refine R.cspec Tryz.func235 (nq9 Tryz.func235) rfl ?_
 rintro r hok q _ args hargs
 match args,hargs with
 | [],hargs=>
 refine ⟨envC [] false [],6,envC_ok (css_nil),?_⟩
 have H:Gives (g235 ) (fun a=>a=r):=⟨r,hok,rfl⟩
 unfold g235 at H
 clear hok
 have hfin:=fin_st H
 repeat refine mf2FB2 ?_
 first | exact trivial | exact rfl
noncomputable def g171 (a0:Int):Option (Bool):=
 if 0≤a0 then
  (
   if a0≤31 then
    some true
   else
    (
     if 127≤a0 then
      some (decide (a0≤159))
     else
      some false
    )
  )
 else
  (
   if 127≤a0 then
    some (decide (a0≤159))
   else
    some false
  )
noncomputable def k171:Eng.CS:={ f:=171,calm:=true,more:=0,ι:=Int×Bool,ok:=fun i=>g171 i.1=some i.2,rds:=fun _=>[],args:=fun i=>[.w (.v (.int .i32 (i.1)))],res:=fun i=>bS i.2 }
theorem k171_ok:CalmOk Tryz.prog k171:=by
 refine R.calmspec Tryz.func171 (nq9 Tryz.func171) rfl ?_
 rintro ⟨a0,r⟩ hok q _ args hargs
 match args,hargs with
 | [_],hargs=>
 obtain ⟨rfl,_⟩:=hargs
 refine ⟨envC [] false [],6,envC_ok (css_nil),rfl,(by intro x hx;simp only [List.mem_cons,List.not_mem_nil,or_false] at hx;rcases hx with rfl<;>rfl),?_⟩
 have H:Gives (g171 a0) (fun a=>a=r):=⟨r,hok,rfl⟩
 unfold g171 at H
 clear hok
 repeat' refine if_st H (fun _ H=>?_) (fun _ H=>?_)
 all_goals
  have hfin:=fin_st H
  repeat refine mf2FB2 ?_
  first | exact trivial | exact rfl
noncomputable def g217 (a0:Int):Option (Bool):=
 if 0≤a0 then
  (
   if a0≤1114111 then
    (
     if a0<55296 then
      some true
     else
      some (decide (57343<a0))
    )
   else
    some false
  )
 else
  some false
noncomputable def k217:Eng.CS:={ f:=217,calm:=true,more:=0,ι:=Int×Bool,ok:=fun i=>g217 i.1=some i.2,rds:=fun _=>[],args:=fun i=>[.w (.v (.int .i32 (i.1)))],res:=fun i=>bS i.2 }
theorem k217_ok:CalmOk Tryz.prog k217:=by
 refine R.calmspec Tryz.func217 (nq9 Tryz.func217) rfl ?_
 rintro ⟨a0,r⟩ hok q _ args hargs
 match args,hargs with
 | [_],hargs=>
 obtain ⟨rfl,_⟩:=hargs
 refine ⟨envC [] false [],6,envC_ok (css_nil),rfl,(by intro x hx;simp only [List.mem_cons,List.not_mem_nil,or_false] at hx;rcases hx with rfl<;>rfl),?_⟩
 have H:Gives (g217 a0) (fun a=>a=r):=⟨r,hok,rfl⟩
 unfold g217 at H
 clear hok
 repeat' refine if_st H (fun _ H=>?_) (fun _ H=>?_)
 all_goals
  have hfin:=fin_st H
  repeat refine mf2FB2 ?_
  first | exact trivial | exact rfl
noncomputable def g218 (a0:Int):Option (Bool):=
 (g238).bind fun v574=>
 jn (α:=_) (β:=Unit) (fun k617=>
   (loopO (σ:=Int) (ρ:=(Bool) ⊕ (Unit)) (fun s620=>
     ck (inR .i64 (s620+1)) <|
     if (s620+1)<((v574.length:Nat):Int) then
      (
       ck (0≤s620∧s620<((v574.length:Nat):Int)) <|
       ck (inR .i64 (s620+1)) <|
       ck (0≤s620+1∧s620+1<((v574.length:Nat):Int)) <|
       if a0<(v574.getD s620.toNat 0) then
        some (.out (.inl (false)))
       else
        (
         if a0≤(v574.getD (s620+1).toNat 0) then
          some (.out (.inl (true)))
         else
          (
           ck (inR .i64 (s620+2)) <|
           some (.go (s620+2))
          )
        )
      )
     else
      some (.out (.inr (())))
    ) 0).bind fun o638=>
   sm o638 (fun o647=>
     some o647
    ) (fun o648=>
     k617 ()
    )
 ) (fun v616=>
  some false
 )
noncomputable def k218:Eng.CS:={ f:=218,calm:=true,more:=0,ι:=Int×Bool,ok:=fun i=>g218 i.1=some i.2,rds:=fun _=>[],args:=fun i=>[.w (.v (.int .i32 (i.1)))],res:=fun i=>bS i.2 }
theorem k218_ok:CalmOk Tryz.prog k218:=by
 refine R.calmspec Tryz.func218 (nq9 Tryz.func218) rfl ?_
 rintro ⟨a0,r⟩ hok q _ args hargs
 match args,hargs with
 | [_],hargs=>
 obtain ⟨rfl,_⟩:=hargs
 refine ⟨envC [k238] false [(219,8)],6,envC_ok (css_cons ⟨fun h=>(by cases h),fun _=>k238_ok⟩ (css_nil)),rfl,(by intro x hx;simp only [List.mem_cons,List.not_mem_nil,or_false] at hx;rcases hx with rfl<;>rfl),?_⟩
 have H:Gives (g218 a0) (fun a=>a=r):=⟨r,hok,rfl⟩
 unfold g218 at H
 clear hok
 obtain ⟨v574,hv575,H⟩:=call_st H
 refine ⟨v574,⟨hv575⟩,⟨trivial⟩,?_⟩
 refine R.cut_fam H 27 [4] [] (fun v616=>[]) (fun v616=>[]) [(9,.arr 21 1 (v574.length) (ei .i32 (v574))),(10,.cells 144 [.own 9]),(14,.cells 21 [.v (.int .i32 (a0))]),(15,.cells 4 [.bb false])] 0 (fun H=>?_)
 refine And.intro ?_ ?_
 ·refine R.loop_fam (bind_st H) [0,1] [] (fun _ s620=>[(3,.v (.int .i64 (s620)))]) (fun _ s620=>[]) 0 (fun n649 H=>?_)
  refine ⟨(n649,_),⟨H⟩,⟨trivial⟩,?_⟩
  repeat refine mo2FB2 ?_
  rintro ⟨m0,s620⟩ H _
  obtain ⟨m621,hm0,H⟩:=IG_succ H
  dsimp only at hm0
  subst hm0
  try dsimp only at H
  refine ob_ck H fun h639 H=>?_
  refine if_st H (fun h640 H=>?_) (fun h640 H=>?_)
  ·refine And.intro ⟨by kernel_rfl⟩ ?_
   refine ⟨(Pn.calm 0 (Pn.calm 1 (Pn.calm 2 (Pn.calm 3 (Pn.calm 4 (Pn.calm 5 (Pn.calm 6 (Pn.calm 7 (Pn.calm 8 (Pn.calm 9 (Pn.eff 10 [0,4,9,3,8,1,2,5,7,6] (Pn.calm 11 Pn.done) Pn.no))))))))))),⟨by kernel_rfl⟩,?_⟩
   refine ob_ck H fun h641 H=>?_
   refine ld_int (e:=v574.getD s620.toNat 0) (own_get (ys:=ei .i32 v574) (by first | rfl | simp [ei,eb,es,ec,c241]) (ei_get (l:=v574) (by first | exact tn h641 | (have:=tn h641;simp at this ⊢;omega) | (have:=tn h641;simp;omega)))) ?_
   refine ob_ck H fun h642 H=>?_
   refine ob_ck H fun h643 H=>?_
   refine ld_int (e:=v574.getD (s620+1).toNat 0) (own_get (ys:=ei .i32 v574) (by first | rfl | simp [ei,eb,es,ec,c241]) (ei_get (l:=v574) (by first | exact tn h643 | (have:=tn h643;simp at this ⊢;omega) | (have:=tn h643;simp;omega)))) ?_
   refine And.intro ?_ trivial
   refine if_st H (fun h644 H=>?_) (fun h644 H=>?_)
   ·refine And.intro ⟨fun _ _ _ h=>h⟩ ?_
    replace H:=some_st H
    dsimp only [stp,sm] at H
    have hfin:=fin_st H
    repeat refine mf2FB2 ?_
    first | exact trivial | exact rfl
   ·refine if_st H (fun h645 H=>?_) (fun h645 H=>?_)
    ·refine And.intro ⟨fun _ _ _ h=>h⟩ ?_
     replace H:=some_st H
     dsimp only [stp,sm] at H
     have hfin:=fin_st H
     repeat refine mf2FB2 ?_
     first | exact trivial | exact rfl
    ·refine And.intro ⟨fun _ _ _ h=>h⟩ ?_
     refine ob_ck H fun h646 H=>?_
     replace H:=some_st H
     refine ⟨(m621,s620+2),⟨H,Nat.lt_succ_self _⟩,⟨trivial⟩,⟨rfl⟩,?_⟩
     repeat refine mo2FB2 ?_
     first | exact trivial | exact rfl
  ·replace H:=some_st H
   dsimp only [stp,sm] at H
   refine ⟨(),⟨H⟩,⟨rfl⟩,?_⟩
   repeat refine mo2FB2 ?_
   first | exact trivial | exact rfl
 ·intro v616 H
  have hfin:=fin_st H
  repeat refine mf2FB2 ?_
  first | exact trivial | exact rfl
noncomputable def g180 (a0:Int):Option (Int):=
 jn (α:=_) (β:=Bool) (fun k831=>
   (g217 a0).bind fun v832=>
   if ¬(v832=true) then
    k831 true
   else
    (
     (g171 a0).bind fun v835=>
     if v835=true then
      k831 true
     else
      (
       (g218 a0).bind fun v838=>
       k831 v838
      )
    )
 ) (fun v830=>
  if v830=true then
   some 0
  else
   (
    (g235).bind fun v841=>
    jn (α:=_) (β:=Unit) (fun k876=>
      (loopO (σ:=Int) (ρ:=(Bool) ⊕ (Unit)) (fun s879=>
        ck (inR .i64 (s879+1)) <|
        if (s879+1)<((v841.length:Nat):Int) then
         (
          ck (0≤s879∧s879<((v841.length:Nat):Int)) <|
          ck (inR .i64 (s879+1)) <|
          ck (0≤s879+1∧s879+1<((v841.length:Nat):Int)) <|
          if a0<(v841.getD s879.toNat 0) then
           some (.out (.inl (false)))
          else
           (
            if a0≤(v841.getD (s879+1).toNat 0) then
             some (.out (.inl (true)))
            else
             (
              ck (inR .i64 (s879+2)) <|
              some (.go (s879+2))
             )
           )
         )
        else
         some (.out (.inr (())))
       ) 0).bind fun o897=>
      sm o897 (fun o906=>
        if o906=true then
         some 2
        else
         some 1
       ) (fun o908=>
        k876 ()
       )
    ) (fun v875=>
     some 1
    )
   )
 )
noncomputable def k180:Eng.CS:={ f:=180,calm:=true,more:=0,ι:=Int×Int,ok:=fun i=>g180 i.1=some i.2,rds:=fun _=>[],args:=fun i=>[.w (.v (.int .i32 (i.1)))],res:=fun i=>.v (.int .i64 (i.2)) }
theorem k180_ok:CalmOk Tryz.prog k180:=by
 refine R.calmspec Tryz.func180 (nq9 Tryz.func180) rfl ?_
 rintro ⟨a0,r⟩ hok q _ args hargs
 match args,hargs with
 | [_],hargs=>
 obtain ⟨rfl,_⟩:=hargs
 refine ⟨envC [k171,k217,k218,k235] false [(180,2),(219,8)],6,envC_ok (css_cons ⟨fun _=>k171_ok,fun h=>(by cases h)⟩ (css_cons ⟨fun _=>k217_ok,fun h=>(by cases h)⟩ (css_cons ⟨fun _=>k218_ok,fun h=>(by cases h)⟩ (css_cons ⟨fun h=>(by cases h),fun _=>k235_ok⟩ (css_nil))))),rfl,(by intro x hx;simp only [List.mem_cons,List.not_mem_nil,or_false] at hx;rcases hx with rfl<;>rfl),?_⟩
 have H:Gives (g180 a0) (fun a=>a=r):=⟨r,hok,rfl⟩
 unfold g180 at H
 clear hok
 refine R.cut_fam H 14 [0] [] (fun v830=>[(3,bS v830)]) (fun v830=>[]) [] 0 (fun H=>?_)
 refine And.intro ?_ ?_
 ·obtain ⟨v832,hv833,H⟩:=call_st H
  refine ⟨(a0,v832),⟨hv833⟩,⟨trivial⟩,?_⟩
  refine And.intro ⟨rfl⟩ ?_
  refine if_st H (fun h834 H=>?_) (fun h834 H=>?_)
  ·refine ⟨true,⟨H⟩,⟨rfl⟩,?_⟩
   repeat refine mo2FB2 ?_
   first | exact trivial | exact rfl
  ·obtain ⟨v835,hv836,H⟩:=call_st H
   refine ⟨(a0,v835),⟨hv836⟩,⟨trivial⟩,?_⟩
   refine And.intro ⟨rfl⟩ ?_
   refine if_st H (fun h837 H=>?_) (fun h837 H=>?_)
   ·refine ⟨true,⟨H⟩,⟨rfl⟩,?_⟩
    repeat refine mo2FB2 ?_
    first | exact trivial | exact rfl
   ·obtain ⟨v838,hv839,H⟩:=call_st H
    refine ⟨(a0,v838),⟨hv839⟩,⟨trivial⟩,?_⟩
    refine And.intro ⟨rfl⟩ ?_
    refine ⟨v838,⟨H⟩,⟨rfl⟩,?_⟩
    repeat refine mo2FB2 ?_
    first | exact trivial | exact rfl
 ·intro v830 H
  refine if_st H (fun h840 H=>?_) (fun h840 H=>?_)
  ·have hfin:=fin_st H
   repeat refine mf2FB2 ?_
   first | exact trivial | exact rfl
  ·obtain ⟨v841,hv842,H⟩:=call_st H
   refine ⟨v841,⟨hv842⟩,⟨trivial⟩,?_⟩
   refine R.cut_fam H 40 [4] [] (fun v875=>[]) (fun v875=>[]) [(22,.arr 21 1 (v841.length) (ei .i32 (v841))),(23,.cells 144 [.own 22]),(27,.cells 21 [.v (.int .i32 (a0))]),(28,.cells 4 [.bb false])] 0 (fun H=>?_)
   refine And.intro ?_ ?_
   ·refine R.loop_fam (bind_st H) [0,1] [] (fun _ s879=>[(3,.v (.int .i64 (s879)))]) (fun _ s879=>[]) 0 (fun n909 H=>?_)
    refine ⟨(n909,_),⟨H⟩,⟨trivial⟩,?_⟩
    repeat refine mo2FB2 ?_
    rintro ⟨m0,s879⟩ H _
    obtain ⟨m880,hm0,H⟩:=IG_succ H
    dsimp only at hm0
    subst hm0
    try dsimp only at H
    refine ob_ck H fun h898 H=>?_
    refine if_st H (fun h899 H=>?_) (fun h899 H=>?_)
    ·refine And.intro ⟨by kernel_rfl⟩ ?_
     refine ⟨(Pn.calm 0 (Pn.calm 1 (Pn.calm 2 (Pn.calm 3 (Pn.calm 4 (Pn.calm 5 (Pn.calm 6 (Pn.calm 7 (Pn.calm 8 (Pn.calm 9 (Pn.eff 10 [0,4,9,3,8,1,2,5,7,6] (Pn.calm 11 Pn.done) Pn.no))))))))))),⟨by kernel_rfl⟩,?_⟩
     refine ob_ck H fun h900 H=>?_
     refine ld_int (e:=v841.getD s879.toNat 0) (own_get (ys:=ei .i32 v841) (by first | rfl | simp [ei,eb,es,ec,c241]) (ei_get (l:=v841) (by first | exact tn h900 | (have:=tn h900;simp at this ⊢;omega) | (have:=tn h900;simp;omega)))) ?_
     refine ob_ck H fun h901 H=>?_
     refine ob_ck H fun h902 H=>?_
     refine ld_int (e:=v841.getD (s879+1).toNat 0) (own_get (ys:=ei .i32 v841) (by first | rfl | simp [ei,eb,es,ec,c241]) (ei_get (l:=v841) (by first | exact tn h902 | (have:=tn h902;simp at this ⊢;omega) | (have:=tn h902;simp;omega)))) ?_
     refine And.intro ?_ trivial
     refine if_st H (fun h903 H=>?_) (fun h903 H=>?_)
     ·refine And.intro ⟨fun _ _ _ h=>h⟩ ?_
      replace H:=some_st H
      dsimp only [stp,sm] at H
      have hfin:=fin_st H
      repeat refine mf2FB2 ?_
      first | exact trivial | exact rfl
     ·refine if_st H (fun h904 H=>?_) (fun h904 H=>?_)
      ·refine And.intro ⟨fun _ _ _ h=>h⟩ ?_
       replace H:=some_st H
       dsimp only [stp,sm] at H
       have hfin:=fin_st H
       repeat refine mf2FB2 ?_
       first | exact trivial | exact rfl
      ·refine And.intro ⟨fun _ _ _ h=>h⟩ ?_
       refine ob_ck H fun h905 H=>?_
       replace H:=some_st H
       refine ⟨(m880,s879+2),⟨H,Nat.lt_succ_self _⟩,⟨trivial⟩,⟨rfl⟩,?_⟩
       repeat refine mo2FB2 ?_
       first | exact trivial | exact rfl
    ·replace H:=some_st H
     dsimp only [stp,sm] at H
     refine ⟨(),⟨H⟩,⟨rfl⟩,?_⟩
     repeat refine mo2FB2 ?_
     first | exact trivial | exact rfl
   ·intro v875 H
    have hfin:=fin_st H
    repeat refine mf2FB2 ?_
    first | exact trivial | exact rfl
noncomputable def g213 (a0:Int):Option (Bool):=
 (g180 a0).bind fun v921=>
 if ¬v921=0 then
  some false
 else
  (
   (g171 a0).bind fun v924=>
   if v924=true then
    some false
   else
    (
     if 0≤a0 then
      (
       if a0≤1114111 then
        (
         if a0<55296 then
          some true
         else
          some (decide (57343<a0))
        )
       else
        some false
      )
     else
      some false
    )
  )
noncomputable def k213:Eng.CS:={ f:=213,calm:=true,more:=0,ι:=Int×Bool,ok:=fun i=>g213 i.1=some i.2,rds:=fun _=>[],args:=fun i=>[.w (.v (.int .i32 (i.1)))],res:=fun i=>bS i.2 }
theorem k213_ok:CalmOk Tryz.prog k213:=by
 refine R.calmspec Tryz.func213 (nq9 Tryz.func213) rfl ?_
 rintro ⟨a0,r⟩ hok q _ args hargs
 match args,hargs with
 | [_],hargs=>
 obtain ⟨rfl,_⟩:=hargs
 refine ⟨envC [k171,k180] false [],6,envC_ok (css_cons ⟨fun _=>k171_ok,fun h=>(by cases h)⟩ (css_cons ⟨fun _=>k180_ok,fun h=>(by cases h)⟩ (css_nil))),rfl,(by intro x hx;simp only [List.mem_cons,List.not_mem_nil,or_false] at hx;rcases hx with rfl<;>rfl),?_⟩
 have H:Gives (g213 a0) (fun a=>a=r):=⟨r,hok,rfl⟩
 unfold g213 at H
 clear hok
 obtain ⟨v921,hv922,H⟩:=call_st H
 refine ⟨(a0,v921),⟨hv922⟩,⟨trivial⟩,?_⟩
 refine And.intro ⟨rfl⟩ ?_
 refine if_st H (fun h923 H=>?_) (fun h923 H=>?_)
 ·have hfin:=fin_st H
  repeat refine mf2FB2 ?_
  first | exact trivial | exact rfl
 ·obtain ⟨v924,hv925,H⟩:=call_st H
  refine ⟨(a0,v924),⟨hv925⟩,⟨trivial⟩,?_⟩
  refine And.intro ⟨rfl⟩ ?_
  repeat' refine if_st H (fun _ H=>?_) (fun _ H=>?_)
  all_goals
   have hfin:=fin_st H
   repeat refine mf2FB2 ?_
   first | exact trivial | exact rfl
noncomputable def g211 (a0:Int):Option (Bool):=
 (g180 a0).bind fun v930=>
 some (decide (0<v930))
noncomputable def k211:Eng.CS:={ f:=211,calm:=true,more:=0,ι:=Int×Bool,ok:=fun i=>g211 i.1=some i.2,rds:=fun _=>[],args:=fun i=>[.w (.v (.int .i32 (i.1)))],res:=fun i=>bS i.2 }
theorem k211_ok:CalmOk Tryz.prog k211:=by
 refine R.calmspec Tryz.func211 (nq9 Tryz.func211) rfl ?_
 rintro ⟨a0,r⟩ hok q _ args hargs
 match args,hargs with
 | [_],hargs=>
 obtain ⟨rfl,_⟩:=hargs
 refine ⟨envC [k180] false [],6,envC_ok (css_cons ⟨fun _=>k180_ok,fun h=>(by cases h)⟩ (css_nil)),rfl,(by intro x hx;simp only [List.mem_cons,List.not_mem_nil,or_false] at hx;rcases hx with rfl<;>rfl),?_⟩
 have H:Gives (g211 a0) (fun a=>a=r):=⟨r,hok,rfl⟩
 unfold g211 at H
 clear hok
 obtain ⟨v930,hv931,H⟩:=call_st H
 refine ⟨(a0,v930),⟨hv931⟩,⟨trivial⟩,?_⟩
 refine And.intro ⟨rfl⟩ ?_
 have hfin:=fin_st H
 repeat refine mf2FB2 ?_
 first | exact trivial | exact rfl
end Go.Proofs.YtlehbfahkjhgnaaGreat
end
section
set_option maxRecDepth 8000
set_option maxHeartbeats 4000000
namespace Go.Proofs.YtlehbfahkjhgnaaGreat
open Go Go.Eng
noncomputable def g173 (a0:(List ByteArray×List Int×Bool)):Option ((List ByteArray×List Int×Bool)):=
 if a0.2.2=true then
  (
   ck (isBytes a0.2.1) <|
   ck ((a0.1.length+1) * 16≤140737488355328) <|
   ck (0≤(0:Int)∧(0:Int)≤(0:Int)∧(0:Int)≤((a0.2.1.length:Nat):Int)) <|
   some ((a0.1++[strOf a0.2.1]),(a0.2.1.take ((0:Int).toNat-(0:Int).toNat)),false)
  )
 else
  (
   ck (0≤(0:Int)∧(0:Int)≤(0:Int)∧(0:Int)≤((a0.2.1.length:Nat):Int)) <|
   some (a0.1,(a0.2.1.take ((0:Int).toNat-(0:Int).toNat)),false)
  )
noncomputable def k173:Eng.CS:={ f:=173,calm:=false,more:=5,ι:=(List ByteArray×List Int×Bool)×(List ByteArray×List Int×Bool),ok:=fun i=>g173 i.1=some i.2,rds:=fun _=>[],args:=fun i=>[.w (.lp 0 0)],res:=fun i=>.tup [],L':=fun i=>[(0,.cells 197 [.own 3,.own 4,bS i.2.2.2]),(3,.arr 9 1 i.2.1.length (es i.2.1)),(4,.arr 5 1 i.2.2.1.length (ei .u8 i.2.2.1))],rn:=[(100000,0,9,1),(100000,1,5,1)],keys:=3,L:=fun i=>[(0,.cells 197 [.own 1,.own 2,bS i.1.2.2]),(1,.arr 9 1 i.1.1.length (es i.1.1)),(2,.arr 5 1 i.1.2.1.length (ei .u8 i.1.2.1))] }
theorem k173_ok:CSOk Tryz.prog k173:=by
 refine R.cspec Tryz.func173 (nq9 Tryz.func173) rfl ?_
 rintro ⟨a0,r⟩ hok q _ args hargs
 dsimp only [k173] at hargs ⊢
 match args,hargs with
 | [_],hargs=>
 obtain ⟨rfl,_⟩:=hargs
 refine ⟨envC [] false [],6,envC_ok (css_nil),?_⟩
 have H:Gives (g173 a0) (fun a=>a=r):=⟨r,hok,rfl⟩
 unfold g173 at H
 clear hok
 refine if_st H (fun h8 H=>?_) (fun h8 H=>?_)
 ·refine And.intro ⟨by kernel_rfl⟩ ?_
  refine ⟨(Pn.calm 0 (Pn.calm 1 (Pn.calm 2 (Pn.calm 3 (Pn.calm 4 (Pn.calm 5 (Pn.calm 6 (Pn.calm 7 (Pn.calm 8 (Pn.calm 9 (Pn.eff 10 [9,8,7,6,5] (Pn.eff 11 [4,10,3,9,2,8,1,7,6,5] (Pn.calm 12 (Pn.calm 13 (Pn.eff 14 [13,11,0,1,2,3,4,5,6,7,8,9,10,12] Pn.done Pn.no))) Pn.no) Pn.no))))))))))),⟨by kernel_rfl⟩,?_⟩
  refine ob_str (l:=a0.2.1) H fun h9 H=>?_
  refine And.intro ?_ trivial
  refine And.intro ⟨fun _ _ _ h=>h⟩ ?_
  refine And.intro ?_ trivial
  refine ob_app (by decide) (by first | exact es_one | ((repeat (refine List.forall_mem_cons.2 ⟨rfl,?_⟩));intro y hy;cases hy;done) | (intro y hy;simp [ei,eb,es,ec] at hy;(first | (rcases hy with rfl | hy) | subst hy | skip);all_goals first | rfl | simp_all [Value.oneCell'])) H fun h10 H=>?_
  intro n11 zs13 hn12 hz14
  obtain rfl:n11=(a0.1++[strOf a0.2.1]).length:=hn12.trans (by first | exact List.length_append.symm | (simp;done) | (simp;omega))
  obtain rfl:zs13=es (a0.1++[strOf a0.2.1]):=by first | exact hz14.trans (es_app (xs:=a0.1) (ys:=([strOf a0.2.1]))).symm | (rw [hz14,es_vw];first | exact es_app.symm | exact (es_app (xs:=a0.1)).symm) | (rw [hz14];simp [ei,eb,es,ec])
  refine And.intro ⟨fun _ _ _ h=>h⟩ ?_
  refine And.intro ?_ trivial
  refine And.intro ⟨fun _ _ _ h=>h⟩ ?_
  refine ob_ck H fun h15 H=>?_
  try dsimp only at h15
  intro n16 hn17
  subst hn17
  refine And.intro ⟨by first | omega | (dsimp only;omega)⟩ ?_
  intro n18 zs20 hn19 hz21
  obtain rfl:n18=(a0.2.1.take ((0:Int).toNat-(0:Int).toNat)).length:=hn19.trans (by rw [List.length_take];omega)
  obtain rfl:zs20=ei .u8 (a0.2.1.take ((0:Int).toNat-(0:Int).toNat)):=hz21.trans ei_take.symm
  have hfin:=fin_st H
  repeat refine mf1FB2 ?_
  first | exact trivial | exact rfl
 ·refine ob_ck H fun h22 H=>?_
  try dsimp only at h22
  intro n23 hn24
  subst hn24
  refine And.intro ⟨by first | omega | (dsimp only;omega)⟩ ?_
  intro n25 zs27 hn26 hz28
  obtain rfl:n25=(a0.2.1.take ((0:Int).toNat-(0:Int).toNat)).length:=hn26.trans (by rw [List.length_take];omega)
  obtain rfl:zs27=ei .u8 (a0.2.1.take ((0:Int).toNat-(0:Int).toNat)):=hz28.trans ei_take.symm
  have hfin:=fin_st H
  repeat refine mf1FB2 ?_
  first | exact trivial | exact rfl
noncomputable def g172 (a0:(List ByteArray×List Int×Bool)) (a1:Int):Option ((List ByteArray×List Int×Bool)):=
 (g211 a1).bind fun v41=>
 if v41=true then
  (
   (g173 a0).bind fun v44=>
   (g212 a1).bind fun v46=>
   ck ((v44.2.1.length+v46.length) * 1≤140737488355328) <|
   some (v44.1,(v44.2.1++v46),true)
  )
 else
  (
   if ¬(a0.2.2=true) then
    some a0
   else
    (
     (g213 a1).bind fun v58=>
     if ¬(v58=true) then
      some a0
     else
      (
       (g212 a1).bind fun v61=>
       ck (inR .i64 (((a0.2.1.length:Nat):Int)+((v61.length:Nat):Int))) <|
       if (((a0.2.1.length:Nat):Int)+((v61.length:Nat):Int))≤64 then
        (
         ck ((a0.2.1.length+v61.length) * 1≤140737488355328) <|
         some (a0.1,(a0.2.1++v61),a0.2.2)
        )
       else
        some a0
      )
    )
  )
noncomputable def k172:Eng.CS:={ f:=172,calm:=false,more:=5,ι:=(List ByteArray×List Int×Bool)×Int×(List ByteArray×List Int×Bool),ok:=fun i=>g172 i.1 i.2.1=some i.2.2,rds:=fun _=>[],args:=fun i=>[.w (.lp 0 0),.w (.v (.int .i32 (i.2.1)))],res:=fun i=>.tup [],L':=fun i=>[(0,.cells 197 [.own 3,.own 4,bS i.2.2.2.2]),(3,.arr 9 1 i.2.2.1.length (es i.2.2.1)),(4,.arr 5 1 i.2.2.2.1.length (ei .u8 i.2.2.2.1))],rn:=[(100000,0,9,1),(100000,1,5,1)],keys:=3,L:=fun i=>[(0,.cells 197 [.own 1,.own 2,bS i.1.2.2]),(1,.arr 9 1 i.1.1.length (es i.1.1)),(2,.arr 5 1 i.1.2.1.length (ei .u8 i.1.2.1))] }
theorem k172_ok:CSOk Tryz.prog k172:=by
 refine R.cspec Tryz.func172 (nq9 Tryz.func172) rfl ?_
 rintro ⟨a0,a1,r⟩ hok q _ args hargs
 dsimp only [k172] at hargs ⊢
 match args,hargs with
 | [_,_],hargs=>
 obtain ⟨rfl,rfl,_⟩:=hargs
 refine ⟨envC [k173,k211,k212,k213] false [],6,envC_ok (css_cons ⟨fun h=>(by cases h),fun _=>k173_ok⟩ (css_cons ⟨fun _=>k211_ok,fun h=>(by cases h)⟩ (css_cons ⟨fun h=>(by cases h),fun _=>k212_ok⟩ (css_cons ⟨fun _=>k213_ok,fun h=>(by cases h)⟩ (css_nil))))),?_⟩
 have H:Gives (g172 a0 a1) (fun a=>a=r):=⟨r,hok,rfl⟩
 unfold g172 at H
 clear hok
 obtain ⟨v41,hv42,H⟩:=call_st H
 refine ⟨(a1,v41),⟨hv42⟩,⟨trivial⟩,?_⟩
 refine And.intro ⟨rfl⟩ ?_
 refine if_st H (fun h43 H=>?_) (fun h43 H=>?_)
 ·obtain ⟨v44,hv45,H⟩:=call_st H
  refine ⟨(a0,v44),⟨hv45⟩,⟨trivial⟩,?_⟩
  refine And.intro ⟨rfl⟩ ?_
  iterate 3 refine mo1FB2 ?_
  refine And.intro ⟨by kernel_rfl⟩ ?_
  refine ⟨(Pn.calm 0 (Pn.calm 1 (Pn.calm 2 (Pn.calm 3 (Pn.calm 4 (Pn.calm 5 (Pn.eff 6 [5] (Pn.eff 7 [4,6,3,5,2,1] (Pn.calm 8 (Pn.calm 9 (Pn.eff 10 [9,7,0,1,2,3,4,5,6,8] Pn.done Pn.no))) Pn.no) Pn.no))))))),⟨by kernel_rfl⟩,?_⟩
  refine And.intro ?_ trivial
  obtain ⟨v46,hv47,H⟩:=call_st H
  refine ⟨(a1,v46),⟨hv47⟩,⟨trivial⟩,?_⟩
  refine And.intro ⟨rfl⟩ ?_
  refine And.intro ⟨fun _ _ _ h=>h⟩ ?_
  refine And.intro ?_ trivial
  refine ob_app (by decide) (by first | exact ei_one | ((repeat (refine List.forall_mem_cons.2 ⟨rfl,?_⟩));intro y hy;cases hy;done) | (intro y hy;simp [ei,eb,es,ec] at hy;(first | (rcases hy with rfl | hy) | subst hy | skip);all_goals first | rfl | simp_all [Value.oneCell'])) H fun h48 H=>?_
  intro n49 zs51 hn50 hz52
  obtain rfl:n49=(v44.2.1++v46).length:=hn50.trans (by first | exact List.length_append.symm | (simp;done) | (simp;omega))
  obtain rfl:zs51=ei .u8 (v44.2.1++v46):=by first | exact hz52.trans (ei_app (xs:=v44.2.1) (ys:=v46)).symm | (rw [hz52,ei_vw];first | exact ei_app.symm | exact (ei_app (xs:=v44.2.1)).symm) | (rw [hz52];simp [ei,eb,es,ec])
  refine And.intro ⟨fun _ _ _ h=>h⟩ ?_
  refine And.intro ?_ trivial
  refine And.intro ⟨fun _ _ _ h=>h⟩ ?_
  have hfin:=fin_st H
  repeat refine mf1FB2 ?_
  first | exact trivial | exact rfl
 ·refine if_st H (fun h57 H=>?_) (fun h57 H=>?_)
  ·have hfin:=fin_st H
   repeat refine mf1FB2 ?_
   first | exact trivial | exact rfl
  ·obtain ⟨v58,hv59,H⟩:=call_st H
   refine ⟨(a1,v58),⟨hv59⟩,⟨trivial⟩,?_⟩
   refine And.intro ⟨rfl⟩ ?_
   refine if_st H (fun h60 H=>?_) (fun h60 H=>?_)
   ·have hfin:=fin_st H
    repeat refine mf1FB2 ?_
    first | exact trivial | exact rfl
   ·obtain ⟨v61,hv62,H⟩:=call_st H
    refine ⟨(a1,v61),⟨hv62⟩,⟨trivial⟩,?_⟩
    refine And.intro ⟨rfl⟩ ?_
    refine ob_ck H fun h63 H=>?_
    refine if_st H (fun h64 H=>?_) (fun h64 H=>?_)
    ·refine ob_app (by decide) (by first | exact ei_one | ((repeat (refine List.forall_mem_cons.2 ⟨rfl,?_⟩));intro y hy;cases hy;done) | (intro y hy;simp [ei,eb,es,ec] at hy;(first | (rcases hy with rfl | hy) | subst hy | skip);all_goals first | rfl | simp_all [Value.oneCell'])) H fun h65 H=>?_
     intro n66 zs68 hn67 hz69
     obtain rfl:n66=(a0.2.1++v61).length:=hn67.trans (by first | exact List.length_append.symm | (simp;done) | (simp;omega))
     obtain rfl:zs68=ei .u8 (a0.2.1++v61):=by first | exact hz69.trans (ei_app (xs:=a0.2.1) (ys:=v61)).symm | (rw [hz69,ei_vw];first | exact ei_app.symm | exact (ei_app (xs:=a0.2.1)).symm) | (rw [hz69];simp [ei,eb,es,ec])
     have hfin:=fin_st H
     repeat refine mf1FB2 ?_
     first | exact trivial | exact rfl
    ·have hfin:=fin_st H
     repeat refine mf1FB2 ?_
     first | exact trivial | exact rfl
noncomputable def g118 (a0:ByteArray):Option (List ByteArray):=
 jn (α:=_) (β:=List ByteArray×List Int×Bool) (fun k171=>
   ck (a0.size≤140737488355328) <|
   (loopO (σ:=List ByteArray×List Int×Bool×Int) (ρ:=List ByteArray×List Int×Bool) (fun s183=>
     if s183.2.2.2<(((bytesOf a0).length:Nat):Int) then
      (
       ck (0≤s183.2.2.2∧s183.2.2.2≤(((bytesOf a0).length:Nat):Int)∧(((bytesOf a0).length:Nat):Int)≤(((bytesOf a0).length:Nat):Int)) <|
       (g237 (((bytesOf a0).drop s183.2.2.2.toNat).take ((((bytesOf a0).length:Nat):Int).toNat-s183.2.2.2.toNat))).bind fun v235=>
       if v235.2.2=true then
        (
         (g171 65533).bind fun v238=>
         if v238=true then
          (
           ck (inR .i64 (s183.2.2.2+1)) <|
           some (.go (s183.1,s183.2.1,s183.2.2.1,s183.2.2.2+1))
          )
         else
          (
           (g172 (s183.1,s183.2.1,s183.2.2.1) 65533).bind fun v242=>
           ck (inR .i64 (s183.2.2.2+1)) <|
           some (.go (v242.1,v242.2.1,v242.2.2,s183.2.2.2+1))
          )
        )
       else
        (
         (g171 v235.1).bind fun v245=>
         if v245=true then
          (
           ck (inR .i64 (s183.2.2.2+v235.2.1)) <|
           some (.go (s183.1,s183.2.1,s183.2.2.1,s183.2.2.2+v235.2.1))
          )
         else
          (
           (g172 (s183.1,s183.2.1,s183.2.2.1) v235.1).bind fun v249=>
           ck (inR .i64 (s183.2.2.2+v235.2.1)) <|
           some (.go (v249.1,v249.2.1,v249.2.2,s183.2.2.2+v235.2.1))
          )
        )
      )
     else
      some (.out (s183.1,s183.2.1,s183.2.2.1))
    ) ([],[],false,0)).bind fun o229=>
    k171 o229
 ) (fun v170=>
  (g173 v170).bind fun v253=>
  some v253.1
 )
noncomputable def k118:Eng.CS:={ f:=118,calm:=false,more:=1,ι:=ByteArray×List ByteArray,ok:=fun i=>g118 i.1=some i.2,rds:=fun _=>[],args:=fun i=>[.w (.v (.string (i.1)))],res:=fun i=>.own 0,L':=fun i=>[(0,.arr 9 1 i.2.length (es i.2))],rn:=[(0,0,9,1)] }
theorem k118_ok:CSOk Tryz.prog k118:=by
 refine R.cspec Tryz.func118 (nq9 Tryz.func118) rfl ?_
 rintro ⟨a0,r⟩ hok q _ args hargs
 match args,hargs with
 | [_],hargs=>
 obtain ⟨rfl,_⟩:=hargs
 refine ⟨envC [k171,k172,k173,k237] false [(118,6)],6,envC_ok (css_cons ⟨fun _=>k171_ok,fun h=>(by cases h)⟩ (css_cons ⟨fun h=>(by cases h),fun _=>k172_ok⟩ (css_cons ⟨fun h=>(by cases h),fun _=>k173_ok⟩ (css_cons ⟨fun _=>k237_ok,fun h=>(by cases h)⟩ (css_nil))))),?_⟩
 have H:Gives (g118 a0) (fun a=>a=r):=⟨r,hok,rfl⟩
 unfold g118 at H
 clear hok
 refine R.cut_famG H 28 [3] [] [] (fun v170=>[]) (fun v170=>[(1,.cells 197 [.own 28,.own 29,bS v170.2.2]),(28,.arr 9 1 (v170.1.length) (es (v170.1))),(29,.arr 5 1 (v170.2.1.length) (ei .u8 (v170.2.1)))]) [] 2 (fun H=>?_)
 refine And.intro ?_ ?_
 ·refine ob_sb H fun h177 H q178 A172 c173 hq174 hc175 hR176=>?_
  intro n179 hn180
  obtain rfl:n179=(bytesOf a0).length:=hn180.trans (bytesOf_len a0).symm
  refine R.loop_fam (bind_st H) [0,1] [(100001,0,9,1),(100001,1,5,1)] (fun _ s183=>[(3,.v (.int .i64 (s183.2.2.2)))]) (fun _ s183=>[(1,.cells 197 [.own 18,.own 19,bS s183.2.2.1]),(18,.arr 9 1 (s183.1.length) (es (s183.1))),(19,.arr 5 1 (s183.2.1.length) (ei .u8 (s183.2.1)))]) 2 (fun n252 H=>?_)
  refine ⟨(n252,_),⟨H⟩,⟨trivial⟩,?_⟩
  repeat refine mo1FB2 ?_
  rintro ⟨m0,s183⟩ H _
  obtain ⟨m184,hm0,H⟩:=IG_succ H
  dsimp only at hm0
  subst hm0
  try dsimp only at H
  refine if_st H (fun h230 H=>?_) (fun h230 H=>?_)
  ·refine ob_sl (Nat.le_trans (Nat.le_of_eq (bytesOf_len a0)) hc175) H fun h231 H=>?_
   have hs232:=sl_ei hR176 rfl (Nat.le_trans (Nat.le_of_eq (bytesOf_len a0)) hc175) h231
   intro n233 hn234
   obtain rfl:n233=(((bytesOf a0).drop s183.2.2.2.toNat).take ((((bytesOf a0).length:Nat):Int).toNat-s183.2.2.2.toNat)).length:=hn234.trans hs232.2.1.symm
   obtain ⟨v235,hv236,H⟩:=call_st H
   refine ⟨((((bytesOf a0).drop s183.2.2.2.toNat).take ((((bytesOf a0).length:Nat):Int).toNat-s183.2.2.2.toNat)),v235),⟨hv236⟩,⟨trivial⟩,?_⟩
   refine And.intro ⟨rfl,(Nat.le_trans (Nat.le_of_eq hs232.2.1) hs232.2.2),ei_len.trans ((show _=_ from rfl).trans (Nat.mul_one _).symm),hs232.1⟩ ?_
   refine if_st H (fun h237 H=>?_) (fun h237 H=>?_)
   ·obtain ⟨v238,hv239,H⟩:=call_st H
    refine ⟨(65533,v238),⟨hv239⟩,⟨trivial⟩,?_⟩
    refine And.intro ⟨rfl⟩ ?_
    refine if_st H (fun h240 H=>?_) (fun h240 H=>?_)
    ·refine ob_ck H fun h241 H=>?_
     replace H:=some_st H
     refine ⟨(m184,(s183.1,s183.2.1,s183.2.2.1,s183.2.2.2+1)),⟨H,Nat.lt_succ_self _⟩,⟨trivial⟩,⟨rfl⟩,?_⟩
     repeat refine mo1FB2 ?_
     first | exact trivial | exact rfl
    ·obtain ⟨v242,hv243,H⟩:=call_st H
     refine ⟨((s183.1,s183.2.1,s183.2.2.1),65533,v242),⟨hv243⟩,⟨trivial⟩,?_⟩
     iterate 2 refine And.intro ⟨rfl⟩ ?_
     iterate 3 refine mo1FB2 ?_
     refine ob_ck H fun h244 H=>?_
     replace H:=some_st H
     refine ⟨(m184,(v242.1,v242.2.1,v242.2.2,s183.2.2.2+1)),⟨H,Nat.lt_succ_self _⟩,⟨trivial⟩,⟨rfl⟩,?_⟩
     repeat refine mo1FB2 ?_
     first | exact trivial | exact rfl
   ·obtain ⟨v245,hv246,H⟩:=call_st H
    refine ⟨(v235.1,v245),⟨hv246⟩,⟨trivial⟩,?_⟩
    refine And.intro ⟨rfl⟩ ?_
    refine if_st H (fun h247 H=>?_) (fun h247 H=>?_)
    ·refine ob_ck H fun h248 H=>?_
     replace H:=some_st H
     refine ⟨(m184,(s183.1,s183.2.1,s183.2.2.1,s183.2.2.2+v235.2.1)),⟨H,Nat.lt_succ_self _⟩,⟨trivial⟩,⟨rfl⟩,?_⟩
     repeat refine mo1FB2 ?_
     first | exact trivial | exact rfl
    ·obtain ⟨v249,hv250,H⟩:=call_st H
     refine ⟨((s183.1,s183.2.1,s183.2.2.1),v235.1,v249),⟨hv250⟩,⟨trivial⟩,?_⟩
     iterate 2 refine And.intro ⟨rfl⟩ ?_
     iterate 3 refine mo1FB2 ?_
     refine ob_ck H fun h251 H=>?_
     replace H:=some_st H
     refine ⟨(m184,(v249.1,v249.2.1,v249.2.2,s183.2.2.2+v235.2.1)),⟨H,Nat.lt_succ_self _⟩,⟨trivial⟩,⟨rfl⟩,?_⟩
     repeat refine mo1FB2 ?_
     first | exact trivial | exact rfl
  ·replace H:=some_st H
   dsimp only [stp,sm] at H
   refine ⟨(s183.1,s183.2.1,s183.2.2.1),⟨H⟩,⟨fun _ _ _ h=>(hq174 _ _ _ h)⟩,?_⟩
   repeat refine mo1FB2 ?_
   first | exact trivial | exact rfl
 ·intro q169 hq168 v170 H
  obtain ⟨v253,hv254,H⟩:=call_st H
  refine ⟨(v170,v253),⟨hv254⟩,⟨trivial⟩,?_⟩
  refine And.intro ⟨rfl⟩ ?_
  iterate 3 refine mo1FB2 ?_
  have hfin:=fin_st H
  repeat refine mf1FB2 ?_
  first | exact trivial | exact rfl
noncomputable def g182 (a0:ByteArray):Option (Bool):=
 (g118 a0).bind fun v255=>
 if ((v255.length:Nat):Int)=1 then
  (
   ck (0≤(0:Int)∧0<((v255.length:Nat):Int)) <|
   some (decide ((v255.getD (0:Int).toNat default).data.toList=a0.data.toList))
  )
 else
  some false
end Go.Proofs.YtlehbfahkjhgnaaGreat
end
section
namespace Go.Proofs
open Go.Shelf
def Tryz.lays156_ren:Go.Shelf.Ren:=⟨fun | 156=>201 | 165=>82 | 166=>83 | 169=>85 | 240=>146 | 241=>147 | 276=>186 | 277=>187 | n=>n,fun | 31=>23 | 9=>9 | 3=>3 | 4=>4 | 0=>0 | 20=>20 | 72=>112 | 76=>116 | 70=>110 | 37=>101 | 75=>115 | 127=>180 | 164=>207 | 5=>5 | 80=>53 | n=>n,fun | n=>n⟩
theorem Tryz.lays156:Go.Proofs.Lays.n156 Tryz.prog Tryz.lays156_ren:={
 mixed:=by kernel_rfl
 f156:=Tryz.func201.trans (congrArg some (by kernel_rfl))
 f165:=Tryz.func82.trans (congrArg some (by kernel_rfl))
 f166:=Tryz.func83.trans (congrArg some (by kernel_rfl))
 f169:=Tryz.func85.trans (congrArg some (by kernel_rfl))
 f240:=Tryz.func146.trans (congrArg some (by kernel_rfl))
 f241:=Tryz.func147.trans (congrArg some (by kernel_rfl))
 f276:=Tryz.func186.trans (congrArg some (by kernel_rfl))
 f277:=Tryz.func187.trans (congrArg some (by kernel_rfl))
 t0:=Tryz.underlying0
 a0:=Tryz.isAgg0
 z0:=Tryz.sizeOf0
 v0:=Tryz.zeroValue0
 t3:=Tryz.underlying3
 a3:=Tryz.isAgg3
 z3:=Tryz.sizeOf3
 v3:=Tryz.zeroValue3
 t4:=Tryz.underlying4
 a4:=Tryz.isAgg4
 z4:=Tryz.sizeOf4
 v4:=Tryz.zeroValue4
 t9:=Tryz.underlying9
 a9:=Tryz.isAgg9
 z9:=Tryz.sizeOf9
 v9:=Tryz.zeroValue9
 t20:=Tryz.underlying20
 a20:=Tryz.isAgg20
 z20:=Tryz.sizeOf20
 v20:=Tryz.zeroValue20
 t31:=Tryz.underlying23
 a31:=Tryz.isAgg23
 z31:=Tryz.sizeOf23
 v31:=Tryz.zeroValue23
 t37:=Tryz.underlying101
 a37:=Tryz.isAgg101
 z37:=Tryz.sizeOf101
 v37:=Tryz.zeroValue101
 t70:=Tryz.underlying110
 a70:=Tryz.isAgg110
 z70:=Tryz.sizeOf110
 v70:=Tryz.zeroValue110
 t72:=Tryz.underlying112
 a72:=Tryz.isAgg112
 z72:=Tryz.sizeOf112
 v72:=Tryz.zeroValue112
 t75:=Tryz.underlying115
 a75:=Tryz.isAgg115
 z75:=Tryz.sizeOf115
 v75:=Tryz.zeroValue115
 t76:=Tryz.underlying116
 a76:=Tryz.isAgg116
 z76:=Tryz.sizeOf116
 v76:=Tryz.zeroValue116
 t127:=Tryz.underlying180
 a127:=Tryz.isAgg180
 z127:=Tryz.sizeOf180
 v127:=Tryz.zeroValue180
 t164:=Tryz.underlying207
 a164:=Tryz.isAgg207
 z164:=Tryz.sizeOf207
 v164:=Tryz.zeroValue207 }
theorem Tryz.Builder_Extra_156:Builder.Extra Tryz.prog Tryz.lays156_ren:={
 sizeBuilder:=by kernel_rfl
 liesBuilder:=by kernel_rfl
 t5:=Tryz.underlying5
 a5:=Tryz.isAgg5
 z5:=Tryz.sizeOf5
 v5:=Tryz.zeroValue5
 infoByte:=by kernel_rfl
 cellsByte:=by kernel_rfl
 sizeByte:=by kernel_rfl
 neB5:=by decide }
open Go.RowKit in
theorem Tryz.strings_Join_none (a:Option Addr) (c:Nat) (sep:ByteArray) (w:World) :
  Calls Tryz.prog 201 #[.slice a 0 c,.string sep] w fun e w'=>e=.returned (.string ⟨#[]⟩)∧w'=w:=Any.strings_Join_none Tryz.lays156 Tryz.Builder_Extra_156 a c sep w
open Go.RowKit in
theorem Tryz.strings_Join (bk o c:Nat) (xs:List ByteArray) (sep:ByteArray) (w:World) (hcells:∀(j:Nat) x,xs[j]?=some x→w.cell? ⟨bk,o+j,none⟩=some (.string x)) (hbk:bk<w.heap.size) (hN:xs.length≤140737488355328) (hcap:xs.length≤c) (hlen:(Lib.join (xs.map (·.data.toList)) sep.data.toList).length≤140737488355328) :
  Calls Tryz.prog 201 #[.slice (some ⟨bk,o,none⟩) xs.length c,.string sep] w fun e w'=>e=.returned (.string ⟨(Lib.join (xs.map (·.data.toList)) sep.data.toList).toArray⟩)∧Below w.heap.size w w':=Any.strings_Join Tryz.lays156 Tryz.Builder_Extra_156 bk o c xs sep w hcells hbk hN hcap hlen
def Tryz.lays105_ren:Go.Shelf.Ren:=⟨fun | 105=>37 | 212=>80 | 99=>81 | 165=>82 | 166=>83 | 170=>84 | 169=>85 | 263=>143 | 264=>144 | 206=>145 | 240=>146 | 241=>147 | 276=>186 | 277=>187 | n=>n,fun | 9=>9 | 3=>3 | 4=>4 | 20=>20 | 0=>0 | 46=>106 | 109=>107 | 5=>5 | 72=>112 | 76=>116 | 51=>175 | 146=>176 | 53=>124 | 148=>178 | 70=>110 | 37=>101 | 75=>115 | 127=>180 | 164=>207 | 80=>53 | n=>n,fun | n=>n⟩
theorem Tryz.lays105:Go.Proofs.Lays.n105 Tryz.prog Tryz.lays105_ren:={
 mixed:=by kernel_rfl
 f99:=Tryz.func81.trans (congrArg some (by kernel_rfl))
 f105:=Tryz.func37.trans (congrArg some (by kernel_rfl))
 f165:=Tryz.func82.trans (congrArg some (by kernel_rfl))
 f166:=Tryz.func83.trans (congrArg some (by kernel_rfl))
 f169:=Tryz.func85.trans (congrArg some (by kernel_rfl))
 f170:=Tryz.func84.trans (congrArg some (by kernel_rfl))
 f206:=Tryz.func145.trans (congrArg some (by kernel_rfl))
 f212:=Tryz.func80.trans (congrArg some (by kernel_rfl))
 f240:=Tryz.func146.trans (congrArg some (by kernel_rfl))
 f241:=Tryz.func147.trans (congrArg some (by kernel_rfl))
 f263:=Tryz.func143.trans (congrArg some (by kernel_rfl))
 f264:=Tryz.func144.trans (congrArg some (by kernel_rfl))
 f276:=Tryz.func186.trans (congrArg some (by kernel_rfl))
 f277:=Tryz.func187.trans (congrArg some (by kernel_rfl))
 t0:=Tryz.underlying0
 a0:=Tryz.isAgg0
 z0:=Tryz.sizeOf0
 v0:=Tryz.zeroValue0
 t3:=Tryz.underlying3
 a3:=Tryz.isAgg3
 z3:=Tryz.sizeOf3
 v3:=Tryz.zeroValue3
 t4:=Tryz.underlying4
 a4:=Tryz.isAgg4
 z4:=Tryz.sizeOf4
 v4:=Tryz.zeroValue4
 t5:=Tryz.underlying5
 a5:=Tryz.isAgg5
 z5:=Tryz.sizeOf5
 v5:=Tryz.zeroValue5
 t9:=Tryz.underlying9
 a9:=Tryz.isAgg9
 z9:=Tryz.sizeOf9
 v9:=Tryz.zeroValue9
 t20:=Tryz.underlying20
 a20:=Tryz.isAgg20
 z20:=Tryz.sizeOf20
 v20:=Tryz.zeroValue20
 t37:=Tryz.underlying101
 a37:=Tryz.isAgg101
 z37:=Tryz.sizeOf101
 v37:=Tryz.zeroValue101
 t46:=Tryz.underlying106
 a46:=Tryz.isAgg106
 z46:=Tryz.sizeOf106
 v46:=Tryz.zeroValue106
 t51:=Tryz.underlying175
 a51:=Tryz.isAgg175
 z51:=Tryz.sizeOf175
 v51:=Tryz.zeroValue175
 t53:=Tryz.underlying124
 a53:=Tryz.isAgg124
 z53:=Tryz.sizeOf124
 v53:=Tryz.zeroValue124
 t70:=Tryz.underlying110
 a70:=Tryz.isAgg110
 z70:=Tryz.sizeOf110
 v70:=Tryz.zeroValue110
 t72:=Tryz.underlying112
 a72:=Tryz.isAgg112
 z72:=Tryz.sizeOf112
 v72:=Tryz.zeroValue112
 t75:=Tryz.underlying115
 a75:=Tryz.isAgg115
 z75:=Tryz.sizeOf115
 v75:=Tryz.zeroValue115
 t76:=Tryz.underlying116
 a76:=Tryz.isAgg116
 z76:=Tryz.sizeOf116
 v76:=Tryz.zeroValue116
 t109:=Tryz.underlying107
 a109:=Tryz.isAgg107
 z109:=Tryz.sizeOf107
 v109:=Tryz.zeroValue107
 t127:=Tryz.underlying180
 a127:=Tryz.isAgg180
 z127:=Tryz.sizeOf180
 v127:=Tryz.zeroValue180
 t146:=Tryz.underlying176
 a146:=Tryz.isAgg176
 z146:=Tryz.sizeOf176
 v146:=Tryz.zeroValue176
 t148:=Tryz.underlying178
 a148:=Tryz.isAgg178
 z148:=Tryz.sizeOf178
 v148:=Tryz.zeroValue178
 t164:=Tryz.underlying207
 a164:=Tryz.isAgg207
 z164:=Tryz.sizeOf207
 v164:=Tryz.zeroValue207 }
theorem Tryz.Builder_Extra_105:Builder.Extra Tryz.prog Tryz.lays105_ren:={
 sizeBuilder:=by kernel_rfl
 liesBuilder:=by kernel_rfl
 t5:=Tryz.underlying5
 a5:=Tryz.isAgg5
 z5:=Tryz.sizeOf5
 v5:=Tryz.zeroValue5
 infoByte:=by kernel_rfl
 cellsByte:=by kernel_rfl
 sizeByte:=by kernel_rfl
 neB5:=by decide }
open Go.RowKit Go.Lib in
theorem Tryz.strings_Repeat (s:ByteArray) (c:Nat) (w:World) (hc:c≤9223372036854775807) (hlen:s.size * c≤140737488355328) :
  Calls Tryz.prog 37 #[.string s,.int .i64 c] w fun e w'=>e=.returned (.string ⟨(Lib.repeatL s.data.toList c).toArray⟩)∧Below w.heap.size w w':=Any.strings_Repeat Tryz.lays105 Tryz.Builder_Extra_105 s c w hc hlen
end Go.Proofs
end
section
namespace Go.Proofs.YtlehbfahkjhgnaaGreat
open Go Go.Eng Go.RowKit
noncomputable def g201 (a0:List ByteArray) (a1:ByteArray):Option ByteArray:=ck (a0.length≤140737488355328) <| ck ((Lib.join (a0.map (·.data.toList)) a1.data.toList).length≤140737488355328) <| some ⟨(Lib.join (a0.map (·.data.toList)) a1.data.toList).toArray⟩
noncomputable def k201:Eng.CS:={ f:=201,calm:=true,more:=0,ι:=(List ByteArray)×ByteArray×ByteArray,ok:=fun i=>g201 i.1 i.2.1=some i.2.2,rds:=fun _=>[],args:=fun i=>[.sl 1 i.1.length (es i.1),.w (.v (.string (i.2.1)))],res:=fun i=>.v (.string i.2.2) }
theorem k201_ok:CalmOk Tryz.prog k201:=by
 refine ⟨fun args w=>?_,?_⟩
 ·have hname' : ¬ Tryz.f201.name = "runtime.NumGoroutine" := by simpa using (nq9 Tryz.func201)
  obtain ⟨c,hc⟩:=Option.isSome_iff_exists.1 (show Tryz.f201.body.isSome=true from rfl)
  have hP:=Tryz.func201
  simp [callFunc,k201,hP,hname',hc]
 ·rintro w q S ⟨a0,a1,r⟩ vs hok _ hm hargs
  have hr:a0.length≤140737488355328∧(Lib.join (a0.map (·.data.toList)) a1.data.toList).length≤140737488355328∧r=⟨(Lib.join (a0.map (·.data.toList)) a1.data.toList).toArray⟩:=by
   have:g201 a0 a1=some r:=hok
   unfold g201 ck at this
   split at this
   ·rename_i h1
    split at this
    ·rename_i h2;cases this;exact ⟨h1,h2,rfl⟩
    ·cases this
   ·cases this
  obtain ⟨h1,h2,rfl⟩:=hr
  match vs,hargs with
  | [v,s],hargs=>
  obtain ⟨⟨A,c,hv,hnc,hl,hcell⟩,hs,_⟩:=hargs
  have hs:s=.string a1:=hs
  subst hs hv
  have hnc:a0.length≤c:=hnc
  have hcell:∀j u,(es a0)[j]?=some u→∃a,A=some a∧a.spot=none∧a.block<w.heap.size∧w.cell? ⟨a.block,a.off+j,none⟩=some u:=hcell
  by_cases h0:a0=[]
  ·subst h0
   refine (Tryz.strings_Join_none A c a1 w).mono ?_
   rintro e w' ⟨rfl,rfl⟩
   exact ⟨rfl,Below.refl _ _⟩
  ·have hp:0<a0.length:=List.length_pos_iff.2 h0
   have key:∀j x,a0[j]?=some x→∃a,A=some a∧a.spot=none∧a.block<w.heap.size∧w.cell? ⟨a.block,a.off+j,none⟩=some (.string x):=fun j x hx=>
    hcell j (.string x) (by unfold es;rw [List.getElem?_map,hx];rfl)
   obtain ⟨a,e1,e2,e3,_⟩:=key 0 _ (List.getElem?_eq_getElem hp)
   subst e1
   obtain ⟨b,o,sp⟩:=a
   have e2:sp=none:=e2
   subst e2
   refine (Tryz.strings_Join b o c a0 a1 w (fun j x hx=>?_) e3 h1 hnc h2).mono fun e w' h=>h
   obtain ⟨a,f1,f2,f3,f4⟩:=key j x hx
   cases f1
   exact f4
end Go.Proofs.YtlehbfahkjhgnaaGreat
end
section
set_option maxRecDepth 8000
set_option maxHeartbeats 4000000
namespace Go.Proofs.YtlehbfahkjhgnaaGreat
open Go Go.Eng
noncomputable def g156 (a0:ByteArray):Option (ByteArray):=
 (g118 a0).bind fun v1=>
 (g201 v1 (lit [])).bind fun v3=>
 some v3
noncomputable def k156:Eng.CS:={ f:=156,calm:=true,more:=0,ι:=ByteArray×ByteArray,ok:=fun i=>g156 i.1=some i.2,rds:=fun _=>[],args:=fun i=>[.w (.v (.string (i.1)))],res:=fun i=>.v (.string (i.2)) }
theorem k156_ok:CalmOk Tryz.prog k156:=by
 refine R.calmspec Tryz.func156 (nq9 Tryz.func156) rfl ?_
 rintro ⟨a0,r⟩ hok q _ args hargs
 match args,hargs with
 | [_],hargs=>
 obtain ⟨rfl,_⟩:=hargs
 refine ⟨envC [k118,k201] false [],6,envC_ok (css_cons ⟨fun h=>(by cases h),fun _=>k118_ok⟩ (css_cons ⟨fun _=>k201_ok,fun h=>(by cases h)⟩ (css_nil))),rfl,(by intro x hx;simp only [List.mem_cons,List.not_mem_nil,or_false] at hx;rcases hx with rfl<;>rfl),?_⟩
 have H:Gives (g156 a0) (fun a=>a=r):=⟨r,hok,rfl⟩
 unfold g156 at H
 clear hok
 obtain ⟨v1,hv2,H⟩:=call_st H
 refine ⟨(a0,v1),⟨hv2⟩,⟨trivial⟩,?_⟩
 refine And.intro ⟨rfl⟩ ?_
 obtain ⟨v3,hv4,H⟩:=call_st H
 refine ⟨(v1,(lit []),v3),⟨hv4⟩,⟨trivial⟩,?_⟩
 refine And.intro ⟨by first | rfl | (simp;done),by first | rfl | (simp [ei,eb,es,ec];done) | (simp only [ei,eb,es,ec,List.map_append,List.nil_append,List.append_assoc];rfl)⟩ ?_
 refine And.intro ⟨rfl⟩ ?_
 have hfin:=fin_st H
 repeat refine mf1FB2 ?_
 first | exact trivial | exact rfl
noncomputable def g97 (a0:ByteArray):Option (Int):=
 (g118 a0).bind fun v5=>
 some ((v5.length:Nat):Int)
noncomputable def k97:Eng.CS:={ f:=97,calm:=true,more:=0,ι:=ByteArray×Int,ok:=fun i=>g97 i.1=some i.2,rds:=fun _=>[],args:=fun i=>[.w (.v (.string (i.1)))],res:=fun i=>.v (.int .i64 (i.2)) }
theorem k97_ok:CalmOk Tryz.prog k97:=by
 refine R.calmspec Tryz.func97 (nq9 Tryz.func97) rfl ?_
 rintro ⟨a0,r⟩ hok q _ args hargs
 match args,hargs with
 | [_],hargs=>
 obtain ⟨rfl,_⟩:=hargs
 refine ⟨envC [k118] false [],6,envC_ok (css_cons ⟨fun h=>(by cases h),fun _=>k118_ok⟩ (css_nil)),rfl,(by intro x hx;simp only [List.mem_cons,List.not_mem_nil,or_false] at hx;rcases hx with rfl<;>rfl),?_⟩
 have H:Gives (g97 a0) (fun a=>a=r):=⟨r,hok,rfl⟩
 unfold g97 at H
 clear hok
 obtain ⟨v5,hv6,H⟩:=call_st H
 refine ⟨(a0,v5),⟨hv6⟩,⟨trivial⟩,?_⟩
 refine And.intro ⟨rfl⟩ ?_
 have hfin:=fin_st H
 repeat refine mf1FB2 ?_
 first | exact trivial | exact rfl
end Go.Proofs.YtlehbfahkjhgnaaGreat
end
section
namespace Go.Proofs.YtlehbfahkjhgnaaGreat
open Go Go.Eng Go.RowKit
def fl1 (n:Int):Int:=if n=9∨n=10∨n=13 then 32 else n
def flk (l:List Int) (k:Nat):List Int:=(l.take k).map fl1++l.drop k
structure Flt (B:Nat) (l:List Int) (w0:World) (k:Nat) (w:World):Prop where
 row:∃pad fz,w.heap[B]?=some (.cells (((flk l k).map (Value.int .u8)).toArray++pad) 5 fz)∧l.length≤fz.1
 below:Below B w0 w
theorem flk_len (l:List Int) (k:Nat):(flk l k).length=l.length:=by
 simp [flk];omega
theorem flk_at {l:List Int} {k:Nat} (h:k<l.length):(flk l k)[k]?=some (l.getD k 0):=by
 unfold flk
 rw [List.getElem?_append_right (by simp;omega)]
 simp [List.getD_eq_getElem?_getD,h,Nat.min_eq_left (Nat.le_of_lt h)]
theorem flk_succ {l:List Int} {k:Nat} (h:k<l.length):flk l (k+1)=(flk l k).set k (fl1 (l.getD k 0)):=by
 unfold flk
 rw [List.take_add_one,List.getElem?_eq_getElem h,List.set_append_right _ _ (by simp;omega)]
 have hm:k-(List.map fl1 (List.take k l)).length=0:=by simp;omega
 rw [hm,List.drop_eq_getElem_cons h,List.set_cons_zero,List.getD_eq_getElem?_getD,List.getElem?_eq_getElem h]
 simp only [Option.toList_some,List.map_append,List.map_cons,List.map_nil,List.append_assoc,Option.getD_some,List.singleton_append]
theorem Flt.cell {B:Nat} {l:List Int} {w0 w:World} {k:Nat} (h:Flt B l w0 k w) (hk:k<l.length):w.cell? ⟨B,k,none⟩=some (.int .u8 (l.getD k 0)):=by
 obtain ⟨pad,fz,hh,_⟩:=h.row
 rw [cell_of_heap hh,←Array.getElem?_toList,Array.toList_append,List.getElem?_append_left (by simp [flk_len];exact hk)]
 simp only [List.getElem?_map,flk_at hk]
 rfl
theorem Flt.frozen {B:Nat} {l:List Int} {w0 w:World} {k:Nat} (h:Flt B l w0 k w) (hk:k<l.length):w.frozen? ⟨B,k,none⟩=false:=by
 obtain ⟨pad,fz,hh,hf⟩:=h.row
 simp only [World.frozen?,hh]
 simp
 intro;omega
theorem Flt.put {B:Nat} {l:List Int} {w0 w:World} {k:Nat} (h:Flt B l w0 k w) (hk:k<l.length) (hb:l.getD k 0=9∨l.getD k 0=10∨l.getD k 0=13):Flt B l w0 (k+1) (w.setCell ⟨B,k,none⟩ (.int .u8 32)):=by
 obtain ⟨pad,fz,hh,h1⟩:=h.row
 refine ⟨⟨pad,fz,?_,h1⟩,h.below.setCell (Nat.le_refl _) _⟩
 simp only [World.setCell,Array.getElem?_modify,hh,Option.map_some,if_pos]
 rw [flk_succ hk,show fl1 (l.getD k 0)=32 from if_pos hb]
 have hs:k<((flk l k).map (Value.int .u8)).toArray.size:=by simp [flk_len];exact hk
 simp only [Option.isSome_none,Bool.false_eq_true,if_false]
 rw [Array.setIfInBounds_append_left hs]
 simp [List.map_set]
theorem Flt.keep {B:Nat} {l:List Int} {w0 w:World} {k:Nat} (h:Flt B l w0 k w) (hk:k<l.length) (hb:¬(l.getD k 0=9∨l.getD k 0=10∨l.getD k 0=13)):Flt B l w0 (k+1) w:=by
 obtain ⟨pad,fz,hh,h1⟩:=h.row
 refine ⟨⟨pad,fz,?_,h1⟩,h.below⟩
 have e:flk l (k+1)=flk l k:=by
  rw [flk_succ hk,show fl1 (l.getD k 0)=l.getD k 0 from if_neg hb]
  refine List.ext_getElem? fun j=>?_
  rw [List.getElem?_set]
  split
  ·rename_i e;subst e;rw [flk_at hk,if_pos (by rw [flk_len];exact hk)]
  ·rfl
 rw [e];exact hh
theorem Flt.drew {B:Nat} {l:List Int} {w0 w:World} {k:Nat} (h:Flt B l w0 k w):Flt B l w0 k w.drew:=⟨h.row,h.below.drew⟩
theorem flt_start (s:ByteArray) (w:World) (cap:Nat):Flt w.heap.size (bytesOf s) w 0 (w.drew.alloc (.cells (bytesRow s cap) 5 ((bytesRow s cap).size,(bytesRow s cap).size+1))):=by
 have e:bytesRow s cap=((flk (bytesOf s) 0).map (Value.int .u8)).toArray++Array.replicate (cap-s.size) (.int .u8 0):=by
  unfold bytesRow
  refine congrArg (· ++ _) ?_
  apply Array.ext'
  simp [flk,bytesOf,Function.comp_def]
 refine ⟨⟨Array.replicate (cap-s.size) (.int .u8 0),((bytesRow s cap).size,(bytesRow s cap).size+1),?_,?_⟩,((Below.refl _ w).drew).alloc (Nat.le_refl _) _⟩
 ·rw [show (w.drew.alloc (.cells (bytesRow s cap) 5 ((bytesRow s cap).size,(bytesRow s cap).size+1))).heap[w.heap.size]?=some (.cells (bytesRow s cap) 5 ((bytesRow s cap).size,(bytesRow s cap).size+1)) from heap_alloc_new w.drew _]
  rw [←e]
 ·show (bytesOf s).length≤(bytesRow s cap).size
  simp [bytesOf,bytesRow]
theorem flat_back {P:Program} {B:Nat} {l:List Int} {w0 w:World} {cap:Nat} (h:Flt B l w0 l.length w) (h22:P.underlying 101=some (.slice 5)) (h5:P.underlying 5=some (.int .u8)) (h9:P.underlying 9=some .string) :
  (convert 101 9 (.slice (some ⟨B,0,none⟩) l.length cap)).run P w=.ok (.string (strOf (l.map fl1))) w:=by
 obtain ⟨pad,fz,hh,_⟩:=h.row
 have e:flk l l.length=l.map fl1:=by simp [flk]
 rw [e] at hh
 have hl:(loadCells ⟨B,0,none⟩ l.length).run P w=.ok ((l.map fl1).map (Value.int .u8)).toArray w:=by
  have hk:(loadCells ⟨B,0,none⟩ ((l.map fl1).map (Value.int .u8)).length).run P w=.ok ((l.map fl1).map (Value.int .u8)).toArray w:=by
   refine run_loadCells_list w _ ((l.map fl1).map (Value.int .u8)) fun j v hv=>?_
   have hj:j<((l.map fl1).map (Value.int .u8)).length:=(List.getElem?_eq_some_iff.1 hv).1
   have ea:(⟨B,0,none⟩:Addr).add j=⟨B,0+j,none⟩:=by cases j<;>simp [Addr.add]
   rw [ea,cell_of_heap hh,Nat.zero_add,←Array.getElem?_toList,Array.toList_append,List.getElem?_append_left (by exact hj)]
   exact hv
  simpa using hk
 rw [run_convert_bytes_string w 101 9 5 _ _ _ h22 h5 h9,run_bytesToString w _ _ _ _ hl]
 have hp:=push_all ((l.map fl1).map fun n=>UInt8.ofNat n.toNat) ByteArray.empty
 rw [List.foldl_map] at hp
 rw [hp]
 simp [strOf]
set_option maxHeartbeats 2000000 in
set_option maxRecDepth 100000 in
theorem flat_walk (s r:ByteArray) (w:World) (hs:s.size≤140737488355328)
  (hcl:∀w1,Calls Tryz.prog 156 #[.string (strOf ((bytesOf s).map fl1))] w1 fun e w'=>e=.returned (.string r)∧Below w1.heap.size w1 w') :
  Calls Tryz.prog 96 #[.string s] w fun e w'=>e=.returned (.string r)∧Below w.heap.size w w':=by
 have hconv:=run_bytes_of_string (P:=Tryz.prog) w 9 101 5 s Tryz.underlying9 Tryz.underlying101 Tryz.underlying5
 have hst:=flt_start s w (grownCap w s.size 0 5)
 generalize hcap:grownCap w s.size 0 5=cap at hconv hst
 generalize hC:bytesRow s cap=C at hconv hst
 generalize hB:w.heap.size=B at hconv hst
 generalize hl:bytesOf s=l at hst hcl
 have hll:l.length=s.size:=by rw [←hl,bytesOf_len]
 go_enter Tryz.func96,Tryz.ntmps96
 go_wp2
 go_loopw [10] (fun i wr=>∃k:Nat,k≤s.size∧i=.int .i64 k∧Flt B l w k wr) (fun i _=>s.size-(intOf i).toNat)
 case atStart=>exact ⟨0,Nat.zero_le _,rfl,hst⟩
 case round=>
  obtain ⟨k,hk,rfl,hf⟩:=hrel
  have hcx:k<s.size→wr.cell? ⟨B,k,none⟩=some (.int .u8 (l.getD k 0)):=fun h=>hf.cell (by omega)
  have hfx:k<s.size→wr.frozen? ⟨B,k,none⟩=false:=fun h=>hf.frozen (by omega)
  have hbk:s.size≤k→(convert 101 9 (.slice (some ⟨B,0,none⟩) s.size cap)).run Tryz.prog wr=.ok (.string (strOf (l.map fl1))) wr:=fun h=>by
   have e:k=l.length:=by omega
   subst e
   rw [←hll]
   exact flat_back hf Tryz.underlying101 Tryz.underlying5 Tryz.underlying9
  have hbl:Below B w wr:=hf.below
  have e1:k<s.size→l.getD k 0=l[k]?.getD 0:=fun h=>List.getD_eq_getElem?_getD
  have p1:k<s.size→(l[k]?.getD 0=9∨l[k]?.getD 0=10∨l[k]?.getD 0=13)→Flt B l w (k+1) (wr.setCell ⟨B,k,none⟩ (.int .u8 32)):=fun h e=>hf.put (by omega) (by rw [e1 h];exact e)
  have p2:k<s.size→¬(l[k]?.getD 0=9∨l[k]?.getD 0=10∨l[k]?.getD 0=13)→Flt B l w (k+1) wr:=fun h e=>hf.keep (by omega) (by rw [e1 h];exact e)
  have hHf:=Any.hidJ (And.intro p1 p2)
  clear p1 p2 e1 hf
  go_wp2_with (first | (go_at_call 156;refine (hcl _).mono ?_;rintro e w' ⟨rfl,hb'⟩) | go_in)
  iterate 3
   ·have hlt:k<s.size:=by assumption
    refine ⟨⟨k+1,by omega,by simp,hHf.out.1 hlt ?_⟩,by simp [intOf];omega⟩
    simp_all
  ·have hlt:k<s.size:=by assumption
   refine ⟨⟨k+1,by omega,by simp,hHf.out.2 hlt ?_⟩,by simp [intOf];omega⟩
   simp_all
  ·rw [hbk (by omega)]
   simp only [Result.andThen]
   rw [Oper.upon_value]
   go_wp2_with (go_at_call 156;refine (hcl _).mono ?_;rintro e w' ⟨rfl,hb'⟩)
   go_ret
   exact ⟨rfl,hbl.trans (hb'.mono (hB▸hbl.size))⟩
noncomputable def g96 (a0:ByteArray):Option ByteArray:=ck (a0.size≤140737488355328) <| g156 (strOf ((bytesOf a0).map fl1))
noncomputable def k96:Eng.CS:={ f:=96,calm:=true,more:=0,ι:=ByteArray×ByteArray,ok:=fun i=>g96 i.1=some i.2,rds:=fun _=>[],args:=fun i=>[.w (.v (.string (i.1)))],res:=fun i=>.v (.string (i.2)) }
theorem k96_ok:CalmOk Tryz.prog k96:=by
 refine ⟨fun args w=>?_,?_⟩
 ·have hname' : ¬ Tryz.f96.name = "runtime.NumGoroutine" := by simpa using (nq9 Tryz.func96)
  obtain ⟨c,hc⟩:=Option.isSome_iff_exists.1 (show Tryz.f96.body.isSome=true from rfl)
  have hP:=Tryz.func96
  simp [callFunc,k96,hP,hname',hc]
 ·rintro w q S ⟨a0,r⟩ vs hok _ hm hargs
  have hr:a0.size≤140737488355328∧g156 (strOf ((bytesOf a0).map fl1))=some r:=by
   have:g96 a0=some r:=hok
   unfold g96 ck at this
   split at this
   ·rename_i h1;exact ⟨h1,this⟩
   ·cases this
  match vs,hargs with
  | [v],hargs=>
  have hs:v=.string a0:=hargs.1
  subst hs
  exact flat_walk a0 r w hr.1 fun w1=>(k156_ok.2 w1 (fun _ _=>none) S (strOf ((bytesOf a0).map fl1),r) [.string (strOf ((bytesOf a0).map fl1))] hr.2 trivial (fun _ _ _ h=>by cases h) ⟨rfl,trivial⟩).mono fun e w' h=>h
end Go.Proofs.YtlehbfahkjhgnaaGreat
end
section
set_option maxRecDepth 8000
set_option maxHeartbeats 4000000
namespace Go.Proofs.YtlehbfahkjhgnaaGreat
open Go Go.Eng
noncomputable def g104 (a0:ByteArray):Option (ByteArray):=
 (g59 a0).bind fun v1=>
 jn (α:=_) (β:=ByteArray) (fun k25=>
   (loopO (σ:=ByteArray×Int) (ρ:=ByteArray) (fun s28=>
     if s28.2<((v1.length:Nat):Int) then
      (
       ck (0≤s28.2∧s28.2<((v1.length:Nat):Int)) <|
       ck (s28.1.size+(v1.getD s28.2.toNat default).size≤9223372036854775807) <|
       ck (inR .i64 (s28.2+1)) <|
       some (.go (s28.1++(v1.getD s28.2.toNat default),s28.2+1))
      )
     else
      some (.out s28.1)
    ) ((lit []),0)).bind fun o38=>
    k25 o38
 ) (fun v24=>
  some v24
 )
noncomputable def k104:Eng.CS:={ f:=104,calm:=true,more:=0,ι:=ByteArray×ByteArray,ok:=fun i=>g104 i.1=some i.2,rds:=fun _=>[],args:=fun i=>[.w (.v (.string (i.1)))],res:=fun i=>.v (.string (i.2)) }
theorem k104_ok:CalmOk Tryz.prog k104:=by
 refine R.calmspec Tryz.func104 (nq9 Tryz.func104) rfl ?_
 rintro ⟨a0,r⟩ hok q _ args hargs
 match args,hargs with
 | [_],hargs=>
 obtain ⟨rfl,_⟩:=hargs
 refine ⟨envC [k59] false [(104,7)],6,envC_ok (css_cons ⟨fun h=>(by cases h),fun _=>k59_ok⟩ (css_nil)),rfl,(by intro x hx;simp only [List.mem_cons,List.not_mem_nil,or_false] at hx;rcases hx with rfl<;>rfl),?_⟩
 have H:Gives (g104 a0) (fun a=>a=r):=⟨r,hok,rfl⟩
 unfold g104 at H
 clear hok
 obtain ⟨v1,hv2,H⟩:=call_st H
 refine ⟨(a0,v1),⟨hv2⟩,⟨trivial⟩,?_⟩
 refine And.intro ⟨rfl⟩ ?_
 refine R.cut_fam H 13 [] [] (fun v24=>[(3,.v (.string (v24)))]) (fun v24=>[]) [(5,.arr 9 1 (v1.length) (es (v1)))] 0 (fun H=>?_)
 refine And.intro ?_ ?_
 ·refine R.loop_fam (bind_st H) [4] [] (fun _ s28=>[(3,.v (.string (s28.1))),(5,.v (.int .i64 (s28.2)))]) (fun _ s28=>[]) 0 (fun n43 H=>?_)
  refine ⟨(n43,_),⟨H⟩,⟨trivial⟩,?_⟩
  repeat refine mo1FB2 ?_
  rintro ⟨m0,s28⟩ H _
  obtain ⟨m29,hm0,H⟩:=IG_succ H
  dsimp only at hm0
  subst hm0
  try dsimp only at H
  refine if_st H (fun h39 H=>?_) (fun h39 H=>?_)
  ·refine ob_ck H fun h40 H=>?_
   refine ld_str (e:=v1.getD s28.2.toNat default) (own_get (ys:=es v1) (by first | rfl | simp [ei,eb,es,ec]) (es_get (l:=v1) (by first | exact tn h40 | (have:=tn h40;simp at this ⊢;omega) | (have:=tn h40;simp;omega)))) ?_
   refine ob_ck H fun h41 H=>?_
   refine ob_ck H fun h42 H=>?_
   replace H:=some_st H
   refine ⟨(m29,(s28.1++(v1.getD s28.2.toNat default),s28.2+1)),⟨H,Nat.lt_succ_self _⟩,⟨trivial⟩,⟨rfl⟩,?_⟩
   repeat refine mo1FB2 ?_
   first | exact trivial | exact rfl
  ·replace H:=some_st H
   dsimp only [stp,sm] at H
   refine ⟨s28.1,⟨H⟩,⟨rfl⟩,?_⟩
   repeat refine mo1FB2 ?_
   first | exact trivial | exact rfl
 ·intro v24 H
  have hfin:=fin_st H
  repeat refine mf1FB2 ?_
  first | exact trivial | exact rfl
noncomputable def g49 (a0:ByteArray) (a1:Int) (a2:Int):Option (Bool):=
 (g96 a0).bind fun v44=>
 if v44.data.toList=a0.data.toList then
  (
   (g97 a0).bind fun v47=>
   if a1≤v47 then
    some (decide (v47≤a2))
   else
    some false
  )
 else
  some false
noncomputable def k49:Eng.CS:={ f:=49,calm:=true,more:=0,ι:=ByteArray×Int×Int×Bool,ok:=fun i=>g49 i.1 i.2.1 i.2.2.1=some i.2.2.2,rds:=fun _=>[],args:=fun i=>[.w (.v (.string (i.1))),.w (.v (.int .i64 (i.2.1))),.w (.v (.int .i64 (i.2.2.1)))],res:=fun i=>bS i.2.2.2 }
theorem k49_ok:CalmOk Tryz.prog k49:=by
 refine R.calmspec Tryz.func49 (nq9 Tryz.func49) rfl ?_
 rintro ⟨a0,a1,a2,r⟩ hok q _ args hargs
 match args,hargs with
 | [_,_,_],hargs=>
 obtain ⟨rfl,rfl,rfl,_⟩:=hargs
 refine ⟨envC [k96,k97] false [],6,envC_ok (css_cons ⟨fun _=>k96_ok,fun h=>(by cases h)⟩ (css_cons ⟨fun _=>k97_ok,fun h=>(by cases h)⟩ (css_nil))),rfl,(by intro x hx;simp only [List.mem_cons,List.not_mem_nil,or_false] at hx;rcases hx with rfl | rfl | rfl<;>rfl),?_⟩
 have H:Gives (g49 a0 a1 a2) (fun a=>a=r):=⟨r,hok,rfl⟩
 unfold g49 at H
 clear hok
 obtain ⟨v44,hv45,H⟩:=call_st H
 refine ⟨(a0,v44),⟨hv45⟩,⟨trivial⟩,?_⟩
 refine And.intro ⟨rfl⟩ ?_
 refine if_st H (fun h46 H=>?_) (fun h46 H=>?_)
 ·obtain ⟨v47,hv48,H⟩:=call_st H
  refine ⟨(a0,v47),⟨hv48⟩,⟨trivial⟩,?_⟩
  refine And.intro ⟨rfl⟩ ?_
  refine if_st H (fun _ H=>?_) (fun _ H=>?_)
  all_goals
   have hfin:=fin_st H
   repeat refine mf1FB2 ?_
   first | exact trivial | exact rfl
 ·have hfin:=fin_st H
  repeat refine mf1FB2 ?_
  first | exact trivial | exact rfl
noncomputable def g63 (a0:ByteArray):Option (Bool):=
 (g49 a0 1 64).bind fun v50=>
 some v50
noncomputable def k63:Eng.CS:={ f:=63,calm:=true,more:=0,ι:=ByteArray×Bool,ok:=fun i=>g63 i.1=some i.2,rds:=fun _=>[],args:=fun i=>[.w (.v (.string (i.1)))],res:=fun i=>bS i.2 }
theorem k63_ok:CalmOk Tryz.prog k63:=by
 refine R.calmspec Tryz.func63 (nq9 Tryz.func63) rfl ?_
 rintro ⟨a0,r⟩ hok q _ args hargs
 match args,hargs with
 | [_],hargs=>
 obtain ⟨rfl,_⟩:=hargs
 refine ⟨envC [k49] false [],6,envC_ok (css_cons ⟨fun _=>k49_ok,fun h=>(by cases h)⟩ (css_nil)),rfl,(by intro x hx;simp only [List.mem_cons,List.not_mem_nil,or_false] at hx;rcases hx with rfl<;>rfl),?_⟩
 have H:Gives (g63 a0) (fun a=>a=r):=⟨r,hok,rfl⟩
 unfold g63 at H
 clear hok
 obtain ⟨v50,hv51,H⟩:=call_st H
 refine ⟨(a0,1,64,v50),⟨hv51⟩,⟨trivial⟩,?_⟩
 iterate 3 refine And.intro ⟨rfl⟩ ?_
 have hfin:=fin_st H
 repeat refine mf1FB2 ?_
 first | exact trivial | exact rfl
end Go.Proofs.YtlehbfahkjhgnaaGreat
end
section
namespace Go.Proofs.YtlehbfahkjhgnaaGreat
open Go Go.Eng Go.RowKit
set_option maxHeartbeats 2000000 in
set_option maxRecDepth 100000 in
theorem rflat_walk (s r:ByteArray) (w:World) (hs:s.size≤140737488355328)
  (hcl:∀w1,Calls Tryz.prog 104 #[.string (strOf ((bytesOf s).map fl1))] w1 fun e w'=>e=.returned (.string r)∧Below w1.heap.size w1 w') :
  Calls Tryz.prog 58 #[.string s] w fun e w'=>e=.returned (.string r)∧Below w.heap.size w w':=by
 have hconv:=run_bytes_of_string (P:=Tryz.prog) w 9 101 5 s Tryz.underlying9 Tryz.underlying101 Tryz.underlying5
 have hst:=flt_start s w (grownCap w s.size 0 5)
 generalize hcap:grownCap w s.size 0 5=cap at hconv hst
 generalize hC:bytesRow s cap=C at hconv hst
 generalize hB:w.heap.size=B at hconv hst
 generalize hl:bytesOf s=l at hst hcl
 have hll:l.length=s.size:=by rw [←hl,bytesOf_len]
 go_enter Tryz.func58,Tryz.ntmps58
 go_wp2
 go_loopw [4] (fun i wr=>∃k:Nat,k≤s.size∧i=.int .i64 k∧Flt B l w k wr) (fun i _=>s.size-(intOf i).toNat)
 case atStart=>exact ⟨0,Nat.zero_le _,rfl,hst⟩
 case round=>
  obtain ⟨k,hk,rfl,hf⟩:=hrel
  have hcx:k<s.size→wr.cell? ⟨B,k,none⟩=some (.int .u8 (l.getD k 0)):=fun h=>hf.cell (by omega)
  have hfx:k<s.size→wr.frozen? ⟨B,k,none⟩=false:=fun h=>hf.frozen (by omega)
  have hbk:s.size≤k→(convert 101 9 (.slice (some ⟨B,0,none⟩) s.size cap)).run Tryz.prog wr=.ok (.string (strOf (l.map fl1))) wr:=fun h=>by
   have e:k=l.length:=by omega
   subst e
   rw [←hll]
   exact flat_back hf Tryz.underlying101 Tryz.underlying5 Tryz.underlying9
  have hbl:Below B w wr:=hf.below
  have e1:k<s.size→l.getD k 0=l[k]?.getD 0:=fun h=>List.getD_eq_getElem?_getD
  have p1:k<s.size→(l[k]?.getD 0=9∨l[k]?.getD 0=10∨l[k]?.getD 0=13)→Flt B l w (k+1) (wr.setCell ⟨B,k,none⟩ (.int .u8 32)):=fun h e=>hf.put (by omega) (by rw [e1 h];exact e)
  have p2:k<s.size→¬(l[k]?.getD 0=9∨l[k]?.getD 0=10∨l[k]?.getD 0=13)→Flt B l w (k+1) wr:=fun h e=>hf.keep (by omega) (by rw [e1 h];exact e)
  have hHf:=Any.hidJ (And.intro p1 p2)
  clear p1 p2 e1 hf
  go_wp2_with (first | (go_at_call 104;refine (hcl _).mono ?_;rintro e w' ⟨rfl,hb'⟩) | go_in)
  iterate 3
   ·have hlt:k<s.size:=by assumption
    refine ⟨⟨k+1,by omega,by simp,hHf.out.1 hlt ?_⟩,by simp [intOf];omega⟩
    simp_all
  ·have hlt:k<s.size:=by assumption
   refine ⟨⟨k+1,by omega,by simp,hHf.out.2 hlt ?_⟩,by simp [intOf];omega⟩
   simp_all
  ·rw [hbk (by omega)]
   simp only [Result.andThen]
   rw [Oper.upon_value]
   go_wp2_with (go_at_call 104;refine (hcl _).mono ?_;rintro e w' ⟨rfl,hb'⟩)
   go_ret
   exact ⟨rfl,hbl.trans (hb'.mono (hB▸hbl.size))⟩
noncomputable def g58 (a0:ByteArray):Option ByteArray:=ck (a0.size≤140737488355328) <| g104 (strOf ((bytesOf a0).map fl1))
noncomputable def k58:Eng.CS:={ f:=58,calm:=true,more:=0,ι:=ByteArray×ByteArray,ok:=fun i=>g58 i.1=some i.2,rds:=fun _=>[],args:=fun i=>[.w (.v (.string (i.1)))],res:=fun i=>.v (.string (i.2)) }
theorem k58_ok:CalmOk Tryz.prog k58:=by
 refine ⟨fun args w=>?_,?_⟩
 ·have hname' : ¬ Tryz.f58.name = "runtime.NumGoroutine" := by simpa using (nq9 Tryz.func58)
  obtain ⟨c,hc⟩:=Option.isSome_iff_exists.1 (show Tryz.f58.body.isSome=true from rfl)
  have hP:=Tryz.func58
  simp [callFunc,k58,hP,hname',hc]
 ·rintro w q S ⟨a0,r⟩ vs hok _ hm hargs
  have hr:a0.size≤140737488355328∧g104 (strOf ((bytesOf a0).map fl1))=some r:=by
   have:g58 a0=some r:=hok
   unfold g58 ck at this
   split at this
   ·rename_i h1;exact ⟨h1,this⟩
   ·cases this
  match vs,hargs with
  | [v],hargs=>
  have hs:v=.string a0:=hargs.1
  subst hs
  exact rflat_walk a0 r w hr.1 fun w1=>(k104_ok.2 w1 (fun _ _=>none) S (strOf ((bytesOf a0).map fl1),r) [.string (strOf ((bytesOf a0).map fl1))] hr.2 trivial (fun _ _ _ h=>by cases h) ⟨rfl,trivial⟩).mono fun e w' h=>h
end Go.Proofs.YtlehbfahkjhgnaaGreat
end
section
namespace Go.Proofs.YtlehbfahkjhgnaaGreat
open Go Go.Eng Go.RowKit
theorem bits_run (n:Nat) (w:World):(callFunc 157 #[.float .f64 n]).run Tryz.prog w=.ok (.value (.int .u64 n)) w:=by
 rw [run_callFunc_extern Tryz.func157 (nq9 Tryz.func157) (by kernel_rfl) (e:=Extern.MathFloatBits.float64bits) (by kernel_rfl) (by kernel_rfl)];rfl
noncomputable def keyOf (n:Nat):Int:=
 if FloatKind.f64.format.order n n=some .eq then
  (if bits BinOp.and .u64 n 9223372036854775808=0 then bits BinOp.or .u64 n 9223372036854775808 else bits BinOp.xor .u64 IntKind.u64.max n)
 else 18446744073709551615
set_option maxHeartbeats 2000000 in
set_option maxRecDepth 100000 in
theorem key_walk (n:Nat) (w:World):Calls Tryz.prog 99 #[.float .f64 n] w fun e w'=>e=.returned (.int .u64 (keyOf n))∧Below w.heap.size w w':=by
 have hx:=bits_run n
 go_enter Tryz.func99,Tryz.ntmps99
 go_wp2
 ·rename_i h
  go_ret
  have h:¬FloatKind.f64.format.order n n=some .eq:=by simpa using h
  exact ⟨by rw [keyOf,if_neg h];rfl,Below.refl _ _⟩
 ·rename_i h1 _ _ h2
  go_ret
  have h1:FloatKind.f64.format.order n n=some .eq:=by simpa using h1
  have h2:¬bits BinOp.and .u64 n 9223372036854775808=0:=by simpa using h2
  exact ⟨by rw [keyOf,if_pos h1,if_neg h2];rfl,Below.refl _ _⟩
 ·rename_i h1 h2
  go_ret
  have h1:FloatKind.f64.format.order n n=some .eq:=by simpa using h1
  have h2:bits BinOp.and .u64 n 9223372036854775808=0:=by simpa using h2
  exact ⟨by rw [keyOf,if_pos h1,if_pos h2];rfl,Below.refl _ _⟩
noncomputable def g99 (a0:Nat):Option Int:=some (keyOf a0)
noncomputable def k99:Eng.CS:={ f:=99,calm:=true,more:=0,ι:=Nat×Int,ok:=fun i=>g99 i.1=some i.2,rds:=fun _=>[],args:=fun i=>[.w (.v (.float .f64 i.1))],res:=fun i=>.v (.int .u64 i.2) }
theorem k99_ok:CalmOk Tryz.prog k99:=by
 refine ⟨fun args w=>?_,?_⟩
 ·have hname' : ¬ Tryz.f99.name = "runtime.NumGoroutine" := by simpa using (nq9 Tryz.func99)
  obtain ⟨c,hc⟩:=Option.isSome_iff_exists.1 (show Tryz.f99.body.isSome=true from rfl)
  have hP:=Tryz.func99
  simp [callFunc,k99,hP,hname',hc]
 ·rintro w q S ⟨a0,r⟩ vs hok _ hm hargs
  have hr:keyOf a0=r:=Option.some.inj (show some (keyOf a0)=some r from hok)
  subst hr
  match vs,hargs with
  | [v],hargs=>
  have hs:v=.float .f64 a0:=hargs.1
  subst hs
  exact key_walk a0 w
end Go.Proofs.YtlehbfahkjhgnaaGreat
end
section
set_option maxRecDepth 8000
set_option maxHeartbeats 4000000
namespace Go.Proofs.YtlehbfahkjhgnaaGreat
open Go Go.Eng
noncomputable def g47 (a0:Int) (a1:Int) (a2:Int):Option (Bool):=
 if a1≤a0 then
  some (decide (a0≤a2))
 else
  some false
noncomputable def k47:Eng.CS:={ f:=47,calm:=true,more:=0,ι:=Int×Int×Int×Bool,ok:=fun i=>g47 i.1 i.2.1 i.2.2.1=some i.2.2.2,rds:=fun _=>[],args:=fun i=>[.w (.v (.int .i64 (i.1))),.w (.v (.int .i64 (i.2.1))),.w (.v (.int .i64 (i.2.2.1)))],res:=fun i=>bS i.2.2.2 }
theorem k47_ok:CalmOk Tryz.prog k47:=by
 refine R.calmspec Tryz.func47 (nq9 Tryz.func47) rfl ?_
 rintro ⟨a0,a1,a2,r⟩ hok q _ args hargs
 match args,hargs with
 | [_,_,_],hargs=>
 obtain ⟨rfl,rfl,rfl,_⟩:=hargs
 refine ⟨envC [] false [],6,envC_ok (css_nil),rfl,(by intro x hx;simp only [List.mem_cons,List.not_mem_nil,or_false] at hx;rcases hx with rfl | rfl | rfl<;>rfl),?_⟩
 have H:Gives (g47 a0 a1 a2) (fun a=>a=r):=⟨r,hok,rfl⟩
 unfold g47 at H
 clear hok
 refine if_st H (fun _ H=>?_) (fun _ H=>?_)
 all_goals
  have hfin:=fin_st H
  repeat refine mf1FB2 ?_
  first | exact trivial | exact rfl
noncomputable def g45 (a0:Int):Option (Bool):=
 if a0=6 then
  some true
 else
  (
   if a0=7 then
    some true
   else
    some (decide (a0=8))
  )
noncomputable def k45:Eng.CS:={ f:=45,calm:=true,more:=0,ι:=Int×Bool,ok:=fun i=>g45 i.1=some i.2,rds:=fun _=>[],args:=fun i=>[.w (.v (.int .i64 (i.1)))],res:=fun i=>bS i.2 }
theorem k45_ok:CalmOk Tryz.prog k45:=by
 refine R.calmspec Tryz.func45 (nq9 Tryz.func45) rfl ?_
 rintro ⟨a0,r⟩ hok q _ args hargs
 match args,hargs with
 | [_],hargs=>
 obtain ⟨rfl,_⟩:=hargs
 refine ⟨envC [] false [],6,envC_ok (css_nil),rfl,(by intro x hx;simp only [List.mem_cons,List.not_mem_nil,or_false] at hx;rcases hx with rfl<;>rfl),?_⟩
 have H:Gives (g45 a0) (fun a=>a=r):=⟨r,hok,rfl⟩
 unfold g45 at H
 clear hok
 repeat' refine if_st H (fun _ H=>?_) (fun _ H=>?_)
 all_goals
  have hfin:=fin_st H
  repeat refine mf1FB2 ?_
  first | exact trivial | exact rfl
noncomputable def g21 (a0:Int):Option (Int):=
 jn (α:=_) (β:=Bool) (fun k34=>
   if a0=1 then
    k34 (decide (a0=1))
   else
    (
     if a0=2 then
      k34 (decide (a0=2))
     else
      (
       if a0=4 then
        k34 (decide (a0=4))
       else
        (
         if a0=6 then
          k34 (decide (a0=6))
         else
          k34 (decide (a0=8))
        )
      )
    )
 ) (fun v33=>
  if v33=true then
   some 2
  else
   (
    if a0=3 then
     (
      if a0=3 then
       some 1
      else
       (
        if a0=5 then
         some 3
        else
         some 0
       )
     )
    else
     (
      if a0=9 then
       (
        if a0=9 then
         some 1
        else
         (
          if a0=5 then
           some 3
          else
           some 0
         )
       )
      else
       (
        if a0=7 then
         some 1
        else
         (
          if a0=5 then
           some 3
          else
           some 0
         )
       )
     )
   )
 )
noncomputable def k21:Eng.CS:={ f:=21,calm:=true,more:=0,ι:=Int×Int,ok:=fun i=>g21 i.1=some i.2,rds:=fun _=>[],args:=fun i=>[.w (.v (.int .i64 (i.1)))],res:=fun i=>.v (.int .i64 (i.2)) }
theorem k21_ok:CalmOk Tryz.prog k21:=by
 refine R.calmspec Tryz.func21 (nq9 Tryz.func21) rfl ?_
 rintro ⟨a0,r⟩ hok q _ args hargs
 match args,hargs with
 | [_],hargs=>
 obtain ⟨rfl,_⟩:=hargs
 refine ⟨envC [] false [(21,7)],6,envC_ok (css_nil),rfl,(by intro x hx;simp only [List.mem_cons,List.not_mem_nil,or_false] at hx;rcases hx with rfl<;>rfl),?_⟩
 have H:Gives (g21 a0) (fun a=>a=r):=⟨r,hok,rfl⟩
 unfold g21 at H
 clear hok
 refine R.cut_fam H 13 [3] [] (fun v33=>[(4,bS v33)]) (fun v33=>[]) [] 0 (fun H=>?_)
 refine And.intro ?_ ?_
 ·refine if_st H (fun h35 H=>?_) (fun h35 H=>?_)
  ·refine ⟨(decide (a0=1)),⟨H⟩,⟨rfl⟩,?_⟩
   repeat refine mo1FB2 ?_
   first | exact trivial | exact rfl
  ·refine if_st H (fun h36 H=>?_) (fun h36 H=>?_)
   ·refine ⟨(decide (a0=2)),⟨H⟩,⟨rfl⟩,?_⟩
    repeat refine mo1FB2 ?_
    first | exact trivial | exact rfl
   ·refine if_st H (fun h37 H=>?_) (fun h37 H=>?_)
    ·refine ⟨(decide (a0=4)),⟨H⟩,⟨rfl⟩,?_⟩
     repeat refine mo1FB2 ?_
     first | exact trivial | exact rfl
    ·refine if_st H (fun h38 H=>?_) (fun h38 H=>?_)
     ·refine ⟨(decide (a0=6)),⟨H⟩,⟨rfl⟩,?_⟩
      repeat refine mo1FB2 ?_
      first | exact trivial | exact rfl
     ·refine ⟨(decide (a0=8)),⟨H⟩,⟨rfl⟩,?_⟩
      repeat refine mo1FB2 ?_
      first | exact trivial | exact rfl
 ·intro v33 H
  repeat' refine if_st H (fun _ H=>?_) (fun _ H=>?_)
  all_goals
   have hfin:=fin_st H
   repeat refine mf1FB2 ?_
   first | exact trivial | exact rfl
noncomputable def g51 (a0:List Int) (a1:Int):Option (Bool):=
 jn (α:=_) (β:=Unit) (fun k88=>
   (loopO (σ:=Int) (ρ:=(Unit) ⊕ (Unit)) (fun s91=>
     if s91<((a0.length:Nat):Int) then
      (
       ck (0≤s91∧s91<((a0.length:Nat):Int)) <|
       if (a0.getD s91.toNat 0)<0 then
        some (.out (.inl (())))
       else
        (
         if a1≤(a0.getD s91.toNat 0) then
          some (.out (.inl (())))
         else
          (
           if 0<s91 then
            (
             ck (inR .i64 (s91-1)) <|
             ck (0≤s91-1∧s91-1<((a0.length:Nat):Int)) <|
             if (a0.getD s91.toNat 0)≤(a0.getD (s91-1).toNat 0) then
              some (.out (.inl (())))
             else
              (
               ck (inR .i64 (s91+1)) <|
               some (.go (s91+1))
              )
            )
           else
            (
             ck (inR .i64 (s91+1)) <|
             some (.go (s91+1))
            )
          )
        )
      )
     else
      some (.out (.inr (())))
    ) 0).bind fun o108=>
   sm o108 (fun o119=>
     some false
    ) (fun o120=>
     k88 ()
    )
 ) (fun v87=>
  some true
 )
noncomputable def k51:Eng.CS:={ f:=51,calm:=true,more:=0,ι:=(List Int)×Int×Bool,ok:=fun i=>g51 i.1 i.2.1=some i.2.2,rds:=fun _=>[],args:=fun i=>[.sl 1 i.1.length (ei .i64 i.1),.w (.v (.int .i64 (i.2.1)))],res:=fun i=>bS i.2.2 }
theorem k51_ok:CalmOk Tryz.prog k51:=by
 refine R.calmspec Tryz.func51 (nq9 Tryz.func51) rfl ?_
 rintro ⟨a0,a1,r⟩ hok q _ args hargs
 match args,hargs with
 | [_,_],hargs=>
 obtain ⟨⟨A0,cp0,rfl,hc0,_,hR0⟩,rfl,_⟩:=hargs
 refine ⟨envC [] false [(51,7)],6,envC_ok (css_nil),rfl,(by intro x hx;simp only [List.mem_cons,List.not_mem_nil,or_false] at hx;rcases hx with rfl | rfl<;>rfl),?_⟩
 have H:Gives (g51 a0 a1) (fun a=>a=r):=⟨r,hok,rfl⟩
 unfold g51 at H
 clear hok
 refine R.cut_fam H 7 [] [] (fun v87=>[]) (fun v87=>[]) [] 0 (fun H=>?_)
 refine And.intro ?_ ?_
 ·refine R.loop_fam (bind_st H) [0,1,7,8] [] (fun _ s91=>[(9,.v (.int .i64 (s91)))]) (fun _ s91=>[]) 0 (fun n121 H=>?_)
  refine ⟨(n121,_),⟨H⟩,⟨trivial⟩,?_⟩
  repeat refine mo1FB2 ?_
  rintro ⟨m0,s91⟩ H _
  obtain ⟨m92,hm0,H⟩:=IG_succ H
  dsimp only at hm0
  subst hm0
  try dsimp only at H
  refine if_st H (fun h109 H=>?_) (fun h109 H=>?_)
  ·refine ob_ix hR0 (fun h=>ei0 h) H fun h110 H=>?_
   refine ld_int (e:=a0.getD s91.toNat 0) (rd_get hR0 (ei_get (l:=a0) (tn h110))) ?_
   refine if_st H (fun h111 H=>?_) (fun h111 H=>?_)
   ·replace H:=some_st H
    dsimp only [stp,sm] at H
    have hfin:=fin_st H
    repeat refine mf1FB2 ?_
    first | exact trivial | exact rfl
   ·refine if_st H (fun h112 H=>?_) (fun h112 H=>?_)
    ·replace H:=some_st H
     dsimp only [stp,sm] at H
     have hfin:=fin_st H
     repeat refine mf1FB2 ?_
     first | exact trivial | exact rfl
    ·refine if_st H (fun h113 H=>?_) (fun h113 H=>?_)
     ·refine ob_ck H fun h114 H=>?_
      refine ob_ix hR0 (fun h=>ei0 h) H fun h115 H=>?_
      refine ld_int (e:=a0.getD (s91-1).toNat 0) (rd_get hR0 (ei_get (l:=a0) (tn h115))) ?_
      refine if_st H (fun h116 H=>?_) (fun h116 H=>?_)
      ·replace H:=some_st H
       dsimp only [stp,sm] at H
       have hfin:=fin_st H
       repeat refine mf1FB2 ?_
       first | exact trivial | exact rfl
      ·refine ob_ck H fun h117 H=>?_
       replace H:=some_st H
       refine ⟨(m92,s91+1),⟨H,Nat.lt_succ_self _⟩,⟨trivial⟩,⟨rfl⟩,?_⟩
       repeat refine mo1FB2 ?_
       first | exact trivial | exact rfl
     ·refine ob_ck H fun h118 H=>?_
      replace H:=some_st H
      refine ⟨(m92,s91+1),⟨H,Nat.lt_succ_self _⟩,⟨trivial⟩,⟨rfl⟩,?_⟩
      repeat refine mo1FB2 ?_
      first | exact trivial | exact rfl
  ·replace H:=some_st H
   dsimp only [stp,sm] at H
   refine ⟨(),⟨H⟩,⟨rfl⟩,?_⟩
   repeat refine mo1FB2 ?_
   first | exact trivial | exact rfl
 ·intro v87 H
  have hfin:=fin_st H
  repeat refine mf1FB2 ?_
  first | exact trivial | exact rfl
noncomputable def g113 (a0:Nat):Option (Bool):=
 if FloatKind.f64.format.order a0 18442240474082181119=some .gt∨FloatKind.f64.format.order a0 18442240474082181119=some .eq then
  some (decide (FloatKind.f64.format.order a0 9218868437227405311=some .lt∨FloatKind.f64.format.order a0 9218868437227405311=some .eq))
 else
  some false
noncomputable def k113:Eng.CS:={ f:=113,calm:=true,more:=0,ι:=Nat×Bool,ok:=fun i=>g113 i.1=some i.2,rds:=fun _=>[],args:=fun i=>[.w (.v (.float .f64 (i.1)))],res:=fun i=>bS i.2 }
theorem k113_ok:CalmOk Tryz.prog k113:=by
 refine R.calmspec Tryz.func113 (nq9 Tryz.func113) rfl ?_
 rintro ⟨a0,r⟩ hok q _ args hargs
 match args,hargs with
 | [_],hargs=>
 obtain ⟨rfl,_⟩:=hargs
 refine ⟨envC [] false [],6,envC_ok (css_nil),rfl,(by intro x hx;simp only [List.mem_cons,List.not_mem_nil,or_false] at hx;rcases hx with rfl<;>rfl),?_⟩
 have H:Gives (g113 a0) (fun a=>a=r):=⟨r,hok,rfl⟩
 unfold g113 at H
 clear hok
 refine if_st H (fun _ H=>?_) (fun _ H=>?_)
 all_goals
  have hfin:=fin_st H
  repeat refine mf1FB2 ?_
  first | exact trivial | exact rfl
noncomputable def g114 (a0:Nat) (a1:Nat) (a2:Int):Option (Nat):=
 (FloatKind.f64.format.mul (FloatKind.f64.nearest a2) a1).bind fun v123=>
 (FloatKind.f64.format.add a0 v123).bind fun v125=>
 some v125
noncomputable def k114:Eng.CS:={ f:=114,calm:=true,more:=0,ι:=Nat×Nat×Int×Nat,ok:=fun i=>g114 i.1 i.2.1 i.2.2.1=some i.2.2.2,rds:=fun _=>[],args:=fun i=>[.w (.v (.float .f64 (i.1))),.w (.v (.float .f64 (i.2.1))),.w (.v (.int .i64 (i.2.2.1)))],res:=fun i=>.v (.float .f64 (i.2.2.2)) }
theorem k114_ok:CalmOk Tryz.prog k114:=by
 refine R.calmspec Tryz.func114 (nq9 Tryz.func114) rfl ?_
 rintro ⟨a0,a1,a2,r⟩ hok q _ args hargs
 match args,hargs with
 | [_,_,_],hargs=>
 obtain ⟨rfl,rfl,rfl,_⟩:=hargs
 refine ⟨envC [] false [],6,envC_ok (css_nil),rfl,(by intro x hx;simp only [List.mem_cons,List.not_mem_nil,or_false] at hx;rcases hx with rfl | rfl | rfl<;>rfl),?_⟩
 have H:Gives (g114 a0 a1 a2) (fun a=>a=r):=⟨r,hok,rfl⟩
 unfold g114 at H
 clear hok
 obtain ⟨v123,hv124,H⟩:=call_st H
 refine ob_flt hv124 ?_
 obtain ⟨v125,hv126,H⟩:=call_st H
 refine ob_flt hv126 ?_
 have hfin:=fin_st H
 repeat refine mf1FB2 ?_
 first | exact trivial | exact rfl
noncomputable def g69 (a0:Nat) (a1:Nat) (a2:Nat):Option (Int×Int):=
 (g113 a0).bind fun v148=>
 if ¬(v148=true) then
  some (0,180)
 else
  (
   (g113 a1).bind fun v151=>
   if ¬(v151=true) then
    some (0,180)
   else
    (
     (g113 a2).bind fun v154=>
     if ¬(v154=true) then
      some (0,180)
     else
      (
       if FloatKind.f64.format.order a0 a1=some .gt then
        some (0,180)
       else
        (
         if FloatKind.f64.format.order a2 0=some .lt∨FloatKind.f64.format.order a2 0=some .eq then
          some (0,180)
         else
          (
           jn (α:=_) (β:=Int) (fun k183=>
             (loopO (σ:=Int) (ρ:=Int) (fun s186=>
               if s186≤10001 then
                (
                 (g114 a0 a2 s186).bind fun v199=>
                 if FloatKind.f64.format.order v199 a1=some .lt∨FloatKind.f64.format.order v199 a1=some .eq then
                  (
                   ck (inR .i64 (s186+1)) <|
                   some (.go (s186+1))
                  )
                 else
                  some (.out s186)
                )
               else
                some (.out s186)
              ) 0).bind fun o197=>
              k183 o197
           ) (fun v182=>
            if 10001<v182 then
             some (0,180)
            else
             some (v182,0)
           )
          )
        )
      )
    )
  )
noncomputable def k69:Eng.CS:={ f:=69,calm:=true,more:=0,ι:=Nat×Nat×Nat×(Int×Int),ok:=fun i=>g69 i.1 i.2.1 i.2.2.1=some i.2.2.2,rds:=fun _=>[],args:=fun i=>[.w (.v (.float .f64 (i.1))),.w (.v (.float .f64 (i.2.1))),.w (.v (.float .f64 (i.2.2.1)))],res:=fun i=>.tup [.v (.int .i64 (i.2.2.2.1)),.v (.int .i64 (i.2.2.2.2))] }
theorem k69_ok:CalmOk Tryz.prog k69:=by
 refine R.calmspec Tryz.func69 (nq9 Tryz.func69) rfl ?_
 rintro ⟨a0,a1,a2,r⟩ hok q _ args hargs
 match args,hargs with
 | [_,_,_],hargs=>
 obtain ⟨rfl,rfl,rfl,_⟩:=hargs
 refine ⟨envC [k113,k114] false [(69,6)],6,envC_ok (css_cons ⟨fun _=>k113_ok,fun h=>(by cases h)⟩ (css_cons ⟨fun _=>k114_ok,fun h=>(by cases h)⟩ (css_nil))),rfl,(by intro x hx;simp only [List.mem_cons,List.not_mem_nil,or_false] at hx;rcases hx with rfl | rfl | rfl<;>rfl),?_⟩
 have H:Gives (g69 a0 a1 a2) (fun a=>a=r):=⟨r,hok,rfl⟩
 unfold g69 at H
 clear hok
 obtain ⟨v148,hv149,H⟩:=call_st H
 refine ⟨(a0,v148),⟨hv149⟩,⟨trivial⟩,?_⟩
 refine And.intro ⟨rfl⟩ ?_
 refine if_st H (fun h150 H=>?_) (fun h150 H=>?_)
 ·have hfin:=fin_st H
  repeat refine mf1FB2 ?_
  first | exact trivial | exact rfl
 ·obtain ⟨v151,hv152,H⟩:=call_st H
  refine ⟨(a1,v151),⟨hv152⟩,⟨trivial⟩,?_⟩
  refine And.intro ⟨rfl⟩ ?_
  refine if_st H (fun h153 H=>?_) (fun h153 H=>?_)
  ·have hfin:=fin_st H
   repeat refine mf1FB2 ?_
   first | exact trivial | exact rfl
  ·obtain ⟨v154,hv155,H⟩:=call_st H
   refine ⟨(a2,v154),⟨hv155⟩,⟨trivial⟩,?_⟩
   refine And.intro ⟨rfl⟩ ?_
   refine if_st H (fun h156 H=>?_) (fun h156 H=>?_)
   ·have hfin:=fin_st H
    repeat refine mf1FB2 ?_
    first | exact trivial | exact rfl
   ·refine if_st H (fun h157 H=>?_) (fun h157 H=>?_)
    ·have hfin:=fin_st H
     repeat refine mf1FB2 ?_
     first | exact trivial | exact rfl
    ·refine if_st H (fun h158 H=>?_) (fun h158 H=>?_)
     ·have hfin:=fin_st H
      repeat refine mf1FB2 ?_
      first | exact trivial | exact rfl
     ·refine R.cut_fam H 37 [] [] (fun v182=>[(8,.v (.int .i64 (v182)))]) (fun v182=>[]) [] 0 (fun H=>?_)
      refine And.intro ?_ ?_
      ·refine R.loop_fam (bind_st H) [0,1,2] [] (fun _ s186=>[(8,.v (.int .i64 (s186)))]) (fun _ s186=>[]) 0 (fun n203 H=>?_)
       refine ⟨(n203,_),⟨H⟩,⟨trivial⟩,?_⟩
       repeat refine mo1FB2 ?_
       rintro ⟨m0,s186⟩ H _
       obtain ⟨m187,hm0,H⟩:=IG_succ H
       dsimp only at hm0
       subst hm0
       try dsimp only at H
       refine if_st H (fun h198 H=>?_) (fun h198 H=>?_)
       ·obtain ⟨v199,hv200,H⟩:=call_st H
        refine ⟨(a0,a2,s186,v199),⟨hv200⟩,⟨trivial⟩,?_⟩
        iterate 3 refine And.intro ⟨rfl⟩ ?_
        refine if_st H (fun h201 H=>?_) (fun h201 H=>?_)
        ·refine ob_ck H fun h202 H=>?_
         replace H:=some_st H
         refine ⟨(m187,s186+1),⟨H,Nat.lt_succ_self _⟩,⟨trivial⟩,⟨rfl⟩,?_⟩
         repeat refine mo1FB2 ?_
         first | exact trivial | exact rfl
        ·replace H:=some_st H
         dsimp only [stp,sm] at H
         refine ⟨s186,⟨H⟩,⟨rfl⟩,?_⟩
         repeat refine mo1FB2 ?_
         first | exact trivial | exact rfl
       ·replace H:=some_st H
        dsimp only [stp,sm] at H
        refine ⟨s186,⟨H⟩,⟨rfl⟩,?_⟩
        repeat refine mo1FB2 ?_
        first | exact trivial | exact rfl
      ·intro v182 H
       refine if_st H (fun _ H=>?_) (fun _ H=>?_)
       all_goals
        have hfin:=fin_st H
        repeat refine mf1FB2 ?_
        first | exact trivial | exact rfl
noncomputable def g94 (a0:(ByteArray×Int×Bool×List Int×Nat)):Option ((Bool×Bool×Bool×Bool×Bool)):=
 some ((decide (¬(a0.1.data.toList=(lit []).data.toList))),(decide (¬a0.2.1=0)),a0.2.2.1,(decide (0<((a0.2.2.2.1.length:Nat):Int))),(decide (¬FloatKind.f64.format.order a0.2.2.2.2 0=some .eq)))
noncomputable def k94:Eng.CS:={ f:=94,calm:=false,more:=0,ι:=(ByteArray×Int×Bool×List Int×Nat)×(Bool×Bool×Bool×Bool×Bool)×((Option Addr×Nat)),ok:=fun i=>g94 i.1=some i.2.1∧i.1.2.2.2.1.length≤i.2.2.2,rds:=fun i=>[(i.2.2.1,ei .i64 i.1.2.2.2.1)],args:=fun i=>[.w (.agg [.v (.string (i.1.1)),.v (.int .i64 (i.1.2.1)),bS i.1.2.2.1,.v (.slice i.2.2.1 i.1.2.2.2.1.length i.2.2.2),.v (.float .f64 (i.1.2.2.2.2))])],res:=fun _=>.bad,rn:=[],gr:=true,γ:=Unit,resG:=fun i _=>.agg [bS i.2.1.1,bS i.2.1.2.1,bS i.2.1.2.2.1,bS i.2.1.2.2.2.1,bS i.2.1.2.2.2.2],LG:=fun i _=>[],okG:=fun i _=>True,rdsG:=fun i _=>[],fzr:=[] }
theorem k94_ok:CSOk Tryz.prog k94:=by
 refine R.cspecG Tryz.func94 (nq9 Tryz.func94) rfl rfl (fun _=>rfl) ?_
 rintro ⟨a0,r,⟨A0_3,cp0_3⟩⟩ ⟨hok,hc0_3⟩ q hrds args hargs
 obtain ⟨hR0_3,_⟩:=hrds
 dsimp only at hR0_3 hc0_3
 dsimp only [k94] at hargs ⊢
 match args,hargs with
 | [_],hargs=>
 obtain ⟨rfl,_⟩:=hargs
 refine ⟨envC [] false [],6,envC_ok (css_nil),?_⟩
 have H:Gives (g94 a0) (fun a=>a=r):=⟨r,hok,rfl⟩
 unfold g94 at H
 clear hok
 have hfin:=fin_st H
 first | subst hfin | rw [←hfin]
 refine ⟨(),⟨trivial⟩,⟨trivial⟩,?_⟩
 repeat refine mo1FB2 ?_
 first | exact trivial | exact rfl
noncomputable def g95 (a0:Int):Option ((Bool×Bool×Bool×Bool×Bool)):=
 jn (α:=_) (β:=Bool) (fun k241=>
   if a0=1 then
    k241 (decide (a0=1))
   else
    (
     if a0=2 then
      k241 (decide (a0=2))
     else
      k241 (decide (a0=4))
    )
 ) (fun v240=>
  if v240=true then
   some (true,false,false,false,false)
  else
   (
    jn (α:=_) (β:=Bool) (fun k248=>
      if a0=3 then
       k248 (decide (a0=3))
      else
       (
        if a0=6 then
         k248 (decide (a0=6))
        else
         k248 (decide (a0=8))
       )
    ) (fun v247=>
     if v247=true then
      some (false,true,false,false,false)
     else
      (
       if a0=5 then
        some (false,false,true,false,false)
       else
        (
         if a0=7 then
          some (false,false,false,true,false)
         else
          (
           if a0=9 then
            some (false,false,false,false,true)
           else
            some (false,false,false,false,false)
          )
        )
      )
    )
   )
 )
noncomputable def k95:Eng.CS:={ f:=95,calm:=true,more:=0,ι:=Int×(Bool×Bool×Bool×Bool×Bool),ok:=fun i=>g95 i.1=some i.2,rds:=fun _=>[],args:=fun i=>[.w (.v (.int .i64 (i.1)))],res:=fun i=>.agg [bS i.2.1,bS i.2.2.1,bS i.2.2.2.1,bS i.2.2.2.2.1,bS i.2.2.2.2.2] }
theorem k95_ok:CalmOk Tryz.prog k95:=by
 refine R.calmspec Tryz.func95 (nq9 Tryz.func95) rfl ?_
 rintro ⟨a0,r⟩ hok q _ args hargs
 match args,hargs with
 | [_],hargs=>
 obtain ⟨rfl,_⟩:=hargs
 refine ⟨envC [] false [(95,5),(95,9)],6,envC_ok (css_nil),rfl,(by intro x hx;simp only [List.mem_cons,List.not_mem_nil,or_false] at hx;rcases hx with rfl<;>rfl),?_⟩
 have H:Gives (g95 a0) (fun a=>a=r):=⟨r,hok,rfl⟩
 unfold g95 at H
 clear hok
 refine R.cut_fam H 9 [2,3] [] (fun v240=>[(4,bS v240)]) (fun v240=>[]) [(0,.cells 130 [.bb false,.bb false,.bb false,.bb false,.bb false])] 0 (fun H=>?_)
 refine And.intro ?_ ?_
 ·refine if_st H (fun h242 H=>?_) (fun h242 H=>?_)
  ·refine ⟨(decide (a0=1)),⟨H⟩,⟨rfl⟩,?_⟩
   repeat refine mo1FB2 ?_
   first | exact trivial | exact rfl
  ·refine if_st H (fun h243 H=>?_) (fun h243 H=>?_)
   ·refine ⟨(decide (a0=2)),⟨H⟩,⟨rfl⟩,?_⟩
    repeat refine mo1FB2 ?_
    first | exact trivial | exact rfl
   ·refine ⟨(decide (a0=4)),⟨H⟩,⟨rfl⟩,?_⟩
    repeat refine mo1FB2 ?_
    first | exact trivial | exact rfl
 ·intro v240 H
  refine if_st H (fun h244 H=>?_) (fun h244 H=>?_)
  ·have hfin:=fin_st H
   repeat refine mf1FB2 ?_
   first | exact trivial | exact rfl
  ·refine R.cut_fam H 16 [2,3] [] (fun v247=>[(9,bS v247)]) (fun v247=>[]) [(0,.cells 130 [.bb false,.bb false,.bb false,.bb false,.bb false])] 0 (fun H=>?_)
   refine And.intro ?_ ?_
   ·refine if_st H (fun h249 H=>?_) (fun h249 H=>?_)
    ·refine ⟨(decide (a0=3)),⟨H⟩,⟨rfl⟩,?_⟩
     repeat refine mo1FB2 ?_
     first | exact trivial | exact rfl
    ·refine if_st H (fun h250 H=>?_) (fun h250 H=>?_)
     ·refine ⟨(decide (a0=6)),⟨H⟩,⟨rfl⟩,?_⟩
      repeat refine mo1FB2 ?_
      first | exact trivial | exact rfl
     ·refine ⟨(decide (a0=8)),⟨H⟩,⟨rfl⟩,?_⟩
      repeat refine mo1FB2 ?_
      first | exact trivial | exact rfl
   ·intro v247 H
    repeat' refine if_st H (fun _ H=>?_) (fun _ H=>?_)
    all_goals
     have hfin:=fin_st H
     repeat refine mf1FB2 ?_
     first | exact trivial | exact rfl
noncomputable def g48 (a0:Int) (a1:(ByteArray×Int×Bool×List Int×Nat)):Option (Bool):=
 (g94 a1).bind fun v255=>
 (g95 a0).bind fun v262=>
 if v255.1=true then
  (
   if ¬(v262.1=true) then
    some false
   else
    (
     if v255.2.1=true then
      (
       if ¬(v262.2.1=true) then
        some false
       else
        (
         if v255.2.2.1=true then
          (
           if ¬(v262.2.2.1=true) then
            some false
           else
            (
             if v255.2.2.2.1=true then
              (
               if ¬(v262.2.2.2.1=true) then
                some false
               else
                (
                 if v255.2.2.2.2=true then
                  some (decide (¬(¬(v262.2.2.2.2=true))))
                 else
                  some true
                )
              )
             else
              (
               if v255.2.2.2.2=true then
                some (decide (¬(¬(v262.2.2.2.2=true))))
               else
                some true
              )
            )
          )
         else
          (
           if v255.2.2.2.1=true then
            (
             if ¬(v262.2.2.2.1=true) then
              some false
             else
              (
               if v255.2.2.2.2=true then
                some (decide (¬(¬(v262.2.2.2.2=true))))
               else
                some true
              )
            )
           else
            (
             if v255.2.2.2.2=true then
              some (decide (¬(¬(v262.2.2.2.2=true))))
             else
              some true
            )
          )
        )
      )
     else
      (
       if v255.2.2.1=true then
        (
         if ¬(v262.2.2.1=true) then
          some false
         else
          (
           if v255.2.2.2.1=true then
            (
             if ¬(v262.2.2.2.1=true) then
              some false
             else
              (
               if v255.2.2.2.2=true then
                some (decide (¬(¬(v262.2.2.2.2=true))))
               else
                some true
              )
            )
           else
            (
             if v255.2.2.2.2=true then
              some (decide (¬(¬(v262.2.2.2.2=true))))
             else
              some true
            )
          )
        )
       else
        (
         if v255.2.2.2.1=true then
          (
           if ¬(v262.2.2.2.1=true) then
            some false
           else
            (
             if v255.2.2.2.2=true then
              some (decide (¬(¬(v262.2.2.2.2=true))))
             else
              some true
            )
          )
         else
          (
           if v255.2.2.2.2=true then
            some (decide (¬(¬(v262.2.2.2.2=true))))
           else
            some true
          )
        )
      )
    )
  )
 else
  (
   if v255.2.1=true then
    (
     if ¬(v262.2.1=true) then
      some false
     else
      (
       if v255.2.2.1=true then
        (
         if ¬(v262.2.2.1=true) then
          some false
         else
          (
           if v255.2.2.2.1=true then
            (
             if ¬(v262.2.2.2.1=true) then
              some false
             else
              (
               if v255.2.2.2.2=true then
                some (decide (¬(¬(v262.2.2.2.2=true))))
               else
                some true
              )
            )
           else
            (
             if v255.2.2.2.2=true then
              some (decide (¬(¬(v262.2.2.2.2=true))))
             else
              some true
            )
          )
        )
       else
        (
         if v255.2.2.2.1=true then
          (
           if ¬(v262.2.2.2.1=true) then
            some false
           else
            (
             if v255.2.2.2.2=true then
              some (decide (¬(¬(v262.2.2.2.2=true))))
             else
              some true
            )
          )
         else
          (
           if v255.2.2.2.2=true then
            some (decide (¬(¬(v262.2.2.2.2=true))))
           else
            some true
          )
        )
      )
    )
   else
    (
     if v255.2.2.1=true then
      (
       if ¬(v262.2.2.1=true) then
        some false
       else
        (
         if v255.2.2.2.1=true then
          (
           if ¬(v262.2.2.2.1=true) then
            some false
           else
            (
             if v255.2.2.2.2=true then
              some (decide (¬(¬(v262.2.2.2.2=true))))
             else
              some true
            )
          )
         else
          (
           if v255.2.2.2.2=true then
            some (decide (¬(¬(v262.2.2.2.2=true))))
           else
            some true
          )
        )
      )
     else
      (
       if v255.2.2.2.1=true then
        (
         if ¬(v262.2.2.2.1=true) then
          some false
         else
          (
           if v255.2.2.2.2=true then
            some (decide (¬(¬(v262.2.2.2.2=true))))
           else
            some true
          )
        )
       else
        (
         if v255.2.2.2.2=true then
          some (decide (¬(¬(v262.2.2.2.2=true))))
         else
          some true
        )
      )
    )
  )
noncomputable def k48:Eng.CS:={ f:=48,calm:=false,more:=0,ι:=Int×(ByteArray×Int×Bool×List Int×Nat)×Bool×((Option Addr×Nat)),ok:=fun i=>g48 i.1 i.2.1=some i.2.2.1∧i.2.1.2.2.2.1.length≤i.2.2.2.2,rds:=fun i=>[(i.2.2.2.1,ei .i64 i.2.1.2.2.2.1)],args:=fun i=>[.w (.v (.int .i64 (i.1))),.w (.agg [.v (.string (i.2.1.1)),.v (.int .i64 (i.2.1.2.1)),bS i.2.1.2.2.1,.v (.slice i.2.2.2.1 i.2.1.2.2.2.1.length i.2.2.2.2),.v (.float .f64 (i.2.1.2.2.2.2))])],res:=fun _=>.bad,rn:=[],gr:=true,γ:=Unit,resG:=fun i _=>bS i.2.2.1,LG:=fun i _=>[],okG:=fun i _=>True,rdsG:=fun i _=>[],fzr:=[] }
theorem k48_ok:CSOk Tryz.prog k48:=by
 refine R.cspecG Tryz.func48 (nq9 Tryz.func48) rfl rfl (fun _=>rfl) ?_
 rintro ⟨a0,a1,r,⟨A1_3,cp1_3⟩⟩ ⟨hok,hc1_3⟩ q hrds args hargs
 obtain ⟨hR1_3,_⟩:=hrds
 dsimp only at hR1_3 hc1_3
 dsimp only [k48] at hargs ⊢
 match args,hargs with
 | [_,_],hargs=>
 obtain ⟨rfl,rfl,_⟩:=hargs
 refine ⟨envC [k94,k95] false [],6,envC_ok (css_cons ⟨fun h=>(by cases h),fun _=>k94_ok⟩ (css_cons ⟨fun _=>k95_ok,fun h=>(by cases h)⟩ (css_nil))),?_⟩
 have H:Gives (g48 a0 a1) (fun a=>a=r):=⟨r,hok,rfl⟩
 unfold g48 at H
 clear hok
 obtain ⟨v255,hv256,H⟩:=call_st H
 refine ⟨(a1,v255,(A1_3,cp1_3)),⟨hv256,hc1_3⟩,⟨⟨hR1_3,trivial⟩⟩,?_⟩
 iterate 2 refine And.intro ⟨rfl⟩ ?_
 refine mo1FB2 ?_
 iterate 2 refine And.intro ⟨rfl⟩ ?_
 intro q257 g258 hq259 hok260 hrd261
 obtain ⟨v262,hv263,H⟩:=call_st H
 refine ⟨(a0,v262),⟨hv263⟩,⟨trivial⟩,?_⟩
 refine And.intro ⟨rfl⟩ ?_
 repeat' refine if_st H (fun _ H=>?_) (fun _ H=>?_)
 all_goals
  have hfin:=fin_st H
  first | subst hfin | rw [←hfin]
  refine ⟨(),⟨trivial⟩,⟨trivial⟩,?_⟩
  repeat refine mo1FB2 ?_
  first | exact trivial | exact rfl
noncomputable def g31 (a0:(Int×ByteArray×ByteArray×List ByteArray×Int×Int×Nat×Nat×Nat×ByteArray×Int×Bool×List Int×Nat×ByteArray×ByteArray)):Option (Int):=
 if ¬a0.1=9 then
  some 0
 else
  (
   (g69 a0.2.2.2.2.2.2.1 a0.2.2.2.2.2.2.2.1 a0.2.2.2.2.2.2.2.2.1).bind fun v312=>
   if ¬v312.2=0 then
    some 0
   else
    some v312.1
  )
noncomputable def k31:Eng.CS:={ f:=31,calm:=false,more:=0,ι:=(Int×ByteArray×ByteArray×List ByteArray×Int×Int×Nat×Nat×Nat×ByteArray×Int×Bool×List Int×Nat×ByteArray×ByteArray)×Int×((Option Addr×Nat)×(Option Addr×Nat)),ok:=fun i=>g31 i.1=some i.2.1∧i.1.2.2.2.1.length≤i.2.2.1.2∧i.1.2.2.2.2.2.2.2.2.2.2.2.2.1.length≤i.2.2.2.2,rds:=fun i=>[(i.2.2.1.1,es i.1.2.2.2.1),(i.2.2.2.1,ei .i64 i.1.2.2.2.2.2.2.2.2.2.2.2.2.1)],args:=fun i=>[.w (.agg [.v (.int .i64 (i.1.1)),.v (.string (i.1.2.1)),.v (.string (i.1.2.2.1)),.v (.slice i.2.2.1.1 i.1.2.2.2.1.length i.2.2.1.2),.v (.int .i64 (i.1.2.2.2.2.1)),.v (.int .i64 (i.1.2.2.2.2.2.1)),.v (.float .f64 (i.1.2.2.2.2.2.2.1)),.v (.float .f64 (i.1.2.2.2.2.2.2.2.1)),.v (.float .f64 (i.1.2.2.2.2.2.2.2.2.1)),.v (.string (i.1.2.2.2.2.2.2.2.2.2.1)),.v (.int .i64 (i.1.2.2.2.2.2.2.2.2.2.2.1)),bS i.1.2.2.2.2.2.2.2.2.2.2.2.1,.v (.slice i.2.2.2.1 i.1.2.2.2.2.2.2.2.2.2.2.2.2.1.length i.2.2.2.2),.v (.float .f64 (i.1.2.2.2.2.2.2.2.2.2.2.2.2.2.1)),.v (.string (i.1.2.2.2.2.2.2.2.2.2.2.2.2.2.2.1)),.v (.string (i.1.2.2.2.2.2.2.2.2.2.2.2.2.2.2.2))])],res:=fun _=>.bad,rn:=[],gr:=true,γ:=Unit,resG:=fun i _=>.v (.int .i64 (i.2.1)),LG:=fun i _=>[],okG:=fun i _=>True,rdsG:=fun i _=>[],fzr:=[] }
theorem k31_ok:CSOk Tryz.prog k31:=by
 refine R.cspecG Tryz.func31 (nq9 Tryz.func31) rfl rfl (fun _=>rfl) ?_
 rintro ⟨a0,r,⟨⟨A0_3,cp0_3⟩,⟨A0_12,cp0_12⟩⟩⟩ ⟨hok,hc0_3,hc0_12⟩ q hrds args hargs
 obtain ⟨hR0_3,hR0_12,_⟩:=hrds
 dsimp only at hR0_3 hc0_3 hR0_12 hc0_12
 dsimp only [k31] at hargs ⊢
 match args,hargs with
 | [_],hargs=>
 obtain ⟨rfl,_⟩:=hargs
 refine ⟨envC [k69] false [],6,envC_ok (css_cons ⟨fun _=>k69_ok,fun h=>(by cases h)⟩ (css_nil)),?_⟩
 have H:Gives (g31 a0) (fun a=>a=r):=⟨r,hok,rfl⟩
 unfold g31 at H
 clear hok
 refine if_st H (fun h311 H=>?_) (fun h311 H=>?_)
 ·have hfin:=fin_st H
  first | subst hfin | rw [←hfin]
  refine ⟨(),⟨trivial⟩,⟨trivial⟩,?_⟩
  repeat refine mo1FB2 ?_
  first | exact trivial | exact rfl
 ·obtain ⟨v312,hv313,H⟩:=call_st H
  refine ⟨(a0.2.2.2.2.2.2.1,a0.2.2.2.2.2.2.2.1,a0.2.2.2.2.2.2.2.2.1,v312),⟨hv313⟩,⟨trivial⟩,?_⟩
  iterate 3 refine And.intro ⟨rfl⟩ ?_
  refine if_st H (fun _ H=>?_) (fun _ H=>?_)
  all_goals
   have hfin:=fin_st H
   first | subst hfin | rw [←hfin]
   refine ⟨(),⟨trivial⟩,⟨trivial⟩,?_⟩
   repeat refine mo1FB2 ?_
   first | exact trivial | exact rfl
noncomputable def g52 (a0:(Int×ByteArray×ByteArray×List ByteArray×Int×Int×Nat×Nat×Nat×ByteArray×Int×Bool×List Int×Nat×ByteArray×ByteArray)) (a1:Nat):Option (Int×Bool):=
 if ¬a0.1=9 then
  some (0,false)
 else
  (
   if ¬FloatKind.f64.format.order a1 a1=some .eq then
    some (0,false)
   else
    (
     (g99 a1).bind fun v321=>
     jn (α:=_) (β:=Unit) (fun k361=>
       (g69 a0.2.2.2.2.2.2.1 a0.2.2.2.2.2.2.2.1 a0.2.2.2.2.2.2.2.2.1).bind fun v362=>
       (loopO (σ:=Int) (ρ:=(Int) ⊕ (Unit)) (fun s366=>
         if s366<v362.1 then
          (
           (g114 a0.2.2.2.2.2.2.1 a0.2.2.2.2.2.2.2.2.1 s366).bind fun v384=>
           (g99 v384).bind fun v386=>
           if v386=v321 then
            some (.out (.inl (s366)))
           else
            (
             ck (inR .i64 (s366+1)) <|
             some (.go (s366+1))
            )
          )
         else
          some (.out (.inr (())))
        ) 0).bind fun o382=>
       sm o382 (fun o390=>
         some (o390,true)
        ) (fun o391=>
         k361 ()
        )
     ) (fun v360=>
      some (0,false)
     )
    )
  )
noncomputable def k52:Eng.CS:={ f:=52,calm:=false,more:=0,ι:=(Int×ByteArray×ByteArray×List ByteArray×Int×Int×Nat×Nat×Nat×ByteArray×Int×Bool×List Int×Nat×ByteArray×ByteArray)×Nat×(Int×Bool)×((Option Addr×Nat)×(Option Addr×Nat)),ok:=fun i=>g52 i.1 i.2.1=some i.2.2.1∧i.1.2.2.2.1.length≤i.2.2.2.1.2∧i.1.2.2.2.2.2.2.2.2.2.2.2.2.1.length≤i.2.2.2.2.2,rds:=fun i=>[(i.2.2.2.1.1,es i.1.2.2.2.1),(i.2.2.2.2.1,ei .i64 i.1.2.2.2.2.2.2.2.2.2.2.2.2.1)],args:=fun i=>[.w (.agg [.v (.int .i64 (i.1.1)),.v (.string (i.1.2.1)),.v (.string (i.1.2.2.1)),.v (.slice i.2.2.2.1.1 i.1.2.2.2.1.length i.2.2.2.1.2),.v (.int .i64 (i.1.2.2.2.2.1)),.v (.int .i64 (i.1.2.2.2.2.2.1)),.v (.float .f64 (i.1.2.2.2.2.2.2.1)),.v (.float .f64 (i.1.2.2.2.2.2.2.2.1)),.v (.float .f64 (i.1.2.2.2.2.2.2.2.2.1)),.v (.string (i.1.2.2.2.2.2.2.2.2.2.1)),.v (.int .i64 (i.1.2.2.2.2.2.2.2.2.2.2.1)),bS i.1.2.2.2.2.2.2.2.2.2.2.2.1,.v (.slice i.2.2.2.2.1 i.1.2.2.2.2.2.2.2.2.2.2.2.2.1.length i.2.2.2.2.2),.v (.float .f64 (i.1.2.2.2.2.2.2.2.2.2.2.2.2.2.1)),.v (.string (i.1.2.2.2.2.2.2.2.2.2.2.2.2.2.2.1)),.v (.string (i.1.2.2.2.2.2.2.2.2.2.2.2.2.2.2.2))]),.w (.v (.float .f64 (i.2.1)))],res:=fun _=>.bad,rn:=[],gr:=true,γ:=Unit,resG:=fun i _=>.tup [.v (.int .i64 (i.2.2.1.1)),bS i.2.2.1.2],LG:=fun i _=>[],okG:=fun i _=>True,rdsG:=fun i _=>[],fzr:=[] }
theorem k52_ok:CSOk Tryz.prog k52:=by
 refine R.cspecG Tryz.func52 (nq9 Tryz.func52) rfl rfl (fun _=>rfl) ?_
 rintro ⟨a0,a1,r,⟨⟨A0_3,cp0_3⟩,⟨A0_12,cp0_12⟩⟩⟩ ⟨hok,hc0_3,hc0_12⟩ q hrds args hargs
 obtain ⟨hR0_3,hR0_12,_⟩:=hrds
 dsimp only at hR0_3 hc0_3 hR0_12 hc0_12
 dsimp only [k52] at hargs ⊢
 match args,hargs with
 | [_,_],hargs=>
 obtain ⟨rfl,rfl,_⟩:=hargs
 refine ⟨envC [k69,k99,k114] false [(52,9)],6,envC_ok (css_cons ⟨fun _=>k69_ok,fun h=>(by cases h)⟩ (css_cons ⟨fun _=>k99_ok,fun h=>(by cases h)⟩ (css_cons ⟨fun _=>k114_ok,fun h=>(by cases h)⟩ (css_nil)))),?_⟩
 have H:Gives (g52 a0 a1) (fun a=>a=r):=⟨r,hok,rfl⟩
 unfold g52 at H
 clear hok
 refine if_st H (fun h319 H=>?_) (fun h319 H=>?_)
 ·have hfin:=fin_st H
  first | subst hfin | rw [←hfin]
  refine ⟨(),⟨trivial⟩,⟨trivial⟩,?_⟩
  repeat refine mo1FB2 ?_
  first | exact trivial | exact rfl
 ·refine if_st H (fun h320 H=>?_) (fun h320 H=>?_)
  ·have hfin:=fin_st H
   first | subst hfin | rw [←hfin]
   refine ⟨(),⟨trivial⟩,⟨trivial⟩,?_⟩
   repeat refine mo1FB2 ?_
   first | exact trivial | exact rfl
  ·obtain ⟨v321,hv322,H⟩:=call_st H
   refine ⟨(a1,v321),⟨hv322⟩,⟨trivial⟩,?_⟩
   refine And.intro ⟨rfl⟩ ?_
   refine R.cut_fam H 45 [4,5] [] (fun v360=>[]) (fun v360=>[]) [(0,.cells 29 [.v (.int .i64 (a0.1)),.v (.string (a0.2.1)),.v (.string (a0.2.2.1)),.v (.slice (A0_3) (a0.2.2.2.1.length) (cp0_3)),.v (.int .i64 (a0.2.2.2.2.1)),.v (.int .i64 (a0.2.2.2.2.2.1)),.v (.float .f64 (a0.2.2.2.2.2.2.1)),.v (.float .f64 (a0.2.2.2.2.2.2.2.1)),.v (.float .f64 (a0.2.2.2.2.2.2.2.2.1)),.v (.string (a0.2.2.2.2.2.2.2.2.2.1)),.v (.int .i64 (a0.2.2.2.2.2.2.2.2.2.2.1)),bS a0.2.2.2.2.2.2.2.2.2.2.2.1,.v (.slice (A0_12) (a0.2.2.2.2.2.2.2.2.2.2.2.2.1.length) (cp0_12)),.v (.float .f64 (a0.2.2.2.2.2.2.2.2.2.2.2.2.2.1)),.v (.string (a0.2.2.2.2.2.2.2.2.2.2.2.2.2.2.1)),.v (.string (a0.2.2.2.2.2.2.2.2.2.2.2.2.2.2.2))]),(1,.cells 3 [.v (.int .i64 (0))]),(2,.cells 4 [.bb false]),(13,.cells 124 [.v (.int .u64 (v321))])] 0 (fun H=>?_)
   refine And.intro ?_ ?_
   ·obtain ⟨v362,hv363,H⟩:=call_st H
    refine ⟨(a0.2.2.2.2.2.2.1,a0.2.2.2.2.2.2.2.1,a0.2.2.2.2.2.2.2.2.1,v362),⟨hv363⟩,⟨trivial⟩,?_⟩
    iterate 3 refine And.intro ⟨rfl⟩ ?_
    refine R.loop_fam (bind_st H) [0,1,3,5] [] (fun _ s366=>[(7,.v (.int .i64 (s366)))]) (fun _ s366=>[]) 0 (fun n392 H=>?_)
    refine ⟨(n392,_),⟨H⟩,⟨trivial⟩,?_⟩
    repeat refine mo1FB2 ?_
    rintro ⟨m0,s366⟩ H _
    obtain ⟨m367,hm0,H⟩:=IG_succ H
    dsimp only at hm0
    subst hm0
    try dsimp only at H
    refine if_st H (fun h383 H=>?_) (fun h383 H=>?_)
    ·obtain ⟨v384,hv385,H⟩:=call_st H
     refine ⟨(a0.2.2.2.2.2.2.1,a0.2.2.2.2.2.2.2.2.1,s366,v384),⟨hv385⟩,⟨trivial⟩,?_⟩
     iterate 3 refine And.intro ⟨rfl⟩ ?_
     refine And.intro ⟨by kernel_rfl⟩ ?_
     obtain ⟨v386,hv387,H⟩:=call_st H
     refine ⟨(v384,v386),⟨hv387⟩,⟨trivial⟩,?_⟩
     refine And.intro ⟨rfl⟩ ?_
     refine if_st H (fun h388 H=>?_) (fun h388 H=>?_)
     ·replace H:=some_st H
      dsimp only [stp,sm] at H
      have hfin:=fin_st H
      first | subst hfin | rw [←hfin]
      refine ⟨(),⟨trivial⟩,⟨trivial⟩,?_⟩
      repeat refine mo1FB2 ?_
      first | exact trivial | exact rfl
     ·refine ob_ck H fun h389 H=>?_
      replace H:=some_st H
      refine ⟨(m367,s366+1),⟨H,Nat.lt_succ_self _⟩,⟨trivial⟩,⟨rfl⟩,?_⟩
      repeat refine mo1FB2 ?_
      first | exact trivial | exact rfl
    ·replace H:=some_st H
     dsimp only [stp,sm] at H
     refine ⟨(),⟨H⟩,⟨rfl⟩,?_⟩
     repeat refine mo1FB2 ?_
     first | exact trivial | exact rfl
   ·intro v360 H
    have hfin:=fin_st H
    first | subst hfin | rw [←hfin]
    refine ⟨(),⟨trivial⟩,⟨trivial⟩,?_⟩
    repeat refine mo1FB2 ?_
    first | exact trivial | exact rfl
noncomputable def g188 (a0:Int):Option (Bool):=
 if a0<1 then
  some false
 else
  (
   if 9999<a0 then
    some false
   else
    (
     if ¬(Int.tmod a0 4)=0 then
      some false
     else
      (
       if ¬(Int.tmod a0 100)=0 then
        some true
       else
        some (decide ((Int.tmod a0 400)=0))
      )
    )
  )
noncomputable def k188:Eng.CS:={ f:=188,calm:=true,more:=0,ι:=Int×Bool,ok:=fun i=>g188 i.1=some i.2,rds:=fun _=>[],args:=fun i=>[.w (.v (.int .i64 (i.1)))],res:=fun i=>bS i.2 }
theorem k188_ok:CalmOk Tryz.prog k188:=by
 refine R.calmspec Tryz.func188 (nq9 Tryz.func188) rfl ?_
 rintro ⟨a0,r⟩ hok q _ args hargs
 match args,hargs with
 | [_],hargs=>
 obtain ⟨rfl,_⟩:=hargs
 refine ⟨envC [] false [],6,envC_ok (css_nil),rfl,(by intro x hx;simp only [List.mem_cons,List.not_mem_nil,or_false] at hx;rcases hx with rfl<;>rfl),?_⟩
 have H:Gives (g188 a0) (fun a=>a=r):=⟨r,hok,rfl⟩
 unfold g188 at H
 clear hok
 refine if_st H (fun h398 H=>?_) (fun h398 H=>?_)
 ·have hfin:=fin_st H
  repeat refine mf1FB2 ?_
  first | exact trivial | exact rfl
 ·refine if_st H (fun h399 H=>?_) (fun h399 H=>?_)
  ·have hfin:=fin_st H
   repeat refine mf1FB2 ?_
   first | exact trivial | exact rfl
  ·refine And.intro ⟨by decide⟩ ?_
   refine if_st H (fun h400 H=>?_) (fun h400 H=>?_)
   ·have hfin:=fin_st H
    repeat refine mf1FB2 ?_
    first | exact trivial | exact rfl
   ·refine And.intro ⟨by decide⟩ ?_
    refine if_st H (fun h401 H=>?_) (fun h401 H=>?_)
    ·have hfin:=fin_st H
     repeat refine mf1FB2 ?_
     first | exact trivial | exact rfl
    ·refine And.intro ⟨by decide⟩ ?_
     have hfin:=fin_st H
     repeat refine mf1FB2 ?_
     first | exact trivial | exact rfl
noncomputable def g150 (a0:ByteArray):Option (Int×Bool):=
 jn (α:=_) (β:=Int) (fun k461=>
   (loopO (σ:=Int×Int) (ρ:=(Unit) ⊕ (Int)) (fun s464=>
     if s464.2<(a0.size:Int) then
      (
       ck (0≤s464.2∧s464.2<(a0.size:Int)) <|
       if ((a0.data.toList[s464.2.toNat]?.getD 0).toNat:Int)<48 then
        some (.out (.inl (())))
       else
        (
         ck (0≤s464.2∧s464.2<(a0.size:Int)) <|
         if 57<((a0.data.toList[s464.2.toNat]?.getD 0).toNat:Int) then
          some (.out (.inl (())))
         else
          (
           ck (inR .i64 (10 * s464.1)) <|
           ck (0≤s464.2∧s464.2<(a0.size:Int)) <|
           ck (inR .u8 (((a0.data.toList[s464.2.toNat]?.getD 0).toNat:Int)-48)) <|
           ck (inR .i64 (((a0.data.toList[s464.2.toNat]?.getD 0).toNat:Int)-48)) <|
           ck (inR .i64 ((10 * s464.1)+(((a0.data.toList[s464.2.toNat]?.getD 0).toNat:Int)-48))) <|
           ck (inR .i64 (s464.2+1)) <|
           some (.go ((10 * s464.1)+(((a0.data.toList[s464.2.toNat]?.getD 0).toNat:Int)-48),s464.2+1))
          )
        )
      )
     else
      some (.out (.inr (s464.1)))
    ) (0,0)).bind fun o488=>
   sm o488 (fun o500=>
     some (0,false)
    ) (fun o501=>
     k461 o501
    )
 ) (fun v460=>
  some (v460,true)
 )
noncomputable def k150:Eng.CS:={ f:=150,calm:=true,more:=0,ι:=ByteArray×(Int×Bool),ok:=fun i=>g150 i.1=some i.2,rds:=fun _=>[],args:=fun i=>[.w (.v (.string (i.1)))],res:=fun i=>.tup [.v (.int .i64 (i.2.1)),bS i.2.2] }
theorem k150_ok:CalmOk Tryz.prog k150:=by
 refine R.calmspec Tryz.func150 (nq9 Tryz.func150) rfl ?_
 rintro ⟨a0,r⟩ hok q _ args hargs
 match args,hargs with
 | [_],hargs=>
 obtain ⟨rfl,_⟩:=hargs
 refine ⟨envC [] false [(150,8)],6,envC_ok (css_nil),rfl,(by intro x hx;simp only [List.mem_cons,List.not_mem_nil,or_false] at hx;rcases hx with rfl<;>rfl),?_⟩
 have H:Gives (g150 a0) (fun a=>a=r):=⟨r,hok,rfl⟩
 unfold g150 at H
 clear hok
 refine R.cut_fam H 10 [] [] (fun v460=>[(4,.v (.int .i64 (v460)))]) (fun v460=>[]) [] 0 (fun H=>?_)
 refine And.intro ?_ ?_
 ·refine R.loop_fam (bind_st H) [0] [] (fun _ s464=>[(4,.v (.int .i64 (s464.1))),(5,.v (.int .i64 (s464.2)))]) (fun _ s464=>[]) 0 (fun n502 H=>?_)
  refine ⟨(n502,_),⟨H⟩,⟨trivial⟩,?_⟩
  repeat refine mo1FB2 ?_
  rintro ⟨m0,s464⟩ H _
  obtain ⟨m465,hm0,H⟩:=IG_succ H
  dsimp only at hm0
  subst hm0
  try dsimp only at H
  refine if_st H (fun h489 H=>?_) (fun h489 H=>?_)
  ·refine ob_ck H fun h490 H=>?_
   refine if_st H (fun h491 H=>?_) (fun h491 H=>?_)
   ·replace H:=some_st H
    dsimp only [stp,sm] at H
    have hfin:=fin_st H
    repeat refine mf1FB2 ?_
    first | exact trivial | exact rfl
   ·refine ob_ck H fun h492 H=>?_
    refine if_st H (fun h493 H=>?_) (fun h493 H=>?_)
    ·replace H:=some_st H
     dsimp only [stp,sm] at H
     have hfin:=fin_st H
     repeat refine mf1FB2 ?_
     first | exact trivial | exact rfl
    ·refine ob_ck H fun h494 H=>?_
     refine ob_ck H fun h495 H=>?_
     refine ob_ck H fun h496 H=>?_
     refine ob_ck H fun h497 H=>?_
     refine ob_ck H fun h498 H=>?_
     refine ob_ck H fun h499 H=>?_
     replace H:=some_st H
     refine ⟨(m465,((10 * s464.1)+(((a0.data.toList[s464.2.toNat]?.getD 0).toNat:Int)-48),s464.2+1)),⟨H,Nat.lt_succ_self _⟩,⟨trivial⟩,⟨rfl⟩,?_⟩
     repeat refine mo1FB2 ?_
     first | exact trivial | exact rfl
  ·replace H:=some_st H
   dsimp only [stp,sm] at H
   refine ⟨s464.1,⟨H⟩,⟨rfl⟩,?_⟩
   repeat refine mo1FB2 ?_
   first | exact trivial | exact rfl
 ·intro v460 H
  have hfin:=fin_st H
  repeat refine mf1FB2 ?_
  first | exact trivial | exact rfl
end Go.Proofs.YtlehbfahkjhgnaaGreat
end
section
namespace Go.Proofs.YtlehbfahkjhgnaaGreat
open Go Go.Eng Go.RowKit
set_option maxHeartbeats 2000000 in
set_option maxRecDepth 100000 in
theorem days_1 (y:Int) (hy:1≤y) (hy2:y≤9999) (w:World) :
  Calls Tryz.prog 151 #[.int .i64 y,.int .i64 1] w fun e w'=>e=.returned (.int .i64 31)∧Below w.heap.size w w':=by
 have e1:(decide (y<1))=false:=by simp;omega
 have e2:(decide (9999<y))=false:=by simp;omega
 go_enter Tryz.func151,Tryz.ntmps151
 go_wp2_with (first | go_in)
 go_ret
 exact ⟨rfl,(Below.refl _ w).alloc (Nat.le_refl _) _⟩
set_option maxHeartbeats 2000000 in
set_option maxRecDepth 100000 in
theorem days_3 (y:Int) (hy:1≤y) (hy2:y≤9999) (w:World) :
  Calls Tryz.prog 151 #[.int .i64 y,.int .i64 3] w fun e w'=>e=.returned (.int .i64 31)∧Below w.heap.size w w':=by
 have e1:(decide (y<1))=false:=by simp;omega
 have e2:(decide (9999<y))=false:=by simp;omega
 go_enter Tryz.func151,Tryz.ntmps151
 go_wp2_with (first | go_in)
 go_ret
 exact ⟨rfl,(Below.refl _ w).alloc (Nat.le_refl _) _⟩
set_option maxHeartbeats 2000000 in
set_option maxRecDepth 100000 in
theorem days_4 (y:Int) (hy:1≤y) (hy2:y≤9999) (w:World) :
  Calls Tryz.prog 151 #[.int .i64 y,.int .i64 4] w fun e w'=>e=.returned (.int .i64 30)∧Below w.heap.size w w':=by
 have e1:(decide (y<1))=false:=by simp;omega
 have e2:(decide (9999<y))=false:=by simp;omega
 go_enter Tryz.func151,Tryz.ntmps151
 go_wp2_with (first | go_in)
 go_ret
 exact ⟨rfl,(Below.refl _ w).alloc (Nat.le_refl _) _⟩
set_option maxHeartbeats 2000000 in
set_option maxRecDepth 100000 in
theorem days_5 (y:Int) (hy:1≤y) (hy2:y≤9999) (w:World) :
  Calls Tryz.prog 151 #[.int .i64 y,.int .i64 5] w fun e w'=>e=.returned (.int .i64 31)∧Below w.heap.size w w':=by
 have e1:(decide (y<1))=false:=by simp;omega
 have e2:(decide (9999<y))=false:=by simp;omega
 go_enter Tryz.func151,Tryz.ntmps151
 go_wp2_with (first | go_in)
 go_ret
 exact ⟨rfl,(Below.refl _ w).alloc (Nat.le_refl _) _⟩
set_option maxHeartbeats 2000000 in
set_option maxRecDepth 100000 in
theorem days_6 (y:Int) (hy:1≤y) (hy2:y≤9999) (w:World) :
  Calls Tryz.prog 151 #[.int .i64 y,.int .i64 6] w fun e w'=>e=.returned (.int .i64 30)∧Below w.heap.size w w':=by
 have e1:(decide (y<1))=false:=by simp;omega
 have e2:(decide (9999<y))=false:=by simp;omega
 go_enter Tryz.func151,Tryz.ntmps151
 go_wp2_with (first | go_in)
 go_ret
 exact ⟨rfl,(Below.refl _ w).alloc (Nat.le_refl _) _⟩
set_option maxHeartbeats 2000000 in
set_option maxRecDepth 100000 in
theorem days_7 (y:Int) (hy:1≤y) (hy2:y≤9999) (w:World) :
  Calls Tryz.prog 151 #[.int .i64 y,.int .i64 7] w fun e w'=>e=.returned (.int .i64 31)∧Below w.heap.size w w':=by
 have e1:(decide (y<1))=false:=by simp;omega
 have e2:(decide (9999<y))=false:=by simp;omega
 go_enter Tryz.func151,Tryz.ntmps151
 go_wp2_with (first | go_in)
 go_ret
 exact ⟨rfl,(Below.refl _ w).alloc (Nat.le_refl _) _⟩
set_option maxHeartbeats 2000000 in
set_option maxRecDepth 100000 in
theorem days_8 (y:Int) (hy:1≤y) (hy2:y≤9999) (w:World) :
  Calls Tryz.prog 151 #[.int .i64 y,.int .i64 8] w fun e w'=>e=.returned (.int .i64 31)∧Below w.heap.size w w':=by
 have e1:(decide (y<1))=false:=by simp;omega
 have e2:(decide (9999<y))=false:=by simp;omega
 go_enter Tryz.func151,Tryz.ntmps151
 go_wp2_with (first | go_in)
 go_ret
 exact ⟨rfl,(Below.refl _ w).alloc (Nat.le_refl _) _⟩
set_option maxHeartbeats 2000000 in
set_option maxRecDepth 100000 in
theorem days_9 (y:Int) (hy:1≤y) (hy2:y≤9999) (w:World) :
  Calls Tryz.prog 151 #[.int .i64 y,.int .i64 9] w fun e w'=>e=.returned (.int .i64 30)∧Below w.heap.size w w':=by
 have e1:(decide (y<1))=false:=by simp;omega
 have e2:(decide (9999<y))=false:=by simp;omega
 go_enter Tryz.func151,Tryz.ntmps151
 go_wp2_with (first | go_in)
 go_ret
 exact ⟨rfl,(Below.refl _ w).alloc (Nat.le_refl _) _⟩
set_option maxHeartbeats 2000000 in
set_option maxRecDepth 100000 in
theorem days_10 (y:Int) (hy:1≤y) (hy2:y≤9999) (w:World) :
  Calls Tryz.prog 151 #[.int .i64 y,.int .i64 10] w fun e w'=>e=.returned (.int .i64 31)∧Below w.heap.size w w':=by
 have e1:(decide (y<1))=false:=by simp;omega
 have e2:(decide (9999<y))=false:=by simp;omega
 go_enter Tryz.func151,Tryz.ntmps151
 go_wp2_with (first | go_in)
 go_ret
 exact ⟨rfl,(Below.refl _ w).alloc (Nat.le_refl _) _⟩
set_option maxHeartbeats 2000000 in
set_option maxRecDepth 100000 in
theorem days_11 (y:Int) (hy:1≤y) (hy2:y≤9999) (w:World) :
  Calls Tryz.prog 151 #[.int .i64 y,.int .i64 11] w fun e w'=>e=.returned (.int .i64 30)∧Below w.heap.size w w':=by
 have e1:(decide (y<1))=false:=by simp;omega
 have e2:(decide (9999<y))=false:=by simp;omega
 go_enter Tryz.func151,Tryz.ntmps151
 go_wp2_with (first | go_in)
 go_ret
 exact ⟨rfl,(Below.refl _ w).alloc (Nat.le_refl _) _⟩
set_option maxHeartbeats 2000000 in
set_option maxRecDepth 100000 in
theorem days_12 (y:Int) (hy:1≤y) (hy2:y≤9999) (w:World) :
  Calls Tryz.prog 151 #[.int .i64 y,.int .i64 12] w fun e w'=>e=.returned (.int .i64 31)∧Below w.heap.size w w':=by
 have e1:(decide (y<1))=false:=by simp;omega
 have e2:(decide (9999<y))=false:=by simp;omega
 go_enter Tryz.func151,Tryz.ntmps151
 go_wp2_with (first | go_in)
 go_ret
 exact ⟨rfl,(Below.refl _ w).alloc (Nat.le_refl _) _⟩
set_option maxHeartbeats 2000000 in
set_option maxRecDepth 100000 in
theorem days_2t (y:Int) (hy:1≤y) (hy2:y≤9999) (w:World) (hcl:∀w1,Calls Tryz.prog 188 #[.int .i64 y] w1 fun e w'=>e=.returned (.bool true)∧Below w1.heap.size w1 w') :
  Calls Tryz.prog 151 #[.int .i64 y,.int .i64 2] w fun e w'=>e=.returned (.int .i64 29)∧Below w.heap.size w w':=by
 have e1:(decide (y<1))=false:=by simp;omega
 have e2:(decide (9999<y))=false:=by simp;omega
 go_enter Tryz.func151,Tryz.ntmps151
 go_wp2_with (go_at_call 188;refine (hcl _).mono ?_;rintro e w' ⟨rfl,hb'⟩;have hc:w'.cell? ⟨w.heap.size,1,none⟩=some (Value.int .i64 28):=cell_later hb' ((cell_of_heap (heap_alloc_new w _)).trans rfl))
 go_ret
 exact ⟨rfl,((Below.refl _ w).alloc (Nat.le_refl _) _).trans (hb'.mono (by first | (simp;done) | (simp;omega)))⟩
set_option maxHeartbeats 2000000 in
set_option maxRecDepth 100000 in
theorem days_2f (y:Int) (hy:1≤y) (hy2:y≤9999) (w:World) (hcl:∀w1,Calls Tryz.prog 188 #[.int .i64 y] w1 fun e w'=>e=.returned (.bool false)∧Below w1.heap.size w1 w') :
  Calls Tryz.prog 151 #[.int .i64 y,.int .i64 2] w fun e w'=>e=.returned (.int .i64 28)∧Below w.heap.size w w':=by
 have e1:(decide (y<1))=false:=by simp;omega
 have e2:(decide (9999<y))=false:=by simp;omega
 go_enter Tryz.func151,Tryz.ntmps151
 go_wp2_with (go_at_call 188;refine (hcl _).mono ?_;rintro e w' ⟨rfl,hb'⟩;have hc:w'.cell? ⟨w.heap.size,1,none⟩=some (Value.int .i64 28):=cell_later hb' ((cell_of_heap (heap_alloc_new w _)).trans rfl))
 go_ret
 exact ⟨rfl,((Below.refl _ w).alloc (Nat.le_refl _) _).trans (hb'.mono (by first | (simp;done) | (simp;omega)))⟩
set_option maxHeartbeats 2000000 in
set_option maxRecDepth 100000 in
theorem days_0 (y m:Int) (h0:y<1∨9999<y∨m<1∨12<m) (w:World) :
  Calls Tryz.prog 151 #[.int .i64 y,.int .i64 m] w fun e w'=>e=.returned (.int .i64 0)∧Below w.heap.size w w':=by
 have e1:(decide (y<1) || decide (9999<y) || decide (m<1) || decide (12<m))=true:=by simp;omega
 go_enter Tryz.func151,Tryz.ntmps151
 go_wp2_with (first | go_in)
 all_goals go_ret
 all_goals exact ⟨rfl,Below.refl _ _⟩
def daysIn (m:Int):Int:=if m=2 then 28 else if m=4∨m=6∨m=9∨m=11 then 30 else 31
noncomputable def g151 (a0 a1:Int):Option Int:=
 if a0<1∨9999<a0∨a1<1∨12<a1 then some 0 else if a1=2 then (g188 a0).bind fun b=>some (if b=true then 29 else 28) else some (daysIn a1)
noncomputable def k151:Eng.CS:={ f:=151,calm:=true,more:=0,ι:=Int×Int×Int,ok:=fun i=>g151 i.1 i.2.1=some i.2.2,rds:=fun _=>[],args:=fun i=>[.w (.v (.int .i64 i.1)),.w (.v (.int .i64 i.2.1))],res:=fun i=>.v (.int .i64 i.2.2) }
theorem k151_ok:CalmOk Tryz.prog k151:=by
 refine ⟨fun args w=>?_,?_⟩
 ·have hname' : ¬ Tryz.f151.name = "runtime.NumGoroutine" := by simpa using (nq9 Tryz.func151)
  obtain ⟨c,hc⟩:=Option.isSome_iff_exists.1 (show Tryz.f151.body.isSome=true from rfl)
  have hP:=Tryz.func151
  simp [callFunc,k151,hP,hname',hc]
 ·rintro w q S ⟨y,m,r⟩ vs hok _ hm hargs
  have hk:g151 y m=some r:=hok
  clear hok
  match vs,hargs with
  | [v,u],hargs=>
  have hs:v=.int .i64 y:=hargs.1
  have hu:u=.int .i64 m:=hargs.2.1
  subst hs hu
  unfold g151 at hk
  split at hk
  ·rename_i h;cases hk;exact days_0 y m h w
  rename_i h
  split at hk
  ·rename_i h2
   subst h2
   cases hg:g188 y with
   | none=>rw [hg] at hk;cases hk
   | some b=>
    rw [hg] at hk
    have hl:∀w1,Calls Tryz.prog 188 #[.int .i64 y] w1 fun e w'=>e=.returned (.bool b)∧Below w1.heap.size w1 w':=fun w1=>
     (k188_ok.2 w1 (fun _ _=>none) S (y,b) [.int .i64 y] hg trivial (fun _ _ _ h=>by cases h) ⟨rfl,trivial⟩).mono fun e w' h=>⟨h.1.trans (by cases b<;>rfl),h.2⟩
    cases b with
    | true=>cases hk;exact days_2t y (by omega) (by omega) w hl
    | false=>cases hk;exact days_2f y (by omega) (by omega) w hl
  ·rename_i h2
   have hm:m=1∨m=3∨m=4∨m=5∨m=6∨m=7∨m=8∨m=9∨m=10∨m=11∨m=12:=by omega
   have h3:r=daysIn m:=(Option.some.inj hk).symm
   subst h3
   rcases hm with rfl | rfl | rfl | rfl | rfl | rfl | rfl | rfl | rfl | rfl | rfl
   ·exact days_1 y (by omega) (by omega) w
   ·exact days_3 y (by omega) (by omega) w
   ·exact days_4 y (by omega) (by omega) w
   ·exact days_5 y (by omega) (by omega) w
   ·exact days_6 y (by omega) (by omega) w
   ·exact days_7 y (by omega) (by omega) w
   ·exact days_8 y (by omega) (by omega) w
   ·exact days_9 y (by omega) (by omega) w
   ·exact days_10 y (by omega) (by omega) w
   ·exact days_11 y (by omega) (by omega) w
   ·exact days_12 y (by omega) (by omega) w
end Go.Proofs.YtlehbfahkjhgnaaGreat
end
section
set_option maxRecDepth 8000
set_option maxHeartbeats 4000000
namespace Go.Proofs.YtlehbfahkjhgnaaGreat
open Go Go.Eng
noncomputable def g98 (a0:ByteArray):Option ((Int×Int×Int)×Bool):=
 if ¬(a0.size:Int)=10 then
  some ((0,0,0),false)
 else
  (
   ck (0≤(4:Int)∧4<(a0.size:Int)) <|
   if ¬((a0.data.toList[(4:Int).toNat]?.getD 0).toNat:Int)=45 then
    some ((0,0,0),false)
   else
    (
     ck (0≤(7:Int)∧7<(a0.size:Int)) <|
     if ¬((a0.data.toList[(7:Int).toNat]?.getD 0).toNat:Int)=45 then
      some ((0,0,0),false)
     else
      (
       ck (0≤(0:Int)∧(0:Int)≤(4:Int)∧(4:Int)≤(a0.size:Int)) <|
       (g150 (a0.extract (0:Int).toNat (4:Int).toNat)).bind fun v16=>
       ck (0≤(5:Int)∧(5:Int)≤(7:Int)∧(7:Int)≤(a0.size:Int)) <|
       (g150 (a0.extract (5:Int).toNat (7:Int).toNat)).bind fun v19=>
       ck (0≤(8:Int)∧(8:Int)≤(a0.size:Int)∧(a0.size:Int)≤(a0.size:Int)) <|
       (g150 (a0.extract (8:Int).toNat (a0.size:Int).toNat)).bind fun v22=>
       jn (α:=_) (β:=Bool) (fun k52=>
         if ¬(v16.2=true) then
          k52 true
         else
          (
           if ¬(v19.2=true) then
            k52 true
           else
            (
             if ¬(v22.2=true) then
              k52 true
             else
              (
               if v22.1<1 then
                k52 true
               else
                (
                 (g151 v16.1 v19.1).bind fun v57=>
                 k52 (decide (v57<v22.1))
                )
              )
            )
          )
       ) (fun v51=>
        if v51=true then
         some ((0,0,0),false)
        else
         some ((v16.1,v19.1,v22.1),true)
       )
      )
    )
  )
noncomputable def k98:Eng.CS:={ f:=98,calm:=true,more:=0,ι:=ByteArray×((Int×Int×Int)×Bool),ok:=fun i=>g98 i.1=some i.2,rds:=fun _=>[],args:=fun i=>[.w (.v (.string (i.1)))],res:=fun i=>.tup [.agg [.v (.int .i64 (i.2.1.1)),.v (.int .i64 (i.2.1.2.1)),.v (.int .i64 (i.2.1.2.2))],bS i.2.2] }
theorem k98_ok:CalmOk Tryz.prog k98:=by
 refine R.calmspec Tryz.func98 (nq9 Tryz.func98) rfl ?_
 rintro ⟨a0,r⟩ hok q _ args hargs
 match args,hargs with
 | [_],hargs=>
 obtain ⟨rfl,_⟩:=hargs
 refine ⟨envC [k150,k151] false [(98,7)],6,envC_ok (css_cons ⟨fun _=>k150_ok,fun h=>(by cases h)⟩ (css_cons ⟨fun _=>k151_ok,fun h=>(by cases h)⟩ (css_nil))),rfl,(by intro x hx;simp only [List.mem_cons,List.not_mem_nil,or_false] at hx;rcases hx with rfl<;>rfl),?_⟩
 have H:Gives (g98 a0) (fun a=>a=r):=⟨r,hok,rfl⟩
 unfold g98 at H
 clear hok
 refine if_st H (fun h10 H=>?_) (fun h10 H=>?_)
 ·have hfin:=fin_st H
  repeat refine mf1FB2 ?_
  first | exact trivial | exact rfl
 ·refine ob_ck H fun h11 H=>?_
  refine if_st H (fun h12 H=>?_) (fun h12 H=>?_)
  ·have hfin:=fin_st H
   repeat refine mf1FB2 ?_
   first | exact trivial | exact rfl
  ·refine ob_ck H fun h13 H=>?_
   refine if_st H (fun h14 H=>?_) (fun h14 H=>?_)
   ·have hfin:=fin_st H
    repeat refine mf1FB2 ?_
    first | exact trivial | exact rfl
   ·refine ob_ck H fun h15 H=>?_
    obtain ⟨v16,hv17,H⟩:=call_st H
    refine ⟨(a0.extract (0:Int).toNat (4:Int).toNat,v16),⟨hv17⟩,⟨trivial⟩,?_⟩
    refine And.intro ⟨rfl⟩ ?_
    refine ob_ck H fun h18 H=>?_
    obtain ⟨v19,hv20,H⟩:=call_st H
    refine ⟨(a0.extract (5:Int).toNat (7:Int).toNat,v19),⟨hv20⟩,⟨trivial⟩,?_⟩
    refine And.intro ⟨rfl⟩ ?_
    refine ob_ck H fun h21 H=>?_
    obtain ⟨v22,hv23,H⟩:=call_st H
    refine ⟨(a0.extract (8:Int).toNat (a0.size:Int).toNat,v22),⟨hv23⟩,⟨trivial⟩,?_⟩
    refine And.intro ⟨rfl⟩ ?_
    refine R.cut_fam H 61 [2,4,6,8] [] (fun v51=>[(62,bS v51)]) (fun v51=>[]) [(0,.cells 135 [.v (.int .i64 (0)),.v (.int .i64 (0)),.v (.int .i64 (0))])] 0 (fun H=>?_)
    refine And.intro ?_ ?_
    ·refine if_st H (fun h53 H=>?_) (fun h53 H=>?_)
     ·refine ⟨true,⟨H⟩,⟨rfl⟩,?_⟩
      repeat refine mo1FB2 ?_
      first | exact trivial | exact rfl
     ·refine if_st H (fun h54 H=>?_) (fun h54 H=>?_)
      ·refine ⟨true,⟨H⟩,⟨rfl⟩,?_⟩
       repeat refine mo1FB2 ?_
       first | exact trivial | exact rfl
      ·refine if_st H (fun h55 H=>?_) (fun h55 H=>?_)
       ·refine ⟨true,⟨H⟩,⟨rfl⟩,?_⟩
        repeat refine mo1FB2 ?_
        first | exact trivial | exact rfl
       ·refine if_st H (fun h56 H=>?_) (fun h56 H=>?_)
        ·refine ⟨true,⟨H⟩,⟨rfl⟩,?_⟩
         repeat refine mo1FB2 ?_
         first | exact trivial | exact rfl
        ·obtain ⟨v57,hv58,H⟩:=call_st H
         refine ⟨(v16.1,v19.1,v57),⟨hv58⟩,⟨trivial⟩,?_⟩
         iterate 2 refine And.intro ⟨rfl⟩ ?_
         refine ⟨(decide (v57<v22.1)),⟨H⟩,⟨rfl⟩,?_⟩
         repeat refine mo1FB2 ?_
         first | exact trivial | exact rfl
    ·intro v51 H
     refine if_st H (fun _ H=>?_) (fun _ H=>?_)
     all_goals
      have hfin:=fin_st H
      repeat refine mf1FB2 ?_
      first | exact trivial | exact rfl
noncomputable def g50 (a0:ByteArray):Option (Int):=
 (g98 a0).bind fun v63=>
 if ¬(v63.2=true) then
  some 200
 else
  some 0
noncomputable def k50:Eng.CS:={ f:=50,calm:=true,more:=0,ι:=ByteArray×Int,ok:=fun i=>g50 i.1=some i.2,rds:=fun _=>[],args:=fun i=>[.w (.v (.string (i.1)))],res:=fun i=>.v (.int .i64 (i.2)) }
theorem k50_ok:CalmOk Tryz.prog k50:=by
 refine R.calmspec Tryz.func50 (nq9 Tryz.func50) rfl ?_
 rintro ⟨a0,r⟩ hok q _ args hargs
 match args,hargs with
 | [_],hargs=>
 obtain ⟨rfl,_⟩:=hargs
 refine ⟨envC [k98] false [],6,envC_ok (css_cons ⟨fun _=>k98_ok,fun h=>(by cases h)⟩ (css_nil)),rfl,(by intro x hx;simp only [List.mem_cons,List.not_mem_nil,or_false] at hx;rcases hx with rfl<;>rfl),?_⟩
 have H:Gives (g50 a0) (fun a=>a=r):=⟨r,hok,rfl⟩
 unfold g50 at H
 clear hok
 obtain ⟨v63,hv64,H⟩:=call_st H
 refine ⟨(a0,v63),⟨hv64⟩,⟨trivial⟩,?_⟩
 refine And.intro ⟨rfl⟩ ?_
 refine if_st H (fun _ H=>?_) (fun _ H=>?_)
 all_goals
  have hfin:=fin_st H
  repeat refine mf1FB2 ?_
  first | exact trivial | exact rfl
end Go.Proofs.YtlehbfahkjhgnaaGreat
end
section
namespace Go.Eng
open Ieee
abbrev F64:Format:=FloatKind.f64.format
theorem f64_binade:F64.binade=4503599627370496:=by decide
theorem f64_inf:F64.infRung=9218868437227405312:=by decide
theorem f64_sw:F64.signWeight=9223372036854775808:=by decide
theorem f64_lp:F64.leastPlace=-1074:=by decide
def nn (d:Datum):Prop:=∀s t,d≠.nan s t
theorem read_word (s:Bool) {r:Nat} (h:r≤F64.infRung):nn (F64.read (F64.word s r))∧(r<F64.infRung→∃m p,F64.read (F64.word s r)=.number s m p):=by
 rw [f64_inf] at h
 have e1:F64.word s r / F64.signWeight % 2=if s then 1 else 0:=by
  rw [f64_sw];unfold Format.word;rw [f64_sw];split<;>simp_all<;>omega
 have e2:F64.word s r % F64.signWeight=r:=by
  rw [f64_sw];unfold Format.word;rw [f64_sw];split<;>omega
 have e3:(F64.word s r / F64.signWeight % 2 == 1)=s:=by rw [e1];cases s<;>rfl
 unfold Format.read
 dsimp only
 rw [e2,e3,f64_inf,f64_binade]
 split
 ·exact ⟨fun _ _ h=>(by cases h),fun _=>⟨_,_,rfl⟩⟩
 ·split
  ·exact ⟨fun _ _ h=>(by cases h),fun _=>⟨_,_,rfl⟩⟩
  ·rw [if_pos (by omega)]
   exact ⟨fun _ _ h=>(by cases h),fun h=>by omega⟩
theorem read_nearest (s:Bool) (m:Nat) (p:Int):nn (F64.read (F64.nearest s m p)):=by
 unfold Format.nearest
 dsimp only
 split
 ·exact (read_word s (Nat.zero_le _)).1
 ·exact (read_word s (Nat.min_le_right _ _)).1
theorem read_write {d:Datum} (h:nn d):nn (F64.read (F64.write d)):=by
 cases d with
 | number s m p=>exact read_nearest s m p
 | infinity s=>exact (read_word s (Nat.le_refl _)).1
 | nan s t=>exact absurd rfl (h s t)
theorem sum_nn {s:Bool} {m:Nat} {i:Int} {d:Datum} (h:nn d):∃e,(Datum.number s m i).sum d=some e∧nn e:=by
 cases d with
 | number t n j=>exact ⟨_,rfl,fun _ _ h=>by cases h⟩
 | infinity t=>exact ⟨_,rfl,fun _ _ h=>by cases h⟩
 | nan s t=>exact absurd rfl (h s t)
theorem prod_nn {d:Datum} (h:nn d) {t:Bool} {n:Nat} {j:Int} (hn:n≠0):∃e,d.product (.number t n j)=some e∧nn e:=by
 cases d with
 | number s m i=>exact ⟨_,rfl,fun _ _ h=>by cases h⟩
 | infinity s=>exact ⟨.infinity (s ^^ t),by simp [Datum.product,hn],fun _ _ h=>by cases h⟩
 | nan s t=>exact absurd rfl (h s t)
def fin (n:Nat):Prop:=∃s m i,F64.read n=.number s m i
theorem read_cases (n:Nat):(∃s m i,F64.read n=.number s m i∧m<9007199254740992∧-1074≤i∧i≤971)∨(∃s,F64.read n=.infinity s)∨(∃s t,F64.read n=.nan s t):=by
 unfold Format.read
 dsimp only
 rw [f64_sw,f64_inf,f64_binade,f64_lp]
 split
 ·exact .inl ⟨_,_,_,rfl,by omega,by omega,by omega⟩
 ·split
  ·exact .inl ⟨_,_,_,rfl,by omega,by omega,by omega⟩
  ·split
   ·exact .inr (.inl ⟨_,rfl⟩)
   ·exact .inr (.inr ⟨_,_,rfl⟩)
theorem fin_cases (n:Nat):fin n∨(∃s,F64.read n=.infinity s)∨(∃s t,F64.read n=.nan s t):=by
 rcases read_cases n with ⟨s,m,i,h,_⟩ | h | h
 ·exact .inl ⟨s,m,i,h⟩
 ·exact .inr (.inl h)
 ·exact .inr (.inr h)
theorem shl_int (m k:Nat):((m <<< k:Nat):Int)=m * 2 ^ k:=by rw [Nat.shiftLeft_eq];push_cast;rfl
theorem signed_pos {m k:Nat}:signed false m k=(m:Int) * 2 ^ k:=by unfold signed;rw [if_neg (by simp),shl_int]
theorem signed_neg {m k:Nat}:signed true m k=-((m:Int) * 2 ^ k):=by unfold signed;rw [if_pos rfl,shl_int]
theorem two_pos (k:Nat):(0:Int)<2 ^ k:=Int.pow_pos (by decide)
theorem top_read:F64.read 9218868437227405311=.number false 9007199254740991 971:=by decide
theorem low_read:F64.read 18442240474082181119=.number true 9007199254740991 971:=by decide
theorem cmp_int (a b:Int):compare a b=if a<b then .lt else if a=b then .eq else .gt:=rfl
theorem cmp_lt {a b:Int} (h:a<b):compare a b=.lt:=by rw [cmp_int,if_pos h]
theorem cmp_gt {a b:Int} (h:b<a):compare a b=.gt:=by rw [cmp_int,if_neg (by omega),if_neg (by omega)]
theorem cmp_eq {a b:Int} (h:a=b):compare a b=.eq:=by rw [cmp_int,if_neg (by omega),if_pos h]
theorem cmp_of_eq {a b:Int} (h:compare a b=.eq):a=b:=by
 rw [cmp_int] at h
 split at h
 ·cases h
 ·split at h
  ·assumption
  ·cases h
theorem fin_iff (n:Nat):fin n↔(F64.order n 18442240474082181119=some .gt∨F64.order n 18442240474082181119=some .eq)∧(F64.order n 9218868437227405311=some .lt∨F64.order n 9218868437227405311=some .eq):=by
 unfold Format.order
 rw [top_read,low_read]
 rcases read_cases n with ⟨s,m,i,h,hm,hi,hj⟩ | ⟨s,h⟩ | ⟨s,t,h⟩
 ·refine ⟨fun _=>?_,fun _=>⟨s,m,i,h⟩⟩
  rw [h]
  simp only [Datum.order,Option.some.injEq]
  have e0:(i-min i 971).toNat=0:=by omega
  obtain ⟨k,hk⟩:∃k:Nat,(971-min i 971).toNat=k:=⟨_,rfl⟩
  rw [e0,hk]
  have hp:=two_pos k
  have hp0:(1:Int)≤2 ^ k:=hp
  have hq:(9007199254740991:Int) * 1≤9007199254740991 * 2 ^ k:=Int.mul_le_mul_of_nonneg_left hp0 (by decide)
  have hS:signed s m 0≤9007199254740991∧-9007199254740991≤signed s m 0:=by
   cases s
   ·rw [signed_pos];simp;omega
   ·rw [signed_neg];simp;omega
  rw [signed_pos,signed_neg]
  rw [show ((9007199254740991:Nat):Int)=9007199254740991 from rfl]
  constructor
  ·rcases Int.lt_or_eq_of_le (show -(9007199254740991 * 2 ^ k)≤signed s m 0 by omega) with h1 | h1
   ·left;exact cmp_gt h1
   ·right;exact cmp_eq h1.symm
  ·rcases Int.lt_or_eq_of_le (show signed s m 0≤9007199254740991 * 2 ^ k by omega) with h1 | h1
   ·left;exact cmp_lt h1
   ·right;exact cmp_eq h1
 ·rw [h]
  refine ⟨fun ⟨_,_,_,h'⟩=>(by rw [h] at h';cases h'),fun h'=>?_⟩
  cases s<;>simp [Datum.order] at h'
 ·rw [h]
  refine ⟨fun ⟨_,_,_,h'⟩=>(by rw [h] at h';cases h'),fun h'=>?_⟩
  simp [Datum.order] at h'
theorem sub_self {n:Nat} (h:fin n):F64.sub n n=some 0:=by
 obtain ⟨s,m,i,h⟩:=h
 unfold Format.sub
 rw [h]
 simp only [Datum.opposite,Datum.sum,Option.map_some,Option.some.injEq]
 have e:signed s m (i-min i i).toNat+signed (!s) m (i-min i i).toNat=0:=by
  cases s<;>simp only [Bool.not_false,Bool.not_true,signed_pos,signed_neg]<;>omega
 rw [e]
 cases s<;>rfl
theorem sub_none {n:Nat} (h:¬fin n):F64.sub n n=none:=by
 unfold Format.sub
 rcases fin_cases n with h' | ⟨s,h'⟩ | ⟨s,t,h'⟩
 ·exact absurd h' h
 ·rw [h'];cases s<;>rfl
 ·rw [h'];rfl
end Go.Eng
end
section
namespace Go.Proofs.YtlehbfahkjhgnaaGreat
open Go Go.Eng Go.RowKit
theorem nan_read' (a b:Nat) (ha:a<2) (hb:b<4503599627370495):∃s u,F64.read (a * 2 ^ 63+0x7ff0000000000000+1+b)=.nan s u:=by
 unfold Ieee.Format.read
 dsimp only
 rw [f64_sw,f64_inf,f64_binade]
 have e:(a * 2 ^ 63+0x7ff0000000000000+1+b) % 9223372036854775808=0x7ff0000000000000+1+b:=by omega
 rw [e,if_neg (by omega),if_neg (by omega),if_neg (by omega)]
 exact ⟨_,_,rfl⟩
theorem nan_read (t:Nat):∃s u,F64.read ((t % 2) * 2 ^ 63+0x7ff0000000000000+1+(t / 2) % (2 ^ 52-1))=.nan s u:=
 nan_read' _ _ (Nat.mod_lt _ (by decide)) (Nat.mod_lt _ (by decide))
theorem sub_run {n:Nat} (w:World) (h:¬fin n):∃r,(binOp .sub 24 (.float .f64 n) (.float .f64 n)).run Tryz.prog w=.ok (.float .f64 r) w.drew∧∀y,F64.order r y=none:=by
 obtain ⟨s,u,hn⟩:=nan_read (w.tape w.drawn (.nanBits .f64 n n))
 have hc:∃r,Question.cut (.nanBits .f64 n n) (w.tape w.drawn (.nanBits .f64 n n))=r∧F64.read r=.nan s u:=⟨_,rfl,hn⟩
 obtain ⟨r,hr,hn⟩:=hc
 refine ⟨r,?_,fun y=>?_⟩
 ·simp [binOp,Op.floatArith,show FloatKind.f64.format.sub n n=none from sub_none h,Question.forced,hr]
 ·unfold Ieee.Format.order
  rw [hn]
  rfl
set_option maxHeartbeats 2000000 in
set_option maxRecDepth 100000 in
theorem fin_yes (n:Nat) (h:fin n) (w:World):Calls Tryz.prog 102 #[.float .f64 n] w fun e w'=>e=.returned (.bool true)∧Below w.heap.size w w':=by
 have hx:∀w,(binOp .sub 24 (.float .f64 n) (.float .f64 n)).run Tryz.prog w=.ok (.float .f64 0) w:=fun w=>run_float_arith w .sub 24 .f64 n n 0 (sub_self h)
 go_enter Tryz.func102,Tryz.ntmps102
 go_wp2
 go_ret
 exact ⟨rfl,Below.refl _ _⟩
set_option maxHeartbeats 2000000 in
set_option maxRecDepth 100000 in
theorem fin_no (n:Nat) (h:¬fin n) (w:World):Calls Tryz.prog 102 #[.float .f64 n] w fun e w'=>e=.returned (.bool false)∧Below w.heap.size w w':=by
 obtain ⟨r,hx,hr⟩:=sub_run w h
 have h0:FloatKind.f64.format.order r 0=none:=hr 0
 go_enter Tryz.func102,Tryz.ntmps102
 go_wp2
 go_ret
 exact ⟨rfl,(Below.refl _ _).drew⟩
open Classical in
noncomputable def g102 (a0:Nat):Option Bool:=some (decide (fin a0))
noncomputable def k102:Eng.CS:={ f:=102,calm:=true,more:=0,ι:=Nat×Bool,ok:=fun i=>g102 i.1=some i.2,rds:=fun _=>[],args:=fun i=>[.w (.v (.float .f64 i.1))],res:=fun i=>bS i.2 }
theorem k102_ok:CalmOk Tryz.prog k102:=by
 refine ⟨fun args w=>?_,?_⟩
 ·have hname' : ¬ Tryz.f102.name = "runtime.NumGoroutine" := by simpa using (nq9 Tryz.func102)
  obtain ⟨c,hc⟩:=Option.isSome_iff_exists.1 (show Tryz.f102.body.isSome=true from rfl)
  have hP:=Tryz.func102
  simp [callFunc,k102,hP,hname',hc]
 ·rintro w q S ⟨a0,r⟩ vs hok _ hm hargs
  have hr:g102 a0=some r:=hok
  match vs,hargs with
  | [v],hargs=>
  have hs:v=.float .f64 a0:=hargs.1
  subst hs
  by_cases h:fin a0
  ·have:r=true:=by simpa [g102,h] using hr.symm
   subst this
   exact fin_yes a0 h w
  ·have:r=false:=by simpa [g102,h] using hr.symm
   subst this
   exact fin_no a0 h w
end Go.Proofs.YtlehbfahkjhgnaaGreat
end
