/- Texts that the law leans on. -/
import Derived.Test.YtmpknfgjfmgleaaGreatDoorSK3
import Derived.Shelf.Strings.OnBuilder
import Derived.Shelf.Strings.Search3
import Derived.Test.YtmpknfgjfmgleaaGreatDoorProg
import Derived.Lib.IndexMore
set_option linter.unusedVariables false
set_option linter.unusedSimpArgs false
section
set_option maxRecDepth 8000
set_option maxHeartbeats 4000000
namespace Go.Proofs.YtmpknfgjfmgleaaGreatDoor
open Go Go.Eng
theorem mo1K1 {p q:Prop} (k:q) (h:p:=by first | exact rfl | exact Iff.rfl | exact ⟨rfl,rfl⟩ | exact decide_eq_true_iff | (constructor<;>first | exact rfl | (simp only [ei,eb,es,ec,List.map_append,List.flatMap_append,List.nil_append,List.append_nil,List.append_assoc];done) | omega | (simp only [List.nil_append,List.length_append,List.length_cons,List.length_nil];omega) | (simp [ei,eb,es,ec];done)) | exact rfl | (simp only [ei,eb,es,ec,List.map_append,List.flatMap_append,List.nil_append,List.append_nil,List.append_assoc];done) | omega | (simp only [List.nil_append,List.length_append,List.length_cons,List.length_nil];omega) | (simp [ei,eb,es,ec];done) | simp [ei,eb,es,ec]):Ob p∧q:=⟨⟨h⟩,k⟩
theorem zY {p q:Prop} (k:q) (h:p:=by first | (rw [←hfin]<;>first | exact rfl | exact Iff.rfl | exact ⟨rfl,rfl⟩ | exact decide_eq_true_iff | (constructor<;>first | exact rfl | (simp only [ei,eb,es,ec,List.map_append,List.flatMap_append,List.nil_append,List.append_nil,List.append_assoc];done) | omega | (simp only [List.nil_append,List.length_append,List.length_cons,List.length_nil];omega) | (simp [ei,eb,es,ec];done)) | exact rfl | (simp only [ei,eb,es,ec,List.map_append,List.flatMap_append,List.nil_append,List.append_nil,List.append_assoc];done) | omega | (simp only [List.nil_append,List.length_append,List.length_cons,List.length_nil];omega) | (simp [ei,eb,es,ec];done) | simp [ei,eb,es,ec]) | first | exact rfl | exact Iff.rfl | exact ⟨rfl,rfl⟩ | exact decide_eq_true_iff | (constructor<;>first | exact rfl | (simp only [ei,eb,es,ec,List.map_append,List.flatMap_append,List.nil_append,List.append_nil,List.append_assoc];done) | omega | (simp only [List.nil_append,List.length_append,List.length_cons,List.length_nil];omega) | (simp [ei,eb,es,ec];done)) | exact rfl | (simp only [ei,eb,es,ec,List.map_append,List.flatMap_append,List.nil_append,List.append_nil,List.append_assoc];done) | omega | (simp only [List.nil_append,List.length_append,List.length_cons,List.length_nil];omega) | (simp [ei,eb,es,ec];done) | simp [ei,eb,es,ec]):Ob p∧q:=⟨⟨h⟩,k⟩
noncomputable def g117 (a0:Int):Option ((Int×Int×Int×Int)):=
 if a0<128 then
  (
   ck (inR .i32 a0) <|
   some (1,0,0,a0)
  )
 else
  (
   if a0<194 then
    some (0,0,0,0)
   else
    (
     if a0<224 then
      (
       ck (inR .i32 (bits .and .u8 a0 31)) <|
       some (2,128,191,bits .and .u8 a0 31)
      )
     else
      (
       if a0=224 then
        some (3,160,191,0)
       else
        (
         if a0=237 then
          some (3,128,159,13)
         else
          (
           if a0<240 then
            (
             ck (inR .i32 (bits .and .u8 a0 15)) <|
             some (3,128,191,bits .and .u8 a0 15)
            )
           else
            (
             if a0=240 then
              some (4,144,191,0)
             else
              (
               if a0<244 then
                (
                 ck (inR .i32 (bits .and .u8 a0 7)) <|
                 some (4,128,191,bits .and .u8 a0 7)
                )
               else
                (
                 if a0=244 then
                  some (4,128,143,4)
                 else
                  some (0,0,0,0)
                )
              )
            )
          )
        )
      )
    )
  )
noncomputable def k117:Eng.CS:={ f:=117,calm:=true,more:=0,ι:=Int×(Int×Int×Int×Int),ok:=fun i=>g117 i.1=some i.2,rds:=fun _=>[],args:=fun i=>[.w (.v (.int .u8 (i.1)))],res:=fun i=>.agg [.v (.int .i64 (i.2.1)),.v (.int .u8 (i.2.2.1)),.v (.int .u8 (i.2.2.2.1)),.v (.int .i32 (i.2.2.2.2))] }
theorem k117_ok:zw Tryz.prog k117:=by
 refine R.calmspec Tryz.func117 (nq9 Tryz.func117) rfl ?_
 rintro ⟨a0,r⟩ hok q _ args hargs
 match args,hargs with
 | [_],hargs=>
 obtain ⟨rfl,_⟩:=hargs
 refine ⟨envC [] false [],6,zk (zm),rfl,(by intro x hx;simp only [List.mem_cons,List.not_mem_nil,or_false] at hx;rcases hx with rfl<;>rfl),?_⟩
 have H:zf (g117 a0) (fun a=>a=r):=⟨r,hok,rfl⟩
 unfold g117 at H
 clear hok
 refine z7 H ?_ ?_<;>intro h14 H
 ·refine ze H fun h15 H=>?_
  have hfin:=z2 H
  repeat refine zY ?_
  trivial
 ·refine z7 H ?_ ?_<;>intro h16 H
  ·have hfin:=z2 H
   repeat refine zY ?_
   trivial
  ·refine z7 H ?_ ?_<;>intro h17 H
   ·refine ze H fun h18 H=>?_
    have hfin:=z2 H
    repeat refine zY ?_
    trivial
   ·refine z7 H ?_ ?_<;>intro h19 H
    ·have hfin:=z2 H
     repeat refine zY ?_
     trivial
    ·refine z7 H ?_ ?_<;>intro h20 H
     ·have hfin:=z2 H
      repeat refine zY ?_
      trivial
     ·refine z7 H ?_ ?_<;>intro h21 H
      ·refine ze H fun h22 H=>?_
       have hfin:=z2 H
       repeat refine zY ?_
       trivial
      ·refine z7 H ?_ ?_<;>intro h23 H
       ·have hfin:=z2 H
        repeat refine zY ?_
        trivial
       ·refine z7 H ?_ ?_<;>intro h24 H
        ·refine ze H fun h25 H=>?_
         have hfin:=z2 H
         repeat refine zY ?_
         trivial
        ·refine z7 H (fun _ H=>?_) (fun _ H=>?_)
         all_goals
          have hfin:=z2 H
          repeat refine zY ?_
          trivial
noncomputable def g118 (a0:Int):Option (Bool):=
 if 0≤a0 then
  (
   if a0≤1114111 then
    (
     if a0<55296 then
      some true
     else
      some (decide (57343<a0))
    )
   else
    some false
  )
 else
  some false
noncomputable def k118:Eng.CS:={ f:=118,calm:=true,more:=0,ι:=Int×Bool,ok:=fun i=>g118 i.1=some i.2,rds:=fun _=>[],args:=fun i=>[.w (.v (.int .i32 (i.1)))],res:=fun i=>bS i.2 }
theorem k118_ok:zw Tryz.prog k118:=by
 refine R.calmspec Tryz.func118 (nq9 Tryz.func118) rfl ?_
 rintro ⟨a0,r⟩ hok q _ args hargs
 match args,hargs with
 | [_],hargs=>
 obtain ⟨rfl,_⟩:=hargs
 refine ⟨envC [] false [],6,zk (zm),rfl,(by intro x hx;simp only [List.mem_cons,List.not_mem_nil,or_false] at hx;rcases hx with rfl<;>rfl),?_⟩
 have H:zf (g118 a0) (fun a=>a=r):=⟨r,hok,rfl⟩
 unfold g118 at H
 clear hok
 repeat' refine z7 H (fun _ H=>?_) (fun _ H=>?_)
 all_goals
  have hfin:=z2 H
  repeat refine zY ?_
  trivial
noncomputable def g119 (a0:Int) (a1:Int):Option (Int):=
 ck (0≤a1∧a1≤((IntKind.bits .i32:Nat):Int)) <|
 some (bits .or .u8 128 (bits .and .u8 (IntKind.wrap .u8 (a0 / 2 ^ a1.toNat)) 63))
noncomputable def k119:Eng.CS:={ f:=119,calm:=true,more:=0,ι:=Int×Int×Int,ok:=fun i=>g119 i.1 i.2.1=some i.2.2,rds:=fun _=>[],args:=fun i=>[.w (.v (.int .i32 (i.1))),.w (.v (.int .u64 (i.2.1)))],res:=fun i=>.v (.int .u8 (i.2.2)) }
theorem k119_ok:zw Tryz.prog k119:=by
 refine R.calmspec Tryz.func119 (nq9 Tryz.func119) rfl ?_
 rintro ⟨a0,a1,r⟩ hok q _ args hargs
 match args,hargs with
 | [_,_],hargs=>
 obtain ⟨rfl,rfl,_⟩:=hargs
 refine ⟨envC [] false [],6,zk (zm),rfl,(by intro x hx;simp only [List.mem_cons,List.not_mem_nil,or_false] at hx;rcases hx with rfl | rfl<;>rfl),?_⟩
 have H:zf (g119 a0 a1) (fun a=>a=r):=⟨r,hok,rfl⟩
 unfold g119 at H
 clear hok
 refine ze H fun h30 H=>?_
 have hfin:=z2 H
 repeat refine zY ?_
 trivial
noncomputable def g61 (a0:List Int):Option (Int×Int×Bool):=
 if ((a0.length:Nat):Int)=0 then
  some (0,0,true)
 else
  (
   ck (0≤(0:Int)∧0<((a0.length:Nat):Int)) <|
   (g117 (a0.getD (0:Int).toNat 0)).bind fun v34=>
   if v34.1=0 then
    some (65533,1,false)
   else
    (
     jn (α:=_) (β:=Int) (fun k107=>
       (yr (σ:=Int×Int) (ρ:=(Int×Int×Bool) ⊕ (Int)) (fun s110=>
         if s110.2<v34.1 then
          (
           if ((a0.length:Nat):Int)≤s110.2 then
            some (.out (.inl ((0,0,true))))
           else
            (
             jn (α:=_) (β:=Int×Int) (fun k143=>
               if s110.2=1 then
                k143 (v34.2.1,v34.2.2.1)
               else
                k143 (128,191)
             ) (fun v142=>
              ck (0≤s110.2∧s110.2<((a0.length:Nat):Int)) <|
              if (a0.getD s110.2.toNat 0)<v142.1 then
               some (.out (.inl ((65533,1,false))))
              else
               (
                ck (0≤s110.2∧s110.2<((a0.length:Nat):Int)) <|
                if v142.2<(a0.getD s110.2.toNat 0) then
                 some (.out (.inl ((65533,1,false))))
                else
                 (
                  ck (0≤s110.2∧s110.2<((a0.length:Nat):Int)) <|
                  ck (inR .i32 (bits .and .u8 (a0.getD s110.2.toNat 0) 63)) <|
                  ck (inR .i64 (s110.2+1)) <|
                  some (.go (bits .or .i32 (IntKind.wrap .i32 (s110.1 * 2 ^ (6:Int).toNat)) (bits .and .u8 (a0.getD s110.2.toNat 0) 63),s110.2+1))
                 )
               )
             )
            )
          )
         else
          some (.out (.inr (s110.1)))
        ) (v34.2.2.2,1)).bind fun o138=>
       sm o138 (fun o152=>
         some o152
        ) (fun o153=>
         k107 o153
        )
     ) (fun v106=>
      some (v106,v34.1,false)
     )
    )
  )
noncomputable def k61:Eng.CS:={ f:=61,calm:=true,more:=0,ι:=(List Int)×(Int×Int×Bool),ok:=fun i=>g61 i.1=some i.2,rds:=fun _=>[],args:=fun i=>[.sl 1 i.1.length (ei .u8 i.1)],res:=fun i=>.tup [.v (.int .i32 (i.2.1)),.v (.int .i64 (i.2.2.1)),bS i.2.2.2] }
theorem k61_ok:zw Tryz.prog k61:=by
 refine R.calmspec Tryz.func61 (nq9 Tryz.func61) rfl ?_
 rintro ⟨a0,r⟩ hok q _ args hargs
 match args,hargs with
 | [_],hargs=>
 obtain ⟨⟨A0,cp0,rfl,hc0,_,hR0⟩,_⟩:=hargs
 refine ⟨envC [k117] false [(61,15),(61,18)],6,zk (zd ⟨fun _=>k117_ok,nofun⟩ (zm)),rfl,(by intro x hx;simp only [List.mem_cons,List.not_mem_nil,or_false] at hx;rcases hx with rfl<;>rfl),?_⟩
 have H:zf (g61 a0) (fun a=>a=r):=⟨r,hok,rfl⟩
 unfold g61 at H
 clear hok
 refine z7 H ?_ ?_<;>intro h32 H
 ·have hfin:=z2 H
  repeat refine zY ?_
  trivial
 ·refine yh hR0 (fun h=>ei0 h) H fun h33 H=>?_
  refine zF (e:=a0.getD (0:Int).toNat 0) (zI hR0 (zH (l:=a0) (tn h33))) ?_
  obtain ⟨v34,hv35,H⟩:=zc H
  refine ⟨(a0.getD (0:Int).toNat 0,v34),⟨hv35⟩,⟨trivial⟩,?_⟩
  refine ⟨⟨rfl⟩,?_⟩
  refine z7 H ?_ ?_<;>intro h37 H
  ·have hfin:=z2 H
   repeat refine zY ?_
   trivial
  ·refine R.cut_fam H 25 [5] [] (fun v106=>[(2,.v (.int .i32 (v106)))]) (fun v106=>[]) [(10,.cells 215 [.v (.int .i64 (v34.1)),.v (.int .u8 (v34.2.1)),.v (.int .u8 (v34.2.2.1)),.v (.int .i32 (v34.2.2.2))])] 0 (fun H=>?_)
   refine And.intro ?_ ?_
   ·refine R.loop_fam (yn H) [0,5] [] (fun _ s110=>[(2,.v (.int .i32 (s110.1))),(6,.v (.int .i64 (s110.2)))]) (fun _ s110=>[]) 0 (fun n154 H=>?_)
    refine ⟨(n154,_),⟨H⟩,⟨trivial⟩,?_⟩
    repeat refine mo1K1 ?_
    rintro ⟨m0,s110⟩ H _
    obtain ⟨m111,hm0,H⟩:=yv H
    dsimp only at hm0
    subst hm0
    try dsimp only at H
    refine z7 H ?_ ?_<;>intro h139 H
    ·refine z7 H ?_ ?_<;>intro h140 H
     ·replace H:=zo H
      dsimp only [stp,sm] at H
      have hfin:=z2 H
      repeat refine zY ?_
      trivial
     ·refine R.cut_fam H 38 [0,2,5,6] [] (fun v142=>[(7,.v (.int .u8 (v142.1))),(8,.v (.int .u8 (v142.2)))]) (fun v142=>[]) [(10,.cells 215 [.v (.int .i64 (v34.1)),.v (.int .u8 (v34.2.1)),.v (.int .u8 (v34.2.2.1)),.v (.int .i32 (v34.2.2.2))])] 0 (fun H=>?_)
      refine And.intro ?_ ?_
      ·refine z7 H ?_ ?_<;>intro h144 H
       ·refine And.intro ⟨by kernel_rfl⟩ ?_
        refine ⟨(v34.2.1,v34.2.2.1),⟨H⟩,⟨rfl⟩,?_⟩
        repeat refine mo1K1 ?_
        trivial
       ·refine ⟨(128,191),⟨H⟩,⟨rfl⟩,?_⟩
        repeat refine mo1K1 ?_
        trivial
      ·intro v142 H
       refine yh hR0 (fun h=>ei0 h) H fun h145 H=>?_
       refine zF (e:=a0.getD s110.2.toNat 0) (zI hR0 (zH (l:=a0) (tn h145))) ?_
       refine z7 H ?_ ?_<;>intro h146 H
       ·replace H:=zo H
        dsimp only [stp,sm] at H
        have hfin:=z2 H
        repeat refine zY ?_
        trivial
       ·refine yh hR0 (fun h=>ei0 h) H fun h147 H=>?_
        refine zF (e:=a0.getD s110.2.toNat 0) (zI hR0 (zH (l:=a0) (tn h147))) ?_
        refine z7 H ?_ ?_<;>intro h148 H
        ·replace H:=zo H
         dsimp only [stp,sm] at H
         have hfin:=z2 H
         repeat refine zY ?_
         trivial
        ·refine And.intro ⟨by decide⟩ ?_
         refine yh hR0 (fun h=>ei0 h) H fun h149 H=>?_
         refine zF (e:=a0.getD s110.2.toNat 0) (zI hR0 (zH (l:=a0) (tn h149))) ?_
         refine ze H fun h150 H=>?_
         refine ze H fun h151 H=>?_
         replace H:=zo H
         refine ⟨(m111,(bits .or .i32 (IntKind.wrap .i32 (s110.1 * 2 ^ (6:Int).toNat)) (bits .and .u8 (a0.getD s110.2.toNat 0) 63),s110.2+1)),⟨H,Nat.lt_succ_self _⟩,⟨trivial⟩,⟨rfl⟩,?_⟩
         repeat refine mo1K1 ?_
         trivial
    ·replace H:=zo H
     dsimp only [stp,sm] at H
     refine ⟨s110.1,⟨H⟩,⟨rfl⟩,?_⟩
     repeat refine mo1K1 ?_
     trivial
   ·intro v106 H
    refine And.intro ⟨by kernel_rfl⟩ ?_
    have hfin:=z2 H
    repeat refine zY ?_
    trivial
noncomputable def g69 (a0:Int):Option (Int):=
 ck (inR .i32 (128+(Int.tmod a0 64))) <|
 some (IntKind.wrap .u8 (128+(Int.tmod a0 64)))
noncomputable def k69:Eng.CS:={ f:=69,calm:=true,more:=0,ι:=Int×Int,ok:=fun i=>g69 i.1=some i.2,rds:=fun _=>[],args:=fun i=>[.w (.v (.int .i32 (i.1)))],res:=fun i=>.v (.int .u8 (i.2)) }
theorem k69_ok:zw Tryz.prog k69:=by
 refine R.calmspec Tryz.func69 (nq9 Tryz.func69) rfl ?_
 rintro ⟨a0,r⟩ hok q _ args hargs
 match args,hargs with
 | [_],hargs=>
 obtain ⟨rfl,_⟩:=hargs
 refine ⟨envC [] false [],6,zk (zm),rfl,(by intro x hx;simp only [List.mem_cons,List.not_mem_nil,or_false] at hx;rcases hx with rfl<;>rfl),?_⟩
 have H:zf (g69 a0) (fun a=>a=r):=⟨r,hok,rfl⟩
 unfold g69 at H
 clear hok
 refine And.intro ⟨by decide⟩ ?_
 refine ze H fun h155 H=>?_
 have hfin:=z2 H
 repeat refine zY ?_
 trivial
noncomputable def g68 (a0:Int):Option (Bool):=
 if 0≤a0 then
  (
   if a0≤1114111 then
    (
     if a0<55296 then
      some true
     else
      some (decide (57343<a0))
    )
   else
    some false
  )
 else
  some false
noncomputable def k68:Eng.CS:={ f:=68,calm:=true,more:=0,ι:=Int×Bool,ok:=fun i=>g68 i.1=some i.2,rds:=fun _=>[],args:=fun i=>[.w (.v (.int .i32 (i.1)))],res:=fun i=>bS i.2 }
theorem k68_ok:zw Tryz.prog k68:=by
 refine R.calmspec Tryz.func68 (nq9 Tryz.func68) rfl ?_
 rintro ⟨a0,r⟩ hok q _ args hargs
 match args,hargs with
 | [_],hargs=>
 obtain ⟨rfl,_⟩:=hargs
 refine ⟨envC [] false [],6,zk (zm),rfl,(by intro x hx;simp only [List.mem_cons,List.not_mem_nil,or_false] at hx;rcases hx with rfl<;>rfl),?_⟩
 have H:zf (g68 a0) (fun a=>a=r):=⟨r,hok,rfl⟩
 unfold g68 at H
 clear hok
 repeat' refine z7 H (fun _ H=>?_) (fun _ H=>?_)
 all_goals
  have hfin:=z2 H
  repeat refine zY ?_
  trivial
noncomputable def g62 (a0:Int):Option (List Int):=
 jn (α:=_) (β:=Int) (fun k166=>
   (g118 a0).bind fun v167=>
   if ¬(v167=true) then
    k166 65533
   else
    k166 a0
 ) (fun v165=>
  if v165<128 then
   some ([IntKind.wrap .u8 v165])
  else
   (
    if v165<2048 then
     (
      (g119 v165 0).bind fun v181=>
      some ([bits .or .u8 192 (IntKind.wrap .u8 (v165 / 2 ^ (6:Int).toNat)),v181])
     )
    else
     (
      if v165<65536 then
       (
        (g119 v165 6).bind fun v184=>
        (g119 v165 0).bind fun v186=>
        some ([bits .or .u8 224 (IntKind.wrap .u8 (v165 / 2 ^ (12:Int).toNat)),v184,v186])
       )
      else
       (
        (g119 v165 12).bind fun v188=>
        (g119 v165 6).bind fun v190=>
        (g119 v165 0).bind fun v192=>
        some ([bits .or .u8 240 (IntKind.wrap .u8 (v165 / 2 ^ (18:Int).toNat)),v188,v190,v192])
       )
     )
   )
 )
noncomputable def k62:Eng.CS:={ f:=62,calm:=false,more:=1,ι:=Int×List Int,ok:=fun i=>g62 i.1=some i.2,rds:=fun _=>[],args:=fun i=>[.w (.v (.int .i32 (i.1)))],res:=fun i=>.own 0,L':=fun i=>[(0,.arr 5 1 i.2.length (ei .u8 i.2))],rn:=[(0,0,5,1)] }
theorem k62_ok:CSOk Tryz.prog k62:=by
 refine R.cspec Tryz.func62 (nq9 Tryz.func62) rfl ?_
 rintro ⟨a0,r⟩ hok q _ args hargs
 match args,hargs with
 | [_],hargs=>
 obtain ⟨rfl,_⟩:=hargs
 refine ⟨envC [k118,k119] false [(62,3)],6,zk (zd ⟨fun _=>k118_ok,nofun⟩ (zd ⟨fun _=>k119_ok,nofun⟩ (zm))),?_⟩
 have H:zf (g62 a0) (fun a=>a=r):=⟨r,hok,rfl⟩
 unfold g62 at H
 clear hok
 refine R.cut_fam H 6 [] [] (fun v165=>[(0,.v (.int .i32 (v165)))]) (fun v165=>[]) [] 0 (fun H=>?_)
 refine And.intro ?_ ?_
 ·obtain ⟨v167,hv168,H⟩:=zc H
  refine ⟨(a0,v167),⟨hv168⟩,⟨trivial⟩,?_⟩
  refine ⟨⟨rfl⟩,?_⟩
  refine z7 H ?_ ?_<;>intro h169 H
  ·refine ⟨65533,⟨H⟩,⟨rfl⟩,?_⟩
   repeat refine mo1K1 ?_
   trivial
  ·refine ⟨a0,⟨H⟩,⟨rfl⟩,?_⟩
   repeat refine mo1K1 ?_
   trivial
 ·intro v165 H
  refine z7 H ?_ ?_<;>intro h179 H
  ·have hfin:=z2 H
   repeat refine zY ?_
   trivial
  ·refine z7 H ?_ ?_<;>intro h180 H
   ·refine And.intro ⟨by decide⟩ ?_
    obtain ⟨v181,hv182,H⟩:=zc H
    refine ⟨(v165,0,v181),⟨hv182⟩,⟨trivial⟩,?_⟩
    iterate 2 refine ⟨⟨rfl⟩,?_⟩
    have hfin:=z2 H
    repeat refine zY ?_
    trivial
   ·refine z7 H ?_ ?_<;>intro h183 H
    ·refine And.intro ⟨by decide⟩ ?_
     obtain ⟨v184,hv185,H⟩:=zc H
     refine ⟨(v165,6,v184),⟨hv185⟩,⟨trivial⟩,?_⟩
     iterate 2 refine ⟨⟨rfl⟩,?_⟩
     obtain ⟨v186,hv187,H⟩:=zc H
     refine ⟨(v165,0,v186),⟨hv187⟩,⟨trivial⟩,?_⟩
     iterate 2 refine ⟨⟨rfl⟩,?_⟩
     have hfin:=z2 H
     repeat refine zY ?_
     trivial
    ·refine And.intro ⟨by decide⟩ ?_
     obtain ⟨v188,hv189,H⟩:=zc H
     refine ⟨(v165,12,v188),⟨hv189⟩,⟨trivial⟩,?_⟩
     iterate 2 refine ⟨⟨rfl⟩,?_⟩
     obtain ⟨v190,hv191,H⟩:=zc H
     refine ⟨(v165,6,v190),⟨hv191⟩,⟨trivial⟩,?_⟩
     iterate 2 refine ⟨⟨rfl⟩,?_⟩
     obtain ⟨v192,hv193,H⟩:=zc H
     refine ⟨(v165,0,v192),⟨hv193⟩,⟨trivial⟩,?_⟩
     iterate 2 refine ⟨⟨rfl⟩,?_⟩
     have hfin:=z2 H
     repeat refine zY ?_
     trivial
noncomputable def g33 (a0:Int):Option (List Int):=
 jn (α:=_) (β:=Int) (fun k201=>
   (g68 a0).bind fun v202=>
   if ¬(v202=true) then
    k201 65533
   else
    k201 a0
 ) (fun v200=>
  if v200<128 then
   some ([IntKind.wrap .u8 v200])
  else
   (
    if v200<2048 then
     (
      ck (inR .i32 (Int.tdiv v200 64)) <|
      ck (inR .i32 (192+(Int.tdiv v200 64))) <|
      (g69 v200).bind fun v223=>
      some ([IntKind.wrap .u8 (192+(Int.tdiv v200 64)),v223])
     )
    else
     (
      if v200<65536 then
       (
        ck (inR .i32 (Int.tdiv v200 4096)) <|
        ck (inR .i32 (224+(Int.tdiv v200 4096))) <|
        ck (inR .i32 (Int.tdiv v200 64)) <|
        (g69 (Int.tdiv v200 64)).bind fun v229=>
        (g69 v200).bind fun v231=>
        some ([IntKind.wrap .u8 (224+(Int.tdiv v200 4096)),v229,v231])
       )
      else
       (
        ck (inR .i32 (Int.tdiv v200 262144)) <|
        ck (inR .i32 (240+(Int.tdiv v200 262144))) <|
        ck (inR .i32 (Int.tdiv v200 4096)) <|
        (g69 (Int.tdiv v200 4096)).bind fun v236=>
        ck (inR .i32 (Int.tdiv v200 64)) <|
        (g69 (Int.tdiv v200 64)).bind fun v239=>
        (g69 v200).bind fun v241=>
        some ([IntKind.wrap .u8 (240+(Int.tdiv v200 262144)),v236,v239,v241])
       )
     )
   )
 )
noncomputable def k33:Eng.CS:={ f:=33,calm:=false,more:=1,ι:=Int×List Int,ok:=fun i=>g33 i.1=some i.2,rds:=fun _=>[],args:=fun i=>[.w (.v (.int .i32 (i.1)))],res:=fun i=>.own 0,L':=fun i=>[(0,.arr 5 1 i.2.length (ei .u8 i.2))],rn:=[(0,0,5,1)] }
theorem k33_ok:CSOk Tryz.prog k33:=by
 refine R.cspec Tryz.func33 (nq9 Tryz.func33) rfl ?_
 rintro ⟨a0,r⟩ hok q _ args hargs
 match args,hargs with
 | [_],hargs=>
 obtain ⟨rfl,_⟩:=hargs
 refine ⟨envC [k68,k69] false [(33,3)],6,zk (zd ⟨fun _=>k68_ok,nofun⟩ (zd ⟨fun _=>k69_ok,nofun⟩ (zm))),?_⟩
 have H:zf (g33 a0) (fun a=>a=r):=⟨r,hok,rfl⟩
 unfold g33 at H
 clear hok
 refine R.cut_fam H 6 [] [] (fun v200=>[(0,.v (.int .i32 (v200)))]) (fun v200=>[]) [] 0 (fun H=>?_)
 refine And.intro ?_ ?_
 ·obtain ⟨v202,hv203,H⟩:=zc H
  refine ⟨(a0,v202),⟨hv203⟩,⟨trivial⟩,?_⟩
  refine ⟨⟨rfl⟩,?_⟩
  refine z7 H ?_ ?_<;>intro h204 H
  ·refine ⟨65533,⟨H⟩,⟨rfl⟩,?_⟩
   repeat refine mo1K1 ?_
   trivial
  ·refine ⟨a0,⟨H⟩,⟨rfl⟩,?_⟩
   repeat refine mo1K1 ?_
   trivial
 ·intro v200 H
  refine z7 H ?_ ?_<;>intro h219 H
  ·have hfin:=z2 H
   repeat refine zY ?_
   trivial
  ·refine z7 H ?_ ?_<;>intro h220 H
   ·refine And.intro ⟨by decide⟩ ?_
    refine ze H fun h221 H=>?_
    refine ze H fun h222 H=>?_
    obtain ⟨v223,hv224,H⟩:=zc H
    refine ⟨(v200,v223),⟨hv224⟩,⟨trivial⟩,?_⟩
    refine ⟨⟨rfl⟩,?_⟩
    have hfin:=z2 H
    repeat refine zY ?_
    trivial
   ·refine z7 H ?_ ?_<;>intro h225 H
    ·refine And.intro ⟨by decide⟩ ?_
     refine ze H fun h226 H=>?_
     refine ze H fun h227 H=>?_
     refine And.intro ⟨by decide⟩ ?_
     refine ze H fun h228 H=>?_
     obtain ⟨v229,hv230,H⟩:=zc H
     refine ⟨(Int.tdiv v200 64,v229),⟨hv230⟩,⟨trivial⟩,?_⟩
     refine ⟨⟨rfl⟩,?_⟩
     obtain ⟨v231,hv232,H⟩:=zc H
     refine ⟨(v200,v231),⟨hv232⟩,⟨trivial⟩,?_⟩
     refine ⟨⟨rfl⟩,?_⟩
     have hfin:=z2 H
     repeat refine zY ?_
     trivial
    ·refine And.intro ⟨by decide⟩ ?_
     refine ze H fun h233 H=>?_
     refine ze H fun h234 H=>?_
     refine And.intro ⟨by decide⟩ ?_
     refine ze H fun h235 H=>?_
     obtain ⟨v236,hv237,H⟩:=zc H
     refine ⟨(Int.tdiv v200 4096,v236),⟨hv237⟩,⟨trivial⟩,?_⟩
     refine ⟨⟨rfl⟩,?_⟩
     refine And.intro ⟨by decide⟩ ?_
     refine ze H fun h238 H=>?_
     obtain ⟨v239,hv240,H⟩:=zc H
     refine ⟨(Int.tdiv v200 64,v239),⟨hv240⟩,⟨trivial⟩,?_⟩
     refine ⟨⟨rfl⟩,?_⟩
     obtain ⟨v241,hv242,H⟩:=zc H
     refine ⟨(v200,v241),⟨hv242⟩,⟨trivial⟩,?_⟩
     refine ⟨⟨rfl⟩,?_⟩
     have hfin:=z2 H
     repeat refine zY ?_
     trivial
noncomputable def g65 (a0:Int):Option (Int):=
 if a0<128 then
  some 1
 else
  (
   jn (α:=_) (β:=Bool) (fun k261=>
     if 194≤a0 then
      k261 (decide (a0<224))
     else
      k261 false
   ) (fun v260=>
    if v260=true then
     some 2
    else
     (
      if 224≤a0 then
       (
        if a0<240 then
         some 3
        else
         (
          if 240≤a0 then
           (
            if a0<245 then
             some 4
            else
             some 0
           )
          else
           some 0
         )
       )
      else
       (
        if 240≤a0 then
         (
          if a0<245 then
           some 4
          else
           some 0
         )
        else
         some 0
       )
     )
   )
  )
noncomputable def k65:Eng.CS:={ f:=65,calm:=true,more:=0,ι:=Int×Int,ok:=fun i=>g65 i.1=some i.2,rds:=fun _=>[],args:=fun i=>[.w (.v (.int .u8 (i.1)))],res:=fun i=>.v (.int .i64 (i.2)) }
theorem k65_ok:zw Tryz.prog k65:=by
 refine R.calmspec Tryz.func65 (nq9 Tryz.func65) rfl ?_
 rintro ⟨a0,r⟩ hok q _ args hargs
 match args,hargs with
 | [_],hargs=>
 obtain ⟨rfl,_⟩:=hargs
 refine ⟨envC [] false [(65,4)],6,zk (zm),rfl,(by intro x hx;simp only [List.mem_cons,List.not_mem_nil,or_false] at hx;rcases hx with rfl<;>rfl),?_⟩
 have H:zf (g65 a0) (fun a=>a=r):=⟨r,hok,rfl⟩
 unfold g65 at H
 clear hok
 refine z7 H ?_ ?_<;>intro h258 H
 ·have hfin:=z2 H
  repeat refine zY ?_
  trivial
 ·refine R.cut_fam H 12 [0] [] (fun v260=>[(6,bS v260)]) (fun v260=>[]) [] 0 (fun H=>?_)
  refine And.intro ?_ ?_
  ·refine z7 H ?_ ?_<;>intro h262 H
   ·refine ⟨_,⟨H⟩,⟨rfl⟩,?_⟩
    repeat refine mo1K1 ?_
    trivial
   ·refine ⟨false,⟨H⟩,⟨rfl⟩,?_⟩
    repeat refine mo1K1 ?_
    trivial
  ·intro v260 H
   repeat' refine z7 H (fun _ H=>?_) (fun _ H=>?_)
   all_goals
    have hfin:=z2 H
    repeat refine zY ?_
    trivial
noncomputable def g67 (a0:List Int):Option (Int):=
 if ((a0.length:Nat):Int)<2 then
  (
   ck (0≤(0:Int)∧0<((a0.length:Nat):Int)) <|
   ck (inR .i32 (a0.getD (0:Int).toNat 0)) <|
   some (a0.getD (0:Int).toNat 0)
  )
 else
  (
   if 4<((a0.length:Nat):Int) then
    (
     ck (0≤(0:Int)∧0<((a0.length:Nat):Int)) <|
     ck (inR .i32 (a0.getD (0:Int).toNat 0)) <|
     some (a0.getD (0:Int).toNat 0)
    )
   else
    (
     ck (0≤(0:Int)∧0<((a0.length:Nat):Int)) <|
     ck (inR .i64 (a0.getD (0:Int).toNat 0)) <|
     ck (0≤((a0.length:Nat):Int)∧((a0.length:Nat):Int)<((5:Nat):Int)) <|
     ck (inR .i64 ((a0.getD (0:Int).toNat 0)-(([0,0,192,224,240]).getD ((a0.length:Nat):Int).toNat 0))) <|
     jn (α:=_) (β:=Int) (fun k317=>
       (yr (σ:=Int×Int) (ρ:=Int) (fun s320=>
         if s320.2<((a0.length:Nat):Int) then
          (
           ck (inR .i32 (s320.1 * 64)) <|
           ck (0≤s320.2∧s320.2<((a0.length:Nat):Int)) <|
           ck (inR .i32 (Int.tmod (a0.getD s320.2.toNat 0) 64)) <|
           ck (inR .i32 ((s320.1 * 64)+(Int.tmod (a0.getD s320.2.toNat 0) 64))) <|
           ck (inR .i64 (s320.2+1)) <|
           some (.go ((s320.1 * 64)+(Int.tmod (a0.getD s320.2.toNat 0) 64),s320.2+1))
          )
         else
          some (.out s320.1)
        ) (IntKind.wrap .i32 ((a0.getD (0:Int).toNat 0)-(([0,0,192,224,240]).getD ((a0.length:Nat):Int).toNat 0)),1)).bind fun o334=>
        k317 o334
     ) (fun v316=>
      some v316
     )
    )
  )
noncomputable def k67:Eng.CS:={ f:=67,calm:=true,more:=0,ι:=(List Int)×Int,ok:=fun i=>g67 i.1=some i.2,rds:=fun _=>[],args:=fun i=>[.sl 1 i.1.length (ei .u8 i.1)],res:=fun i=>.v (.int .i32 (i.2)) }
theorem k67_ok:zw Tryz.prog k67:=by
 refine R.calmspec Tryz.func67 (nq9 Tryz.func67) rfl ?_
 rintro ⟨a0,r⟩ hok q _ args hargs
 match args,hargs with
 | [_],hargs=>
 obtain ⟨⟨A0,cp0,rfl,hc0,_,hR0⟩,_⟩:=hargs
 refine ⟨envC [] false [(67,9)],6,zk (zm),rfl,(by intro x hx;simp only [List.mem_cons,List.not_mem_nil,or_false] at hx;rcases hx with rfl<;>rfl),?_⟩
 have H:zf (g67 a0) (fun a=>a=r):=⟨r,hok,rfl⟩
 unfold g67 at H
 clear hok
 refine z7 H ?_ ?_<;>intro h277 H
 ·refine yh hR0 (fun h=>ei0 h) H fun h278 H=>?_
  refine zF (e:=a0.getD (0:Int).toNat 0) (zI hR0 (zH (l:=a0) (tn h278))) ?_
  refine ze H fun h279 H=>?_
  have hfin:=z2 H
  repeat refine zY ?_
  trivial
 ·refine z7 H ?_ ?_<;>intro h280 H
  ·refine yh hR0 (fun h=>ei0 h) H fun h281 H=>?_
   refine zF (e:=a0.getD (0:Int).toNat 0) (zI hR0 (zH (l:=a0) (tn h281))) ?_
   refine ze H fun h282 H=>?_
   have hfin:=z2 H
   repeat refine zY ?_
   trivial
  ·refine And.intro ⟨by kernel_rfl⟩ ?_
   refine yh hR0 (fun h=>ei0 h) H fun h283 H=>?_
   refine zF (e:=a0.getD (0:Int).toNat 0) (zI hR0 (zH (l:=a0) (tn h283))) ?_
   refine ze H fun h284 H=>?_
   refine ze H fun h285 H=>?_
   refine zF (e:=([0,0,192,224,240]).getD ((a0.length:Nat):Int).toNat 0) (own_get (ys:=ei .i64 ([0,0,192,224,240])) (by first | rfl | simp [ei,eb,es,ec]) (zH (l:=[0,0,192,224,240]) (by first | exact tn h285 | (have:=tn h285;simp at this ⊢;omega) | (have:=tn h285;simp;omega)))) ?_
   refine ze H fun h286 H=>?_
   refine R.cut_fam H 30 [] [] (fun v316=>[(4,.v (.int .i32 (v316)))]) (fun v316=>[]) [(1,.arr 3 1 (5) (ei .i64 ([0,0,192,224,240])))] 0 (fun H=>?_)
   refine And.intro ?_ ?_
   ·refine R.loop_fam (yn H) [0] [] (fun _ s320=>[(4,.v (.int .i32 (s320.1))),(5,.v (.int .i64 (s320.2)))]) (fun _ s320=>[]) 0 (fun n341 H=>?_)
    refine ⟨(n341,_),⟨H⟩,⟨trivial⟩,?_⟩
    repeat refine mo1K1 ?_
    rintro ⟨m0,s320⟩ H _
    obtain ⟨m321,hm0,H⟩:=yv H
    dsimp only at hm0
    subst hm0
    try dsimp only at H
    refine z7 H ?_ ?_<;>intro h335 H
    ·refine ze H fun h336 H=>?_
     refine yh hR0 (fun h=>ei0 h) H fun h337 H=>?_
     refine zF (e:=a0.getD s320.2.toNat 0) (zI hR0 (zH (l:=a0) (tn h337))) ?_
     refine And.intro ⟨by decide⟩ ?_
     refine ze H fun h338 H=>?_
     refine ze H fun h339 H=>?_
     refine ze H fun h340 H=>?_
     replace H:=zo H
     refine ⟨(m321,((s320.1 * 64)+(Int.tmod (a0.getD s320.2.toNat 0) 64),s320.2+1)),⟨H,Nat.lt_succ_self _⟩,⟨trivial⟩,⟨rfl⟩,?_⟩
     repeat refine mo1K1 ?_
     trivial
    ·replace H:=zo H
     dsimp only [stp,sm] at H
     refine ⟨s320.1,⟨H⟩,⟨rfl⟩,?_⟩
     repeat refine mo1K1 ?_
     trivial
   ·intro v316 H
    have hfin:=z2 H
    repeat refine zY ?_
    trivial
noncomputable def g122 (a0:List Int):Option (Bool):=
 jn (α:=_) (β:=Unit) (fun k377=>
   (yr (σ:=Int) (ρ:=(Unit) ⊕ (Unit)) (fun s380=>
     if s380<((a0.length:Nat):Int) then
      (
       ck (0≤s380∧s380<((a0.length:Nat):Int)) <|
       if (a0.getD s380.toNat 0)<128 then
        some (.out (.inl (())))
       else
        (
         ck (0≤s380∧s380<((a0.length:Nat):Int)) <|
         if 191<(a0.getD s380.toNat 0) then
          some (.out (.inl (())))
         else
          (
           ck (inR .i64 (s380+1)) <|
           some (.go (s380+1))
          )
        )
      )
     else
      some (.out (.inr (())))
    ) 1).bind fun o394=>
   sm o394 (fun o401=>
     some false
    ) (fun o402=>
     k377 ()
    )
 ) (fun v376=>
  some true
 )
noncomputable def k122:Eng.CS:={ f:=122,calm:=true,more:=0,ι:=(List Int)×Bool,ok:=fun i=>g122 i.1=some i.2,rds:=fun _=>[],args:=fun i=>[.sl 1 i.1.length (ei .u8 i.1)],res:=fun i=>bS i.2 }
theorem k122_ok:zw Tryz.prog k122:=by
 refine R.calmspec Tryz.func122 (nq9 Tryz.func122) rfl ?_
 rintro ⟨a0,r⟩ hok q _ args hargs
 match args,hargs with
 | [_],hargs=>
 obtain ⟨⟨A0,cp0,rfl,hc0,_,hR0⟩,_⟩:=hargs
 refine ⟨envC [] false [(122,6)],6,zk (zm),rfl,(by intro x hx;simp only [List.mem_cons,List.not_mem_nil,or_false] at hx;rcases hx with rfl<;>rfl),?_⟩
 have H:zf (g122 a0) (fun a=>a=r):=⟨r,hok,rfl⟩
 unfold g122 at H
 clear hok
 refine R.cut_fam H 8 [] [] (fun v376=>[]) (fun v376=>[]) [] 0 (fun H=>?_)
 refine And.intro ?_ ?_
 ·refine R.loop_fam (yn H) [0] [] (fun _ s380=>[(3,.v (.int .i64 (s380)))]) (fun _ s380=>[]) 0 (fun n403 H=>?_)
  refine ⟨(n403,_),⟨H⟩,⟨trivial⟩,?_⟩
  repeat refine mo1K1 ?_
  rintro ⟨m0,s380⟩ H _
  obtain ⟨m381,hm0,H⟩:=yv H
  dsimp only at hm0
  subst hm0
  try dsimp only at H
  refine z7 H ?_ ?_<;>intro h395 H
  ·refine yh hR0 (fun h=>ei0 h) H fun h396 H=>?_
   refine zF (e:=a0.getD s380.toNat 0) (zI hR0 (zH (l:=a0) (tn h396))) ?_
   refine z7 H ?_ ?_<;>intro h397 H
   ·replace H:=zo H
    dsimp only [stp,sm] at H
    have hfin:=z2 H
    repeat refine zY ?_
    trivial
   ·refine yh hR0 (fun h=>ei0 h) H fun h398 H=>?_
    refine zF (e:=a0.getD s380.toNat 0) (zI hR0 (zH (l:=a0) (tn h398))) ?_
    refine z7 H ?_ ?_<;>intro h399 H
    ·replace H:=zo H
     dsimp only [stp,sm] at H
     have hfin:=z2 H
     repeat refine zY ?_
     trivial
    ·refine ze H fun h400 H=>?_
     replace H:=zo H
     refine ⟨(m381,s380+1),⟨H,Nat.lt_succ_self _⟩,⟨trivial⟩,⟨rfl⟩,?_⟩
     repeat refine mo1K1 ?_
     trivial
  ·replace H:=zo H
   dsimp only [stp,sm] at H
   refine ⟨(),⟨H⟩,⟨rfl⟩,?_⟩
   repeat refine mo1K1 ?_
   trivial
 ·intro v376 H
  have hfin:=z2 H
  repeat refine zY ?_
  trivial
noncomputable def g66 (a0:List Int):Option (Bool):=
 ck (0≤(0:Int)∧0<((a0.length:Nat):Int)) <|
 (g65 (a0.getD (0:Int).toNat 0)).bind fun v405=>
 if v405<((a0.length:Nat):Int) then
  some false
 else
  (
   (g122 a0).bind fun v415=>
   if ¬(v415=true) then
    some false
   else
    (
     ck ((0+a0.length) * 1≤140737488355328) <|
     ck ((0+a0.length) * 1≤140737488355328) <|
     jn (α:=_) (β:=List Int×List Int) (fun k469=>
       (yr (σ:=List Int×List Int) (ρ:=List Int×List Int) (fun s472=>
         if ((s472.1.length:Nat):Int)<v405 then
          (
           ck ((s472.1.length+1) * 1≤140737488355328) <|
           ck ((s472.2.length+1) * 1≤140737488355328) <|
           some (.go ((s472.1++[128]),(s472.2++[191])))
          )
         else
          some (.out s472)
        ) (([]++a0),([]++a0))).bind fun o496=>
        k469 o496
     ) (fun v468=>
      (g67 v468.1).bind fun v509=>
      (g67 v468.2).bind fun v511=>
      ck (0≤v405∧v405<((5:Nat):Int)) <|
      if (([0,0,128,2048,65536]).getD v405.toNat 0)≤v511 then
       (
        if v509≤1114111 then
         (
          if v509<55296 then
           some true
          else
           some (decide (57343<v511))
         )
        else
         some false
       )
      else
       some false
     )
    )
  )
noncomputable def k66:Eng.CS:={ f:=66,calm:=true,more:=0,ι:=(List Int)×Bool,ok:=fun i=>g66 i.1=some i.2,rds:=fun _=>[],args:=fun i=>[.sl 1 i.1.length (ei .u8 i.1)],res:=fun i=>bS i.2 }
theorem k66_ok:zw Tryz.prog k66:=by
 refine R.calmspec Tryz.func66 (nq9 Tryz.func66) rfl ?_
 rintro ⟨a0,r⟩ hok q _ args hargs
 match args,hargs with
 | [_],hargs=>
 obtain ⟨⟨A0,cp0,rfl,hc0,_,hR0⟩,_⟩:=hargs
 refine ⟨envC [k65,k67,k122] false [(66,7)],6,zk (zd ⟨fun _=>k65_ok,nofun⟩ (zd ⟨fun _=>k67_ok,nofun⟩ (zd ⟨fun _=>k122_ok,nofun⟩ (zm)))),rfl,(by intro x hx;simp only [List.mem_cons,List.not_mem_nil,or_false] at hx;rcases hx with rfl<;>rfl),?_⟩
 have H:zf (g66 a0) (fun a=>a=r):=⟨r,hok,rfl⟩
 unfold g66 at H
 clear hok
 refine yh hR0 (fun h=>ei0 h) H fun h404 H=>?_
 refine zF (e:=a0.getD (0:Int).toNat 0) (zI hR0 (zH (l:=a0) (tn h404))) ?_
 obtain ⟨v405,hv406,H⟩:=zc H
 refine ⟨(a0.getD (0:Int).toNat 0,v405),⟨hv406⟩,⟨trivial⟩,?_⟩
 refine ⟨⟨rfl⟩,?_⟩
 refine z7 H ?_ ?_<;>intro h414 H
 ·have hfin:=z2 H
  repeat refine zY ?_
  trivial
 ·obtain ⟨v415,hv416,H⟩:=zc H
  refine ⟨(a0,v415),⟨hv416⟩,⟨trivial⟩,?_⟩
  refine And.intro ⟨rfl,hc0,ei_len.trans ((show _=_ from rfl).trans (Nat.mul_one _).symm),hR0⟩ ?_
  refine z7 H ?_ ?_<;>intro h417 H
  ·have hfin:=z2 H
   repeat refine zY ?_
   trivial
  ·refine rs_st hR0 (by rw [ei_len];simp) ?_
   refine yZ (by decide) (by first | exact ei_one | ((repeat (refine List.forall_mem_cons.2 ⟨rfl,?_⟩));intro y hy;cases hy;done) | (intro y hy;simp [ei,eb,es,ec] at hy;(first | (rcases hy with rfl | hy) | subst hy | skip);all_goals first | rfl | simp_all [Value.oneCell'])) H fun h418 H=>?_
   intro n419 zs421 hn420 hz422
   subst hn420 hz422
   refine rs_st hR0 (by rw [ei_len];simp) ?_
   refine yZ (by decide) (by first | exact ei_one | ((repeat (refine List.forall_mem_cons.2 ⟨rfl,?_⟩));intro y hy;cases hy;done) | (intro y hy;simp [ei,eb,es,ec] at hy;(first | (rcases hy with rfl | hy) | subst hy | skip);all_goals first | rfl | simp_all [Value.oneCell'])) H fun h423 H=>?_
   intro n424 zs426 hn425 hz427
   subst hn425 hz427
   refine R.cut_fam H 33 [3] [] (fun v468=>[(4,.own 33),(5,.own 34)]) (fun v468=>[(33,.arr 5 1 (v468.1.length) (ei .u8 (v468.1))),(34,.arr 5 1 (v468.2.length) (ei .u8 (v468.2)))]) [] 2 (fun H=>?_)
   refine And.intro ?_ ?_
   ·refine R.loop_fam (yn H) [3] [] (fun _ s472=>[(4,.own 23),(5,.own 24)]) (fun _ s472=>[(23,.arr 5 1 (s472.1.length) (ei .u8 (s472.1))),(24,.arr 5 1 (s472.2.length) (ei .u8 (s472.2)))]) 2 (fun n508 H=>?_)
    refine ⟨(n508,_),⟨H⟩,⟨trivial⟩,?_⟩
    repeat refine mo1K1 ?_
    rintro ⟨m0,s472⟩ H _
    obtain ⟨m473,hm0,H⟩:=yv H
    dsimp only at hm0
    subst hm0
    try dsimp only at H
    refine z7 H ?_ ?_<;>intro h497 H
    ·refine yZ (by decide) (by first | exact ei_one | ((repeat (refine List.forall_mem_cons.2 ⟨rfl,?_⟩));intro y hy;cases hy;done) | (intro y hy;simp [ei,eb,es,ec] at hy;(first | (rcases hy with rfl | hy) | subst hy | skip);all_goals first | rfl | simp_all [Value.oneCell'])) H fun h498 H=>?_
     intro n499 zs501 hn500 hz502
     subst hn500 hz502
     refine yZ (by decide) (by first | exact ei_one | ((repeat (refine List.forall_mem_cons.2 ⟨rfl,?_⟩));intro y hy;cases hy;done) | (intro y hy;simp [ei,eb,es,ec] at hy;(first | (rcases hy with rfl | hy) | subst hy | skip);all_goals first | rfl | simp_all [Value.oneCell'])) H fun h503 H=>?_
     intro n504 zs506 hn505 hz507
     subst hn505 hz507
     replace H:=zo H
     refine ⟨(m473,((s472.1++[128]),(s472.2++[191]))),⟨H,Nat.lt_succ_self _⟩,⟨trivial⟩,⟨rfl⟩,?_⟩
     repeat refine mo1K1 ?_
     trivial
    ·replace H:=zo H
     dsimp only [stp,sm] at H
     refine ⟨s472,⟨H⟩,⟨rfl⟩,?_⟩
     repeat refine mo1K1 ?_
     trivial
   ·intro v468 H
    obtain ⟨v509,hv510,H⟩:=zc H
    refine ⟨(v468.1,v509),⟨hv510⟩,⟨trivial⟩,?_⟩
    refine And.intro ⟨by first | rfl | (simp;done),by first | rfl | (simp [ei,eb,es,ec];done) | (simp only [ei,eb,es,ec,List.map_append,List.nil_append,List.append_assoc];rfl)⟩ ?_
    obtain ⟨v511,hv512,H⟩:=zc H
    refine ⟨(v468.2,v511),⟨hv512⟩,⟨trivial⟩,?_⟩
    refine And.intro ⟨by first | rfl | (simp;done),by first | rfl | (simp [ei,eb,es,ec];done) | (simp only [ei,eb,es,ec,List.map_append,List.nil_append,List.append_assoc];rfl)⟩ ?_
    refine ze H fun h513 H=>?_
    refine zF (e:=([0,0,128,2048,65536]).getD v405.toNat 0) (own_get (ys:=ei .i32 ([0,0,128,2048,65536])) (by first | rfl | simp [ei,eb,es,ec]) (zH (l:=[0,0,128,2048,65536]) (by first | exact tn h513 | (have:=tn h513;simp at this ⊢;omega) | (have:=tn h513;simp;omega)))) ?_
    repeat' refine z7 H (fun _ H=>?_) (fun _ H=>?_)
    all_goals
     have hfin:=z2 H
     repeat refine zY ?_
     trivial
noncomputable def g32 (a0:List Int):Option (Int×Int×Bool):=
 if ((a0.length:Nat):Int)=0 then
  some (0,0,true)
 else
  (
   ck (0≤(0:Int)∧0<((a0.length:Nat):Int)) <|
   (g65 (a0.getD (0:Int).toNat 0)).bind fun v520=>
   jn (α:=_) (β:=Bool) (fun k564=>
     if 0<v520 then
      (
       if v520≤((a0.length:Nat):Int) then
        (
         ck (0≤(0:Int)∧(0:Int)≤v520∧v520≤((a0.length:Nat):Int)) <|
         (g66 ((a0.drop (0:Int).toNat).take (v520.toNat-(0:Int).toNat))).bind fun v571=>
         k564 v571
        )
       else
        k564 false
      )
     else
      k564 false
   ) (fun v563=>
    if v563=true then
     (
      ck (0≤(0:Int)∧(0:Int)≤v520∧v520≤((a0.length:Nat):Int)) <|
      (g67 ((a0.drop (0:Int).toNat).take (v520.toNat-(0:Int).toNat))).bind fun v578=>
      some (v578,v520,false)
     )
    else
     (
      if 0<v520 then
       (
        if ((a0.length:Nat):Int)<v520 then
         (
          (g66 a0).bind fun v591=>
          if v591=true then
           some (0,0,true)
          else
           some (65533,1,false)
         )
        else
         some (65533,1,false)
       )
      else
       some (65533,1,false)
     )
   )
  )
noncomputable def k32:Eng.CS:={ f:=32,calm:=true,more:=0,ι:=(List Int)×(Int×Int×Bool),ok:=fun i=>g32 i.1=some i.2,rds:=fun _=>[],args:=fun i=>[.sl 1 i.1.length (ei .u8 i.1)],res:=fun i=>.tup [.v (.int .i32 (i.2.1)),.v (.int .i64 (i.2.2.1)),bS i.2.2.2] }
theorem k32_ok:zw Tryz.prog k32:=by
 refine R.calmspec Tryz.func32 (nq9 Tryz.func32) rfl ?_
 rintro ⟨a0,r⟩ hok q _ args hargs
 match args,hargs with
 | [_],hargs=>
 obtain ⟨⟨A0,cp0,rfl,hc0,_,hR0⟩,_⟩:=hargs
 refine ⟨envC [k65,k66,k67] false [(32,5)],6,zk (zd ⟨fun _=>k65_ok,nofun⟩ (zd ⟨fun _=>k66_ok,nofun⟩ (zd ⟨fun _=>k67_ok,nofun⟩ (zm)))),rfl,(by intro x hx;simp only [List.mem_cons,List.not_mem_nil,or_false] at hx;rcases hx with rfl<;>rfl),?_⟩
 have H:zf (g32 a0) (fun a=>a=r):=⟨r,hok,rfl⟩
 unfold g32 at H
 clear hok
 refine z7 H ?_ ?_<;>intro h518 H
 ·have hfin:=z2 H
  repeat refine zY ?_
  trivial
 ·refine yh hR0 (fun h=>ei0 h) H fun h519 H=>?_
  refine zF (e:=a0.getD (0:Int).toNat 0) (zI hR0 (zH (l:=a0) (tn h519))) ?_
  obtain ⟨v520,hv521,H⟩:=zc H
  refine ⟨(a0.getD (0:Int).toNat 0,v520),⟨hv521⟩,⟨trivial⟩,?_⟩
  refine ⟨⟨rfl⟩,?_⟩
  refine R.cut_fam H 26 [0,5] [] (fun v563=>[(26,bS v563)]) (fun v563=>[]) [] 0 (fun H=>?_)
  refine And.intro ?_ ?_
  ·refine z7 H ?_ ?_<;>intro h565 H
   ·refine z7 H ?_ ?_<;>intro h566 H
    ·refine ob_sl hc0 H fun h567 H=>?_
     have hs568:=sl_ei hR0 rfl hc0 h567
     intro n569 hn570
     subst hn570
     obtain ⟨v571,hv572,H⟩:=zc H
     refine ⟨(((a0.drop (0:Int).toNat).take (v520.toNat-(0:Int).toNat)),v571),⟨hv572⟩,⟨trivial⟩,?_⟩
     refine And.intro ⟨(hs568.2.1).symm,hs568.2.2,ei_len.trans ((show _=_ from hs568.2.1).trans (Nat.mul_one _).symm),hs568.1⟩ ?_
     refine ⟨v571,⟨H⟩,⟨rfl⟩,?_⟩
     repeat refine mo1K1 ?_
     trivial
    ·refine ⟨false,⟨H⟩,⟨rfl⟩,?_⟩
     repeat refine mo1K1 ?_
     trivial
   ·refine ⟨false,⟨H⟩,⟨rfl⟩,?_⟩
    repeat refine mo1K1 ?_
    trivial
  ·intro v563 H
   refine z7 H ?_ ?_<;>intro h573 H
   ·refine ob_sl hc0 H fun h574 H=>?_
    have hs575:=sl_ei hR0 rfl hc0 h574
    intro n576 hn577
    subst hn577
    obtain ⟨v578,hv579,H⟩:=zc H
    refine ⟨(((a0.drop (0:Int).toNat).take (v520.toNat-(0:Int).toNat)),v578),⟨hv579⟩,⟨trivial⟩,?_⟩
    refine And.intro ⟨(hs575.2.1).symm,hs575.2.2,ei_len.trans ((show _=_ from hs575.2.1).trans (Nat.mul_one _).symm),hs575.1⟩ ?_
    have hfin:=z2 H
    repeat refine zY ?_
    trivial
   ·refine z7 H ?_ ?_<;>intro h589 H
    ·refine z7 H ?_ ?_<;>intro h590 H
     ·obtain ⟨v591,hv592,H⟩:=zc H
      refine ⟨(a0,v591),⟨hv592⟩,⟨trivial⟩,?_⟩
      refine And.intro ⟨rfl,hc0,ei_len.trans ((show _=_ from rfl).trans (Nat.mul_one _).symm),hR0⟩ ?_
      refine z7 H (fun _ H=>?_) (fun _ H=>?_)
      all_goals
       have hfin:=z2 H
       repeat refine zY ?_
       trivial
     ·have hfin:=z2 H
      repeat refine zY ?_
      trivial
    ·have hfin:=z2 H
     repeat refine zY ?_
     trivial
end Go.Proofs.YtmpknfgjfmgleaaGreatDoor
end
section
set_option maxRecDepth 8000
set_option maxHeartbeats 4000000
namespace Go.Proofs.YtmpknfgjfmgleaaGreatDoor
open Go Go.Eng
theorem z8 {p q:Prop} (k:q) (h:p:=by first | exact rfl | exact Iff.rfl | exact ⟨rfl,rfl⟩ | exact decide_eq_true_iff | (constructor<;>first | exact rfl | (simp only [ei,eb,es,ec,gmin,gmax,List.map_append,List.flatMap_append,List.nil_append,List.append_nil,List.append_assoc];done) | omega | (simp only [List.nil_append,List.length_append,List.length_cons,List.length_nil];omega) | (simp [ei,eb,es,ec,gmin,gmax];done)) | exact rfl | (simp only [ei,eb,es,ec,gmin,gmax,List.map_append,List.flatMap_append,List.nil_append,List.append_nil,List.append_assoc];done) | omega | (simp only [List.nil_append,List.length_append,List.length_cons,List.length_nil];omega) | (simp [ei,eb,es,ec,gmin,gmax];done) | simp [ei,eb,es,ec,gmin,gmax]):Ob p∧q:=⟨⟨h⟩,k⟩
theorem zg {p q:Prop} (k:q) (h:p:=by first | (rw [←hfin]<;>first | exact rfl | exact Iff.rfl | exact ⟨rfl,rfl⟩ | exact decide_eq_true_iff | (constructor<;>first | exact rfl | (simp only [ei,eb,es,ec,gmin,gmax,List.map_append,List.flatMap_append,List.nil_append,List.append_nil,List.append_assoc];done) | omega | (simp only [List.nil_append,List.length_append,List.length_cons,List.length_nil];omega) | (simp [ei,eb,es,ec,gmin,gmax];done)) | exact rfl | (simp only [ei,eb,es,ec,gmin,gmax,List.map_append,List.flatMap_append,List.nil_append,List.append_nil,List.append_assoc];done) | omega | (simp only [List.nil_append,List.length_append,List.length_cons,List.length_nil];omega) | (simp [ei,eb,es,ec,gmin,gmax];done) | simp [ei,eb,es,ec,gmin,gmax]) | first | exact rfl | exact Iff.rfl | exact ⟨rfl,rfl⟩ | exact decide_eq_true_iff | (constructor<;>first | exact rfl | (simp only [ei,eb,es,ec,gmin,gmax,List.map_append,List.flatMap_append,List.nil_append,List.append_nil,List.append_assoc];done) | omega | (simp only [List.nil_append,List.length_append,List.length_cons,List.length_nil];omega) | (simp [ei,eb,es,ec,gmin,gmax];done)) | exact rfl | (simp only [ei,eb,es,ec,gmin,gmax,List.map_append,List.flatMap_append,List.nil_append,List.append_nil,List.append_assoc];done) | omega | (simp only [List.nil_append,List.length_append,List.length_cons,List.length_nil];omega) | (simp [ei,eb,es,ec,gmin,gmax];done) | simp [ei,eb,es,ec,gmin,gmax]):Ob p∧q:=⟨⟨h⟩,k⟩
noncomputable def g276 (a0:List Int):Option (Int×Int):=
 (g61 a0).bind fun v1=>
 if v1.2.2=true then
  some (65533,1)
 else
  some (v1.1,v1.2.1)
noncomputable def k276:Eng.CS:={ f:=276,calm:=true,more:=0,ι:=(List Int)×(Int×Int),ok:=fun i=>g276 i.1=some i.2,rds:=fun _=>[],args:=fun i=>[.sl 1 i.1.length (ei .u8 i.1)],res:=fun i=>.tup [.v (.int .i32 (i.2.1)),.v (.int .i64 (i.2.2))] }
theorem k276_ok:zw Tryz.prog k276:=by
 refine R.calmspec Tryz.func276 (nq9 Tryz.func276) rfl ?_
 rintro ⟨a0,r⟩ hok q _ args hargs
 match args,hargs with
 | [_],hargs=>
 obtain ⟨⟨A0,cp0,rfl,hc0,_,hR0⟩,_⟩:=hargs
 refine ⟨envC [k61] false [],6,zk (zd ⟨fun _=>k61_ok,nofun⟩ (zm)),rfl,(by intro x hx;simp only [List.mem_cons,List.not_mem_nil,or_false] at hx;rcases hx with rfl<;>rfl),?_⟩
 have H:zf (g276 a0) (fun a=>a=r):=⟨r,hok,rfl⟩
 unfold g276 at H
 clear hok
 obtain ⟨v1,hv2,H⟩:=zc H
 refine ⟨(a0,v1),⟨hv2⟩,⟨trivial⟩,?_⟩
 refine And.intro ⟨rfl,hc0,ei_len.trans ((show _=_ from rfl).trans (Nat.mul_one _).symm),hR0⟩ ?_
 refine z7 H (fun _ H=>?_) (fun _ H=>?_)
 all_goals
  have hfin:=z2 H
  repeat refine zg ?_
  trivial
noncomputable def g60 (a0:ByteArray):Option (Int):=
 jn (α:=_) (β:=Int) (fun k52=>
   ck (a0.size≤140737488355328) <|
   (yr (σ:=Int×Int) (ρ:=Int) (fun s64=>
     if s64.2<(((z6 a0).length:Nat):Int) then
      (
       ck (0≤s64.2∧s64.2≤(((z6 a0).length:Nat):Int)∧(((z6 a0).length:Nat):Int)≤(((z6 a0).length:Nat):Int)) <|
       (g276 (((z6 a0).drop s64.2.toNat).take ((((z6 a0).length:Nat):Int).toNat-s64.2.toNat))).bind fun v90=>
       ck (inR .i64 (s64.1+1)) <|
       ck (inR .i64 (s64.2+v90.2)) <|
       some (.go (s64.1+1,s64.2+v90.2))
      )
     else
      some (.out s64.1)
    ) (0,0)).bind fun o84=>
    k52 o84
 ) (fun v51=>
  some v51
 )
noncomputable def k60:Eng.CS:={ f:=60,calm:=true,more:=0,ι:=ByteArray×Int,ok:=fun i=>g60 i.1=some i.2,rds:=fun _=>[],args:=fun i=>[.w (.v (.string (i.1)))],res:=fun i=>.v (.int .i64 (i.2)) }
theorem k60_ok:zw Tryz.prog k60:=by
 refine R.calmspec Tryz.func60 (nq9 Tryz.func60) rfl ?_
 rintro ⟨a0,r⟩ hok q _ args hargs
 match args,hargs with
 | [_],hargs=>
 obtain ⟨rfl,_⟩:=hargs
 refine ⟨envC [k276] false [(60,4)],6,zk (zd ⟨fun _=>k276_ok,nofun⟩ (zm)),rfl,(by intro x hx;simp only [List.mem_cons,List.not_mem_nil,or_false] at hx;rcases hx with rfl<;>rfl),?_⟩
 have H:zf (g60 a0) (fun a=>a=r):=⟨r,hok,rfl⟩
 unfold g60 at H
 clear hok
 refine R.cut_famG H 23 [3] [] [] (fun v51=>[]) (fun v51=>[(1,.cells 3 [.v (.int .i64 (v51))])]) [] 0 (fun H=>?_)
 refine And.intro ?_ ?_
 ·refine ob_sb H fun h58 H q59 A53 c54 hq55 hc56 hR57=>?_
  intro n60 hn61
  obtain rfl:n60=(z6 a0).length:=hn61.trans (zp a0).symm
  refine R.loop_fam (yn H) [0,1] [] (fun _ s64=>[(3,.v (.int .i64 (s64.2)))]) (fun _ s64=>[(1,.cells 3 [.v (.int .i64 (s64.1))])]) 0 (fun n94 H=>?_)
  refine ⟨(n94,_),⟨H⟩,⟨trivial⟩,?_⟩
  repeat refine z8 ?_
  rintro ⟨m0,s64⟩ H _
  obtain ⟨m65,hm0,H⟩:=yv H
  dsimp only at hm0
  subst hm0
  try dsimp only at H
  refine z7 H ?_ ?_<;>intro h85 H
  ·refine ob_sl (Nat.le_trans (Nat.le_of_eq (zp a0)) hc56) H fun h86 H=>?_
   have hs87:=sl_ei hR57 rfl (Nat.le_trans (Nat.le_of_eq (zp a0)) hc56) h86
   intro n88 hn89
   obtain rfl:n88=(((z6 a0).drop s64.2.toNat).take ((((z6 a0).length:Nat):Int).toNat-s64.2.toNat)).length:=hn89.trans hs87.2.1.symm
   obtain ⟨v90,hv91,H⟩:=zc H
   refine ⟨((((z6 a0).drop s64.2.toNat).take ((((z6 a0).length:Nat):Int).toNat-s64.2.toNat)),v90),⟨hv91⟩,⟨trivial⟩,?_⟩
   refine And.intro ⟨rfl,(Nat.le_trans (Nat.le_of_eq hs87.2.1) hs87.2.2),ei_len.trans ((show _=_ from rfl).trans (Nat.mul_one _).symm),hs87.1⟩ ?_
   refine ze H fun h92 H=>?_
   refine ze H fun h93 H=>?_
   replace H:=zo H
   refine ⟨(m65,(s64.1+1,s64.2+v90.2)),⟨H,Nat.lt_succ_self _⟩,⟨trivial⟩,⟨rfl⟩,?_⟩
   repeat refine z8 ?_
   trivial
  ·replace H:=zo H
   dsimp only [stp,sm] at H
   refine ⟨s64.1,⟨H⟩,⟨fun _ _ _ h=>(hq55 _ _ _ h)⟩,?_⟩
   repeat refine z8 ?_
   trivial
 ·intro q50 hq49 v51 H
  have hfin:=z2 H
  repeat refine zg ?_
  trivial
noncomputable def g26 (a0:ByteArray):Option (Bool):=
 ck (a0.size≤140737488355328) <|
 jn (α:=_) (β:=Unit) (fun k162=>
   (yr (σ:=Int) (ρ:=(Unit) ⊕ (Unit)) (fun s165=>
     if s165<(((z6 a0).length:Nat):Int) then
      (
       ck (0≤s165∧s165≤(((z6 a0).length:Nat):Int)∧(((z6 a0).length:Nat):Int)≤(((z6 a0).length:Nat):Int)) <|
       (g61 (((z6 a0).drop s165.toNat).take ((((z6 a0).length:Nat):Int).toNat-s165.toNat))).bind fun v201=>
       if v201.2.2=true then
        some (.out (.inl (())))
       else
        (
         if ¬v201.1=65533 then
          (
           ck (inR .i64 (s165+v201.2.1)) <|
           some (.go (s165+v201.2.1))
          )
         else
          (
           (g62 65533).bind fun v206=>
           if ¬v201.2.1=((v206.length:Nat):Int) then
            some (.out (.inl (())))
           else
            (
             ck (inR .i64 (s165+v201.2.1)) <|
             some (.go (s165+v201.2.1))
            )
          )
        )
      )
     else
      some (.out (.inr (())))
    ) 0).bind fun o195=>
   sm o195 (fun o210=>
     some false
    ) (fun o211=>
     k162 ()
    )
 ) (fun v161=>
  some true
 )
noncomputable def k26:Eng.CS:={ f:=26,calm:=true,more:=0,ι:=ByteArray×Bool,ok:=fun i=>g26 i.1=some i.2,rds:=fun _=>[],args:=fun i=>[.w (.v (.string (i.1)))],res:=fun i=>bS i.2 }
theorem k26_ok:zw Tryz.prog k26:=by
 refine R.calmspec Tryz.func26 (nq9 Tryz.func26) rfl ?_
 rintro ⟨a0,r⟩ hok q _ args hargs
 match args,hargs with
 | [_],hargs=>
 obtain ⟨rfl,_⟩:=hargs
 refine ⟨envC [k61,k62] false [(26,12)],6,zk (zd ⟨fun _=>k61_ok,nofun⟩ (zd ⟨nofun,fun _=>k62_ok⟩ (zm))),rfl,(by intro x hx;simp only [List.mem_cons,List.not_mem_nil,or_false] at hx;rcases hx with rfl<;>rfl),?_⟩
 have H:zf (g26 a0) (fun a=>a=r):=⟨r,hok,rfl⟩
 unfold g26 at H
 clear hok
 refine ob_sb H fun h100 H q101 A95 c96 hq97 hc98 hR99=>?_
 intro n102 hn103
 obtain rfl:n102=(z6 a0).length:=hn103.trans (zp a0).symm
 refine R.cut_fam H 11 [] [] (fun v161=>[]) (fun v161=>[]) [] 0 (fun H=>?_)
 refine And.intro ?_ ?_
 ·refine R.loop_fam (yn H) [3] [] (fun _ s165=>[(4,.v (.int .i64 (s165)))]) (fun _ s165=>[]) 0 (fun n212 H=>?_)
  refine ⟨(n212,_),⟨H⟩,⟨trivial⟩,?_⟩
  repeat refine z8 ?_
  rintro ⟨m0,s165⟩ H _
  obtain ⟨m166,hm0,H⟩:=yv H
  dsimp only at hm0
  subst hm0
  try dsimp only at H
  refine z7 H ?_ ?_<;>intro h196 H
  ·refine ob_sl (Nat.le_trans (Nat.le_of_eq (zp a0)) hc98) H fun h197 H=>?_
   have hs198:=sl_ei hR99 rfl (Nat.le_trans (Nat.le_of_eq (zp a0)) hc98) h197
   intro n199 hn200
   obtain rfl:n199=(((z6 a0).drop s165.toNat).take ((((z6 a0).length:Nat):Int).toNat-s165.toNat)).length:=hn200.trans hs198.2.1.symm
   obtain ⟨v201,hv202,H⟩:=zc H
   refine ⟨((((z6 a0).drop s165.toNat).take ((((z6 a0).length:Nat):Int).toNat-s165.toNat)),v201),⟨hv202⟩,⟨trivial⟩,?_⟩
   refine And.intro ⟨rfl,(Nat.le_trans (Nat.le_of_eq hs198.2.1) hs198.2.2),ei_len.trans ((show _=_ from rfl).trans (Nat.mul_one _).symm),hs198.1⟩ ?_
   refine z7 H ?_ ?_<;>intro h203 H
   ·replace H:=zo H
    dsimp only [stp,sm] at H
    have hfin:=z2 H
    repeat refine zg ?_
    trivial
   ·refine z7 H ?_ ?_<;>intro h204 H
    ·refine ze H fun h205 H=>?_
     replace H:=zo H
     refine ⟨(m166,s165+v201.2.1),⟨H,Nat.lt_succ_self _⟩,⟨trivial⟩,⟨rfl⟩,?_⟩
     repeat refine z8 ?_
     trivial
    ·obtain ⟨v206,hv207,H⟩:=zc H
     refine ⟨(65533,v206),⟨hv207⟩,⟨trivial⟩,?_⟩
     refine ⟨⟨rfl⟩,?_⟩
     refine z7 H ?_ ?_<;>intro h208 H
     ·replace H:=zo H
      dsimp only [stp,sm] at H
      have hfin:=z2 H
      repeat refine zg ?_
      trivial
     ·refine ze H fun h209 H=>?_
      replace H:=zo H
      refine ⟨(m166,s165+v201.2.1),⟨H,Nat.lt_succ_self _⟩,⟨trivial⟩,⟨rfl⟩,?_⟩
      repeat refine z8 ?_
      trivial
  ·replace H:=zo H
   dsimp only [stp,sm] at H
   refine ⟨(),⟨H⟩,⟨rfl⟩,?_⟩
   repeat refine z8 ?_
   trivial
 ·intro v161 H
  have hfin:=z2 H
  repeat refine zg ?_
  trivial
end Go.Proofs.YtmpknfgjfmgleaaGreatDoor
end
section
set_option maxRecDepth 8000
set_option maxHeartbeats 4000000
namespace Go.Proofs.YtmpknfgjfmgleaaGreatDoor
open Go Go.Eng
noncomputable def g24 (a0:ByteArray):Option (ByteArray):=
 jn (α:=_) (β:=Bool) (fun k35=>
   if a0.data.toList=(lit [104]).data.toList then
    k35 (decide (a0.data.toList=(lit [104]).data.toList))
   else
    (
     if a0.data.toList=(lit [105]).data.toList then
      k35 (decide (a0.data.toList=(lit [105]).data.toList))
     else
      (
       if a0.data.toList=(lit [106]).data.toList then
        k35 (decide (a0.data.toList=(lit [106]).data.toList))
       else
        k35 (decide (a0.data.toList=(lit [109]).data.toList))
      )
    )
 ) (fun v34=>
  if v34=true then
   some (lit [])
  else
   (
    jn (α:=_) (β:=Bool) (fun k45=>
      if a0.data.toList=(lit [64]).data.toList then
       k45 (decide (a0.data.toList=(lit [64]).data.toList))
      else
       (
        if a0.data.toList=(lit [92]).data.toList then
         k45 (decide (a0.data.toList=(lit [92]).data.toList))
        else
         (
          if a0.data.toList=(lit [93]).data.toList then
           k45 (decide (a0.data.toList=(lit [93]).data.toList))
          else
           (
            if a0.data.toList=(lit [94]).data.toList then
             k45 (decide (a0.data.toList=(lit [94]).data.toList))
            else
             k45 (decide (a0.data.toList=(lit [95]).data.toList))
           )
         )
       )
    ) (fun v44=>
     if v44=true then
      (
       ck (0≤(0:Int)∧0<(a0.size:Int)) <|
       ck (inR .u8 (((a0.data.toList[(0:Int).toNat]?.getD 0).toNat:Int)-64)) <|
       ck (zM ([((a0.data.toList[(0:Int).toNat]?.getD 0).toNat:Int)-64])) <|
       some (zV ([((a0.data.toList[(0:Int).toNat]?.getD 0).toNat:Int)-64]))
      )
     else
      (
       if ¬(a0.size:Int)=1 then
        some (lit [])
       else
        (
         ck (0≤(0:Int)∧0<(a0.size:Int)) <|
         if ((a0.data.toList[(0:Int).toNat]?.getD 0).toNat:Int)<97 then
          some (lit [])
         else
          (
           ck (0≤(0:Int)∧0<(a0.size:Int)) <|
           if 122<((a0.data.toList[(0:Int).toNat]?.getD 0).toNat:Int) then
            some (lit [])
           else
            (
             ck (0≤(0:Int)∧0<(a0.size:Int)) <|
             ck (inR .u8 (((a0.data.toList[(0:Int).toNat]?.getD 0).toNat:Int)-96)) <|
             ck (zM ([((a0.data.toList[(0:Int).toNat]?.getD 0).toNat:Int)-96])) <|
             some (zV ([((a0.data.toList[(0:Int).toNat]?.getD 0).toNat:Int)-96]))
            )
          )
        )
      )
    )
   )
 )
noncomputable def k24:Eng.CS:={ f:=24,calm:=true,more:=0,ι:=ByteArray×ByteArray,ok:=fun i=>g24 i.1=some i.2,rds:=fun _=>[],args:=fun i=>[.w (.v (.string (i.1)))],res:=fun i=>.v (.string (i.2)) }
theorem k24_ok:zw Tryz.prog k24:=by
 refine R.calmspec Tryz.func24 (nq9 Tryz.func24) rfl ?_
 rintro ⟨a0,r⟩ hok q _ args hargs
 match args,hargs with
 | [_],hargs=>
 obtain ⟨rfl,_⟩:=hargs
 refine ⟨envC [] false [(24,6),(24,12)],6,zk (zm),rfl,(by intro x hx;simp only [List.mem_cons,List.not_mem_nil,or_false] at hx;rcases hx with rfl<;>rfl),?_⟩
 have H:zf (g24 a0) (fun a=>a=r):=⟨r,hok,rfl⟩
 unfold g24 at H
 clear hok
 refine R.cut_fam H 11 [0,3] [] (fun v34=>[(4,bS v34)]) (fun v34=>[]) [] 0 (fun H=>?_)
 refine And.intro ?_ ?_
 ·refine z7 H ?_ ?_<;>intro h36 H
  ·refine ⟨_,⟨H⟩,⟨rfl⟩,?_⟩
   repeat refine z8 ?_
   trivial
  ·refine z7 H ?_ ?_<;>intro h37 H
   ·refine ⟨_,⟨H⟩,⟨rfl⟩,?_⟩
    repeat refine z8 ?_
    trivial
   ·refine z7 H ?_ ?_<;>intro h38 H
    ·refine ⟨_,⟨H⟩,⟨rfl⟩,?_⟩
     repeat refine z8 ?_
     trivial
    ·refine ⟨_,⟨H⟩,⟨rfl⟩,?_⟩
     repeat refine z8 ?_
     trivial
 ·intro v34 H
  refine z7 H ?_ ?_<;>intro h39 H
  ·have hfin:=z2 H
   repeat refine zg ?_
   trivial
  ·refine R.cut_fam H 22 [0] [] (fun v44=>[(9,bS v44)]) (fun v44=>[]) [] 0 (fun H=>?_)
   refine And.intro ?_ ?_
   ·refine z7 H ?_ ?_<;>intro h46 H
    ·refine ⟨_,⟨H⟩,⟨rfl⟩,?_⟩
     repeat refine z8 ?_
     trivial
    ·refine z7 H ?_ ?_<;>intro h47 H
     ·refine ⟨_,⟨H⟩,⟨rfl⟩,?_⟩
      repeat refine z8 ?_
      trivial
     ·refine z7 H ?_ ?_<;>intro h48 H
      ·refine ⟨_,⟨H⟩,⟨rfl⟩,?_⟩
       repeat refine z8 ?_
       trivial
      ·refine z7 H ?_ ?_<;>intro h49 H
       ·refine ⟨_,⟨H⟩,⟨rfl⟩,?_⟩
        repeat refine z8 ?_
        trivial
       ·refine ⟨_,⟨H⟩,⟨rfl⟩,?_⟩
        repeat refine z8 ?_
        trivial
   ·intro v44 H
    refine z7 H ?_ ?_<;>intro h50 H
    ·refine ze H fun h51 H=>?_
     refine ze H fun h52 H=>?_
     refine yA (l:=[((a0.data.toList[(0:Int).toNat]?.getD 0).toNat:Int)-64]) H fun h53 H=>?_
     have hfin:=z2 H
     repeat refine zg ?_
     trivial
    ·refine z7 H ?_ ?_<;>intro h63 H
     ·have hfin:=z2 H
      repeat refine zg ?_
      trivial
     ·refine ze H fun h64 H=>?_
      refine z7 H ?_ ?_<;>intro h65 H
      ·have hfin:=z2 H
       repeat refine zg ?_
       trivial
      ·refine ze H fun h66 H=>?_
       refine z7 H ?_ ?_<;>intro h67 H
       ·have hfin:=z2 H
        repeat refine zg ?_
        trivial
       ·refine ze H fun h68 H=>?_
        refine ze H fun h69 H=>?_
        refine yA (l:=[((a0.data.toList[(0:Int).toNat]?.getD 0).toNat:Int)-96]) H fun h70 H=>?_
        have hfin:=z2 H
        repeat refine zg ?_
        trivial
noncomputable def g25 (a0:(Int×ByteArray×Int×Bool×Bool×Bool)):Option (Bool):=
 if a0.2.1.data.toList=(lit []).data.toList then
  some (decide (a0.2.2.1=0))
 else
  some false
noncomputable def k25:Eng.CS:={ f:=25,calm:=true,more:=0,ι:=(Int×ByteArray×Int×Bool×Bool×Bool)×Bool,ok:=fun i=>g25 i.1=some i.2,rds:=fun _=>[],args:=fun i=>[.w (.agg [.v (.int .i64 (i.1.1)),.v (.string (i.1.2.1)),.v (.int .i64 (i.1.2.2.1)),bS i.1.2.2.2.1,bS i.1.2.2.2.2.1,bS i.1.2.2.2.2.2])],res:=fun i=>bS i.2 }
theorem k25_ok:zw Tryz.prog k25:=by
 refine R.calmspec Tryz.func25 (nq9 Tryz.func25) rfl ?_
 rintro ⟨a0,r⟩ hok q _ args hargs
 match args,hargs with
 | [_],hargs=>
 obtain ⟨rfl,_⟩:=hargs
 refine ⟨envC [] false [],6,zk (zm),rfl,(by intro x hx;simp only [List.mem_cons,List.not_mem_nil,or_false] at hx;rcases hx with rfl<;>rfl),?_⟩
 have H:zf (g25 a0) (fun a=>a=r):=⟨r,hok,rfl⟩
 unfold g25 at H
 clear hok
 refine z7 H (fun _ H=>?_) (fun _ H=>?_)
 all_goals
  have hfin:=z2 H
  repeat refine zg ?_
  trivial
noncomputable def g29 (a0:Int):Option (Int):=
 if a0=8 then
  some 65
 else
  (
   if a0=9 then
    some 66
   else
    (
     if a0=11 then
      some 67
     else
      (
       if a0=10 then
        some 68
       else
        (
         if a0=12 then
          some 72
         else
          (
           if a0=13 then
            some 70
           else
            some 0
          )
        )
      )
    )
  )
noncomputable def k29:Eng.CS:={ f:=29,calm:=true,more:=0,ι:=Int×Int,ok:=fun i=>g29 i.1=some i.2,rds:=fun _=>[],args:=fun i=>[.w (.v (.int .i64 (i.1)))],res:=fun i=>.v (.int .u8 (i.2)) }
theorem k29_ok:zw Tryz.prog k29:=by
 refine R.calmspec Tryz.func29 (nq9 Tryz.func29) rfl ?_
 rintro ⟨a0,r⟩ hok q _ args hargs
 match args,hargs with
 | [_],hargs=>
 obtain ⟨rfl,_⟩:=hargs
 refine ⟨envC [] false [],6,zk (zm),rfl,(by intro x hx;simp only [List.mem_cons,List.not_mem_nil,or_false] at hx;rcases hx with rfl<;>rfl),?_⟩
 have H:zf (g29 a0) (fun a=>a=r):=⟨r,hok,rfl⟩
 unfold g29 at H
 clear hok
 repeat' refine z7 H (fun _ H=>?_) (fun _ H=>?_)
 all_goals
  have hfin:=z2 H
  repeat refine zg ?_
  trivial
noncomputable def g30 (a0:(Int×ByteArray×Int×Bool×Bool×Bool)):Option (Int):=
 if a0.1=18 then
  (
   jn (α:=_) (β:=Bool) (fun k123=>
     if 1≤a0.2.2.1 then
      k123 (decide (a0.2.2.1≤5))
     else
      k123 false
   ) (fun v122=>
    if v122=true then
     (
      ck (inR .i64 (a0.2.2.1+10)) <|
      some (a0.2.2.1+10)
     )
    else
     (
      jn (α:=_) (β:=Bool) (fun k129=>
        if 6≤a0.2.2.1 then
         k129 (decide (a0.2.2.1≤10))
        else
         k129 false
      ) (fun v128=>
       if v128=true then
        (
         ck (inR .i64 (a0.2.2.1+11)) <|
         some (a0.2.2.1+11)
        )
       else
        (
         if a0.2.2.1=11 then
          (
           ck (inR .i64 (a0.2.2.1+12)) <|
           some (a0.2.2.1+12)
          )
         else
          (
           if a0.2.2.1=12 then
            (
             ck (inR .i64 (a0.2.2.1+12)) <|
             some (a0.2.2.1+12)
            )
           else
            some 0
          )
        )
      )
     )
   )
  )
 else
  (
   if ¬a0.2.2.1=0 then
    some 0
   else
    (
     if a0.1=7 then
      some 3
     else
      (
       if a0.1=14 then
        some 5
       else
        (
         if a0.1=15 then
          some 6
         else
          some 0
        )
      )
    )
  )
noncomputable def k30:Eng.CS:={ f:=30,calm:=true,more:=0,ι:=(Int×ByteArray×Int×Bool×Bool×Bool)×Int,ok:=fun i=>g30 i.1=some i.2,rds:=fun _=>[],args:=fun i=>[.w (.agg [.v (.int .i64 (i.1.1)),.v (.string (i.1.2.1)),.v (.int .i64 (i.1.2.2.1)),bS i.1.2.2.2.1,bS i.1.2.2.2.2.1,bS i.1.2.2.2.2.2])],res:=fun i=>.v (.int .i64 (i.2)) }
theorem k30_ok:zw Tryz.prog k30:=by
 refine R.calmspec Tryz.func30 (nq9 Tryz.func30) rfl ?_
 rintro ⟨a0,r⟩ hok q _ args hargs
 match args,hargs with
 | [_],hargs=>
 obtain ⟨rfl,_⟩:=hargs
 refine ⟨envC [] false [(30,3),(30,5)],6,zk (zm),rfl,(by intro x hx;simp only [List.mem_cons,List.not_mem_nil,or_false] at hx;rcases hx with rfl<;>rfl),?_⟩
 have H:zf (g30 a0) (fun a=>a=r):=⟨r,hok,rfl⟩
 unfold g30 at H
 clear hok
 refine z7 H ?_ ?_<;>intro h120 H
 ·refine R.cut_fam H 15 [1] [] (fun v122=>[(6,bS v122)]) (fun v122=>[]) [(0,.cells 24 [.v (.int .i64 (a0.1)),.v (.string (a0.2.1)),.v (.int .i64 (a0.2.2.1)),bS a0.2.2.2.1,bS a0.2.2.2.2.1,bS a0.2.2.2.2.2])] 0 (fun H=>?_)
  refine And.intro ?_ ?_
  ·refine z7 H ?_ ?_<;>intro h124 H
   ·refine ⟨_,⟨H⟩,⟨rfl⟩,?_⟩
    repeat refine z8 ?_
    trivial
   ·refine ⟨false,⟨H⟩,⟨rfl⟩,?_⟩
    repeat refine z8 ?_
    trivial
  ·intro v122 H
   refine z7 H ?_ ?_<;>intro h125 H
   ·refine ze H fun h126 H=>?_
    have hfin:=z2 H
    repeat refine zg ?_
    trivial
   ·refine R.cut_fam H 25 [1] [] (fun v128=>[(18,bS v128)]) (fun v128=>[]) [(0,.cells 24 [.v (.int .i64 (a0.1)),.v (.string (a0.2.1)),.v (.int .i64 (a0.2.2.1)),bS a0.2.2.2.1,bS a0.2.2.2.2.1,bS a0.2.2.2.2.2])] 0 (fun H=>?_)
    refine And.intro ?_ ?_
    ·refine z7 H ?_ ?_<;>intro h130 H
     ·refine ⟨_,⟨H⟩,⟨rfl⟩,?_⟩
      repeat refine z8 ?_
      trivial
     ·refine ⟨false,⟨H⟩,⟨rfl⟩,?_⟩
      repeat refine z8 ?_
      trivial
    ·intro v128 H
     refine z7 H ?_ ?_<;>intro h131 H
     ·refine ze H fun h132 H=>?_
      have hfin:=z2 H
      repeat refine zg ?_
      trivial
     ·refine z7 H ?_ ?_<;>intro h133 H
      ·refine ze H fun h134 H=>?_
       have hfin:=z2 H
       repeat refine zg ?_
       trivial
      ·refine z7 H ?_ ?_<;>intro h135 H
       ·refine ze H fun h136 H=>?_
        have hfin:=z2 H
        repeat refine zg ?_
        trivial
       ·have hfin:=z2 H
        repeat refine zg ?_
        trivial
 ·repeat' refine z7 H (fun _ H=>?_) (fun _ H=>?_)
  all_goals
   have hfin:=z2 H
   repeat refine zg ?_
   trivial
noncomputable def g23 (a0:ByteArray):Option (ByteArray):=
 (g26 a0).bind fun v156=>
 if ¬(v156=true) then
  some (lit [])
 else
  (
   (g60 a0).bind fun v159=>
   if ¬v159=1 then
    some (lit [])
   else
    (
     ck (0≤(0:Int)∧0<(a0.size:Int)) <|
     if ((a0.data.toList[(0:Int).toNat]?.getD 0).toNat:Int)<32 then
      some (lit [])
     else
      (
       ck (0≤(0:Int)∧0<(a0.size:Int)) <|
       if ((a0.data.toList[(0:Int).toNat]?.getD 0).toNat:Int)=127 then
        some (lit [])
       else
        some a0
      )
    )
  )
noncomputable def k23:Eng.CS:={ f:=23,calm:=true,more:=0,ι:=ByteArray×ByteArray,ok:=fun i=>g23 i.1=some i.2,rds:=fun _=>[],args:=fun i=>[.w (.v (.string (i.1)))],res:=fun i=>.v (.string (i.2)) }
theorem k23_ok:zw Tryz.prog k23:=by
 refine R.calmspec Tryz.func23 (nq9 Tryz.func23) rfl ?_
 rintro ⟨a0,r⟩ hok q _ args hargs
 match args,hargs with
 | [_],hargs=>
 obtain ⟨rfl,_⟩:=hargs
 refine ⟨envC [k26,k60] false [],6,zk (zd ⟨fun _=>k26_ok,nofun⟩ (zd ⟨fun _=>k60_ok,nofun⟩ (zm))),rfl,(by intro x hx;simp only [List.mem_cons,List.not_mem_nil,or_false] at hx;rcases hx with rfl<;>rfl),?_⟩
 have H:zf (g23 a0) (fun a=>a=r):=⟨r,hok,rfl⟩
 unfold g23 at H
 clear hok
 obtain ⟨v156,hv157,H⟩:=zc H
 refine ⟨(a0,v156),⟨hv157⟩,⟨trivial⟩,?_⟩
 refine ⟨⟨rfl⟩,?_⟩
 refine z7 H ?_ ?_<;>intro h158 H
 ·have hfin:=z2 H
  repeat refine zg ?_
  trivial
 ·obtain ⟨v159,hv160,H⟩:=zc H
  refine ⟨(a0,v159),⟨hv160⟩,⟨trivial⟩,?_⟩
  refine ⟨⟨rfl⟩,?_⟩
  refine z7 H ?_ ?_<;>intro h161 H
  ·have hfin:=z2 H
   repeat refine zg ?_
   trivial
  ·refine ze H fun h169 H=>?_
   refine z7 H ?_ ?_<;>intro h170 H
   ·have hfin:=z2 H
    repeat refine zg ?_
    trivial
   ·refine ze H fun h171 H=>?_
    refine z7 H (fun _ H=>?_) (fun _ H=>?_)
    all_goals
     have hfin:=z2 H
     repeat refine zg ?_
     trivial
noncomputable def g9 (a0:(Int×ByteArray×Int×Bool×Bool×Bool)):Option (ByteArray):=
 if a0.2.2.2.2.1=true then
  some (lit [])
 else
  (
   if a0.2.2.2.2.2=true then
    some (lit [])
   else
    (
     if ¬a0.2.2.1=0 then
      some (lit [])
     else
      (
       jn (α:=_) (β:=ByteArray) (fun k215=>
         if a0.1=1 then
          (
           if a0.2.2.2.1=true then
            (
             if a0.2.1.data.toList=(lit [91]).data.toList then
              some (lit [])
             else
              (
               if a0.2.1.data.toList=(lit [79]).data.toList then
                some (lit [])
               else
                (
                 (g23 a0.2.1).bind fun v220=>
                 k215 v220
                )
              )
            )
           else
            (
             (g23 a0.2.1).bind fun v222=>
             k215 v222
            )
          )
         else
          (
           if a0.1=17 then
            (
             (g24 a0.2.1).bind fun v225=>
             k215 v225
            )
           else
            (
             if a0.1=2 then
              k215 (lit [13])
             else
              (
               if a0.1=3 then
                k215 (lit [9])
               else
                (
                 if a0.1=6 then
                  k215 (lit [127])
                 else
                  k215 (lit [])
                )
              )
            )
          )
       ) (fun v214=>
        jn (α:=_) (β:=Unit) (fun k248=>
          if v214.data.toList=(lit []).data.toList then
           some (lit [])
          else
           (
            if ¬a0.1=1 then
             (
              if ¬a0.1=17 then
               (
                (g25 a0).bind fun v252=>
                if ¬(v252=true) then
                 some (lit [])
                else
                 k248 ()
               )
              else
               k248 ()
             )
            else
             k248 ()
           )
        ) (fun v247=>
         if a0.2.2.2.1=true then
          (
           ck ((lit [27]).size+v214.size≤9223372036854775807) <|
           some ((lit [27])++v214)
          )
         else
          some v214
        )
       )
      )
    )
  )
noncomputable def k9:Eng.CS:={ f:=9,calm:=true,more:=0,ι:=(Int×ByteArray×Int×Bool×Bool×Bool)×ByteArray,ok:=fun i=>g9 i.1=some i.2,rds:=fun _=>[],args:=fun i=>[.w (.agg [.v (.int .i64 (i.1.1)),.v (.string (i.1.2.1)),.v (.int .i64 (i.1.2.2.1)),bS i.1.2.2.2.1,bS i.1.2.2.2.2.1,bS i.1.2.2.2.2.2])],res:=fun i=>.v (.string (i.2)) }
theorem k9_ok:zw Tryz.prog k9:=by
 refine R.calmspec Tryz.func9 (nq9 Tryz.func9) rfl ?_
 rintro ⟨a0,r⟩ hok q _ args hargs
 match args,hargs with
 | [_],hargs=>
 obtain ⟨rfl,_⟩:=hargs
 refine ⟨envC [k23,k24,k25] false [(9,17),(9,19)],6,zk (zd ⟨fun _=>k23_ok,nofun⟩ (zd ⟨fun _=>k24_ok,nofun⟩ (zd ⟨fun _=>k25_ok,nofun⟩ (zm)))),rfl,(by intro x hx;simp only [List.mem_cons,List.not_mem_nil,or_false] at hx;rcases hx with rfl<;>rfl),?_⟩
 have H:zf (g9 a0) (fun a=>a=r):=⟨r,hok,rfl⟩
 unfold g9 at H
 clear hok
 refine z7 H ?_ ?_<;>intro h178 H
 ·have hfin:=z2 H
  repeat refine zg ?_
  trivial
 ·refine z7 H ?_ ?_<;>intro h179 H
  ·have hfin:=z2 H
   repeat refine zg ?_
   trivial
  ·refine z7 H ?_ ?_<;>intro h180 H
   ·have hfin:=z2 H
    repeat refine zg ?_
    trivial
   ·refine R.cut_fam H 35 [1] [] (fun v214=>[(3,.v (.string (v214)))]) (fun v214=>[]) [(0,.cells 24 [.v (.int .i64 (a0.1)),.v (.string (a0.2.1)),.v (.int .i64 (a0.2.2.1)),bS a0.2.2.2.1,bS a0.2.2.2.2.1,bS a0.2.2.2.2.2])] 0 (fun H=>?_)
    refine And.intro ?_ ?_
    ·refine z7 H ?_ ?_<;>intro h216 H
     ·refine z7 H ?_ ?_<;>intro h217 H
      ·refine z7 H ?_ ?_<;>intro h218 H
       ·have hfin:=z2 H
        repeat refine zg ?_
        trivial
       ·refine z7 H ?_ ?_<;>intro h219 H
        ·have hfin:=z2 H
         repeat refine zg ?_
         trivial
        ·obtain ⟨v220,hv221,H⟩:=zc H
         refine ⟨(a0.2.1,v220),⟨hv221⟩,⟨trivial⟩,?_⟩
         refine ⟨⟨rfl⟩,?_⟩
         refine ⟨v220,⟨H⟩,⟨rfl⟩,?_⟩
         repeat refine z8 ?_
         trivial
      ·obtain ⟨v222,hv223,H⟩:=zc H
       refine ⟨(a0.2.1,v222),⟨hv223⟩,⟨trivial⟩,?_⟩
       refine ⟨⟨rfl⟩,?_⟩
       refine ⟨v222,⟨H⟩,⟨rfl⟩,?_⟩
       repeat refine z8 ?_
       trivial
     ·refine z7 H ?_ ?_<;>intro h224 H
      ·obtain ⟨v225,hv226,H⟩:=zc H
       refine ⟨(a0.2.1,v225),⟨hv226⟩,⟨trivial⟩,?_⟩
       refine ⟨⟨rfl⟩,?_⟩
       refine ⟨v225,⟨H⟩,⟨rfl⟩,?_⟩
       repeat refine z8 ?_
       trivial
      ·refine z7 H ?_ ?_<;>intro h227 H
       ·refine ⟨(lit [13]),⟨H⟩,⟨rfl⟩,?_⟩
        repeat refine z8 ?_
        trivial
       ·refine z7 H ?_ ?_<;>intro h228 H
        ·refine ⟨(lit [9]),⟨H⟩,⟨rfl⟩,?_⟩
         repeat refine z8 ?_
         trivial
        ·refine z7 H ?_ ?_<;>intro h229 H
         ·refine ⟨(lit [127]),⟨H⟩,⟨rfl⟩,?_⟩
          repeat refine z8 ?_
          trivial
         ·refine ⟨(lit []),⟨H⟩,⟨rfl⟩,?_⟩
          repeat refine z8 ?_
          trivial
    ·intro v214 H
     refine R.cut_fam H 53 [1,3] [] (fun v247=>[]) (fun v247=>[]) [(0,.cells 24 [.v (.int .i64 (a0.1)),.v (.string (a0.2.1)),.v (.int .i64 (a0.2.2.1)),bS a0.2.2.2.1,bS a0.2.2.2.2.1,bS a0.2.2.2.2.2])] 0 (fun H=>?_)
     refine And.intro ?_ ?_
     ·refine z7 H ?_ ?_<;>intro h249 H
      ·have hfin:=z2 H
       repeat refine zg ?_
       trivial
      ·refine z7 H ?_ ?_<;>intro h250 H
       ·refine z7 H ?_ ?_<;>intro h251 H
        ·obtain ⟨v252,hv253,H⟩:=zc H
         refine ⟨(a0,v252),⟨hv253⟩,⟨trivial⟩,?_⟩
         iterate 6 refine z8 ?_
         refine z7 H ?_ ?_<;>intro h254 H
         ·have hfin:=z2 H
          repeat refine zg ?_
          trivial
         ·refine ⟨(),⟨H⟩,⟨rfl⟩,?_⟩
          repeat refine z8 ?_
          trivial
        ·refine ⟨(),⟨H⟩,⟨rfl⟩,?_⟩
         repeat refine z8 ?_
         trivial
       ·refine ⟨(),⟨H⟩,⟨rfl⟩,?_⟩
        repeat refine z8 ?_
        trivial
     ·intro v247 H
      refine z7 H ?_ ?_<;>intro h257 H
      ·refine ze H fun h258 H=>?_
       have hfin:=z2 H
       repeat refine zg ?_
       trivial
      ·have hfin:=z2 H
       repeat refine zg ?_
       trivial
end Go.Proofs.YtmpknfgjfmgleaaGreatDoor
end
section
set_option maxRecDepth 8000
set_option maxHeartbeats 4000000
namespace Go.Proofs.YtmpknfgjfmgleaaGreatDoor
open Go Go.Eng
noncomputable def g13 (a0:(Int×ByteArray×Int×Bool×Bool×Bool)):Option (Bool):=
 if ¬(a0.2.2.2.1=true) then
  (
   if ¬(a0.2.2.2.2.1=true) then
    some (decide (¬(a0.2.2.2.2.2=true)))
   else
    some false
  )
 else
  some false
noncomputable def k13:Eng.CS:={ f:=13,calm:=true,more:=0,ι:=(Int×ByteArray×Int×Bool×Bool×Bool)×Bool,ok:=fun i=>g13 i.1=some i.2,rds:=fun _=>[],args:=fun i=>[.w (.agg [.v (.int .i64 (i.1.1)),.v (.string (i.1.2.1)),.v (.int .i64 (i.1.2.2.1)),bS i.1.2.2.2.1,bS i.1.2.2.2.2.1,bS i.1.2.2.2.2.2])],res:=fun i=>bS i.2 }
theorem k13_ok:zw Tryz.prog k13:=by
 refine R.calmspec Tryz.func13 (nq9 Tryz.func13) rfl ?_
 rintro ⟨a0,r⟩ hok q _ args hargs
 match args,hargs with
 | [_],hargs=>
 obtain ⟨rfl,_⟩:=hargs
 refine ⟨envC [] false [],6,zk (zm),rfl,(by intro x hx;simp only [List.mem_cons,List.not_mem_nil,or_false] at hx;rcases hx with rfl<;>rfl),?_⟩
 have H:zf (g13 a0) (fun a=>a=r):=⟨r,hok,rfl⟩
 unfold g13 at H
 clear hok
 repeat' refine z7 H (fun _ H=>?_) (fun _ H=>?_)
 all_goals
  have hfin:=z2 H
  repeat refine zg ?_
  trivial
noncomputable def g34 (a0:(Int×ByteArray×Int×Bool×Bool×Bool)):Option (Bool):=
 if a0.2.1.data.toList=(lit []).data.toList then
  some (decide (a0.2.2.1=0))
 else
  some false
noncomputable def k34:Eng.CS:={ f:=34,calm:=true,more:=0,ι:=(Int×ByteArray×Int×Bool×Bool×Bool)×Bool,ok:=fun i=>g34 i.1=some i.2,rds:=fun _=>[],args:=fun i=>[.w (.agg [.v (.int .i64 (i.1.1)),.v (.string (i.1.2.1)),.v (.int .i64 (i.1.2.2.1)),bS i.1.2.2.2.1,bS i.1.2.2.2.2.1,bS i.1.2.2.2.2.2])],res:=fun i=>bS i.2 }
theorem k34_ok:zw Tryz.prog k34:=by
 refine R.calmspec Tryz.func34 (nq9 Tryz.func34) rfl ?_
 rintro ⟨a0,r⟩ hok q _ args hargs
 match args,hargs with
 | [_],hargs=>
 obtain ⟨rfl,_⟩:=hargs
 refine ⟨envC [] false [],6,zk (zm),rfl,(by intro x hx;simp only [List.mem_cons,List.not_mem_nil,or_false] at hx;rcases hx with rfl<;>rfl),?_⟩
 have H:zf (g34 a0) (fun a=>a=r):=⟨r,hok,rfl⟩
 unfold g34 at H
 clear hok
 refine z7 H (fun _ H=>?_) (fun _ H=>?_)
 all_goals
  have hfin:=z2 H
  repeat refine zg ?_
  trivial
noncomputable def g35 (a0:Int):Option (List Int):=
 jn (α:=_) (β:=Bool) (fun k36=>
   if a0=104 then
    k36 true
   else
    (
     if a0=105 then
      k36 true
     else
      (
       if a0=106 then
        k36 true
       else
        k36 (decide (a0=109))
      )
    )
 ) (fun v35=>
  if v35=true then
   some ([]:List Int)
  else
   (
    jn (α:=_) (β:=Bool) (fun k43=>
      if 97≤a0 then
       k43 (decide (a0≤122))
      else
       k43 false
    ) (fun v42=>
     if v42=true then
      (
       ck (inR .u8 (a0-96)) <|
       some ([a0-96])
      )
     else
      (
       if 92≤a0 then
        (
         if a0≤95 then
          (
           ck (inR .u8 (a0-64)) <|
           some ([a0-64])
          )
         else
          (
           if a0=64 then
            (
             ck (inR .u8 (a0-64)) <|
             some ([a0-64])
            )
           else
            some ([]:List Int)
          )
        )
       else
        (
         if a0=64 then
          (
           ck (inR .u8 (a0-64)) <|
           some ([a0-64])
          )
         else
          some ([]:List Int)
        )
      )
    )
   )
 )
noncomputable def k35:Eng.CS:={ f:=35,calm:=false,more:=0,ι:=Int×List Int,ok:=fun i=>g35 i.1=some i.2,rds:=fun _=>[],args:=fun i=>[.w (.v (.int .u8 (i.1)))],res:=fun _=>.bad,rn:=[],gr:=true,γ:=(Option Addr×Nat),resG:=fun i g=>.v (.slice g.1 i.2.length g.2),LG:=fun i g=>[],okG:=fun i g=>i.2.length≤g.2,rdsG:=fun i g=>[(g.1,ei .u8 i.2)],fzr:=[(0,0)] }
theorem k35_ok:CSOk Tryz.prog k35:=by
 refine R.cspecG Tryz.func35 (nq9 Tryz.func35) rfl rfl (fun _=>rfl) ?_
 rintro ⟨a0,r⟩ hok q hrds args hargs
 dsimp only [k35] at hargs ⊢
 match args,hargs with
 | [_],hargs=>
 obtain ⟨rfl,_⟩:=hargs
 refine ⟨envC [] false [(35,2),(35,4)],6,zk (zm),?_⟩
 have H:zf (g35 a0) (fun a=>a=r):=⟨r,hok,rfl⟩
 unfold g35 at H
 clear hok
 refine R.cut_fam H 17 [0] [] (fun v35=>[(3,bS v35)]) (fun v35=>[]) [] 0 (fun H=>?_)
 refine And.intro ?_ ?_
 ·refine z7 H ?_ ?_<;>intro h37 H
  ·refine ⟨true,⟨H⟩,⟨rfl⟩,?_⟩
   repeat refine z8 ?_
   trivial
  ·refine z7 H ?_ ?_<;>intro h38 H
   ·refine ⟨true,⟨H⟩,⟨rfl⟩,?_⟩
    repeat refine z8 ?_
    trivial
   ·refine z7 H ?_ ?_<;>intro h39 H
    ·refine ⟨true,⟨H⟩,⟨rfl⟩,?_⟩
     repeat refine z8 ?_
     trivial
    ·refine ⟨_,⟨H⟩,⟨rfl⟩,?_⟩
     repeat refine z8 ?_
     trivial
 ·intro v35 H
  refine z7 H ?_ ?_<;>intro h40 H
  ·have hfin:=z2 H
   first | subst hfin | rw [←hfin]
   refine ⟨(none,0),⟨Nat.le_refl _⟩,⟨⟨Reads.nil,trivial⟩⟩,?_⟩
   repeat refine z8 ?_
   trivial
  ·refine R.cut_fam H 25 [0] [] (fun v42=>[(18,bS v42)]) (fun v42=>[]) [] 0 (fun H=>?_)
   refine And.intro ?_ ?_
   ·refine z7 H ?_ ?_<;>intro h44 H
    ·refine ⟨_,⟨H⟩,⟨rfl⟩,?_⟩
     repeat refine z8 ?_
     trivial
    ·refine ⟨false,⟨H⟩,⟨rfl⟩,?_⟩
     repeat refine z8 ?_
     trivial
   ·intro v42 H
    refine z7 H ?_ ?_<;>intro h45 H
    ·refine ze H fun h46 H=>?_
     intro q47 A48 c49 hq50 hc51 hR52
     replace hR52:Reads q47 A48 (ei .u8 ([a0-96])):=Eq.mp (congrArg (Reads q47 A48) (by first | exact rfl | (simp only [ei,eb,es,ec,gmin,gmax,List.map_append,List.flatMap_append,List.nil_append,List.append_nil,List.append_assoc];done))) hR52
     have hfin:=z2 H
     first | subst hfin | rw [←hfin]
     refine ⟨(A48,c49),⟨(Nat.le_trans (Nat.le_of_eq (show _=_ from (show ([a0-96]).length=1 from by first | rfl | (simp;done) | (simp;omega)))) hc51)⟩,⟨⟨hR52,trivial⟩⟩,?_⟩
     repeat (first | refine And.intro (Ob.mk (by first | exact congrArg (fun m=>Value.slice _ m _) (show _=_ from (show ([a0-96]).length=1 from by first | rfl | (simp;done) | (simp;omega))))) ?_ | refine z8 ?_)
     trivial
    ·refine z7 H ?_ ?_<;>intro h53 H
     ·refine z7 H ?_ ?_<;>intro h54 H
      ·refine ze H fun h55 H=>?_
       intro q56 A57 c58 hq59 hc60 hR61
       replace hR61:Reads q56 A57 (ei .u8 ([a0-64])):=Eq.mp (congrArg (Reads q56 A57) (by first | exact rfl | (simp only [ei,eb,es,ec,gmin,gmax,List.map_append,List.flatMap_append,List.nil_append,List.append_nil,List.append_assoc];done))) hR61
       have hfin:=z2 H
       first | subst hfin | rw [←hfin]
       refine ⟨(A57,c58),⟨(Nat.le_trans (Nat.le_of_eq (show _=_ from (show ([a0-64]).length=1 from by first | rfl | (simp;done) | (simp;omega)))) hc60)⟩,⟨⟨hR61,trivial⟩⟩,?_⟩
       repeat (first | refine And.intro (Ob.mk (by first | exact congrArg (fun m=>Value.slice _ m _) (show _=_ from (show ([a0-64]).length=1 from by first | rfl | (simp;done) | (simp;omega))))) ?_ | refine z8 ?_)
       trivial
      ·refine z7 H ?_ ?_<;>intro h62 H
       ·refine ze H fun h63 H=>?_
        intro q64 A65 c66 hq67 hc68 hR69
        replace hR69:Reads q64 A65 (ei .u8 ([a0-64])):=Eq.mp (congrArg (Reads q64 A65) (by first | exact rfl | (simp only [ei,eb,es,ec,gmin,gmax,List.map_append,List.flatMap_append,List.nil_append,List.append_nil,List.append_assoc];done))) hR69
        have hfin:=z2 H
        first | subst hfin | rw [←hfin]
        refine ⟨(A65,c66),⟨(Nat.le_trans (Nat.le_of_eq (show _=_ from (show ([a0-64]).length=1 from by first | rfl | (simp;done) | (simp;omega)))) hc68)⟩,⟨⟨hR69,trivial⟩⟩,?_⟩
        repeat (first | refine And.intro (Ob.mk (by first | exact congrArg (fun m=>Value.slice _ m _) (show _=_ from (show ([a0-64]).length=1 from by first | rfl | (simp;done) | (simp;omega))))) ?_ | refine z8 ?_)
        trivial
       ·have hfin:=z2 H
        first | subst hfin | rw [←hfin]
        refine ⟨(none,0),⟨Nat.le_refl _⟩,⟨⟨Reads.nil,trivial⟩⟩,?_⟩
        repeat refine z8 ?_
        trivial
     ·refine z7 H ?_ ?_<;>intro h70 H
      ·refine ze H fun h71 H=>?_
       intro q72 A73 c74 hq75 hc76 hR77
       replace hR77:Reads q72 A73 (ei .u8 ([a0-64])):=Eq.mp (congrArg (Reads q72 A73) (by first | exact rfl | (simp only [ei,eb,es,ec,gmin,gmax,List.map_append,List.flatMap_append,List.nil_append,List.append_nil,List.append_assoc];done))) hR77
       have hfin:=z2 H
       first | subst hfin | rw [←hfin]
       refine ⟨(A73,c74),⟨(Nat.le_trans (Nat.le_of_eq (show _=_ from (show ([a0-64]).length=1 from by first | rfl | (simp;done) | (simp;omega)))) hc76)⟩,⟨⟨hR77,trivial⟩⟩,?_⟩
       repeat (first | refine And.intro (Ob.mk (by first | exact congrArg (fun m=>Value.slice _ m _) (show _=_ from (show ([a0-64]).length=1 from by first | rfl | (simp;done) | (simp;omega))))) ?_ | refine z8 ?_)
       trivial
      ·have hfin:=z2 H
       first | subst hfin | rw [←hfin]
       refine ⟨(none,0),⟨Nat.le_refl _⟩,⟨⟨Reads.nil,trivial⟩⟩,?_⟩
       repeat refine z8 ?_
       trivial
noncomputable def g12 (a0:(Int×ByteArray×Int×Bool×Bool×Bool)):Option (List Int):=
 if a0.1=1 then
  (
   ck (a0.2.1.size+(lit [0]).size≤9223372036854775807) <|
   ck ((a0.2.1++(lit [0])).size≤140737488355328) <|
   (g32 (z6 (a0.2.1++(lit [0])))).bind fun v166=>
   jn (α:=_) (β:=Bool) (fun k177=>
     if a0.2.2.1=0 then
      (
       if ¬(v166.2.2=true) then
        (
         if v166.2.1=(a0.2.1.size:Int) then
          (
           if 32≤v166.1 then
            (
             if ¬v166.1=127 then
              (
               (g33 v166.1).bind fun v183=>
               ck (zM v183) <|
               k177 (decide ((zV v183).data.toList=a0.2.1.data.toList))
              )
             else
              k177 false
            )
           else
            k177 false
          )
         else
          k177 false
        )
       else
        k177 false
      )
     else
      k177 false
   ) (fun v176=>
    if v176=true then
     (
      ck (a0.2.1.size≤140737488355328) <|
      some (z6 a0.2.1)
     )
    else
     some ([]:List Int)
   )
  )
 else
  (
   if a0.1=2 then
    (
     (g34 a0).bind fun v197=>
     if v197=true then
      some ([13])
     else
      some ([]:List Int)
    )
   else
    (
     if a0.1=3 then
      (
       (g34 a0).bind fun v207=>
       if v207=true then
        some ([9])
       else
        some ([]:List Int)
      )
     else
      (
       if a0.1=6 then
        (
         (g34 a0).bind fun v217=>
         if v217=true then
          some ([127])
         else
          some ([]:List Int)
        )
       else
        (
         if a0.1=17 then
          (
           if a0.2.2.1=0 then
            (
             if (a0.2.1.size:Int)=1 then
              (
               ck (0≤(0:Int)∧0<(a0.2.1.size:Int)) <|
               (g35 ((a0.2.1.data.toList[(0:Int).toNat]?.getD 0).toNat:Int)).bind fun v230=>
               some v230
              )
             else
              some ([]:List Int)
            )
           else
            some ([]:List Int)
          )
         else
          some ([]:List Int)
        )
      )
    )
  )
noncomputable def k12:Eng.CS:={ f:=12,calm:=false,more:=0,ι:=(Int×ByteArray×Int×Bool×Bool×Bool)×List Int,ok:=fun i=>g12 i.1=some i.2,rds:=fun _=>[],args:=fun i=>[.w (.agg [.v (.int .i64 (i.1.1)),.v (.string (i.1.2.1)),.v (.int .i64 (i.1.2.2.1)),bS i.1.2.2.2.1,bS i.1.2.2.2.2.1,bS i.1.2.2.2.2.2])],res:=fun _=>.bad,rn:=[],gr:=true,γ:=(Option Addr×Nat),resG:=fun i g=>.v (.slice g.1 i.2.length g.2),LG:=fun i g=>[],okG:=fun i g=>i.2.length≤g.2,rdsG:=fun i g=>[(g.1,ei .u8 i.2)],fzr:=[(0,0)] }
theorem k12_ok:CSOk Tryz.prog k12:=by
 refine R.cspecG Tryz.func12 (nq9 Tryz.func12) rfl rfl (fun _=>rfl) ?_
 rintro ⟨a0,r⟩ hok q hrds args hargs
 dsimp only [k12] at hargs ⊢
 match args,hargs with
 | [_],hargs=>
 obtain ⟨rfl,_⟩:=hargs
 refine ⟨envC [k32,k33,k34,k35] false [(12,5)],6,zk (zd ⟨fun _=>k32_ok,nofun⟩ (zd ⟨nofun,fun _=>k33_ok⟩ (zd ⟨fun _=>k34_ok,nofun⟩ (zd ⟨nofun,fun _=>k35_ok⟩ (zm))))),?_⟩
 have H:zf (g12 a0) (fun a=>a=r):=⟨r,hok,rfl⟩
 unfold g12 at H
 clear hok
 refine z7 H ?_ ?_<;>intro h155 H
 ·refine ze H fun h156 H=>?_
  refine ob_sb H fun h162 H q163 A157 c158 hq159 hc160 hR161=>?_
  intro n164 hn165
  obtain rfl:n164=(z6 (a0.2.1++(lit [0]))).length:=hn165.trans (zp (a0.2.1++(lit [0]))).symm
  obtain ⟨v166,hv167,H⟩:=zc H
  refine ⟨(z6 (a0.2.1++(lit [0])),v166),⟨hv167⟩,⟨trivial⟩,?_⟩
  refine And.intro ⟨rfl,(Nat.le_trans (Nat.le_of_eq (zp (a0.2.1++(lit [0])))) hc160),ei_len.trans ((show _=_ from rfl).trans (Nat.mul_one _).symm),hR161⟩ ?_
  refine R.cut_fam H 21 [1] [] (fun v176=>[(48,bS v176)]) (fun v176=>[]) [(0,.cells 24 [.v (.int .i64 (a0.1)),.v (.string (a0.2.1)),.v (.int .i64 (a0.2.2.1)),bS a0.2.2.2.1,bS a0.2.2.2.2.1,bS a0.2.2.2.2.2])] 0 (fun H=>?_)
  refine And.intro ?_ ?_
  ·refine And.intro ⟨by kernel_rfl⟩ ?_
   refine ⟨(Pn.calm 0 (Pn.calm 1 (Pn.calm 2 (Pn.calm 3 (Pn.calm 4 (Pn.calm 5 (Pn.calm 6 (Pn.calm 7 (Pn.calm 8 (Pn.calm 9 (Pn.calm 10 (Pn.calm 11 (Pn.calm 12 (Pn.calm 13 (Pn.calm 14 (Pn.calm 15 (Pn.calm 16 (Pn.calm 17 (Pn.calm 18 (Pn.calm 19 (Pn.calm 20 (Pn.calm 21 (Pn.calm 22 (Pn.calm 23 (Pn.calm 26 (Pn.calm 27 (Pn.eff 24 [23,22,21,18,20,17,14,19,16,13,7,15,12,6,3,8,11,5,2,10,4,1,9,0] (Pn.calm 25 (Pn.calm 28 (Pn.calm 29 Pn.done))) Pn.no))))))))))))))))))))))))))),⟨by kernel_rfl⟩,?_⟩
   refine z7 H ?_ ?_<;>intro h178 H
   ·refine z7 H ?_ ?_<;>intro h179 H
    ·refine z7 H ?_ ?_<;>intro h180 H
     ·refine z7 H ?_ ?_<;>intro h181 H
      ·refine z7 H ?_ ?_<;>intro h182 H
       ·refine And.intro ?_ trivial
        obtain ⟨v183,hv184,H⟩:=zc H
        refine ⟨(v166.1,v183),⟨hv184⟩,⟨trivial⟩,?_⟩
        refine ⟨⟨rfl⟩,?_⟩
        refine And.intro ⟨fun _ _ _ h=>h⟩ ?_
        refine yA (l:=v183) H fun h185 H=>?_
        refine ⟨_,⟨H⟩,⟨rfl⟩,?_⟩
        repeat refine z8 ?_
        trivial
       ·refine And.intro ?_ trivial
        refine ⟨false,⟨H⟩,⟨rfl⟩,?_⟩
        repeat refine z8 ?_
        trivial
      ·refine And.intro ?_ trivial
       refine ⟨false,⟨H⟩,⟨rfl⟩,?_⟩
       repeat refine z8 ?_
       trivial
     ·refine And.intro ?_ trivial
      refine ⟨false,⟨H⟩,⟨rfl⟩,?_⟩
      repeat refine z8 ?_
      trivial
    ·refine And.intro ?_ trivial
     refine ⟨false,⟨H⟩,⟨rfl⟩,?_⟩
     repeat refine z8 ?_
     trivial
   ·refine And.intro ?_ trivial
    refine ⟨false,⟨H⟩,⟨rfl⟩,?_⟩
    repeat refine z8 ?_
    trivial
  ·intro v176 H
   refine z7 H ?_ ?_<;>intro h186 H
   ·refine ob_sb H fun h192 H q193 A187 c188 hq189 hc190 hR191=>?_
    intro n194 hn195
    obtain rfl:n194=(z6 a0.2.1).length:=hn195.trans (zp a0.2.1).symm
    have hfin:=z2 H
    first | subst hfin | rw [←hfin]
    refine ⟨(A187,c188),⟨(Nat.le_trans (Nat.le_of_eq (zp a0.2.1)) hc190)⟩,⟨⟨hR191,trivial⟩⟩,?_⟩
    repeat refine z8 ?_
    trivial
   ·have hfin:=z2 H
    first | subst hfin | rw [←hfin]
    refine ⟨(none,0),⟨Nat.le_refl _⟩,⟨⟨Reads.nil,trivial⟩⟩,?_⟩
    repeat refine z8 ?_
    trivial
 ·refine z7 H ?_ ?_<;>intro h196 H
  ·obtain ⟨v197,hv198,H⟩:=zc H
   refine ⟨(a0,v197),⟨hv198⟩,⟨trivial⟩,?_⟩
   iterate 6 refine z8 ?_
   refine z7 H ?_ ?_<;>intro h199 H
   ·intro q200 A201 c202 hq203 hc204 hR205
    replace hR205:Reads q200 A201 (ei .u8 ([13])):=Eq.mp (congrArg (Reads q200 A201) (by first | exact rfl | (simp only [ei,eb,es,ec,gmin,gmax,List.map_append,List.flatMap_append,List.nil_append,List.append_nil,List.append_assoc];done))) hR205
    have hfin:=z2 H
    first | subst hfin | rw [←hfin]
    refine ⟨(A201,c202),⟨(Nat.le_trans (Nat.le_of_eq (show _=_ from (show ([13]).length=1 from by first | rfl | (simp;done) | (simp;omega)))) hc204)⟩,⟨⟨hR205,trivial⟩⟩,?_⟩
    repeat (first | refine And.intro (Ob.mk (by first | exact congrArg (fun m=>Value.slice _ m _) (show _=_ from (show ([13]).length=1 from by first | rfl | (simp;done) | (simp;omega))))) ?_ | refine z8 ?_)
    trivial
   ·have hfin:=z2 H
    first | subst hfin | rw [←hfin]
    refine ⟨(none,0),⟨Nat.le_refl _⟩,⟨⟨Reads.nil,trivial⟩⟩,?_⟩
    repeat refine z8 ?_
    trivial
  ·refine z7 H ?_ ?_<;>intro h206 H
   ·obtain ⟨v207,hv208,H⟩:=zc H
    refine ⟨(a0,v207),⟨hv208⟩,⟨trivial⟩,?_⟩
    iterate 6 refine z8 ?_
    refine z7 H ?_ ?_<;>intro h209 H
    ·intro q210 A211 c212 hq213 hc214 hR215
     replace hR215:Reads q210 A211 (ei .u8 ([9])):=Eq.mp (congrArg (Reads q210 A211) (by first | exact rfl | (simp only [ei,eb,es,ec,gmin,gmax,List.map_append,List.flatMap_append,List.nil_append,List.append_nil,List.append_assoc];done))) hR215
     have hfin:=z2 H
     first | subst hfin | rw [←hfin]
     refine ⟨(A211,c212),⟨(Nat.le_trans (Nat.le_of_eq (show _=_ from (show ([9]).length=1 from by first | rfl | (simp;done) | (simp;omega)))) hc214)⟩,⟨⟨hR215,trivial⟩⟩,?_⟩
     repeat (first | refine And.intro (Ob.mk (by first | exact congrArg (fun m=>Value.slice _ m _) (show _=_ from (show ([9]).length=1 from by first | rfl | (simp;done) | (simp;omega))))) ?_ | refine z8 ?_)
     trivial
    ·have hfin:=z2 H
     first | subst hfin | rw [←hfin]
     refine ⟨(none,0),⟨Nat.le_refl _⟩,⟨⟨Reads.nil,trivial⟩⟩,?_⟩
     repeat refine z8 ?_
     trivial
   ·refine z7 H ?_ ?_<;>intro h216 H
    ·obtain ⟨v217,hv218,H⟩:=zc H
     refine ⟨(a0,v217),⟨hv218⟩,⟨trivial⟩,?_⟩
     iterate 6 refine z8 ?_
     refine z7 H ?_ ?_<;>intro h219 H
     ·intro q220 A221 c222 hq223 hc224 hR225
      replace hR225:Reads q220 A221 (ei .u8 ([127])):=Eq.mp (congrArg (Reads q220 A221) (by first | exact rfl | (simp only [ei,eb,es,ec,gmin,gmax,List.map_append,List.flatMap_append,List.nil_append,List.append_nil,List.append_assoc];done))) hR225
      have hfin:=z2 H
      first | subst hfin | rw [←hfin]
      refine ⟨(A221,c222),⟨(Nat.le_trans (Nat.le_of_eq (show _=_ from (show ([127]).length=1 from by first | rfl | (simp;done) | (simp;omega)))) hc224)⟩,⟨⟨hR225,trivial⟩⟩,?_⟩
      repeat (first | refine And.intro (Ob.mk (by first | exact congrArg (fun m=>Value.slice _ m _) (show _=_ from (show ([127]).length=1 from by first | rfl | (simp;done) | (simp;omega))))) ?_ | refine z8 ?_)
      trivial
     ·have hfin:=z2 H
      first | subst hfin | rw [←hfin]
      refine ⟨(none,0),⟨Nat.le_refl _⟩,⟨⟨Reads.nil,trivial⟩⟩,?_⟩
      repeat refine z8 ?_
      trivial
    ·refine z7 H ?_ ?_<;>intro h226 H
     ·refine z7 H ?_ ?_<;>intro h227 H
      ·refine z7 H ?_ ?_<;>intro h228 H
       ·refine ze H fun h229 H=>?_
        obtain ⟨v230,hv231,H⟩:=zc H
        refine ⟨(((a0.2.1.data.toList[(0:Int).toNat]?.getD 0).toNat:Int),v230),⟨hv231⟩,⟨trivial⟩,?_⟩
        refine ⟨⟨rfl⟩,?_⟩
        intro q232 g233 hq234 hok235 hrd236
        obtain ⟨A237,c238⟩:=g233
        have hc239:=hok235
        obtain ⟨hR240,_⟩:=hrd236
        try dsimp only at hc239 hR240
        have hfin:=z2 H
        first | subst hfin | rw [←hfin]
        refine ⟨(A237,c238),⟨hc239⟩,⟨⟨hR240,trivial⟩⟩,?_⟩
        repeat refine z8 ?_
        trivial
       ·have hfin:=z2 H
        first | subst hfin | rw [←hfin]
        refine ⟨(none,0),⟨Nat.le_refl _⟩,⟨⟨Reads.nil,trivial⟩⟩,?_⟩
        repeat refine z8 ?_
        trivial
      ·have hfin:=z2 H
       first | subst hfin | rw [←hfin]
       refine ⟨(none,0),⟨Nat.le_refl _⟩,⟨⟨Reads.nil,trivial⟩⟩,?_⟩
       repeat refine z8 ?_
       trivial
     ·have hfin:=z2 H
      first | subst hfin | rw [←hfin]
      refine ⟨(none,0),⟨Nat.le_refl _⟩,⟨⟨Reads.nil,trivial⟩⟩,?_⟩
      repeat refine z8 ?_
      trivial
noncomputable def g37 (a0:Int):Option (Int):=
 if a0=8 then
  some 65
 else
  (
   if a0=9 then
    some 66
   else
    (
     if a0=11 then
      some 67
     else
      (
       if a0=10 then
        some 68
       else
        (
         if a0=12 then
          some 72
         else
          (
           if a0=13 then
            some 70
           else
            some 0
          )
        )
      )
    )
  )
noncomputable def k37:Eng.CS:={ f:=37,calm:=true,more:=0,ι:=Int×Int,ok:=fun i=>g37 i.1=some i.2,rds:=fun _=>[],args:=fun i=>[.w (.v (.int .i64 (i.1)))],res:=fun i=>.v (.int .u8 (i.2)) }
theorem k37_ok:zw Tryz.prog k37:=by
 refine R.calmspec Tryz.func37 (nq9 Tryz.func37) rfl ?_
 rintro ⟨a0,r⟩ hok q _ args hargs
 match args,hargs with
 | [_],hargs=>
 obtain ⟨rfl,_⟩:=hargs
 refine ⟨envC [] false [],6,zk (zm),rfl,(by intro x hx;simp only [List.mem_cons,List.not_mem_nil,or_false] at hx;rcases hx with rfl<;>rfl),?_⟩
 have H:zf (g37 a0) (fun a=>a=r):=⟨r,hok,rfl⟩
 unfold g37 at H
 clear hok
 repeat' refine z7 H (fun _ H=>?_) (fun _ H=>?_)
 all_goals
  have hfin:=z2 H
  repeat refine zg ?_
  trivial
noncomputable def g38 (a0:(Int×ByteArray×Int×Bool×Bool×Bool)):Option (Int):=
 jn (α:=_) (β:=Bool) (fun k290=>
   if a0.1=18 then
    (
     if 1≤a0.2.2.1 then
      k290 (decide (a0.2.2.1≤5))
     else
      k290 false
    )
   else
    k290 false
 ) (fun v289=>
  if v289=true then
   (
    ck (inR .i64 (10+a0.2.2.1)) <|
    some (10+a0.2.2.1)
   )
  else
   (
    jn (α:=_) (β:=Bool) (fun k298=>
      if a0.1=18 then
       (
        if 6≤a0.2.2.1 then
         k298 (decide (a0.2.2.1≤10))
        else
         k298 false
       )
      else
       k298 false
    ) (fun v297=>
     if v297=true then
      (
       ck (inR .i64 (11+a0.2.2.1)) <|
       some (11+a0.2.2.1)
      )
     else
      (
       jn (α:=_) (β:=Bool) (fun k306=>
         if a0.1=18 then
          (
           if a0.2.2.1=11 then
            k306 true
           else
            k306 (decide (a0.2.2.1=12))
          )
         else
          k306 false
       ) (fun v305=>
        if v305=true then
         (
          ck (inR .i64 (12+a0.2.2.1)) <|
          some (12+a0.2.2.1)
         )
        else
         (
          if ¬a0.2.2.1=0 then
           some 0
          else
           (
            if a0.1=7 then
             some 3
            else
             (
              if a0.1=14 then
               some 5
              else
               (
                if a0.1=15 then
                 some 6
                else
                 some 0
               )
             )
           )
         )
       )
      )
    )
   )
 )
noncomputable def k38:Eng.CS:={ f:=38,calm:=true,more:=0,ι:=(Int×ByteArray×Int×Bool×Bool×Bool)×Int,ok:=fun i=>g38 i.1=some i.2,rds:=fun _=>[],args:=fun i=>[.w (.agg [.v (.int .i64 (i.1.1)),.v (.string (i.1.2.1)),.v (.int .i64 (i.1.2.2.1)),bS i.1.2.2.2.1,bS i.1.2.2.2.2.1,bS i.1.2.2.2.2.2])],res:=fun i=>.v (.int .i64 (i.2)) }
theorem k38_ok:zw Tryz.prog k38:=by
 refine R.calmspec Tryz.func38 (nq9 Tryz.func38) rfl ?_
 rintro ⟨a0,r⟩ hok q _ args hargs
 match args,hargs with
 | [_],hargs=>
 obtain ⟨rfl,_⟩:=hargs
 refine ⟨envC [] false [(38,2),(38,4),(38,6)],6,zk (zm),rfl,(by intro x hx;simp only [List.mem_cons,List.not_mem_nil,or_false] at hx;rcases hx with rfl<;>rfl),?_⟩
 have H:zf (g38 a0) (fun a=>a=r):=⟨r,hok,rfl⟩
 unfold g38 at H
 clear hok
 refine R.cut_fam H 17 [1] [] (fun v289=>[(3,bS v289)]) (fun v289=>[]) [(0,.cells 24 [.v (.int .i64 (a0.1)),.v (.string (a0.2.1)),.v (.int .i64 (a0.2.2.1)),bS a0.2.2.2.1,bS a0.2.2.2.2.1,bS a0.2.2.2.2.2])] 0 (fun H=>?_)
 refine And.intro ?_ ?_
 ·refine z7 H ?_ ?_<;>intro h291 H
  ·refine z7 H ?_ ?_<;>intro h292 H
   ·refine ⟨_,⟨H⟩,⟨rfl⟩,?_⟩
    repeat refine z8 ?_
    trivial
   ·refine ⟨false,⟨H⟩,⟨rfl⟩,?_⟩
    repeat refine z8 ?_
    trivial
  ·refine ⟨false,⟨H⟩,⟨rfl⟩,?_⟩
   repeat refine z8 ?_
   trivial
 ·intro v289 H
  refine z7 H ?_ ?_<;>intro h293 H
  ·refine ze H fun h294 H=>?_
   have hfin:=z2 H
   repeat refine zg ?_
   trivial
  ·refine R.cut_fam H 32 [1] [] (fun v297=>[(20,bS v297)]) (fun v297=>[]) [(0,.cells 24 [.v (.int .i64 (a0.1)),.v (.string (a0.2.1)),.v (.int .i64 (a0.2.2.1)),bS a0.2.2.2.1,bS a0.2.2.2.2.1,bS a0.2.2.2.2.2])] 0 (fun H=>?_)
   refine And.intro ?_ ?_
   ·refine z7 H ?_ ?_<;>intro h299 H
    ·refine z7 H ?_ ?_<;>intro h300 H
     ·refine ⟨_,⟨H⟩,⟨rfl⟩,?_⟩
      repeat refine z8 ?_
      trivial
     ·refine ⟨false,⟨H⟩,⟨rfl⟩,?_⟩
      repeat refine z8 ?_
      trivial
    ·refine ⟨false,⟨H⟩,⟨rfl⟩,?_⟩
     repeat refine z8 ?_
     trivial
   ·intro v297 H
    refine z7 H ?_ ?_<;>intro h301 H
    ·refine ze H fun h302 H=>?_
     have hfin:=z2 H
     repeat refine zg ?_
     trivial
    ·refine R.cut_fam H 47 [1] [] (fun v305=>[(37,bS v305)]) (fun v305=>[]) [(0,.cells 24 [.v (.int .i64 (a0.1)),.v (.string (a0.2.1)),.v (.int .i64 (a0.2.2.1)),bS a0.2.2.2.1,bS a0.2.2.2.2.1,bS a0.2.2.2.2.2])] 0 (fun H=>?_)
     refine And.intro ?_ ?_
     ·refine z7 H ?_ ?_<;>intro h307 H
      ·refine z7 H ?_ ?_<;>intro h308 H
       ·refine ⟨true,⟨H⟩,⟨rfl⟩,?_⟩
        repeat refine z8 ?_
        trivial
       ·refine ⟨_,⟨H⟩,⟨rfl⟩,?_⟩
        repeat refine z8 ?_
        trivial
      ·refine ⟨false,⟨H⟩,⟨rfl⟩,?_⟩
       repeat refine z8 ?_
       trivial
     ·intro v305 H
      refine z7 H ?_ ?_<;>intro h309 H
      ·refine ze H fun h310 H=>?_
       have hfin:=z2 H
       repeat refine zg ?_
       trivial
      ·repeat' refine z7 H (fun _ H=>?_) (fun _ H=>?_)
       all_goals
        have hfin:=z2 H
        repeat refine zg ?_
        trivial
end Go.Proofs.YtmpknfgjfmgleaaGreatDoor
end
section
set_option maxRecDepth 8000
set_option maxHeartbeats 4000000
namespace Go.Proofs.YtmpknfgjfmgleaaGreatDoor
open Go Go.Eng
abbrev dgt1:ByteArray:=lit [48,49,50,51,52,53,54,55,56,57,97,98,99,100,101,102,103,104,105,106,107,108,109,110,111,112,113,114,115,116,117,118,119,120,121,122]
abbrev dgt2:ByteArray:=lit [48,48,48,49,48,50,48,51,48,52,48,53,48,54,48,55,48,56,48,57,49,48,49,49,49,50,49,51,49,52,49,53,49,54,49,55,49,56,49,57,50,48,50,49,50,50,50,51,50,52,50,53,50,54,50,55,50,56,50,57,51,48,51,49,51,50,51,51,51,52,51,53,51,54,51,55,51,56,51,57,52,48,52,49,52,50,52,51,52,52,52,53,52,54,52,55,52,56,52,57,53,48,53,49,53,50,53,51,53,52,53,53,53,54,53,55,53,56,53,57,54,48,54,49,54,50,54,51,54,52,54,53,54,54,54,55,54,56,54,57,55,48,55,49,55,50,55,51,55,52,55,53,55,54,55,55,55,56,55,57,56,48,56,49,56,50,56,51,56,52,56,53,56,54,56,55,56,56,56,57,57,48,57,49,57,50,57,51,57,52,57,53,57,54,57,55,57,56,57,57]
noncomputable def g193 (a0:Int):Option (ByteArray):=
 if a0<10 then
  (
   ck (inR .i64 (a0+1)) <|
   ck (0≤a0∧a0≤a0+1∧a0+1≤(dgt1.size:Int)) <|
   some (dgt1.extract a0.toNat (a0+1).toNat)
  )
 else
  (
   ck (inR .i64 (a0 * 2)) <|
   ck (inR .i64 (a0 * 2)) <|
   ck (inR .i64 ((a0 * 2)+2)) <|
   ck (0≤a0 * 2∧a0 * 2≤(a0 * 2)+2∧(a0 * 2)+2≤(dgt2.size:Int)) <|
   some (dgt2.extract (a0 * 2).toNat ((a0 * 2)+2).toNat)
  )
noncomputable def k193:Eng.CS:={ f:=193,calm:=true,more:=0,ι:=Int×ByteArray,ok:=fun i=>g193 i.1=some i.2,rds:=fun _=>[],args:=fun i=>[.w (.v (.int .i64 (i.1)))],res:=fun i=>.v (.string (i.2)) }
theorem k193_ok:zw Tryz.prog k193:=by
 refine R.calmspec Tryz.func193 (nq9 Tryz.func193) rfl ?_
 rintro ⟨a0,r⟩ hok q _ args hargs
 match args,hargs with
 | [_],hargs=>
 obtain ⟨rfl,_⟩:=hargs
 refine ⟨envC [] false [],6,zk (zm),rfl,(by intro x hx;simp only [List.mem_cons,List.not_mem_nil,or_false] at hx;rcases hx with rfl<;>rfl),?_⟩
 have H:zf (g193 a0) (fun a=>a=r):=⟨r,hok,rfl⟩
 unfold g193 at H
 clear hok
 refine z7 H ?_ ?_<;>intro h4 H
 ·refine ze H fun h5 H=>?_
  refine ze H fun h6 H=>?_
  have hfin:=z2 H
  repeat refine zg ?_
  trivial
 ·refine ze H fun h7 H=>?_
  refine ze H fun h8 H=>?_
  refine ze H fun h9 H=>?_
  refine ze H fun h10 H=>?_
  have hfin:=z2 H
  repeat refine zg ?_
  trivial
noncomputable def g121 (a0:Int) (a1:Int):Option (ByteArray):=
 if a1=10 then
  (
   jn (α:=_) (β:=Unit) (fun k106=>
     if 0≤a0 then
      (
       if a0<100 then
        (
         (g193 a0).bind fun v109=>
         some v109
        )
       else
        k106 ()
      )
     else
      k106 ()
   ) (fun v105=>
    jn (α:=_) (β:=Int) (fun k114=>
      if a0<0 then
       (
        ck (inR .u64 (0-(IntKind.wrap .u64 a0))) <|
        k114 (0-(IntKind.wrap .u64 a0))
       )
      else
       k114 (IntKind.wrap .u64 a0)
    ) (fun v113=>
     jn (α:=_) (β:=Int×Int) (fun k119=>
       if 4294967296≤v113 then
        k119 (v113 / 2 ^ (32:Int).toNat,32)
       else
        k119 (v113,0)
     ) (fun v118=>
      jn (α:=_) (β:=Int×Int) (fun k124=>
        if 65536≤v118.1 then
         (
          ck (inR .i64 (v118.2+16)) <|
          k124 (v118.1 / 2 ^ (16:Int).toNat,v118.2+16)
         )
        else
         k124 v118
      ) (fun v123=>
       if 256≤v123.1 then
        none
       else
        none
      )
     )
    )
   )
  )
 else
  (
   if a1<2 then
    none
   else
    (
     if a1=10 then
      none
     else
      (
       if 36<a1 then
        none
       else
        none
      )
    )
  )
noncomputable def k121:Eng.CS:={ f:=121,calm:=true,more:=0,ι:=Int×Int×ByteArray,ok:=fun i=>g121 i.1 i.2.1=some i.2.2,rds:=fun _=>[],args:=fun i=>[.w (.v (.int .i64 (i.1))),.w (.v (.int .i64 (i.2.1)))],res:=fun i=>.v (.string (i.2.2)) }
theorem k121_ok:zw Tryz.prog k121:=by
 refine R.calmspec Tryz.func121 (nq9 Tryz.func121) rfl ?_
 rintro ⟨a0,a1,r⟩ hok q _ args hargs
 match args,hargs with
 | [_,_],hargs=>
 obtain ⟨rfl,rfl,_⟩:=hargs
 refine ⟨envC [k193] false [(121,4),(121,8),(196,7),(196,15),(196,23),(196,25),(196,28),(279,4),(279,7)],6,zk (zd ⟨fun _=>k193_ok,nofun⟩ (zm)),rfl,(by intro x hx;simp only [List.mem_cons,List.not_mem_nil,or_false] at hx;rcases hx with rfl | rfl<;>rfl),?_⟩
 have H:zf (g121 a0 a1) (fun a=>a=r):=⟨r,hok,rfl⟩
 unfold g121 at H
 clear hok
 refine z7 H ?_ ?_<;>intro h100 H
 ·refine R.cut_fam H 10 [0] [] (fun v105=>[]) (fun v105=>[]) [] 0 (fun H=>?_)
  refine And.intro ?_ ?_
  ·refine z7 H ?_ ?_<;>intro h107 H
   ·refine z7 H ?_ ?_<;>intro h108 H
    ·obtain ⟨v109,hv110,H⟩:=zc H
     refine ⟨(a0,v109),⟨hv110⟩,⟨trivial⟩,?_⟩
     refine ⟨⟨rfl⟩,?_⟩
     have hfin:=z2 H
     repeat refine zg ?_
     trivial
    ·refine ⟨(),⟨H⟩,⟨rfl⟩,?_⟩
     repeat refine z8 ?_
     trivial
   ·refine ⟨(),⟨H⟩,⟨rfl⟩,?_⟩
    repeat refine z8 ?_
    trivial
  ·intro v105 H
   refine R.cut_fam H 20 [0,5] [] (fun v113=>[(6,.v (.int .u64 (v113)))]) (fun v113=>[]) [(10,.cells 280 [.v (.int .u8 (0)),.v (.int .u8 (0)),.v (.int .u8 (0)),.v (.int .u8 (0)),.v (.int .u8 (0)),.v (.int .u8 (0)),.v (.int .u8 (0)),.v (.int .u8 (0)),.v (.int .u8 (0)),.v (.int .u8 (0)),.v (.int .u8 (0)),.v (.int .u8 (0)),.v (.int .u8 (0)),.v (.int .u8 (0)),.v (.int .u8 (0)),.v (.int .u8 (0)),.v (.int .u8 (0)),.v (.int .u8 (0)),.v (.int .u8 (0)),.v (.int .u8 (0)),.v (.int .u8 (0)),.v (.int .u8 (0)),.v (.int .u8 (0)),.v (.int .u8 (0))])] 0 (fun H=>?_)
   refine And.intro ?_ ?_
   ·refine z7 H ?_ ?_<;>intro h115 H
    ·refine ze H fun h116 H=>?_
     refine ⟨0-(IntKind.wrap .u64 a0),⟨H⟩,⟨rfl⟩,?_⟩
     repeat refine z8 ?_
     trivial
    ·refine ⟨IntKind.wrap .u64 a0,⟨H⟩,⟨rfl⟩,?_⟩
     repeat refine z8 ?_
     trivial
   ·intro v113 H
    refine R.cut_fam H 36 [] [] (fun v118=>[(0,.v (.int .u64 (v118.1))),(2,.v (.int .i64 (v118.2)))]) (fun v118=>[]) [(10,.cells 280 [.v (.int .u8 (0)),.v (.int .u8 (0)),.v (.int .u8 (0)),.v (.int .u8 (0)),.v (.int .u8 (0)),.v (.int .u8 (0)),.v (.int .u8 (0)),.v (.int .u8 (0)),.v (.int .u8 (0)),.v (.int .u8 (0)),.v (.int .u8 (0)),.v (.int .u8 (0)),.v (.int .u8 (0)),.v (.int .u8 (0)),.v (.int .u8 (0)),.v (.int .u8 (0)),.v (.int .u8 (0)),.v (.int .u8 (0)),.v (.int .u8 (0)),.v (.int .u8 (0)),.v (.int .u8 (0)),.v (.int .u8 (0)),.v (.int .u8 (0)),.v (.int .u8 (0))])] 0 (fun H=>?_)
    refine And.intro ?_ ?_
    ·refine z7 H ?_ ?_<;>intro h120 H
     ·refine And.intro ⟨by decide⟩ ?_
      refine ⟨(v113 / 2 ^ (32:Int).toNat,32),⟨H⟩,⟨rfl⟩,?_⟩
      repeat refine z8 ?_
      trivial
     ·refine ⟨(v113,0),⟨H⟩,⟨rfl⟩,?_⟩
      repeat refine z8 ?_
      trivial
    ·intro v118 H
     refine R.cut_fam H 45 [] [] (fun v123=>[(0,.v (.int .u64 (v123.1))),(2,.v (.int .i64 (v123.2)))]) (fun v123=>[]) [(10,.cells 280 [.v (.int .u8 (0)),.v (.int .u8 (0)),.v (.int .u8 (0)),.v (.int .u8 (0)),.v (.int .u8 (0)),.v (.int .u8 (0)),.v (.int .u8 (0)),.v (.int .u8 (0)),.v (.int .u8 (0)),.v (.int .u8 (0)),.v (.int .u8 (0)),.v (.int .u8 (0)),.v (.int .u8 (0)),.v (.int .u8 (0)),.v (.int .u8 (0)),.v (.int .u8 (0)),.v (.int .u8 (0)),.v (.int .u8 (0)),.v (.int .u8 (0)),.v (.int .u8 (0)),.v (.int .u8 (0)),.v (.int .u8 (0)),.v (.int .u8 (0)),.v (.int .u8 (0))])] 0 (fun H=>?_)
     refine And.intro ?_ ?_
     ·refine z7 H ?_ ?_<;>intro h125 H
      ·refine And.intro ⟨by decide⟩ ?_
       refine ze H fun h126 H=>?_
       refine ⟨(v118.1 / 2 ^ (16:Int).toNat,v118.2+16),⟨H⟩,⟨rfl⟩,?_⟩
       repeat refine z8 ?_
       trivial
      ·refine ⟨v118,⟨H⟩,⟨rfl⟩,?_⟩
       repeat refine z8 ?_
       trivial
     ·intro v123 H
      refine z7 H (fun _ H=>?_) (fun _ H=>?_)
      all_goals
       exact (none_st H).elim
 ·repeat' refine z7 H (fun _ H=>?_) (fun _ H=>?_)
  all_goals
   exact (none_st H).elim
noncomputable def g64 (a0:Int):Option (ByteArray):=
 (g121 a0 10).bind fun v6165=>
 some v6165
noncomputable def k64:Eng.CS:={ f:=64,calm:=true,more:=0,ι:=Int×ByteArray,ok:=fun i=>g64 i.1=some i.2,rds:=fun _=>[],args:=fun i=>[.w (.v (.int .i64 (i.1)))],res:=fun i=>.v (.string (i.2)) }
theorem k64_ok:zw Tryz.prog k64:=by
 refine R.calmspec Tryz.func64 (nq9 Tryz.func64) rfl ?_
 rintro ⟨a0,r⟩ hok q _ args hargs
 match args,hargs with
 | [_],hargs=>
 obtain ⟨rfl,_⟩:=hargs
 refine ⟨envC [k121] false [],6,zk (zd ⟨fun _=>k121_ok,nofun⟩ (zm)),rfl,(by intro x hx;simp only [List.mem_cons,List.not_mem_nil,or_false] at hx;rcases hx with rfl<;>rfl),?_⟩
 have H:zf (g64 a0) (fun a=>a=r):=⟨r,hok,rfl⟩
 unfold g64 at H
 clear hok
 obtain ⟨v6165,hv6166,H⟩:=zc H
 refine ⟨(a0,10,v6165),⟨hv6166⟩,⟨trivial⟩,?_⟩
 iterate 2 refine ⟨⟨rfl⟩,?_⟩
 have hfin:=z2 H
 repeat refine zg ?_
 trivial
noncomputable def g31 (a0:Int):Option (ByteArray):=
 (g64 a0).bind fun v6167=>
 some v6167
noncomputable def k31:Eng.CS:={ f:=31,calm:=true,more:=0,ι:=Int×ByteArray,ok:=fun i=>g31 i.1=some i.2,rds:=fun _=>[],args:=fun i=>[.w (.v (.int .i64 (i.1)))],res:=fun i=>.v (.string (i.2)) }
theorem k31_ok:zw Tryz.prog k31:=by
 refine R.calmspec Tryz.func31 (nq9 Tryz.func31) rfl ?_
 rintro ⟨a0,r⟩ hok q _ args hargs
 match args,hargs with
 | [_],hargs=>
 obtain ⟨rfl,_⟩:=hargs
 refine ⟨envC [k64] false [],6,zk (zd ⟨fun _=>k64_ok,nofun⟩ (zm)),rfl,(by intro x hx;simp only [List.mem_cons,List.not_mem_nil,or_false] at hx;rcases hx with rfl<;>rfl),?_⟩
 have H:zf (g31 a0) (fun a=>a=r):=⟨r,hok,rfl⟩
 unfold g31 at H
 clear hok
 obtain ⟨v6167,hv6168,H⟩:=zc H
 refine ⟨(a0,v6167),⟨hv6168⟩,⟨trivial⟩,?_⟩
 refine ⟨⟨rfl⟩,?_⟩
 have hfin:=z2 H
 repeat refine zg ?_
 trivial
end Go.Proofs.YtmpknfgjfmgleaaGreatDoor
end
section
set_option maxRecDepth 8000
set_option maxHeartbeats 4000000
namespace Go.Proofs.YtmpknfgjfmgleaaGreatDoor
open Go Go.Eng
noncomputable def g28 (a0:(Int×ByteArray×Int×Bool×Bool×Bool)):Option (ByteArray):=
 jn (α:=_) (β:=Int) (fun k6=>
   if a0.2.2.2.2.1=true then
    (
     ck (inR .i64 (0+1)) <|
     k6 (0+1)
    )
   else
    k6 0
 ) (fun v5=>
  jn (α:=_) (β:=Int) (fun k14=>
    if a0.2.2.2.1=true then
     (
      ck (inR .i64 (v5+2)) <|
      k14 (v5+2)
     )
    else
     k14 v5
  ) (fun v13=>
   if a0.2.2.2.2.2=true then
    (
     ck (inR .i64 (v13+4)) <|
     if (v13+4)=0 then
      some (lit [])
     else
      (
       ck (inR .i64 ((v13+4)+1)) <|
       (g31 ((v13+4)+1)).bind fun v24=>
       ck ((lit [59]).size+v24.size≤9223372036854775807) <|
       some ((lit [59])++v24)
      )
    )
   else
    (
     if v13=0 then
      some (lit [])
     else
      (
       ck (inR .i64 (v13+1)) <|
       (g31 (v13+1)).bind fun v29=>
       ck ((lit [59]).size+v29.size≤9223372036854775807) <|
       some ((lit [59])++v29)
      )
    )
  )
 )
noncomputable def k28:Eng.CS:={ f:=28,calm:=true,more:=0,ι:=(Int×ByteArray×Int×Bool×Bool×Bool)×ByteArray,ok:=fun i=>g28 i.1=some i.2,rds:=fun _=>[],args:=fun i=>[.w (.agg [.v (.int .i64 (i.1.1)),.v (.string (i.1.2.1)),.v (.int .i64 (i.1.2.2.1)),bS i.1.2.2.2.1,bS i.1.2.2.2.2.1,bS i.1.2.2.2.2.2])],res:=fun i=>.v (.string (i.2)) }
theorem k28_ok:zw Tryz.prog k28:=by
 refine R.calmspec Tryz.func28 (nq9 Tryz.func28) rfl ?_
 rintro ⟨a0,r⟩ hok q _ args hargs
 match args,hargs with
 | [_],hargs=>
 obtain ⟨rfl,_⟩:=hargs
 refine ⟨envC [k31] false [(28,4),(28,6)],6,zk (zd ⟨fun _=>k31_ok,nofun⟩ (zm)),rfl,(by intro x hx;simp only [List.mem_cons,List.not_mem_nil,or_false] at hx;rcases hx with rfl<;>rfl),?_⟩
 have H:zf (g28 a0) (fun a=>a=r):=⟨r,hok,rfl⟩
 unfold g28 at H
 clear hok
 refine R.cut_fam H 9 [1] [] (fun v5=>[(3,.v (.int .i64 (v5)))]) (fun v5=>[]) [(0,.cells 24 [.v (.int .i64 (a0.1)),.v (.string (a0.2.1)),.v (.int .i64 (a0.2.2.1)),bS a0.2.2.2.1,bS a0.2.2.2.2.1,bS a0.2.2.2.2.2])] 0 (fun H=>?_)
 refine And.intro ?_ ?_
 ·refine z7 H ?_ ?_<;>intro h7 H
  ·refine ze H fun h8 H=>?_
   refine ⟨0+1,⟨H⟩,⟨rfl⟩,?_⟩
   repeat refine z8 ?_
   trivial
  ·refine ⟨0,⟨H⟩,⟨rfl⟩,?_⟩
   repeat refine z8 ?_
   trivial
 ·intro v5 H
  refine R.cut_fam H 15 [1] [] (fun v13=>[(3,.v (.int .i64 (v13)))]) (fun v13=>[]) [(0,.cells 24 [.v (.int .i64 (a0.1)),.v (.string (a0.2.1)),.v (.int .i64 (a0.2.2.1)),bS a0.2.2.2.1,bS a0.2.2.2.2.1,bS a0.2.2.2.2.2])] 0 (fun H=>?_)
  refine And.intro ?_ ?_
  ·refine z7 H ?_ ?_<;>intro h15 H
   ·refine ze H fun h16 H=>?_
    refine ⟨v5+2,⟨H⟩,⟨rfl⟩,?_⟩
    repeat refine z8 ?_
    trivial
   ·refine ⟨v5,⟨H⟩,⟨rfl⟩,?_⟩
    repeat refine z8 ?_
    trivial
  ·intro v13 H
   refine z7 H ?_ ?_<;>intro h19 H
   ·refine ze H fun h20 H=>?_
    refine z7 H ?_ ?_<;>intro h22 H
    ·have hfin:=z2 H
     repeat refine zg ?_
     trivial
    ·refine ze H fun h23 H=>?_
     obtain ⟨v24,hv25,H⟩:=zc H
     refine ⟨((v13+4)+1,v24),⟨hv25⟩,⟨trivial⟩,?_⟩
     refine ⟨⟨rfl⟩,?_⟩
     refine ze H fun h26 H=>?_
     have hfin:=z2 H
     repeat refine zg ?_
     trivial
   ·refine z7 H ?_ ?_<;>intro h27 H
    ·have hfin:=z2 H
     repeat refine zg ?_
     trivial
    ·refine ze H fun h28 H=>?_
     obtain ⟨v29,hv30,H⟩:=zc H
     refine ⟨(v13+1,v29),⟨hv30⟩,⟨trivial⟩,?_⟩
     refine ⟨⟨rfl⟩,?_⟩
     refine ze H fun h31 H=>?_
     have hfin:=z2 H
     repeat refine zg ?_
     trivial
noncomputable def g11 (a0:(Int×ByteArray×Int×Bool×Bool×Bool)):Option (ByteArray):=
 if ¬(a0.2.1.data.toList=(lit []).data.toList) then
  some (lit [])
 else
  (
   (g28 a0).bind fun v34=>
   (g29 a0.1).bind fun v51=>
   if ¬v51=0 then
    (
     if ¬a0.2.2.1=0 then
      some (lit [])
     else
      (
       if ¬(v34.data.toList=(lit []).data.toList) then
        (
         ck ((lit [49]).size+v34.size≤9223372036854775807) <|
         ck ((lit [27,91]).size+((lit [49])++v34).size≤9223372036854775807) <|
         ck (zM ([v51])) <|
         ck (((lit [27,91])++((lit [49])++v34)).size+(zV ([v51])).size≤9223372036854775807) <|
         some (((lit [27,91])++((lit [49])++v34))++(zV ([v51])))
        )
       else
        (
         ck ((lit [27,91]).size+v34.size≤9223372036854775807) <|
         ck (zM ([v51])) <|
         ck (((lit [27,91])++v34).size+(zV ([v51])).size≤9223372036854775807) <|
         some (((lit [27,91])++v34)++(zV ([v51])))
        )
      )
    )
   else
    (
     (g30 a0).bind fun v63=>
     if v63=0 then
      some (lit [])
     else
      (
       (g31 v63).bind fun v67=>
       ck ((lit [27,91]).size+v67.size≤9223372036854775807) <|
       ck (((lit [27,91])++v67).size+v34.size≤9223372036854775807) <|
       ck ((((lit [27,91])++v67)++v34).size+(lit [126]).size≤9223372036854775807) <|
       some ((((lit [27,91])++v67)++v34)++(lit [126]))
      )
    )
  )
noncomputable def k11:Eng.CS:={ f:=11,calm:=true,more:=0,ι:=(Int×ByteArray×Int×Bool×Bool×Bool)×ByteArray,ok:=fun i=>g11 i.1=some i.2,rds:=fun _=>[],args:=fun i=>[.w (.agg [.v (.int .i64 (i.1.1)),.v (.string (i.1.2.1)),.v (.int .i64 (i.1.2.2.1)),bS i.1.2.2.2.1,bS i.1.2.2.2.2.1,bS i.1.2.2.2.2.2])],res:=fun i=>.v (.string (i.2)) }
theorem k11_ok:zw Tryz.prog k11:=by
 refine R.calmspec Tryz.func11 (nq9 Tryz.func11) rfl ?_
 rintro ⟨a0,r⟩ hok q _ args hargs
 match args,hargs with
 | [_],hargs=>
 obtain ⟨rfl,_⟩:=hargs
 refine ⟨envC [k28,k29,k30,k31] false [],6,zk (zd ⟨fun _=>k28_ok,nofun⟩ (zd ⟨fun _=>k29_ok,nofun⟩ (zd ⟨fun _=>k30_ok,nofun⟩ (zd ⟨fun _=>k31_ok,nofun⟩ (zm))))),rfl,(by intro x hx;simp only [List.mem_cons,List.not_mem_nil,or_false] at hx;rcases hx with rfl<;>rfl),?_⟩
 have H:zf (g11 a0) (fun a=>a=r):=⟨r,hok,rfl⟩
 unfold g11 at H
 clear hok
 refine z7 H ?_ ?_<;>intro h33 H
 ·have hfin:=z2 H
  repeat refine zg ?_
  trivial
 ·obtain ⟨v34,hv35,H⟩:=zc H
  refine ⟨(a0,v34),⟨hv35⟩,⟨trivial⟩,?_⟩
  iterate 6 refine z8 ?_
  obtain ⟨v51,hv52,H⟩:=zc H
  refine ⟨(a0.1,v51),⟨hv52⟩,⟨trivial⟩,?_⟩
  refine ⟨⟨rfl⟩,?_⟩
  refine z7 H ?_ ?_<;>intro h53 H
  ·refine z7 H ?_ ?_<;>intro h54 H
   ·have hfin:=z2 H
    repeat refine zg ?_
    trivial
   ·refine z7 H ?_ ?_<;>intro h55 H
    ·refine ze H fun h56 H=>?_
     refine ze H fun h57 H=>?_
     refine yA (l:=[v51]) H fun h58 H=>?_
     refine ze H fun h59 H=>?_
     have hfin:=z2 H
     repeat refine zg ?_
     trivial
    ·refine ze H fun h60 H=>?_
     refine yA (l:=[v51]) H fun h61 H=>?_
     refine ze H fun h62 H=>?_
     have hfin:=z2 H
     repeat refine zg ?_
     trivial
  ·obtain ⟨v63,hv64,H⟩:=zc H
   refine ⟨(a0,v63),⟨hv64⟩,⟨trivial⟩,?_⟩
   iterate 6 refine z8 ?_
   refine z7 H ?_ ?_<;>intro h66 H
   ·have hfin:=z2 H
    repeat refine zg ?_
    trivial
   ·obtain ⟨v67,hv68,H⟩:=zc H
    refine ⟨(v63,v67),⟨hv68⟩,⟨trivial⟩,?_⟩
    refine ⟨⟨rfl⟩,?_⟩
    refine ze H fun h69 H=>?_
    refine ze H fun h70 H=>?_
    refine ze H fun h71 H=>?_
    have hfin:=z2 H
    repeat refine zg ?_
    trivial
end Go.Proofs.YtmpknfgjfmgleaaGreatDoor
end
section
namespace Go.Proofs
open Go.Shelf
def Tryz.lays156_ren:Go.Shelf.Ren:=⟨fun | 156=>359 | 165=>229 | 166=>42 | 169=>44 | 240=>71 | 241=>311 | 276=>123 | 277=>394 | n=>n,fun | 31=>52 | 9=>9 | 3=>3 | 4=>4 | 0=>0 | 20=>20 | 72=>85 | 76=>90 | 70=>83 | 37=>26 | 75=>89 | 127=>128 | 164=>220 | 5=>5 | 80=>93 | n=>n,fun | n=>n⟩
theorem Tryz.lays156:Go.Proofs.Lays.n156 Tryz.prog Tryz.lays156_ren:={
 mixed:=by kernel_rfl
 f156:=Tryz.func359.trans (congrArg some (by kernel_rfl))
 f165:=Tryz.func229.trans (congrArg some (by kernel_rfl))
 f166:=Tryz.func42.trans (congrArg some (by kernel_rfl))
 f169:=Tryz.func44.trans (congrArg some (by kernel_rfl))
 f240:=Tryz.func71.trans (congrArg some (by kernel_rfl))
 f241:=Tryz.func311.trans (congrArg some (by kernel_rfl))
 f276:=Tryz.func123.trans (congrArg some (by kernel_rfl))
 f277:=Tryz.func394.trans (congrArg some (by kernel_rfl))
 t0:=Tryz.underlying0
 a0:=Tryz.isAgg0
 z0:=Tryz.sizeOf0
 v0:=Tryz.zeroValue0
 t3:=Tryz.underlying3
 a3:=Tryz.isAgg3
 z3:=Tryz.sizeOf3
 v3:=Tryz.zeroValue3
 t4:=Tryz.underlying4
 a4:=Tryz.isAgg4
 z4:=Tryz.sizeOf4
 v4:=Tryz.zeroValue4
 t9:=Tryz.underlying9
 a9:=Tryz.isAgg9
 z9:=Tryz.sizeOf9
 v9:=Tryz.zeroValue9
 t20:=Tryz.underlying20
 a20:=Tryz.isAgg20
 z20:=Tryz.sizeOf20
 v20:=Tryz.zeroValue20
 t31:=Tryz.underlying52
 a31:=Tryz.isAgg52
 z31:=Tryz.sizeOf52
 v31:=Tryz.zeroValue52
 t37:=Tryz.underlying26
 a37:=Tryz.isAgg26
 z37:=Tryz.sizeOf26
 v37:=Tryz.zeroValue26
 t70:=Tryz.underlying83
 a70:=Tryz.isAgg83
 z70:=Tryz.sizeOf83
 v70:=Tryz.zeroValue83
 t72:=Tryz.underlying85
 a72:=Tryz.isAgg85
 z72:=Tryz.sizeOf85
 v72:=Tryz.zeroValue85
 t75:=Tryz.underlying89
 a75:=Tryz.isAgg89
 z75:=Tryz.sizeOf89
 v75:=Tryz.zeroValue89
 t76:=Tryz.underlying90
 a76:=Tryz.isAgg90
 z76:=Tryz.sizeOf90
 v76:=Tryz.zeroValue90
 t127:=Tryz.underlying128
 a127:=Tryz.isAgg128
 z127:=Tryz.sizeOf128
 v127:=Tryz.zeroValue128
 t164:=Tryz.underlying220
 a164:=Tryz.isAgg220
 z164:=Tryz.sizeOf220
 v164:=Tryz.zeroValue220 }
theorem Tryz.Builder_Extra_156:Builder.Extra Tryz.prog Tryz.lays156_ren:={
 sizeBuilder:=by kernel_rfl
 liesBuilder:=by kernel_rfl
 t5:=Tryz.underlying5
 a5:=Tryz.isAgg5
 z5:=Tryz.sizeOf5
 v5:=Tryz.zeroValue5
 infoByte:=by kernel_rfl
 cellsByte:=by kernel_rfl
 sizeByte:=by kernel_rfl
 neB5:=by decide }
open Go.RowKit in
theorem Tryz.strings_Join_none (a:Option Addr) (c:Nat) (sep:ByteArray) (w:World) :
  Calls Tryz.prog 359 #[.slice a 0 c,.string sep] w fun e w'=>e=.returned (.string ⟨#[]⟩)∧w'=w:=Any.strings_Join_none Tryz.lays156 Tryz.Builder_Extra_156 a c sep w
open Go.RowKit in
theorem Tryz.strings_Join (bk o c:Nat) (xs:List ByteArray) (sep:ByteArray) (w:World) (hcells:∀(j:Nat) x,xs[j]?=some x→w.cell? ⟨bk,o+j,none⟩=some (.string x)) (hbk:bk<w.heap.size) (hN:xs.length≤140737488355328) (hcap:xs.length≤c) (hlen:(Lib.join (xs.map (·.data.toList)) sep.data.toList).length≤140737488355328) :
  Calls Tryz.prog 359 #[.slice (some ⟨bk,o,none⟩) xs.length c,.string sep] w fun e w'=>e=.returned (.string ⟨(Lib.join (xs.map (·.data.toList)) sep.data.toList).toArray⟩)∧Below w.heap.size w w':=Any.strings_Join Tryz.lays156 Tryz.Builder_Extra_156 bk o c xs sep w hcells hbk hN hcap hlen
def Tryz.lays144_ren:Go.Shelf.Ren:=⟨fun | 144=>27 | 143=>63 | 219=>120 | 217=>124 | 225=>190 | 224=>191 | 267=>192 | 266=>197 | 314=>277 | n=>n,fun | 9=>9 | 4=>4 | 3=>3 | 5=>5 | 46=>217 | 146=>348 | 51=>347 | n=>n,fun | 1=>0 | n=>n⟩
theorem Tryz.lays144:Go.Proofs.Lays.n144 Tryz.prog Tryz.lays144_ren:={
 mixed:=by kernel_rfl
 f143:=Tryz.func63.trans (congrArg some (by kernel_rfl))
 f144:=Tryz.func27.trans (congrArg some (by kernel_rfl))
 f217:=Tryz.func124.trans (congrArg some (by kernel_rfl))
 f219:=Tryz.func120.trans (congrArg some (by kernel_rfl))
 f224:=Tryz.func191.trans (congrArg some (by kernel_rfl))
 f225:=Tryz.func190.trans (congrArg some (by kernel_rfl))
 f266:=Tryz.func197.trans (congrArg some (by kernel_rfl))
 f267:=Tryz.func192.trans (congrArg some (by kernel_rfl))
 f314:=Tryz.func277.trans (congrArg some (by kernel_rfl))
 t3:=Tryz.underlying3
 a3:=Tryz.isAgg3
 z3:=Tryz.sizeOf3
 v3:=Tryz.zeroValue3
 t4:=Tryz.underlying4
 a4:=Tryz.isAgg4
 z4:=Tryz.sizeOf4
 v4:=Tryz.zeroValue4
 t5:=Tryz.underlying5
 a5:=Tryz.isAgg5
 z5:=Tryz.sizeOf5
 v5:=Tryz.zeroValue5
 t9:=Tryz.underlying9
 a9:=Tryz.isAgg9
 z9:=Tryz.sizeOf9
 v9:=Tryz.zeroValue9
 t46:=Tryz.underlying217
 a46:=Tryz.isAgg217
 z46:=Tryz.sizeOf217
 v46:=Tryz.zeroValue217
 t51:=Tryz.underlying347
 a51:=Tryz.isAgg347
 z51:=Tryz.sizeOf347
 v51:=Tryz.zeroValue347
 t146:=Tryz.underlying348
 a146:=Tryz.isAgg348
 z146:=Tryz.sizeOf348
 v146:=Tryz.zeroValue348
 g1:=by kernel_rfl }
open Go.RowKit Go.Lib in
theorem Tryz.strings_Contains (s sub:ByteArray) (m:Int) (w:World) (hs:s.size<4294967281) (hm:w.cell? ⟨0,0,none⟩=some (.int .i64 m)) :
  Calls Tryz.prog 27 #[.string s,.string sub] w fun e w'=>e=.returned (.bool (Lib.contains s.data.toList sub.data.toList))∧w'=w:=Any.strings_Contains Tryz.lays144 s sub m w hs hm
end Go.Proofs
end
section
namespace Go.Proofs.YtmpknfgjfmgleaaGreatDoor
open Go Go.Eng Go.RowKit
noncomputable def g27 (a0:ByteArray) (a1:ByteArray):Option Bool:=ck (a0.size<4294967281) <| some (Lib.contains a0.data.toList a1.data.toList)
noncomputable def k27:Eng.CS:={ f:=27,calm:=true,more:=0,ι:=ByteArray×ByteArray×Bool×Int,ok:=fun i=>g27 i.1 i.2.1=some i.2.2.1,rds:=fun i=>[(some ⟨0,0,none⟩,[.int .i64 i.2.2.2])],args:=fun i=>[.w (.v (.string i.1)),.w (.v (.string i.2.1))],res:=fun i=>bS i.2.2.1,rn:=[] }
theorem k27_ok:zw Tryz.prog k27:=by
 refine ⟨fun args w=>?_,?_⟩
 ·have hname' : ¬ Tryz.f27.name = "runtime.NumGoroutine" := by simpa using (nq9 Tryz.func27)
  obtain ⟨c,hc⟩:=Option.isSome_iff_exists.1 (show Tryz.f27.body.isSome=true from rfl)
  have hP:=Tryz.func27
  simp [callFunc,k27,hP,hname',hc]
 ·rintro w q S ⟨a0,a1,r,m⟩ vs hok hrds hm hargs
  have hr:a0.size<4294967281∧Lib.contains a0.data.toList a1.data.toList=r:=by
   have:g27 a0 a1=some r:=hok
   unfold g27 ck at this
   split at this
   ·rename_i h1;cases this;exact ⟨h1,rfl⟩
   ·cases this
  obtain ⟨h1,rfl⟩:=hr
  match vs,hargs with
  | [v,s],hargs=>
  obtain ⟨hv,hs,_⟩:=hargs
  have hv:v=.string a0:=hv
  have hs:s=.string a1:=hs
  subst hs hv
  have hR:Reads q (some ⟨0,0,none⟩) [.int .i64 m]:=hrds.1
  have h0:q 0 0=some (.int .i64 m):=hR 0 (Nat.zero_lt_succ 0)
  refine (Tryz.strings_Contains a0 a1 m w h1 (hm 0 0 _ h0)).mono ?_
  rintro e w' ⟨rfl,rfl⟩
  exact ⟨by simp [k27,bS,den],Below.refl _ _⟩
end Go.Proofs.YtmpknfgjfmgleaaGreatDoor
end
section
set_option maxRecDepth 8000
set_option maxHeartbeats 4000000
namespace Go.Proofs.YtmpknfgjfmgleaaGreatDoor
open Go Go.Eng
noncomputable def g10 (a0:(Int×ByteArray×Int×Bool×Bool×Bool)):Option (ByteArray):=
 if a0.2.2.2.1=true then
  some (lit [])
 else
  (
   if a0.2.2.2.2.1=true then
    some (lit [])
   else
    (
     if a0.2.2.2.2.2=true then
      some (lit [])
     else
      (
       if ¬a0.2.2.1=0 then
        some (lit [])
       else
        (
         if 65536<(a0.2.1.size:Int) then
          some (lit [])
         else
          (
           (g26 a0.2.1).bind fun v27=>
           if ¬(v27=true) then
            some (lit [])
           else
            (
             (g27 a0.2.1 (lit [27,91,50,48,49,126])).bind fun v30=>
             if v30=true then
              some (lit [])
             else
              (
               ck ((lit [27,91,50,48,48,126]).size+a0.2.1.size≤9223372036854775807) <|
               ck (((lit [27,91,50,48,48,126])++a0.2.1).size+(lit [27,91,50,48,49,126]).size≤9223372036854775807) <|
               some (((lit [27,91,50,48,48,126])++a0.2.1)++(lit [27,91,50,48,49,126]))
              )
            )
          )
        )
      )
    )
  )
noncomputable def k10:Eng.CS:={ f:=10,calm:=true,more:=0,ι:=(Int×ByteArray×Int×Bool×Bool×Bool)×ByteArray×Int,ok:=fun i=>g10 i.1=some i.2.1,rds:=fun i=>[(some ⟨0,0,none⟩,[.int .i64 i.2.2])],args:=fun i=>[.w (.agg [.v (.int .i64 (i.1.1)),.v (.string (i.1.2.1)),.v (.int .i64 (i.1.2.2.1)),bS i.1.2.2.2.1,bS i.1.2.2.2.2.1,bS i.1.2.2.2.2.2])],res:=fun i=>.v (.string (i.2.1)) }
theorem k10_ok:zw Tryz.prog k10:=by
 refine R.calmspec Tryz.func10 (nq9 Tryz.func10) rfl ?_
 rintro ⟨a0,r,mM⟩ hok q hrds args hargs
 obtain ⟨hM,_⟩:=hrds
 match args,hargs with
 | [_],hargs=>
 obtain ⟨rfl,_⟩:=hargs
 refine ⟨envC [k26,k27] false [],6,zk (zd ⟨fun _=>k26_ok,nofun⟩ (zd ⟨fun _=>k27_ok,nofun⟩ (zm))),rfl,(by intro x hx;simp only [List.mem_cons,List.not_mem_nil,or_false] at hx;rcases hx with rfl<;>rfl),?_⟩
 have H:zf (g10 a0) (fun a=>a=r):=⟨r,hok,rfl⟩
 unfold g10 at H
 clear hok
 refine z7 H ?_ ?_<;>intro h22 H
 ·have hfin:=z2 H
  repeat refine zg ?_
  trivial
 ·refine z7 H ?_ ?_<;>intro h23 H
  ·have hfin:=z2 H
   repeat refine zg ?_
   trivial
  ·refine z7 H ?_ ?_<;>intro h24 H
   ·have hfin:=z2 H
    repeat refine zg ?_
    trivial
   ·refine z7 H ?_ ?_<;>intro h25 H
    ·have hfin:=z2 H
     repeat refine zg ?_
     trivial
    ·refine z7 H ?_ ?_<;>intro h26 H
     ·have hfin:=z2 H
      repeat refine zg ?_
      trivial
     ·obtain ⟨v27,hv28,H⟩:=zc H
      refine ⟨(a0.2.1,v27),⟨hv28⟩,⟨trivial⟩,?_⟩
      refine ⟨⟨rfl⟩,?_⟩
      refine z7 H ?_ ?_<;>intro h29 H
      ·have hfin:=z2 H
       repeat refine zg ?_
       trivial
      ·obtain ⟨v30,hv31,H⟩:=zc H
       refine ⟨(a0.2.1,(lit [27,91,50,48,49,126]),v30,mM),⟨hv31⟩,⟨⟨hM,trivial⟩⟩,?_⟩
       iterate 2 refine ⟨⟨rfl⟩,?_⟩
       refine z7 H ?_ ?_<;>intro h32 H
       ·have hfin:=z2 H
        repeat refine zg ?_
        trivial
       ·refine ze H fun h33 H=>?_
        refine ze H fun h34 H=>?_
        have hfin:=z2 H
        repeat refine zg ?_
        trivial
end Go.Proofs.YtmpknfgjfmgleaaGreatDoor
end
section
set_option maxRecDepth 8000
set_option maxHeartbeats 4000000
namespace Go.Proofs.YtmpknfgjfmgleaaGreatDoor
open Go Go.Eng
noncomputable def g5 (a0:(Int×ByteArray×Int×Bool×Bool×Bool)):Option (List Int×Int):=
 jn (α:=_) (β:=ByteArray) (fun k46=>
   jn (α:=_) (β:=Bool) (fun k52=>
     if a0.1=1 then
      k52 (decide (a0.1=1))
     else
      (
       if a0.1=2 then
        k52 (decide (a0.1=2))
       else
        (
         if a0.1=3 then
          k52 (decide (a0.1=3))
         else
          (
           if a0.1=6 then
            k52 (decide (a0.1=6))
           else
            k52 (decide (a0.1=17))
          )
        )
      )
   ) (fun v51=>
    if v51=true then
     (
      (g9 a0).bind fun v58=>
      k46 v58
     )
    else
     (
      if a0.1=16 then
       (
        (g10 a0).bind fun v61=>
        k46 v61
       )
      else
       (
        if a0.1=4 then
         (
          if a0.1=4∧(a0.2.1.data.toList=(⟨#[]⟩:ByteArray).data.toList∧(a0.2.2.1=0∧((¬(a0.2.2.2.1=true))∧((¬(a0.2.2.2.2.1=true))∧((¬(a0.2.2.2.2.2=true))∧True))))) then
           k46 (lit [27,91,90])
          else
           k46 (lit [])
         )
        else
         (
          (g11 a0).bind fun v65=>
          k46 v65
         )
       )
     )
   )
 ) (fun v45=>
  if v45.data.toList=(lit []).data.toList then
   some (([]:List Int),290)
  else
   (
    ck (v45.size≤140737488355328) <|
    some (z6 v45,0)
   )
 )
noncomputable def k5:Eng.CS:={ f:=5,calm:=false,more:=0,ι:=(Int×ByteArray×Int×Bool×Bool×Bool)×(List Int×Int)×Int,ok:=fun i=>g5 i.1=some i.2.1,rds:=fun i=>[(some ⟨0,0,none⟩,[.int .i64 i.2.2])],args:=fun i=>[.w (.agg [.v (.int .i64 (i.1.1)),.v (.string (i.1.2.1)),.v (.int .i64 (i.1.2.2.1)),bS i.1.2.2.2.1,bS i.1.2.2.2.2.1,bS i.1.2.2.2.2.2])],res:=fun _=>.bad,rn:=[],gr:=true,γ:=(Option Addr×Nat),resG:=fun i g=>.tup [.v (.slice g.1 i.2.1.1.length g.2),.v (.int .i64 (i.2.1.2))],LG:=fun i g=>[],okG:=fun i g=>i.2.1.1.length≤g.2,rdsG:=fun i g=>[(g.1,ei .u8 i.2.1.1)],fzr:=[(0,0)] }
theorem k5_ok:CSOk Tryz.prog k5:=by
 refine R.cspecG Tryz.func5 (nq9 Tryz.func5) rfl rfl (fun _=>rfl) ?_
 rintro ⟨a0,r,mM⟩ hok q hrds args hargs
 obtain ⟨hM,_⟩:=hrds
 dsimp only [k5] at hargs ⊢
 match args,hargs with
 | [_],hargs=>
 obtain ⟨rfl,_⟩:=hargs
 refine ⟨envC [k9,k10,k11] false [(5,9),(5,15)],6,zk (zd ⟨fun _=>k9_ok,nofun⟩ (zd ⟨fun _=>k10_ok,nofun⟩ (zd ⟨fun _=>k11_ok,nofun⟩ (zm)))),?_⟩
 have H:zf (g5 a0) (fun a=>a=r):=⟨r,hok,rfl⟩
 unfold g5 at H
 clear hok
 refine R.cut_fam H 26 [] [] (fun v45=>[(4,.v (.string (v45)))]) (fun v45=>[]) [(0,.cells 24 [.v (.int .i64 (a0.1)),.v (.string (a0.2.1)),.v (.int .i64 (a0.2.2.1)),bS a0.2.2.2.1,bS a0.2.2.2.2.1,bS a0.2.2.2.2.2])] 0 (fun H=>?_)
 refine And.intro ?_ ?_
 ·refine R.cut_fam H 17 [1,4,6] [] (fun v51=>[(9,bS v51)]) (fun v51=>[]) [(0,.cells 24 [.v (.int .i64 (a0.1)),.v (.string (a0.2.1)),.v (.int .i64 (a0.2.2.1)),bS a0.2.2.2.1,bS a0.2.2.2.2.1,bS a0.2.2.2.2.2])] 0 (fun H=>?_)
  refine And.intro ?_ ?_
  ·refine z7 H ?_ ?_<;>intro h53 H
   ·refine ⟨_,⟨H⟩,⟨rfl⟩,?_⟩
    repeat refine z8 ?_
    trivial
   ·refine z7 H ?_ ?_<;>intro h54 H
    ·refine ⟨_,⟨H⟩,⟨rfl⟩,?_⟩
     repeat refine z8 ?_
     trivial
    ·refine z7 H ?_ ?_<;>intro h55 H
     ·refine ⟨_,⟨H⟩,⟨rfl⟩,?_⟩
      repeat refine z8 ?_
      trivial
     ·refine z7 H ?_ ?_<;>intro h56 H
      ·refine ⟨_,⟨H⟩,⟨rfl⟩,?_⟩
       repeat refine z8 ?_
       trivial
      ·refine ⟨_,⟨H⟩,⟨rfl⟩,?_⟩
       repeat refine z8 ?_
       trivial
  ·intro v51 H
   refine z7 H ?_ ?_<;>intro h57 H
   ·obtain ⟨v58,hv59,H⟩:=zc H
    refine ⟨(a0,v58),⟨hv59⟩,⟨trivial⟩,?_⟩
    iterate 6 refine z8 ?_
    refine ⟨v58,⟨H⟩,⟨rfl⟩,?_⟩
    repeat refine z8 ?_
    trivial
   ·refine z7 H ?_ ?_<;>intro h60 H
    ·obtain ⟨v61,hv62,H⟩:=zc H
     refine ⟨(a0,v61,mM),⟨hv62⟩,⟨⟨hM,trivial⟩⟩,?_⟩
     iterate 6 refine z8 ?_
     refine ⟨v61,⟨H⟩,⟨rfl⟩,?_⟩
     repeat refine z8 ?_
     trivial
    ·refine z7 H ?_ ?_<;>intro h63 H
     ·refine z7 H ?_ ?_<;>intro h64 H
      ·refine ⟨(lit [27,91,90]),⟨H⟩,⟨rfl⟩,?_⟩
       repeat refine z8 ?_
       trivial
      ·refine ⟨(lit []),⟨H⟩,⟨rfl⟩,?_⟩
       repeat refine z8 ?_
       trivial
     ·obtain ⟨v65,hv66,H⟩:=zc H
      refine ⟨(a0,v65),⟨hv66⟩,⟨trivial⟩,?_⟩
      iterate 6 refine z8 ?_
      refine ⟨v65,⟨H⟩,⟨rfl⟩,?_⟩
      repeat refine z8 ?_
      trivial
 ·intro v45 H
  refine z7 H ?_ ?_<;>intro h68 H
  ·have hfin:=z2 H
   first | subst hfin | rw [←hfin]
   refine ⟨(none,0),⟨Nat.le_refl _⟩,⟨⟨Reads.nil,trivial⟩⟩,?_⟩
   repeat refine z8 ?_
   trivial
  ·refine ob_sb H fun h74 H q75 A69 c70 hq71 hc72 hR73=>?_
   intro n76 hn77
   obtain rfl:n76=(z6 v45).length:=hn77.trans (zp v45).symm
   have hfin:=z2 H
   first | subst hfin | rw [←hfin]
   refine ⟨(A69,c70),⟨(Nat.le_trans (Nat.le_of_eq (zp v45)) hc72)⟩,⟨⟨hR73,trivial⟩⟩,?_⟩
   repeat refine z8 ?_
   trivial
end Go.Proofs.YtmpknfgjfmgleaaGreatDoor
end
section
set_option maxRecDepth 8000
set_option maxHeartbeats 4000000
namespace Go.Proofs.YtmpknfgjfmgleaaGreatDoor
open Go Go.Eng
noncomputable def g36 (a0:List Int):Option (List Int×List Int):=
 jn (α:=_) (β:=List Int×List Int) (fun k100=>
   (yr (σ:=List Int×List Int×Int) (ρ:=List Int×List Int) (fun s103=>
     if s103.2.2<((a0.length:Nat):Int) then
      (
       ck (0≤s103.2.2∧s103.2.2≤((a0.length:Nat):Int)∧((a0.length:Nat):Int)≤((a0.length:Nat):Int)) <|
       (g32 ((a0.drop s103.2.2.toNat).take (((a0.length:Nat):Int).toNat-s103.2.2.toNat))).bind fun v171=>
       if v171.2.2=true then
        (
         ck ((s103.1.length+1) * 4≤140737488355328) <|
         ck ((s103.2.1.length+1) * 8≤140737488355328) <|
         ck (inR .i64 (s103.2.2+1)) <|
         some (.go ((s103.1++[65533]),(s103.2.1++[s103.2.2]),s103.2.2+1))
        )
       else
        (
         ck ((s103.1.length+1) * 4≤140737488355328) <|
         ck ((s103.2.1.length+1) * 8≤140737488355328) <|
         ck (inR .i64 (s103.2.2+v171.2.1)) <|
         some (.go ((s103.1++[v171.1]),(s103.2.1++[s103.2.2]),s103.2.2+v171.2.1))
        )
      )
     else
      some (.out (s103.1,s103.2.1))
    ) ([],[],0)).bind fun o165=>
    k100 o165
 ) (fun v99=>
  some v99
 )
noncomputable def k36:Eng.CS:={ f:=36,calm:=false,more:=2,ι:=(List Int)×(List Int×List Int),ok:=fun i=>g36 i.1=some i.2,rds:=fun _=>[],args:=fun i=>[.sl 1 i.1.length (ei .u8 i.1)],res:=fun i=>.tup [.own 0,.own 1],L':=fun i=>[(0,.arr 21 1 i.2.1.length (ei .i32 i.2.1)),(1,.arr 3 1 i.2.2.length (ei .i64 i.2.2))],rn:=[(0,0,21,1),(1,0,3,1)] }
theorem k36_ok:CSOk Tryz.prog k36:=by
 refine R.cspec Tryz.func36 (nq9 Tryz.func36) rfl ?_
 rintro ⟨a0,r⟩ hok q _ args hargs
 match args,hargs with
 | [_],hargs=>
 obtain ⟨⟨A0,cp0,rfl,hc0,_,hR0⟩,_⟩:=hargs
 refine ⟨envC [k32] false [(36,10)],6,zk (zd ⟨fun _=>k32_ok,nofun⟩ (zm)),?_⟩
 have H:zf (g36 a0) (fun a=>a=r):=⟨r,hok,rfl⟩
 unfold g36 at H
 clear hok
 refine R.cut_fam H 17 [] [] (fun v99=>[(4,.own 17),(5,.own 18)]) (fun v99=>[(17,.arr 21 1 (v99.1.length) (ei .i32 (v99.1))),(18,.arr 3 1 (v99.2.length) (ei .i64 (v99.2)))]) [] 2 (fun H=>?_)
 refine And.intro ?_ ?_
 ·refine R.loop_fam (yn H) [0] [(4,0,21,1),(5,0,3,1)] (fun _ s103=>[(4,.own 7),(5,.own 8),(6,.v (.int .i64 (s103.2.2)))]) (fun _ s103=>[(7,.arr 21 1 (s103.1.length) (ei .i32 (s103.1))),(8,.arr 3 1 (s103.2.1.length) (ei .i64 (s103.2.1)))]) 2 (fun n196 H=>?_)
  refine ⟨(n196,_),⟨H⟩,⟨trivial⟩,?_⟩
  repeat refine z8 ?_
  rintro ⟨m0,s103⟩ H _
  obtain ⟨m104,hm0,H⟩:=yv H
  dsimp only at hm0
  subst hm0
  try dsimp only at H
  refine z7 H ?_ ?_<;>intro h166 H
  ·refine ob_sl hc0 H fun h167 H=>?_
   have hs168:=sl_ei hR0 rfl hc0 h167
   intro n169 hn170
   obtain rfl:n169=((a0.drop s103.2.2.toNat).take (((a0.length:Nat):Int).toNat-s103.2.2.toNat)).length:=hn170.trans hs168.2.1.symm
   obtain ⟨v171,hv172,H⟩:=zc H
   refine ⟨(((a0.drop s103.2.2.toNat).take (((a0.length:Nat):Int).toNat-s103.2.2.toNat)),v171),⟨hv172⟩,⟨trivial⟩,?_⟩
   refine And.intro ⟨rfl,(Nat.le_trans (Nat.le_of_eq hs168.2.1) hs168.2.2),ei_len.trans ((show _=_ from rfl).trans (Nat.mul_one _).symm),hs168.1⟩ ?_
   refine z7 H ?_ ?_<;>intro h173 H
   ·refine yZ (by decide) (by first | exact ei_one | ((repeat (refine List.forall_mem_cons.2 ⟨rfl,?_⟩));intro y hy;cases hy;done) | (intro y hy;simp [ei,eb,es,ec] at hy;(first | (rcases hy with rfl | hy) | subst hy | skip);all_goals first | rfl | simp_all [Value.oneCell'])) H fun h174 H=>?_
    intro n175 zs177 hn176 hz178
    obtain rfl:n175=(s103.1++[65533]).length:=hn176.trans (by first | exact List.length_append.symm | (simp;done) | (simp;omega))
    obtain rfl:zs177=ei .i32 (s103.1++[65533]):=by first | exact hz178.trans (ei_app (xs:=s103.1) (ys:=([65533]))).symm | (rw [hz178,ei_vw];first | exact ei_app.symm | exact (ei_app (xs:=s103.1)).symm) | (rw [hz178];simp [ei,eb,es,ec])
    refine yZ (by decide) (by first | exact ei_one | ((repeat (refine List.forall_mem_cons.2 ⟨rfl,?_⟩));intro y hy;cases hy;done) | (intro y hy;simp [ei,eb,es,ec] at hy;(first | (rcases hy with rfl | hy) | subst hy | skip);all_goals first | rfl | simp_all [Value.oneCell'])) H fun h179 H=>?_
    intro n180 zs182 hn181 hz183
    obtain rfl:n180=(s103.2.1++[s103.2.2]).length:=hn181.trans (by first | exact List.length_append.symm | (simp;done) | (simp;omega))
    obtain rfl:zs182=ei .i64 (s103.2.1++[s103.2.2]):=by first | exact hz183.trans (ei_app (xs:=s103.2.1) (ys:=([s103.2.2]))).symm | (rw [hz183,ei_vw];first | exact ei_app.symm | exact (ei_app (xs:=s103.2.1)).symm) | (rw [hz183];simp [ei,eb,es,ec])
    refine ze H fun h184 H=>?_
    replace H:=zo H
    refine ⟨(m104,((s103.1++[65533]),(s103.2.1++[s103.2.2]),s103.2.2+1)),⟨H,Nat.lt_succ_self _⟩,⟨trivial⟩,⟨rfl⟩,?_⟩
    repeat refine z8 ?_
    trivial
   ·refine yZ (by decide) (by first | exact ei_one | ((repeat (refine List.forall_mem_cons.2 ⟨rfl,?_⟩));intro y hy;cases hy;done) | (intro y hy;simp [ei,eb,es,ec] at hy;(first | (rcases hy with rfl | hy) | subst hy | skip);all_goals first | rfl | simp_all [Value.oneCell'])) H fun h185 H=>?_
    intro n186 zs188 hn187 hz189
    obtain rfl:n186=(s103.1++[v171.1]).length:=hn187.trans (by first | exact List.length_append.symm | (simp;done) | (simp;omega))
    obtain rfl:zs188=ei .i32 (s103.1++[v171.1]):=by first | exact hz189.trans (ei_app (xs:=s103.1) (ys:=([v171.1]))).symm | (rw [hz189,ei_vw];first | exact ei_app.symm | exact (ei_app (xs:=s103.1)).symm) | (rw [hz189];simp [ei,eb,es,ec])
    refine yZ (by decide) (by first | exact ei_one | ((repeat (refine List.forall_mem_cons.2 ⟨rfl,?_⟩));intro y hy;cases hy;done) | (intro y hy;simp [ei,eb,es,ec] at hy;(first | (rcases hy with rfl | hy) | subst hy | skip);all_goals first | rfl | simp_all [Value.oneCell'])) H fun h190 H=>?_
    intro n191 zs193 hn192 hz194
    obtain rfl:n191=(s103.2.1++[s103.2.2]).length:=hn192.trans (by first | exact List.length_append.symm | (simp;done) | (simp;omega))
    obtain rfl:zs193=ei .i64 (s103.2.1++[s103.2.2]):=by first | exact hz194.trans (ei_app (xs:=s103.2.1) (ys:=([s103.2.2]))).symm | (rw [hz194,ei_vw];first | exact ei_app.symm | exact (ei_app (xs:=s103.2.1)).symm) | (rw [hz194];simp [ei,eb,es,ec])
    refine ze H fun h195 H=>?_
    replace H:=zo H
    refine ⟨(m104,((s103.1++[v171.1]),(s103.2.1++[s103.2.2]),s103.2.2+v171.2.1)),⟨H,Nat.lt_succ_self _⟩,⟨trivial⟩,⟨rfl⟩,?_⟩
    repeat refine z8 ?_
    trivial
  ·replace H:=zo H
   dsimp only [stp,sm] at H
   refine ⟨(s103.1,s103.2.1),⟨H⟩,⟨rfl⟩,?_⟩
   repeat refine z8 ?_
   trivial
 ·intro v99 H
  have hfin:=z2 H
  repeat refine zg ?_
  trivial
noncomputable def g14 (a0:List Int):Option (ByteArray):=
 (g36 a0).bind fun v197=>
 jn (α:=_) (β:=List Int) (fun k245=>
   (yr (σ:=List Int×Int) (ρ:=List Int) (fun s248=>
     if s248.2<((v197.1.length:Nat):Int) then
      (
       ck (0≤s248.2∧s248.2<((v197.1.length:Nat):Int)) <|
       (g33 (v197.1.getD s248.2.toNat 0)).bind fun v273=>
       ck ((s248.1.length+v273.length) * 1≤140737488355328) <|
       ck (inR .i64 (s248.2+1)) <|
       some (.go ((s248.1++v273),s248.2+1))
      )
     else
      some (.out s248.1)
    ) ([],0)).bind fun o270=>
    k245 o270
 ) (fun v244=>
  ck (zM v244) <|
  some (zV v244)
 )
noncomputable def k14:Eng.CS:={ f:=14,calm:=true,more:=0,ι:=(List Int)×ByteArray,ok:=fun i=>g14 i.1=some i.2,rds:=fun _=>[],args:=fun i=>[.sl 1 i.1.length (ei .u8 i.1)],res:=fun i=>.v (.string (i.2)) }
theorem k14_ok:zw Tryz.prog k14:=by
 refine R.calmspec Tryz.func14 (nq9 Tryz.func14) rfl ?_
 rintro ⟨a0,r⟩ hok q _ args hargs
 match args,hargs with
 | [_],hargs=>
 obtain ⟨⟨A0,cp0,rfl,hc0,_,hR0⟩,_⟩:=hargs
 refine ⟨envC [k33,k36] false [(14,7)],6,zk (zd ⟨nofun,fun _=>k33_ok⟩ (zd ⟨nofun,fun _=>k36_ok⟩ (zm))),rfl,(by intro x hx;simp only [List.mem_cons,List.not_mem_nil,or_false] at hx;rcases hx with rfl<;>rfl),?_⟩
 have H:zf (g14 a0) (fun a=>a=r):=⟨r,hok,rfl⟩
 unfold g14 at H
 clear hok
 obtain ⟨v197,hv198,H⟩:=zc H
 refine ⟨(a0,v197),⟨hv198⟩,⟨trivial⟩,?_⟩
 refine And.intro ⟨rfl,hc0,ei_len.trans ((show _=_ from rfl).trans (Nat.mul_one _).symm),hR0⟩ ?_
 refine R.cut_fam H 21 [] [] (fun v244=>[(3,.own 21)]) (fun v244=>[(21,.arr 5 1 (v244.length) (ei .u8 (v244)))]) [(9,.arr 21 1 (v197.1.length) (ei .i32 (v197.1))),(10,.arr 3 1 (v197.2.length) (ei .i64 (v197.2)))] 1 (fun H=>?_)
 refine And.intro ?_ ?_
 ·refine R.loop_fam (yn H) [4] [(3,0,5,1)] (fun _ s248=>[(3,.own 13),(6,.v (.int .i64 (s248.2)))]) (fun _ s248=>[(13,.arr 5 1 (s248.1.length) (ei .u8 (s248.1)))]) 1 (fun n281 H=>?_)
  refine ⟨(n281,_),⟨H⟩,⟨trivial⟩,?_⟩
  repeat refine z8 ?_
  rintro ⟨m0,s248⟩ H _
  obtain ⟨m249,hm0,H⟩:=yv H
  dsimp only at hm0
  subst hm0
  try dsimp only at H
  refine z7 H ?_ ?_<;>intro h271 H
  ·refine ze H fun h272 H=>?_
   refine zF (e:=v197.1.getD s248.2.toNat 0) (own_get (ys:=ei .i32 v197.1) (by first | rfl | simp [ei,eb,es,ec]) (zH (l:=v197.1) (by first | exact tn h272 | (have:=tn h272;simp at this ⊢;omega) | (have:=tn h272;simp;omega)))) ?_
   obtain ⟨v273,hv274,H⟩:=zc H
   refine ⟨(v197.1.getD s248.2.toNat 0,v273),⟨hv274⟩,⟨trivial⟩,?_⟩
   refine ⟨⟨rfl⟩,?_⟩
   refine yZ (by decide) (by first | exact ei_one | ((repeat (refine List.forall_mem_cons.2 ⟨rfl,?_⟩));intro y hy;cases hy;done) | (intro y hy;simp [ei,eb,es,ec] at hy;(first | (rcases hy with rfl | hy) | subst hy | skip);all_goals first | rfl | simp_all [Value.oneCell'])) H fun h275 H=>?_
   intro n276 zs278 hn277 hz279
   obtain rfl:n276=(s248.1++v273).length:=hn277.trans (by first | exact List.length_append.symm | (simp;done) | (simp;omega))
   obtain rfl:zs278=ei .u8 (s248.1++v273):=by first | exact hz279.trans (ei_app (xs:=s248.1) (ys:=v273)).symm | (rw [hz279,ei_vw];first | exact ei_app.symm | exact (ei_app (xs:=s248.1)).symm) | (rw [hz279];simp [ei,eb,es,ec])
   refine ze H fun h280 H=>?_
   replace H:=zo H
   refine ⟨(m249,((s248.1++v273),s248.2+1)),⟨H,Nat.lt_succ_self _⟩,⟨trivial⟩,⟨rfl⟩,?_⟩
   repeat refine z8 ?_
   trivial
  ·replace H:=zo H
   dsimp only [stp,sm] at H
   refine ⟨s248.1,⟨H⟩,⟨rfl⟩,?_⟩
   repeat refine z8 ?_
   trivial
 ·intro v244 H
  refine yA (l:=v244) H fun h282 H=>?_
  have hfin:=z2 H
  repeat refine zg ?_
  trivial
end Go.Proofs.YtmpknfgjfmgleaaGreatDoor
end
section
set_option maxRecDepth 8000
set_option maxHeartbeats 4000000
namespace Go.Proofs.YtmpknfgjfmgleaaGreatDoor
open Go Go.Eng
noncomputable def g40a (a0:Int):Option (ByteArray):=
 if a0<0 then
  none
 else
  (
   if a0<10 then
    (
     ck (inR .i64 (48+a0)) <|
     ck (zM ([IntKind.wrap .u8 (48+a0)])) <|
     some (zV ([IntKind.wrap .u8 (48+a0)]))
    )
   else
    none
  )
noncomputable def k40a:Eng.CS:={ f:=40,calm:=true,more:=0,ι:=Int×ByteArray,ok:=fun i=>g40a i.1=some i.2,rds:=fun _=>[],args:=fun i=>[.w (.v (.int .i64 (i.1)))],res:=fun i=>.v (.string (i.2)) }
theorem k40a_ok:zw Tryz.prog k40a:=by
 refine R.calmspec Tryz.func40 (nq9 Tryz.func40) rfl ?_
 rintro ⟨a0,r⟩ hok q _ args hargs
 match args,hargs with
 | [_],hargs=>
 obtain ⟨rfl,_⟩:=hargs
 refine ⟨envC [] false [],6,zk (zm),rfl,(by intro x hx;simp only [List.mem_cons,List.not_mem_nil,or_false] at hx;rcases hx with rfl<;>rfl),?_⟩
 have H:zf (g40a a0) (fun a=>a=r):=⟨r,hok,rfl⟩
 unfold g40a at H
 clear hok
 refine z7 H ?_ ?_<;>intro h6 H
 ·exact (none_st H).elim
 ·refine z7 H ?_ ?_<;>intro h8 H
  ·refine ze H fun h9 H=>?_
   refine yA (l:=[IntKind.wrap .u8 (48+a0)]) H fun h10 H=>?_
   have hfin:=z2 H
   repeat refine zg ?_
   trivial
  ·exact (none_st H).elim
end Go.Proofs.YtmpknfgjfmgleaaGreatDoor
end
section
set_option maxRecDepth 8000
set_option maxHeartbeats 4000000
namespace Go.Proofs.YtmpknfgjfmgleaaGreatDoor
open Go Go.Eng
noncomputable def g40 (a0:Int):Option (ByteArray):=
 if a0<0 then
  (
   ck (inR .i64 (0-a0)) <|
   (g40a (0-a0)).bind fun v11=>
   ck ((lit [45]).size+v11.size≤9223372036854775807) <|
   some ((lit [45])++v11)
  )
 else
  (
   if a0<10 then
    (
     ck (inR .i64 (48+a0)) <|
     ck (zM ([IntKind.wrap .u8 (48+a0)])) <|
     some (zV ([IntKind.wrap .u8 (48+a0)]))
    )
   else
    (
     ck (inR .i64 (Int.tdiv a0 10)) <|
     (g40a (Int.tdiv a0 10)).bind fun v18=>
     ck (inR .i64 (48+(Int.tmod a0 10))) <|
     ck (zM ([IntKind.wrap .u8 (48+(Int.tmod a0 10))])) <|
     ck (v18.size+(zV ([IntKind.wrap .u8 (48+(Int.tmod a0 10))])).size≤9223372036854775807) <|
     some (v18++(zV ([IntKind.wrap .u8 (48+(Int.tmod a0 10))])))
    )
  )
noncomputable def k40:Eng.CS:={ f:=40,calm:=true,more:=0,ι:=Int×ByteArray,ok:=fun i=>g40 i.1=some i.2,rds:=fun _=>[],args:=fun i=>[.w (.v (.int .i64 (i.1)))],res:=fun i=>.v (.string (i.2)) }
theorem k40_ok:zw Tryz.prog k40:=by
 refine R.calmspec Tryz.func40 (nq9 Tryz.func40) rfl ?_
 rintro ⟨a0,r⟩ hok q _ args hargs
 match args,hargs with
 | [_],hargs=>
 obtain ⟨rfl,_⟩:=hargs
 refine ⟨envC [k40a] false [],6,zk (zd ⟨fun _=>k40a_ok,nofun⟩ (zm)),rfl,(by intro x hx;simp only [List.mem_cons,List.not_mem_nil,or_false] at hx;rcases hx with rfl<;>rfl),?_⟩
 have H:zf (g40 a0) (fun a=>a=r):=⟨r,hok,rfl⟩
 unfold g40 at H
 clear hok
 refine z7 H ?_ ?_<;>intro h9 H
 ·refine ze H fun h10 H=>?_
  obtain ⟨v11,hv12,H⟩:=zc H
  refine ⟨(0-a0,v11),⟨hv12⟩,⟨trivial⟩,?_⟩
  refine ⟨⟨rfl⟩,?_⟩
  refine ze H fun h13 H=>?_
  have hfin:=z2 H
  repeat refine zg ?_
  trivial
 ·refine z7 H ?_ ?_<;>intro h14 H
  ·refine ze H fun h15 H=>?_
   refine yA (l:=[IntKind.wrap .u8 (48+a0)]) H fun h16 H=>?_
   have hfin:=z2 H
   repeat refine zg ?_
   trivial
  ·refine And.intro ⟨by kernel_rfl⟩ ?_
   refine ⟨(Pn.calm 0 (Pn.calm 1 (Pn.calm 2 (Pn.calm 3 (Pn.calm 4 (Pn.calm 5 (Pn.calm 6 (Pn.eff 7 [6,5,4,3] (Pn.calm 8 (Pn.calm 9 (Pn.calm 10 Pn.done))) Pn.no)))))))),⟨by kernel_rfl⟩,?_⟩
   refine And.intro ⟨by decide⟩ ?_
   refine ze H fun h17 H=>?_
   obtain ⟨v18,hv19,H⟩:=zc H
   refine ⟨(Int.tdiv a0 10,v18),⟨hv19⟩,⟨trivial⟩,?_⟩
   refine ⟨⟨rfl⟩,?_⟩
   refine And.intro ⟨by decide⟩ ?_
   refine ze H fun h20 H=>?_
   refine And.intro ?_ trivial
   refine And.intro ⟨fun _ _ _ h=>h⟩ ?_
   refine yA (l:=[IntKind.wrap .u8 (48+(Int.tmod a0 10))]) H fun h21 H=>?_
   refine ze H fun h22 H=>?_
   have hfin:=z2 H
   repeat refine zg ?_
   trivial
end Go.Proofs.YtmpknfgjfmgleaaGreatDoor
end
section
set_option maxRecDepth 8000
set_option maxHeartbeats 4000000
namespace Go.Proofs.YtmpknfgjfmgleaaGreatDoor
open Go Go.Eng
noncomputable def g39 (a0:(Int×ByteArray×Int×Bool×Bool×Bool)):Option (ByteArray):=
 jn (α:=_) (β:=Int) (fun k6=>
   if a0.2.2.2.2.1=true then
    (
     ck (inR .i64 (1+1)) <|
     k6 (1+1)
    )
   else
    k6 1
 ) (fun v5=>
  if a0.2.2.2.1=true then
   (
    ck (inR .i64 (v5+2)) <|
    if a0.2.2.2.2.2=true then
     (
      ck (inR .i64 ((v5+2)+4)) <|
      (g40 ((v5+2)+4)).bind fun v17=>
      some v17
     )
    else
     (
      (g40 (v5+2)).bind fun v19=>
      some v19
     )
   )
  else
   (
    if a0.2.2.2.2.2=true then
     (
      ck (inR .i64 (v5+4)) <|
      (g40 (v5+4)).bind fun v23=>
      some v23
     )
    else
     (
      (g40 v5).bind fun v25=>
      some v25
     )
   )
 )
noncomputable def k39:Eng.CS:={ f:=39,calm:=true,more:=0,ι:=(Int×ByteArray×Int×Bool×Bool×Bool)×ByteArray,ok:=fun i=>g39 i.1=some i.2,rds:=fun _=>[],args:=fun i=>[.w (.agg [.v (.int .i64 (i.1.1)),.v (.string (i.1.2.1)),.v (.int .i64 (i.1.2.2.1)),bS i.1.2.2.2.1,bS i.1.2.2.2.2.1,bS i.1.2.2.2.2.2])],res:=fun i=>.v (.string (i.2)) }
theorem k39_ok:zw Tryz.prog k39:=by
 refine R.calmspec Tryz.func39 (nq9 Tryz.func39) rfl ?_
 rintro ⟨a0,r⟩ hok q _ args hargs
 match args,hargs with
 | [_],hargs=>
 obtain ⟨rfl,_⟩:=hargs
 refine ⟨envC [k40] false [(39,4)],6,zk (zd ⟨fun _=>k40_ok,nofun⟩ (zm)),rfl,(by intro x hx;simp only [List.mem_cons,List.not_mem_nil,or_false] at hx;rcases hx with rfl<;>rfl),?_⟩
 have H:zf (g39 a0) (fun a=>a=r):=⟨r,hok,rfl⟩
 unfold g39 at H
 clear hok
 refine R.cut_fam H 9 [1] [] (fun v5=>[(3,.v (.int .i64 (v5)))]) (fun v5=>[]) [(0,.cells 24 [.v (.int .i64 (a0.1)),.v (.string (a0.2.1)),.v (.int .i64 (a0.2.2.1)),bS a0.2.2.2.1,bS a0.2.2.2.2.1,bS a0.2.2.2.2.2])] 0 (fun H=>?_)
 refine And.intro ?_ ?_
 ·refine z7 H ?_ ?_<;>intro h7 H
  ·refine ze H fun h8 H=>?_
   refine ⟨1+1,⟨H⟩,⟨rfl⟩,?_⟩
   repeat refine z8 ?_
   trivial
  ·refine ⟨1,⟨H⟩,⟨rfl⟩,?_⟩
   repeat refine z8 ?_
   trivial
 ·intro v5 H
  refine z7 H ?_ ?_<;>intro h11 H
  ·refine ze H fun h12 H=>?_
   refine z7 H ?_ ?_<;>intro h15 H
   ·refine ze H fun h16 H=>?_
    obtain ⟨v17,hv18,H⟩:=zc H
    refine ⟨((v5+2)+4,v17),⟨hv18⟩,⟨trivial⟩,?_⟩
    refine ⟨⟨rfl⟩,?_⟩
    have hfin:=z2 H
    repeat refine zg ?_
    trivial
   ·obtain ⟨v19,hv20,H⟩:=zc H
    refine ⟨(v5+2,v19),⟨hv20⟩,⟨trivial⟩,?_⟩
    refine ⟨⟨rfl⟩,?_⟩
    have hfin:=z2 H
    repeat refine zg ?_
    trivial
  ·refine z7 H ?_ ?_<;>intro h21 H
   ·refine ze H fun h22 H=>?_
    obtain ⟨v23,hv24,H⟩:=zc H
    refine ⟨(v5+4,v23),⟨hv24⟩,⟨trivial⟩,?_⟩
    refine ⟨⟨rfl⟩,?_⟩
    have hfin:=z2 H
    repeat refine zg ?_
    trivial
   ·obtain ⟨v25,hv26,H⟩:=zc H
    refine ⟨(v5,v25),⟨hv26⟩,⟨trivial⟩,?_⟩
    refine ⟨⟨rfl⟩,?_⟩
    have hfin:=z2 H
    repeat refine zg ?_
    trivial
noncomputable def g16 (a0:(Int×ByteArray×Int×Bool×Bool×Bool)):Option (ByteArray):=
 (g37 a0.1).bind fun v27=>
 (g38 a0).bind fun v29=>
 if ¬(a0.2.1.data.toList=(lit []).data.toList) then
  some (lit [])
 else
  (
   jn (α:=_) (β:=Bool) (fun k100=>
     if ¬v27=0 then
      (
       if a0.2.2.1=0 then
        (
         (g13 a0).bind fun v103=>
         k100 v103
        )
       else
        k100 false
      )
     else
      k100 false
   ) (fun v99=>
    if v99=true then
     (
      ck (zM ([v27])) <|
      ck ((lit [27,91]).size+(zV ([v27])).size≤9223372036854775807) <|
      some ((lit [27,91])++(zV ([v27])))
     )
    else
     (
      jn (α:=_) (β:=Bool) (fun k110=>
        if ¬v27=0 then
         k110 (decide (a0.2.2.1=0))
        else
         k110 false
      ) (fun v109=>
       if v109=true then
        (
         (g39 a0).bind fun v113=>
         ck ((lit [27,91,49,59]).size+v113.size≤9223372036854775807) <|
         ck (zM ([v27])) <|
         ck (((lit [27,91,49,59])++v113).size+(zV ([v27])).size≤9223372036854775807) <|
         some (((lit [27,91,49,59])++v113)++(zV ([v27])))
        )
       else
        (
         jn (α:=_) (β:=Bool) (fun k122=>
           if ¬v29=0 then
            (
             (g13 a0).bind fun v124=>
             k122 v124
            )
           else
            k122 false
         ) (fun v121=>
          if v121=true then
           (
            (g40 v29).bind fun v127=>
            ck ((lit [27,91]).size+v127.size≤9223372036854775807) <|
            ck (((lit [27,91])++v127).size+(lit [126]).size≤9223372036854775807) <|
            some (((lit [27,91])++v127)++(lit [126]))
           )
          else
           (
            if ¬v29=0 then
             (
              (g40 v29).bind fun v132=>
              ck ((lit [27,91]).size+v132.size≤9223372036854775807) <|
              ck (((lit [27,91])++v132).size+(lit [59]).size≤9223372036854775807) <|
              (g39 a0).bind fun v136=>
              ck ((((lit [27,91])++v132)++(lit [59])).size+v136.size≤9223372036854775807) <|
              ck (((((lit [27,91])++v132)++(lit [59]))++v136).size+(lit [126]).size≤9223372036854775807) <|
              some (((((lit [27,91])++v132)++(lit [59]))++v136)++(lit [126]))
             )
            else
             (
              if a0.1=4 then
               (
                if a0.2.2.1=0 then
                 (
                  (g13 a0).bind fun v142=>
                  if v142=true then
                   some (lit [27,91,90])
                  else
                   some (lit [])
                 )
                else
                 some (lit [])
               )
              else
               some (lit [])
             )
           )
         )
        )
      )
     )
   )
  )
noncomputable def k16:Eng.CS:={ f:=16,calm:=true,more:=0,ι:=(Int×ByteArray×Int×Bool×Bool×Bool)×ByteArray,ok:=fun i=>g16 i.1=some i.2,rds:=fun _=>[],args:=fun i=>[.w (.agg [.v (.int .i64 (i.1.1)),.v (.string (i.1.2.1)),.v (.int .i64 (i.1.2.2.1)),bS i.1.2.2.2.1,bS i.1.2.2.2.2.1,bS i.1.2.2.2.2.2])],res:=fun i=>.v (.string (i.2)) }
theorem k16_ok:zw Tryz.prog k16:=by
 refine R.calmspec Tryz.func16 (nq9 Tryz.func16) rfl ?_
 rintro ⟨a0,r⟩ hok q _ args hargs
 match args,hargs with
 | [_],hargs=>
 obtain ⟨rfl,_⟩:=hargs
 refine ⟨envC [k13,k37,k38,k39,k40] false [(16,5),(16,7),(16,9)],6,zk (zd ⟨fun _=>k13_ok,nofun⟩ (zd ⟨fun _=>k37_ok,nofun⟩ (zd ⟨fun _=>k38_ok,nofun⟩ (zd ⟨fun _=>k39_ok,nofun⟩ (zd ⟨fun _=>k40_ok,nofun⟩ (zm)))))),rfl,(by intro x hx;simp only [List.mem_cons,List.not_mem_nil,or_false] at hx;rcases hx with rfl<;>rfl),?_⟩
 have H:zf (g16 a0) (fun a=>a=r):=⟨r,hok,rfl⟩
 unfold g16 at H
 clear hok
 refine And.intro ⟨by kernel_rfl⟩ ?_
 obtain ⟨v27,hv28,H⟩:=zc H
 refine ⟨(a0.1,v27),⟨hv28⟩,⟨trivial⟩,?_⟩
 refine ⟨⟨rfl⟩,?_⟩
 obtain ⟨v29,hv30,H⟩:=zc H
 refine ⟨(a0,v29),⟨hv30⟩,⟨trivial⟩,?_⟩
 iterate 6 refine z8 ?_
 refine z7 H ?_ ?_<;>intro h94 H
 ·have hfin:=z2 H
  repeat refine zg ?_
  trivial
 ·refine R.cut_fam H 26 [1,3,4] [] (fun v99=>[(14,bS v99)]) (fun v99=>[]) [(0,.cells 24 [.v (.int .i64 (a0.1)),.v (.string (a0.2.1)),.v (.int .i64 (a0.2.2.1)),bS a0.2.2.2.1,bS a0.2.2.2.2.1,bS a0.2.2.2.2.2])] 0 (fun H=>?_)
  refine And.intro ?_ ?_
  ·refine z7 H ?_ ?_<;>intro h101 H
   ·refine z7 H ?_ ?_<;>intro h102 H
    ·obtain ⟨v103,hv104,H⟩:=zc H
     refine ⟨(a0,v103),⟨hv104⟩,⟨trivial⟩,?_⟩
     iterate 6 refine z8 ?_
     refine ⟨v103,⟨H⟩,⟨rfl⟩,?_⟩
     repeat refine z8 ?_
     trivial
    ·refine ⟨false,⟨H⟩,⟨rfl⟩,?_⟩
     repeat refine z8 ?_
     trivial
   ·refine ⟨false,⟨H⟩,⟨rfl⟩,?_⟩
    repeat refine z8 ?_
    trivial
  ·intro v99 H
   refine z7 H ?_ ?_<;>intro h105 H
   ·refine yA (l:=[v27]) H fun h106 H=>?_
    refine ze H fun h107 H=>?_
    have hfin:=z2 H
    repeat refine zg ?_
    trivial
   ·refine R.cut_fam H 35 [1,3,4] [] (fun v109=>[(30,bS v109)]) (fun v109=>[]) [(0,.cells 24 [.v (.int .i64 (a0.1)),.v (.string (a0.2.1)),.v (.int .i64 (a0.2.2.1)),bS a0.2.2.2.1,bS a0.2.2.2.2.1,bS a0.2.2.2.2.2])] 0 (fun H=>?_)
    refine And.intro ?_ ?_
    ·refine z7 H ?_ ?_<;>intro h111 H
     ·refine ⟨_,⟨H⟩,⟨rfl⟩,?_⟩
      repeat refine z8 ?_
      trivial
     ·refine ⟨false,⟨H⟩,⟨rfl⟩,?_⟩
      repeat refine z8 ?_
      trivial
    ·intro v109 H
     refine z7 H ?_ ?_<;>intro h112 H
     ·refine And.intro ⟨by kernel_rfl⟩ ?_
      refine ⟨(Pn.calm 0 (Pn.calm 1 (Pn.calm 2 (Pn.calm 3 (Pn.eff 4 [3] (Pn.calm 5 (Pn.calm 6 (Pn.calm 7 Pn.done))) Pn.no))))),⟨by kernel_rfl⟩,?_⟩
      obtain ⟨v113,hv114,H⟩:=zc H
      refine ⟨(a0,v113),⟨hv114⟩,⟨trivial⟩,?_⟩
      iterate 6 refine z8 ?_
      refine ze H fun h115 H=>?_
      refine And.intro ?_ trivial
      refine And.intro ⟨fun _ _ _ h=>h⟩ ?_
      refine yA (l:=[v27]) H fun h116 H=>?_
      refine ze H fun h117 H=>?_
      have hfin:=z2 H
      repeat refine zg ?_
      trivial
     ·refine R.cut_fam H 43 [1,4] [] (fun v121=>[(45,bS v121)]) (fun v121=>[]) [(0,.cells 24 [.v (.int .i64 (a0.1)),.v (.string (a0.2.1)),.v (.int .i64 (a0.2.2.1)),bS a0.2.2.2.1,bS a0.2.2.2.2.1,bS a0.2.2.2.2.2])] 0 (fun H=>?_)
      refine And.intro ?_ ?_
      ·refine z7 H ?_ ?_<;>intro h123 H
       ·obtain ⟨v124,hv125,H⟩:=zc H
        refine ⟨(a0,v124),⟨hv125⟩,⟨trivial⟩,?_⟩
        iterate 6 refine z8 ?_
        refine ⟨v124,⟨H⟩,⟨rfl⟩,?_⟩
        repeat refine z8 ?_
        trivial
       ·refine ⟨false,⟨H⟩,⟨rfl⟩,?_⟩
        repeat refine z8 ?_
        trivial
      ·intro v121 H
       refine z7 H ?_ ?_<;>intro h126 H
       ·obtain ⟨v127,hv128,H⟩:=zc H
        refine ⟨(v29,v127),⟨hv128⟩,⟨trivial⟩,?_⟩
        refine ⟨⟨rfl⟩,?_⟩
        refine ze H fun h129 H=>?_
        refine ze H fun h130 H=>?_
        have hfin:=z2 H
        repeat refine zg ?_
        trivial
       ·refine z7 H ?_ ?_<;>intro h131 H
        ·refine And.intro ⟨by kernel_rfl⟩ ?_
         obtain ⟨v132,hv133,H⟩:=zc H
         refine ⟨(v29,v132),⟨hv133⟩,⟨trivial⟩,?_⟩
         refine ⟨⟨rfl⟩,?_⟩
         refine ze H fun h134 H=>?_
         refine ze H fun h135 H=>?_
         obtain ⟨v136,hv137,H⟩:=zc H
         refine ⟨(a0,v136),⟨hv137⟩,⟨trivial⟩,?_⟩
         iterate 6 refine z8 ?_
         refine ze H fun h138 H=>?_
         refine ze H fun h139 H=>?_
         have hfin:=z2 H
         repeat refine zg ?_
         trivial
        ·refine z7 H ?_ ?_<;>intro h140 H
         ·refine z7 H ?_ ?_<;>intro h141 H
          ·obtain ⟨v142,hv143,H⟩:=zc H
           refine ⟨(a0,v142),⟨hv143⟩,⟨trivial⟩,?_⟩
           iterate 6 refine z8 ?_
           refine z7 H (fun _ H=>?_) (fun _ H=>?_)
           all_goals
            have hfin:=z2 H
            repeat refine zg ?_
            trivial
          ·have hfin:=z2 H
           repeat refine zg ?_
           trivial
         ·have hfin:=z2 H
          repeat refine zg ?_
          trivial
noncomputable def g15 (a0:ByteArray) (a1:ByteArray):Option (Bool):=
 jn (α:=_) (β:=Unit) (fun k177=>
   (yr (σ:=Int) (ρ:=(Unit) ⊕ (Unit)) (fun s180=>
     ck (inR .i64 (s180+(a0.size:Int))) <|
     if (s180+(a0.size:Int))≤(a1.size:Int) then
      (
       ck (inR .i64 (s180+(a0.size:Int))) <|
       ck (0≤s180∧s180≤s180+(a0.size:Int)∧s180+(a0.size:Int)≤(a1.size:Int)) <|
       if (a1.extract s180.toNat (s180+(a0.size:Int)).toNat).data.toList=a0.data.toList then
        some (.out (.inl (())))
       else
        (
         ck (inR .i64 (s180+1)) <|
         some (.go (s180+1))
        )
      )
     else
      some (.out (.inr (())))
    ) 0).bind fun o194=>
   sm o194 (fun o201=>
     some true
    ) (fun o202=>
     k177 ()
    )
 ) (fun v176=>
  some false
 )
noncomputable def k15:Eng.CS:={ f:=15,calm:=true,more:=0,ι:=ByteArray×ByteArray×Bool,ok:=fun i=>g15 i.1 i.2.1=some i.2.2,rds:=fun _=>[],args:=fun i=>[.w (.v (.string (i.1))),.w (.v (.string (i.2.1)))],res:=fun i=>bS i.2.2 }
theorem k15_ok:zw Tryz.prog k15:=by
 refine R.calmspec Tryz.func15 (nq9 Tryz.func15) rfl ?_
 rintro ⟨a0,a1,r⟩ hok q _ args hargs
 match args,hargs with
 | [_,_],hargs=>
 obtain ⟨rfl,rfl,_⟩:=hargs
 refine ⟨envC [] false [(15,6)],6,zk (zm),rfl,(by intro x hx;simp only [List.mem_cons,List.not_mem_nil,or_false] at hx;rcases hx with rfl | rfl<;>rfl),?_⟩
 have H:zf (g15 a0 a1) (fun a=>a=r):=⟨r,hok,rfl⟩
 unfold g15 at H
 clear hok
 refine R.cut_fam H 11 [] [] (fun v176=>[]) (fun v176=>[]) [] 0 (fun H=>?_)
 refine And.intro ?_ ?_
 ·refine R.loop_fam (yn H) [0,1] [] (fun _ s180=>[(5,.v (.int .i64 (s180)))]) (fun _ s180=>[]) 0 (fun n203 H=>?_)
  refine ⟨(n203,_),⟨H⟩,⟨trivial⟩,?_⟩
  repeat refine z8 ?_
  rintro ⟨m0,s180⟩ H _
  obtain ⟨m181,hm0,H⟩:=yv H
  dsimp only at hm0
  subst hm0
  try dsimp only at H
  refine ze H fun h195 H=>?_
  refine z7 H ?_ ?_<;>intro h196 H
  ·refine ze H fun h197 H=>?_
   refine ze H fun h198 H=>?_
   refine z7 H ?_ ?_<;>intro h199 H
   ·replace H:=zo H
    dsimp only [stp,sm] at H
    have hfin:=z2 H
    repeat refine zg ?_
    trivial
   ·refine ze H fun h200 H=>?_
    replace H:=zo H
    refine ⟨(m181,s180+1),⟨H,Nat.lt_succ_self _⟩,⟨trivial⟩,⟨rfl⟩,?_⟩
    repeat refine z8 ?_
    trivial
  ·replace H:=zo H
   dsimp only [stp,sm] at H
   refine ⟨(),⟨H⟩,⟨rfl⟩,?_⟩
   repeat refine z8 ?_
   trivial
 ·intro v176 H
  have hfin:=z2 H
  repeat refine zg ?_
  trivial
end Go.Proofs.YtmpknfgjfmgleaaGreatDoor
end
section
set_option maxRecDepth 8000
set_option maxHeartbeats 4000000
namespace Go.Proofs.YtmpknfgjfmgleaaGreatDoor
open Go Go.Eng
noncomputable def g6 (a0:(Int×ByteArray×Int×Bool×Bool×Bool)):Option (List Int×Int):=
 (g12 a0).bind fun v1=>
 if 0<((v1.length:Nat):Int) then
  (
   jn (α:=_) (β:=Bool) (fun k63=>
     if a0.2.2.2.2.1=true then
      k63 true
     else
      (
       if a0.2.2.2.2.2=true then
        k63 true
       else
        (
         if a0.2.2.2.1=true then
          (
           if a0.1=1 then
            (
             if a0.2.1.data.toList=(lit [91]).data.toList then
              k63 true
             else
              k63 (decide (a0.2.1.data.toList=(lit [79]).data.toList))
            )
           else
            k63 false
          )
         else
          k63 false
        )
      )
   ) (fun v62=>
    if v62=true then
     some (([]:List Int),290)
    else
     (
      if a0.2.2.2.1=true then
       (
        ck ((1+v1.length) * 1≤140737488355328) <|
        some (([27]++v1),0)
       )
      else
       some (v1,0)
     )
   )
  )
 else
  (
   if a0.1=16 then
    (
     (g13 a0).bind fun v154=>
     if ¬(v154=true) then
      some (([]:List Int),290)
     else
      (
       if ¬a0.2.2.1=0 then
        some (([]:List Int),290)
       else
        (
         if 65536<(a0.2.1.size:Int) then
          some (([]:List Int),290)
         else
          (
           ck (a0.2.1.size≤140737488355328) <|
           (g14 (z6 a0.2.1)).bind fun v168=>
           if ¬(v168.data.toList=a0.2.1.data.toList) then
            some (([]:List Int),290)
           else
            (
             (g15 (lit [27,91,50,48,49,126]) a0.2.1).bind fun v171=>
             if v171=true then
              some (([]:List Int),290)
             else
              (
               ck ((lit [27,91,50,48,48,126]).size+a0.2.1.size≤9223372036854775807) <|
               ck (((lit [27,91,50,48,48,126])++a0.2.1).size+(lit [27,91,50,48,49,126]).size≤9223372036854775807) <|
               ck ((((lit [27,91,50,48,48,126])++a0.2.1)++(lit [27,91,50,48,49,126])).size≤140737488355328) <|
               some (z6 (((lit [27,91,50,48,48,126])++a0.2.1)++(lit [27,91,50,48,49,126])),0)
              )
            )
          )
        )
      )
    )
   else
    (
     (g16 a0).bind fun v185=>
     if v185.data.toList=(lit []).data.toList then
      some (([]:List Int),290)
     else
      (
       ck (v185.size≤140737488355328) <|
       some (z6 v185,0)
      )
    )
  )
noncomputable def k6:Eng.CS:={ f:=6,calm:=false,more:=0,ι:=(Int×ByteArray×Int×Bool×Bool×Bool)×(List Int×Int),ok:=fun i=>g6 i.1=some i.2,rds:=fun _=>[],args:=fun i=>[.w (.agg [.v (.int .i64 (i.1.1)),.v (.string (i.1.2.1)),.v (.int .i64 (i.1.2.2.1)),bS i.1.2.2.2.1,bS i.1.2.2.2.2.1,bS i.1.2.2.2.2.2])],res:=fun _=>.bad,rn:=[],gr:=true,γ:=(Option Addr×Nat),resG:=fun i g=>.tup [.v (.slice g.1 i.2.1.length g.2),.v (.int .i64 (i.2.2))],LG:=fun i g=>[],okG:=fun i g=>i.2.1.length≤g.2,rdsG:=fun i g=>[(g.1,ei .u8 i.2.1)],fzr:=[(0,0)] }
theorem k6_ok:CSOk Tryz.prog k6:=by
 refine R.cspecG Tryz.func6 (nq9 Tryz.func6) rfl rfl (fun _=>rfl) ?_
 rintro ⟨a0,r⟩ hok q hrds args hargs
 dsimp only [k6] at hargs ⊢
 match args,hargs with
 | [_],hargs=>
 obtain ⟨rfl,_⟩:=hargs
 refine ⟨envC [k12,k13,k14,k15,k16] false [(6,4)],6,zk (zd ⟨nofun,fun _=>k12_ok⟩ (zd ⟨fun _=>k13_ok,nofun⟩ (zd ⟨fun _=>k14_ok,nofun⟩ (zd ⟨fun _=>k15_ok,nofun⟩ (zd ⟨fun _=>k16_ok,nofun⟩ (zm)))))),?_⟩
 have H:zf (g6 a0) (fun a=>a=r):=⟨r,hok,rfl⟩
 unfold g6 at H
 clear hok
 obtain ⟨v1,hv2,H⟩:=zc H
 refine ⟨(a0,v1),⟨hv2⟩,⟨trivial⟩,?_⟩
 iterate 3 refine ⟨⟨rfl⟩,?_⟩
 iterate 3 refine z8 ?_
 intro q3 g4 hq5 hok6 hrd7
 obtain ⟨A8,c9⟩:=g4
 have hc10:=hok6
 obtain ⟨hR11,_⟩:=hrd7
 try dsimp only at hc10 hR11
 refine z7 H ?_ ?_<;>intro h56 H
 ·refine R.cut_fam H 35 [1,4] [] (fun v62=>[(35,bS v62)]) (fun v62=>[]) [(0,.cells 24 [.v (.int .i64 (a0.1)),.v (.string (a0.2.1)),.v (.int .i64 (a0.2.2.1)),bS a0.2.2.2.1,bS a0.2.2.2.2.1,bS a0.2.2.2.2.2])] 0 (fun H=>?_)
  refine And.intro ?_ ?_
  ·refine z7 H ?_ ?_<;>intro h64 H
   ·refine ⟨true,⟨H⟩,⟨rfl⟩,?_⟩
    repeat refine z8 ?_
    trivial
   ·refine z7 H ?_ ?_<;>intro h65 H
    ·refine ⟨true,⟨H⟩,⟨rfl⟩,?_⟩
     repeat refine z8 ?_
     trivial
    ·refine z7 H ?_ ?_<;>intro h66 H
     ·refine z7 H ?_ ?_<;>intro h67 H
      ·refine z7 H ?_ ?_<;>intro h68 H
       ·refine ⟨true,⟨H⟩,⟨rfl⟩,?_⟩
        repeat refine z8 ?_
        trivial
       ·refine ⟨_,⟨H⟩,⟨rfl⟩,?_⟩
        repeat refine z8 ?_
        trivial
      ·refine ⟨false,⟨H⟩,⟨rfl⟩,?_⟩
       repeat refine z8 ?_
       trivial
     ·refine ⟨false,⟨H⟩,⟨rfl⟩,?_⟩
      repeat refine z8 ?_
      trivial
  ·intro v62 H
   refine z7 H ?_ ?_<;>intro h69 H
   ·have hfin:=z2 H
    first | subst hfin | rw [←hfin]
    refine ⟨(none,0),⟨Nat.le_refl _⟩,⟨⟨Reads.nil,trivial⟩⟩,?_⟩
    repeat refine z8 ?_
    trivial
   ·refine z7 H ?_ ?_<;>intro h70 H
    ·refine rs_st hR11 (ei_len.trans (Nat.mul_one _).symm) ?_
     refine yZ (by decide) (by first | exact ei_one | ((repeat (refine List.forall_mem_cons.2 ⟨rfl,?_⟩));intro y hy;cases hy;done) | (intro y hy;simp [ei,eb,es,ec] at hy;(first | (rcases hy with rfl | hy) | subst hy | skip);all_goals first | rfl | simp_all [Value.oneCell'])) H fun h71 H=>?_
     intro n72 zs74 hn73 hz75
     obtain rfl:n72=([27]++v1).length:=hn73.trans (by first | exact List.length_append.symm | (simp;done) | (simp;omega))
     obtain rfl:zs74=ei .u8 ([27]++v1):=by first | exact hz75.trans (ei_app (xs:=([27])) (ys:=v1)).symm | (rw [hz75,ei_vw];first | exact ei_app.symm | exact (ei_app (xs:=([27]))).symm) | (rw [hz75];simp [ei,eb,es,ec])
     intro q76 A77 c78 hq79 hc80 hR81
     replace hR81:Reads q76 A77 (ei .u8 ([27]++v1)):=Eq.mp (congrArg (Reads q76 A77) (by first | exact rfl | (simp only [ei,eb,es,ec,gmin,gmax,List.map_append,List.flatMap_append,List.nil_append,List.append_nil,List.append_assoc];done))) hR81
     have hfin:=z2 H
     first | subst hfin | rw [←hfin]
     refine ⟨(A77,c78),⟨hc80⟩,⟨⟨hR81,trivial⟩⟩,?_⟩
     repeat refine z8 ?_
     trivial
    ·have hfin:=z2 H
     first | subst hfin | rw [←hfin]
     refine ⟨(A8,c9),⟨hc10⟩,⟨⟨hR11,trivial⟩⟩,?_⟩
     repeat refine z8 ?_
     trivial
 ·refine z7 H ?_ ?_<;>intro h153 H
  ·refine And.intro ⟨by kernel_rfl⟩ ?_
   refine ⟨(Pn.calm 0 (Pn.calm 1 (Pn.calm 2 (Pn.calm 3 (Pn.calm 4 (Pn.calm 5 (Pn.calm 6 (Pn.calm 7 (Pn.calm 8 (Pn.calm 9 (Pn.calm 10 (Pn.calm 11 (Pn.calm 12 (Pn.calm 13 (Pn.calm 14 (Pn.calm 15 (Pn.calm 16 (Pn.calm 19 (Pn.calm 20 (Pn.eff 17 [16,14,15,13,8,12,7,3,11,6,2,1,10,5,0,9,4] (Pn.calm 18 (Pn.calm 21 (Pn.calm 22 (Pn.calm 23 (Pn.calm 24 (Pn.calm 25 (Pn.calm 26 (Pn.calm 27 Pn.done)))))))) Pn.no)))))))))))))))))))),⟨by kernel_rfl⟩,?_⟩
   obtain ⟨v154,hv155,H⟩:=zc H
   refine ⟨(a0,v154),⟨hv155⟩,⟨trivial⟩,?_⟩
   iterate 6 refine z8 ?_
   refine z7 H ?_ ?_<;>intro h156 H
   ·refine And.intro ?_ trivial
    have hfin:=z2 H
    first | subst hfin | rw [←hfin]
    refine ⟨(none,0),⟨Nat.le_refl _⟩,⟨⟨Reads.nil,trivial⟩⟩,?_⟩
    repeat refine z8 ?_
    trivial
   ·refine z7 H ?_ ?_<;>intro h157 H
    ·refine And.intro ?_ trivial
     have hfin:=z2 H
     first | subst hfin | rw [←hfin]
     refine ⟨(none,0),⟨Nat.le_refl _⟩,⟨⟨Reads.nil,trivial⟩⟩,?_⟩
     repeat refine z8 ?_
     trivial
    ·refine z7 H ?_ ?_<;>intro h158 H
     ·refine And.intro ?_ trivial
      have hfin:=z2 H
      first | subst hfin | rw [←hfin]
      refine ⟨(none,0),⟨Nat.le_refl _⟩,⟨⟨Reads.nil,trivial⟩⟩,?_⟩
      repeat refine z8 ?_
      trivial
     ·refine And.intro ?_ trivial
      refine ob_sb H fun h164 H q165 A159 c160 hq161 hc162 hR163=>?_
      intro n166 hn167
      obtain rfl:n166=(z6 a0.2.1).length:=hn167.trans (zp a0.2.1).symm
      refine And.intro ⟨fun _ _ _ h=>(hq161 _ _ _ h)⟩ ?_
      obtain ⟨v168,hv169,H⟩:=zc H
      refine ⟨(z6 a0.2.1,v168),⟨hv169⟩,⟨trivial⟩,?_⟩
      refine And.intro ⟨rfl,(Nat.le_trans (Nat.le_of_eq (zp a0.2.1)) hc162),ei_len.trans ((show _=_ from rfl).trans (Nat.mul_one _).symm),hR163⟩ ?_
      refine z7 H ?_ ?_<;>intro h170 H
      ·have hfin:=z2 H
       first | subst hfin | rw [←hfin]
       refine ⟨(none,0),⟨Nat.le_refl _⟩,⟨⟨Reads.nil,trivial⟩⟩,?_⟩
       repeat refine z8 ?_
       trivial
      ·obtain ⟨v171,hv172,H⟩:=zc H
       refine ⟨((lit [27,91,50,48,49,126]),a0.2.1,v171),⟨hv172⟩,⟨trivial⟩,?_⟩
       iterate 2 refine ⟨⟨rfl⟩,?_⟩
       refine z7 H ?_ ?_<;>intro h173 H
       ·have hfin:=z2 H
        first | subst hfin | rw [←hfin]
        refine ⟨(none,0),⟨Nat.le_refl _⟩,⟨⟨Reads.nil,trivial⟩⟩,?_⟩
        repeat refine z8 ?_
        trivial
       ·refine ze H fun h174 H=>?_
        refine ze H fun h175 H=>?_
        refine ob_sb H fun h181 H q182 A176 c177 hq178 hc179 hR180=>?_
        intro n183 hn184
        obtain rfl:n183=(z6 (((lit [27,91,50,48,48,126])++a0.2.1)++(lit [27,91,50,48,49,126]))).length:=hn184.trans (zp (((lit [27,91,50,48,48,126])++a0.2.1)++(lit [27,91,50,48,49,126]))).symm
        have hfin:=z2 H
        first | subst hfin | rw [←hfin]
        refine ⟨(A176,c177),⟨(Nat.le_trans (Nat.le_of_eq (zp (((lit [27,91,50,48,48,126])++a0.2.1)++(lit [27,91,50,48,49,126])))) hc179)⟩,⟨⟨hR180,trivial⟩⟩,?_⟩
        repeat refine z8 ?_
        trivial
  ·obtain ⟨v185,hv186,H⟩:=zc H
   refine ⟨(a0,v185),⟨hv186⟩,⟨trivial⟩,?_⟩
   iterate 6 refine z8 ?_
   refine z7 H ?_ ?_<;>intro h188 H
   ·have hfin:=z2 H
    first | subst hfin | rw [←hfin]
    refine ⟨(none,0),⟨Nat.le_refl _⟩,⟨⟨Reads.nil,trivial⟩⟩,?_⟩
    repeat refine z8 ?_
    trivial
   ·refine ob_sb H fun h194 H q195 A189 c190 hq191 hc192 hR193=>?_
    intro n196 hn197
    obtain rfl:n196=(z6 v185).length:=hn197.trans (zp v185).symm
    have hfin:=z2 H
    first | subst hfin | rw [←hfin]
    refine ⟨(A189,c190),⟨(Nat.le_trans (Nat.le_of_eq (zp v185)) hc192)⟩,⟨⟨hR193,trivial⟩⟩,?_⟩
    repeat refine z8 ?_
    trivial
end Go.Proofs.YtmpknfgjfmgleaaGreatDoor
end
section
set_option maxRecDepth 8000
set_option maxHeartbeats 4000000
namespace Go.Proofs.YtmpknfgjfmgleaaGreatDoor
open Go Go.Eng
noncomputable def g114 (a0:Int):Option (ByteArray):=
 if 1≤a0 then
  (
   if a0≤26 then
    (
     ck (inR .u8 (a0+96)) <|
     ck (zM ([a0+96])) <|
     some (zV ([a0+96]))
    )
   else
    (
     ck (inR .u8 (a0+64)) <|
     ck (zM ([a0+64])) <|
     some (zV ([a0+64]))
    )
  )
 else
  (
   ck (inR .u8 (a0+64)) <|
   ck (zM ([a0+64])) <|
   some (zV ([a0+64]))
  )
noncomputable def k114:Eng.CS:={ f:=114,calm:=true,more:=0,ι:=Int×ByteArray,ok:=fun i=>g114 i.1=some i.2,rds:=fun _=>[],args:=fun i=>[.w (.v (.int .u8 (i.1)))],res:=fun i=>.v (.string (i.2)) }
theorem k114_ok:zw Tryz.prog k114:=by
 refine R.calmspec Tryz.func114 (nq9 Tryz.func114) rfl ?_
 rintro ⟨a0,r⟩ hok q _ args hargs
 match args,hargs with
 | [_],hargs=>
 obtain ⟨rfl,_⟩:=hargs
 refine ⟨envC [] false [],6,zk (zm),rfl,(by intro x hx;simp only [List.mem_cons,List.not_mem_nil,or_false] at hx;rcases hx with rfl<;>rfl),?_⟩
 have H:zf (g114 a0) (fun a=>a=r):=⟨r,hok,rfl⟩
 unfold g114 at H
 clear hok
 refine z7 H ?_ ?_<;>intro h6 H
 ·refine z7 H ?_ ?_<;>intro h7 H
  ·refine ze H fun h8 H=>?_
   refine yA (l:=[a0+96]) H fun h9 H=>?_
   have hfin:=z2 H
   repeat refine zg ?_
   trivial
  ·refine ze H fun h10 H=>?_
   refine yA (l:=[a0+64]) H fun h11 H=>?_
   have hfin:=z2 H
   repeat refine zg ?_
   trivial
 ·refine ze H fun h12 H=>?_
  refine yA (l:=[a0+64]) H fun h13 H=>?_
  have hfin:=z2 H
  repeat refine zg ?_
  trivial
noncomputable def g59 (a0:Int):Option ((Int×ByteArray×Int×Bool×Bool×Bool)×Bool):=
 if a0=65 then
  some ((8,(⟨#[]⟩:ByteArray),0,false,false,false),true)
 else
  (
   if a0=66 then
    some ((9,(⟨#[]⟩:ByteArray),0,false,false,false),true)
   else
    (
     if a0=67 then
      some ((11,(⟨#[]⟩:ByteArray),0,false,false,false),true)
     else
      (
       if a0=68 then
        some ((10,(⟨#[]⟩:ByteArray),0,false,false,false),true)
       else
        (
         if a0=72 then
          some ((12,(⟨#[]⟩:ByteArray),0,false,false,false),true)
         else
          (
           if a0=70 then
            some ((13,(⟨#[]⟩:ByteArray),0,false,false,false),true)
           else
            (
             jn (α:=_) (β:=Bool) (fun k45=>
               if a0=80 then
                k45 (decide (a0=80))
               else
                (
                 if a0=81 then
                  k45 (decide (a0=81))
                 else
                  (
                   if a0=82 then
                    k45 (decide (a0=82))
                   else
                    k45 (decide (a0=83))
                  )
                )
             ) (fun v44=>
              if v44=true then
               (
                ck (inR .u8 (a0-80)) <|
                ck (inR .i64 (a0-80)) <|
                ck (inR .i64 ((a0-80)+1)) <|
                some ((18,(⟨#[]⟩:ByteArray),(a0-80)+1,false,false,false),true)
               )
              else
               some ((0,(⟨#[]⟩:ByteArray),0,false,false,false),false)
             )
            )
          )
        )
      )
    )
  )
noncomputable def k59:Eng.CS:={ f:=59,calm:=true,more:=0,ι:=Int×((Int×ByteArray×Int×Bool×Bool×Bool)×Bool),ok:=fun i=>g59 i.1=some i.2,rds:=fun _=>[],args:=fun i=>[.w (.v (.int .u8 (i.1)))],res:=fun i=>.tup [.agg [.v (.int .i64 (i.2.1.1)),.v (.string (i.2.1.2.1)),.v (.int .i64 (i.2.1.2.2.1)),bS i.2.1.2.2.2.1,bS i.2.1.2.2.2.2.1,bS i.2.1.2.2.2.2.2],bS i.2.2] }
theorem k59_ok:zw Tryz.prog k59:=by
 refine R.calmspec Tryz.func59 (nq9 Tryz.func59) rfl ?_
 rintro ⟨a0,r⟩ hok q _ args hargs
 match args,hargs with
 | [_],hargs=>
 obtain ⟨rfl,_⟩:=hargs
 refine ⟨envC [] false [(59,18)],6,zk (zm),rfl,(by intro x hx;simp only [List.mem_cons,List.not_mem_nil,or_false] at hx;rcases hx with rfl<;>rfl),?_⟩
 have H:zf (g59 a0) (fun a=>a=r):=⟨r,hok,rfl⟩
 unfold g59 at H
 clear hok
 refine z7 H ?_ ?_<;>intro h35 H
 ·have hfin:=z2 H
  repeat refine zg ?_
  trivial
 ·refine z7 H ?_ ?_<;>intro h36 H
  ·have hfin:=z2 H
   repeat refine zg ?_
   trivial
  ·refine z7 H ?_ ?_<;>intro h37 H
   ·have hfin:=z2 H
    repeat refine zg ?_
    trivial
   ·refine z7 H ?_ ?_<;>intro h38 H
    ·have hfin:=z2 H
     repeat refine zg ?_
     trivial
    ·refine z7 H ?_ ?_<;>intro h39 H
     ·have hfin:=z2 H
      repeat refine zg ?_
      trivial
     ·refine z7 H ?_ ?_<;>intro h40 H
      ·have hfin:=z2 H
       repeat refine zg ?_
       trivial
      ·refine R.cut_fam H 24 [0,2] [] (fun v44=>[(23,bS v44)]) (fun v44=>[]) [(0,.cells 24 [.v (.int .i64 (0)),.v (.string ((⟨#[]⟩:ByteArray))),.v (.int .i64 (0)),.bb false,.bb false,.bb false])] 0 (fun H=>?_)
       refine And.intro ?_ ?_
       ·refine z7 H ?_ ?_<;>intro h46 H
        ·refine ⟨_,⟨H⟩,⟨rfl⟩,?_⟩
         repeat refine z8 ?_
         trivial
        ·refine z7 H ?_ ?_<;>intro h47 H
         ·refine ⟨_,⟨H⟩,⟨rfl⟩,?_⟩
          repeat refine z8 ?_
          trivial
         ·refine z7 H ?_ ?_<;>intro h48 H
          ·refine ⟨_,⟨H⟩,⟨rfl⟩,?_⟩
           repeat refine z8 ?_
           trivial
          ·refine ⟨_,⟨H⟩,⟨rfl⟩,?_⟩
           repeat refine z8 ?_
           trivial
       ·intro v44 H
        refine z7 H ?_ ?_<;>intro h49 H
        ·refine ze H fun h50 H=>?_
         refine ze H fun h51 H=>?_
         refine ze H fun h52 H=>?_
         have hfin:=z2 H
         repeat refine zg ?_
         trivial
        ·have hfin:=z2 H
         repeat refine zg ?_
         trivial
noncomputable def g188 (a0:Int):Option ((Int×ByteArray×Int×Bool×Bool×Bool)×Bool):=
 jn (α:=_) (β:=Bool) (fun k89=>
   if a0=1 then
    k89 true
   else
    k89 (decide (a0=7))
 ) (fun v88=>
  if v88=true then
   some ((12,(⟨#[]⟩:ByteArray),0,false,false,false),true)
  else
   (
    jn (α:=_) (β:=Bool) (fun k94=>
      if a0=4 then
       k94 true
      else
       k94 (decide (a0=8))
    ) (fun v93=>
     if v93=true then
      some ((13,(⟨#[]⟩:ByteArray),0,false,false,false),true)
     else
      (
       if a0=3 then
        some ((7,(⟨#[]⟩:ByteArray),0,false,false,false),true)
       else
        (
         if a0=5 then
          some ((14,(⟨#[]⟩:ByteArray),0,false,false,false),true)
         else
          (
           if a0=6 then
            some ((15,(⟨#[]⟩:ByteArray),0,false,false,false),true)
           else
            (
             jn (α:=_) (β:=Bool) (fun k102=>
               if 11≤a0 then
                k102 (decide (a0≤15))
               else
                k102 false
             ) (fun v101=>
              if v101=true then
               (
                ck (inR .i64 (a0-10)) <|
                some ((18,(⟨#[]⟩:ByteArray),a0-10,false,false,false),true)
               )
              else
               (
                jn (α:=_) (β:=Bool) (fun k108=>
                  if 17≤a0 then
                   k108 (decide (a0≤21))
                  else
                   k108 false
                ) (fun v107=>
                 if v107=true then
                  (
                   ck (inR .i64 (a0-11)) <|
                   some ((18,(⟨#[]⟩:ByteArray),a0-11,false,false,false),true)
                  )
                 else
                  (
                   if a0=23 then
                    (
                     ck (inR .i64 (a0-12)) <|
                     some ((18,(⟨#[]⟩:ByteArray),a0-12,false,false,false),true)
                    )
                   else
                    (
                     if a0=24 then
                      (
                       ck (inR .i64 (a0-12)) <|
                       some ((18,(⟨#[]⟩:ByteArray),a0-12,false,false,false),true)
                      )
                     else
                      some ((0,(⟨#[]⟩:ByteArray),0,false,false,false),false)
                    )
                  )
                )
               )
             )
            )
          )
        )
      )
    )
   )
 )
noncomputable def k188:Eng.CS:={ f:=188,calm:=true,more:=0,ι:=Int×((Int×ByteArray×Int×Bool×Bool×Bool)×Bool),ok:=fun i=>g188 i.1=some i.2,rds:=fun _=>[],args:=fun i=>[.w (.v (.int .i64 (i.1)))],res:=fun i=>.tup [.agg [.v (.int .i64 (i.2.1.1)),.v (.string (i.2.1.2.1)),.v (.int .i64 (i.2.1.2.2.1)),bS i.2.1.2.2.2.1,bS i.2.1.2.2.2.2.1,bS i.2.1.2.2.2.2.2],bS i.2.2] }
theorem k188_ok:zw Tryz.prog k188:=by
 refine R.calmspec Tryz.func188 (nq9 Tryz.func188) rfl ?_
 rintro ⟨a0,r⟩ hok q _ args hargs
 match args,hargs with
 | [_],hargs=>
 obtain ⟨rfl,_⟩:=hargs
 refine ⟨envC [] false [(188,2),(188,4),(188,12),(188,14)],6,zk (zm),rfl,(by intro x hx;simp only [List.mem_cons,List.not_mem_nil,or_false] at hx;rcases hx with rfl<;>rfl),?_⟩
 have H:zf (g188 a0) (fun a=>a=r):=⟨r,hok,rfl⟩
 unfold g188 at H
 clear hok
 refine R.cut_fam H 10 [0,2] [] (fun v88=>[(4,bS v88)]) (fun v88=>[]) [(0,.cells 24 [.v (.int .i64 (0)),.v (.string ((⟨#[]⟩:ByteArray))),.v (.int .i64 (0)),.bb false,.bb false,.bb false])] 0 (fun H=>?_)
 refine And.intro ?_ ?_
 ·refine z7 H ?_ ?_<;>intro h90 H
  ·refine ⟨true,⟨H⟩,⟨rfl⟩,?_⟩
   repeat refine z8 ?_
   trivial
  ·refine ⟨_,⟨H⟩,⟨rfl⟩,?_⟩
   repeat refine z8 ?_
   trivial
 ·intro v88 H
  refine z7 H ?_ ?_<;>intro h91 H
  ·have hfin:=z2 H
   repeat refine zg ?_
   trivial
  ·refine R.cut_fam H 18 [0,2] [] (fun v93=>[(12,bS v93)]) (fun v93=>[]) [(0,.cells 24 [.v (.int .i64 (0)),.v (.string ((⟨#[]⟩:ByteArray))),.v (.int .i64 (0)),.bb false,.bb false,.bb false])] 0 (fun H=>?_)
   refine And.intro ?_ ?_
   ·refine z7 H ?_ ?_<;>intro h95 H
    ·refine ⟨true,⟨H⟩,⟨rfl⟩,?_⟩
     repeat refine z8 ?_
     trivial
    ·refine ⟨_,⟨H⟩,⟨rfl⟩,?_⟩
     repeat refine z8 ?_
     trivial
   ·intro v93 H
    refine z7 H ?_ ?_<;>intro h96 H
    ·have hfin:=z2 H
     repeat refine zg ?_
     trivial
    ·refine z7 H ?_ ?_<;>intro h97 H
     ·have hfin:=z2 H
      repeat refine zg ?_
      trivial
     ·refine z7 H ?_ ?_<;>intro h98 H
      ·have hfin:=z2 H
       repeat refine zg ?_
       trivial
      ·refine z7 H ?_ ?_<;>intro h99 H
       ·have hfin:=z2 H
        repeat refine zg ?_
        trivial
       ·refine R.cut_fam H 35 [0,2] [] (fun v101=>[(32,bS v101)]) (fun v101=>[]) [(0,.cells 24 [.v (.int .i64 (0)),.v (.string ((⟨#[]⟩:ByteArray))),.v (.int .i64 (0)),.bb false,.bb false,.bb false])] 0 (fun H=>?_)
        refine And.intro ?_ ?_
        ·refine z7 H ?_ ?_<;>intro h103 H
         ·refine ⟨_,⟨H⟩,⟨rfl⟩,?_⟩
          repeat refine z8 ?_
          trivial
         ·refine ⟨false,⟨H⟩,⟨rfl⟩,?_⟩
          repeat refine z8 ?_
          trivial
        ·intro v101 H
         refine z7 H ?_ ?_<;>intro h104 H
         ·refine ze H fun h105 H=>?_
          have hfin:=z2 H
          repeat refine zg ?_
          trivial
         ·refine R.cut_fam H 43 [0,2] [] (fun v107=>[(42,bS v107)]) (fun v107=>[]) [(0,.cells 24 [.v (.int .i64 (0)),.v (.string ((⟨#[]⟩:ByteArray))),.v (.int .i64 (0)),.bb false,.bb false,.bb false])] 0 (fun H=>?_)
          refine And.intro ?_ ?_
          ·refine z7 H ?_ ?_<;>intro h109 H
           ·refine ⟨_,⟨H⟩,⟨rfl⟩,?_⟩
            repeat refine z8 ?_
            trivial
           ·refine ⟨false,⟨H⟩,⟨rfl⟩,?_⟩
            repeat refine z8 ?_
            trivial
          ·intro v107 H
           refine z7 H ?_ ?_<;>intro h110 H
           ·refine ze H fun h111 H=>?_
            have hfin:=z2 H
            repeat refine zg ?_
            trivial
           ·refine z7 H ?_ ?_<;>intro h112 H
            ·refine ze H fun h113 H=>?_
             have hfin:=z2 H
             repeat refine zg ?_
             trivial
            ·refine z7 H ?_ ?_<;>intro h114 H
             ·refine ze H fun h115 H=>?_
              have hfin:=z2 H
              repeat refine zg ?_
              trivial
             ·have hfin:=z2 H
              repeat refine zg ?_
              trivial
noncomputable def g57 (a0:List Int):Option ((Int×Int×ByteArray×Int×Bool×Bool×Bool×Bool×Bool)):=
 ck (0≤(0:Int)∧0<((a0.length:Nat):Int)) <|
 jn (α:=_) (β:=Bool) (fun k132=>
   if (a0.getD (0:Int).toNat 0)=13 then
    k132 true
   else
    k132 (decide ((a0.getD (0:Int).toNat 0)=10))
 ) (fun v131=>
  if v131=true then
   some (1,2,(⟨#[]⟩:ByteArray),0,false,false,false,true,false)
  else
   (
    if (a0.getD (0:Int).toNat 0)=9 then
     some (1,3,(⟨#[]⟩:ByteArray),0,false,false,false,true,false)
    else
     (
      if (a0.getD (0:Int).toNat 0)=8 then
       some (1,6,(⟨#[]⟩:ByteArray),0,false,false,false,true,false)
      else
       (
        if (a0.getD (0:Int).toNat 0)=127 then
         some (1,6,(⟨#[]⟩:ByteArray),0,false,false,false,true,false)
        else
         (
          if (a0.getD (0:Int).toNat 0)<32 then
           (
            (g114 (a0.getD (0:Int).toNat 0)).bind fun v139=>
            some (1,17,v139,0,false,false,false,true,false)
           )
          else
           (
            (g32 a0).bind fun v141=>
            if v141.2.2=true then
             some (0,0,(⟨#[]⟩:ByteArray),0,false,false,false,false,false)
            else
             (
              (g33 v141.1).bind fun v145=>
              ck (zM v145) <|
              some (v141.2.1,1,zV v145,0,false,false,false,true,false)
             )
           )
         )
       )
     )
   )
 )
noncomputable def k57:Eng.CS:={ f:=57,calm:=true,more:=0,ι:=(List Int)×(Int×Int×ByteArray×Int×Bool×Bool×Bool×Bool×Bool),ok:=fun i=>g57 i.1=some i.2,rds:=fun _=>[],args:=fun i=>[.sl 1 i.1.length (ei .u8 i.1)],res:=fun i=>.agg [.v (.int .i64 (i.2.1)),.v (.int .i64 (i.2.2.1)),.v (.string (i.2.2.2.1)),.v (.int .i64 (i.2.2.2.2.1)),bS i.2.2.2.2.2.1,bS i.2.2.2.2.2.2.1,bS i.2.2.2.2.2.2.2.1,bS i.2.2.2.2.2.2.2.2.1,bS i.2.2.2.2.2.2.2.2.2] }
theorem k57_ok:zw Tryz.prog k57:=by
 refine R.calmspec Tryz.func57 (nq9 Tryz.func57) rfl ?_
 rintro ⟨a0,r⟩ hok q _ args hargs
 match args,hargs with
 | [_],hargs=>
 obtain ⟨⟨A0,cp0,rfl,hc0,_,hR0⟩,_⟩:=hargs
 refine ⟨envC [k32,k33,k114] false [(57,3)],6,zk (zd ⟨fun _=>k32_ok,nofun⟩ (zd ⟨nofun,fun _=>k33_ok⟩ (zd ⟨fun _=>k114_ok,nofun⟩ (zm)))),rfl,(by intro x hx;simp only [List.mem_cons,List.not_mem_nil,or_false] at hx;rcases hx with rfl<;>rfl),?_⟩
 have H:zf (g57 a0) (fun a=>a=r):=⟨r,hok,rfl⟩
 unfold g57 at H
 clear hok
 refine yh hR0 (fun h=>ei0 h) H fun h116 H=>?_
 refine zF (e:=a0.getD (0:Int).toNat 0) (zI hR0 (zH (l:=a0) (tn h116))) ?_
 refine R.cut_fam H 13 [0,2,3] [] (fun v131=>[(10,bS v131)]) (fun v131=>[]) [(0,.cells 69 [.v (.int .i64 (0)),.v (.int .i64 (0)),.v (.string ((⟨#[]⟩:ByteArray))),.v (.int .i64 (0)),.bb false,.bb false,.bb false,.bb false,.bb false])] 0 (fun H=>?_)
 refine And.intro ?_ ?_
 ·refine z7 H ?_ ?_<;>intro h133 H
  ·refine ⟨true,⟨H⟩,⟨rfl⟩,?_⟩
   repeat refine z8 ?_
   trivial
  ·refine ⟨_,⟨H⟩,⟨rfl⟩,?_⟩
   repeat refine z8 ?_
   trivial
 ·intro v131 H
  refine z7 H ?_ ?_<;>intro h134 H
  ·have hfin:=z2 H
   repeat refine zg ?_
   trivial
  ·refine z7 H ?_ ?_<;>intro h135 H
   ·have hfin:=z2 H
    repeat refine zg ?_
    trivial
   ·refine z7 H ?_ ?_<;>intro h136 H
    ·have hfin:=z2 H
     repeat refine zg ?_
     trivial
    ·refine z7 H ?_ ?_<;>intro h137 H
     ·have hfin:=z2 H
      repeat refine zg ?_
      trivial
     ·refine z7 H ?_ ?_<;>intro h138 H
      ·obtain ⟨v139,hv140,H⟩:=zc H
       refine ⟨(a0.getD (0:Int).toNat 0,v139),⟨hv140⟩,⟨trivial⟩,?_⟩
       refine ⟨⟨rfl⟩,?_⟩
       have hfin:=z2 H
       repeat refine zg ?_
       trivial
      ·obtain ⟨v141,hv142,H⟩:=zc H
       refine ⟨(a0,v141),⟨hv142⟩,⟨trivial⟩,?_⟩
       refine And.intro ⟨rfl,hc0,ei_len.trans ((show _=_ from rfl).trans (Nat.mul_one _).symm),hR0⟩ ?_
       refine z7 H ?_ ?_<;>intro h144 H
       ·have hfin:=z2 H
        repeat refine zg ?_
        trivial
       ·obtain ⟨v145,hv146,H⟩:=zc H
        refine ⟨(v141.1,v145),⟨hv146⟩,⟨trivial⟩,?_⟩
        refine ⟨⟨rfl⟩,?_⟩
        refine yA (l:=v145) H fun h147 H=>?_
        have hfin:=z2 H
        repeat refine zg ?_
        trivial
end Go.Proofs.YtmpknfgjfmgleaaGreatDoor
end
section
set_option maxRecDepth 8000
set_option maxHeartbeats 4000000
namespace Go.Proofs.YtmpknfgjfmgleaaGreatDoor
open Go Go.Eng
noncomputable def g187 (a0:List Int):Option (List Int×Bool):=
 jn (α:=_) (β:=List Int×List Int) (fun k231=>
   (yr (σ:=List Int×List Int×Int) (ρ:=(Unit) ⊕ (List Int×List Int)) (fun s234=>
     if s234.2.2<((a0.length:Nat):Int) then
      (
       ck (inR .i64 (((s234.1.length:Nat):Int)-1)) <|
       jn (α:=_) (β:=Bool) (fun k350=>
         ck (0≤s234.2.2∧s234.2.2<((a0.length:Nat):Int)) <|
         if (a0.getD s234.2.2.toNat 0)=59 then
          k350 (decide ((((s234.1.length:Nat):Int)-1)=0))
         else
          k350 false
       ) (fun v349=>
        if v349=true then
         (
          ck ((s234.1.length+1) * 8≤140737488355328) <|
          ck ((s234.2.1.length+1) * 8≤140737488355328) <|
          ck (inR .i64 (s234.2.2+1)) <|
          some (.go ((s234.1++[0]),(s234.2.1++[0]),s234.2.2+1))
         )
        else
         (
          jn (α:=_) (β:=Bool) (fun k371=>
            ck (0≤s234.2.2∧s234.2.2<((a0.length:Nat):Int)) <|
            if 48≤(a0.getD s234.2.2.toNat 0) then
             (
              ck (0≤s234.2.2∧s234.2.2<((a0.length:Nat):Int)) <|
              if (a0.getD s234.2.2.toNat 0)≤57 then
               (
                ck (0≤((s234.1.length:Nat):Int)-1∧((s234.1.length:Nat):Int)-1<((s234.2.1.length:Nat):Int)) <|
                k371 (decide ((s234.2.1.getD (((s234.1.length:Nat):Int)-1).toNat 0)<4))
               )
              else
               k371 false
             )
            else
             k371 false
          ) (fun v370=>
           if v370=true then
            (
             ck (0≤((s234.1.length:Nat):Int)-1∧((s234.1.length:Nat):Int)-1<((s234.1.length:Nat):Int)) <|
             ck (inR .i64 (10 * (s234.1.getD (((s234.1.length:Nat):Int)-1).toNat 0))) <|
             ck (0≤s234.2.2∧s234.2.2<((a0.length:Nat):Int)) <|
             ck (inR .u8 ((a0.getD s234.2.2.toNat 0)-48)) <|
             ck (inR .i64 ((a0.getD s234.2.2.toNat 0)-48)) <|
             ck (inR .i64 ((10 * (s234.1.getD (((s234.1.length:Nat):Int)-1).toNat 0))+((a0.getD s234.2.2.toNat 0)-48))) <|
             ck (0≤((s234.1.length:Nat):Int)-1∧((s234.1.length:Nat):Int)-1<((s234.2.1.length:Nat):Int)) <|
             ck (inR .i64 ((s234.2.1.getD (((s234.1.length:Nat):Int)-1).toNat 0)+1)) <|
             ck (0≤((s234.1.length:Nat):Int)-1∧((s234.1.length:Nat):Int)-1<((s234.1.length:Nat):Int)) <|
             ck (0≤((s234.1.length:Nat):Int)-1∧((s234.1.length:Nat):Int)-1<((s234.2.1.length:Nat):Int)) <|
             ck (inR .i64 (s234.2.2+1)) <|
             some (.go ((s234.1.set (((s234.1.length:Nat):Int)-1).toNat ((10 * (s234.1.getD (((s234.1.length:Nat):Int)-1).toNat 0))+((a0.getD s234.2.2.toNat 0)-48))),(s234.2.1.set (((s234.1.length:Nat):Int)-1).toNat ((s234.2.1.getD (((s234.1.length:Nat):Int)-1).toNat 0)+1)),s234.2.2+1))
            )
           else
            some (.out (.inl (())))
          )
         )
       )
      )
     else
      some (.out (.inr ((s234.1,s234.2.1))))
    ) ([0],[0],0)).bind fun o344=>
   sm o344 (fun o399=>
     some (([]:List Int),false)
    ) (fun o400=>
     k231 o400
    )
 ) (fun v230=>
  jn (α:=_) (β:=List Int) (fun k455=>
    (yr (σ:=List Int×Int) (ρ:=List Int) (fun s458=>
      if s458.2<((s458.1.length:Nat):Int) then
       (
        if s458.2<((v230.2.length:Nat):Int) then
         (
          ck (0≤s458.2∧s458.2<((v230.2.length:Nat):Int)) <|
          if (v230.2.getD s458.2.toNat 0)=0 then
           (
            ck (0≤s458.2∧s458.2<((s458.1.length:Nat):Int)) <|
            ck (inR .i64 (s458.2+1)) <|
            some (.go ((s458.1.set s458.2.toNat 1),s458.2+1))
           )
          else
           (
            ck (inR .i64 (s458.2+1)) <|
            some (.go (s458.1,s458.2+1))
           )
         )
        else
         some (.out s458.1)
       )
      else
       some (.out s458.1)
     ) (v230.1,0)).bind fun o484=>
     k455 o484
  ) (fun v454=>
   some (v454,true)
  )
 )
noncomputable def k187:Eng.CS:={ f:=187,calm:=false,more:=0,ι:=(List Int)×(List Int×Bool)×((Option Addr×Nat)),ok:=fun i=>g187 i.1=some i.2.1∧i.1.length≤i.2.2.2,rds:=fun i=>[(i.2.2.1,ei .u8 i.1)],args:=fun i=>[.w (.v (.slice i.2.2.1 i.1.length i.2.2.2))],res:=fun _=>.bad,rn:=[],gr:=true,γ:=(Option Addr×Nat),resG:=fun i g=>.tup [.v (.slice g.1 i.2.1.1.length g.2),bS i.2.1.2],LG:=fun i g=>[],okG:=fun i g=>i.2.1.1.length≤g.2,rdsG:=fun i g=>[(g.1,ei .i64 i.2.1.1)],fzr:=[(0,0)] }
theorem k187_ok:CSOk Tryz.prog k187:=by
 refine R.cspecG Tryz.func187 (nq9 Tryz.func187) rfl rfl (fun _=>rfl) ?_
 rintro ⟨a0,r,⟨A0_0,cp0_0⟩⟩ ⟨hok,hc0_0⟩ q hrds args hargs
 obtain ⟨hR0_0,_⟩:=hrds
 dsimp only at hR0_0 hc0_0
 dsimp only [k187] at hargs ⊢
 match args,hargs with
 | [_],hargs=>
 obtain ⟨rfl,_⟩:=hargs
 refine ⟨envC [] false [(187,9),(187,11),(187,12),(187,17)],6,zk (zm),?_⟩
 have H:zf (g187 a0) (fun a=>a=r):=⟨r,hok,rfl⟩
 unfold g187 at H
 clear hok
 refine R.cut_fam H 17 [] [] (fun v230=>[(4,.own 17),(5,.own 18)]) (fun v230=>[(17,.arr 3 1 (v230.1.length) (ei .i64 (v230.1))),(18,.arr 3 1 (v230.2.length) (ei .i64 (v230.2)))]) [] 2 (fun H=>?_)
 refine And.intro ?_ ?_
 ·refine R.loop_fam (yn H) [0] [] (fun _ s234=>[(4,.own 7),(5,.own 8),(6,.v (.int .i64 (s234.2.2)))]) (fun _ s234=>[(7,.arr 3 1 (s234.1.length) (ei .i64 (s234.1))),(8,.arr 3 1 (s234.2.1.length) (ei .i64 (s234.2.1)))]) 2 (fun n401 H=>?_)
  refine ⟨(n401,_),⟨H⟩,⟨trivial⟩,?_⟩
  repeat refine z8 ?_
  rintro ⟨m0,s234⟩ H _
  obtain ⟨m235,hm0,H⟩:=yv H
  dsimp only at hm0
  subst hm0
  try dsimp only at H
  refine z7 H ?_ ?_<;>intro h345 H
  ·refine ze H fun h346 H=>?_
   refine R.cut_fam H 28 [0,4,5,6,7] [] (fun v349=>[(20,bS v349)]) (fun v349=>[]) [(7,.arr 3 1 (s234.1.length) (ei .i64 (s234.1))),(8,.arr 3 1 (s234.2.1.length) (ei .i64 (s234.2.1)))] 0 (fun H=>?_)
   refine And.intro ?_ ?_
   ·refine yh hR0_0 (fun h=>ei0 h) H fun h351 H=>?_
    refine zF (e:=a0.getD s234.2.2.toNat 0) (zI hR0_0 (zH (l:=a0) (tn h351))) ?_
    refine z7 H ?_ ?_<;>intro h352 H
    ·refine ⟨_,⟨H⟩,⟨rfl⟩,?_⟩
     repeat refine z8 ?_
     trivial
    ·refine ⟨false,⟨H⟩,⟨rfl⟩,?_⟩
     repeat refine z8 ?_
     trivial
   ·intro v349 H
    refine z7 H ?_ ?_<;>intro h353 H
    ·refine yZ (by decide) (by first | exact ei_one | ((repeat (refine List.forall_mem_cons.2 ⟨rfl,?_⟩));intro y hy;cases hy;done) | (intro y hy;simp [ei,eb,es,ec] at hy;(first | (rcases hy with rfl | hy) | subst hy | skip);all_goals first | rfl | simp_all [Value.oneCell'])) H fun h354 H=>?_
     intro n355 zs357 hn356 hz358
     obtain rfl:n355=(s234.1++[0]).length:=hn356.trans (by first | exact List.length_append.symm | (simp;done) | (simp;omega))
     obtain rfl:zs357=ei .i64 (s234.1++[0]):=by first | exact hz358.trans (ei_app (xs:=s234.1) (ys:=([0]))).symm | (rw [hz358,ei_vw];first | exact ei_app.symm | exact (ei_app (xs:=s234.1)).symm) | (rw [hz358];simp [ei,eb,es,ec])
     refine yZ (by decide) (by first | exact ei_one | ((repeat (refine List.forall_mem_cons.2 ⟨rfl,?_⟩));intro y hy;cases hy;done) | (intro y hy;simp [ei,eb,es,ec] at hy;(first | (rcases hy with rfl | hy) | subst hy | skip);all_goals first | rfl | simp_all [Value.oneCell'])) H fun h359 H=>?_
     intro n360 zs362 hn361 hz363
     obtain rfl:n360=(s234.2.1++[0]).length:=hn361.trans (by first | exact List.length_append.symm | (simp;done) | (simp;omega))
     obtain rfl:zs362=ei .i64 (s234.2.1++[0]):=by first | exact hz363.trans (ei_app (xs:=s234.2.1) (ys:=([0]))).symm | (rw [hz363,ei_vw];first | exact ei_app.symm | exact (ei_app (xs:=s234.2.1)).symm) | (rw [hz363];simp [ei,eb,es,ec])
     refine ze H fun h364 H=>?_
     replace H:=zo H
     refine ⟨(m235,((s234.1++[0]),(s234.2.1++[0]),s234.2.2+1)),⟨H,Nat.lt_succ_self _⟩,⟨trivial⟩,⟨rfl⟩,?_⟩
     repeat refine z8 ?_
     trivial
    ·refine R.cut_fam H 49 [0,4,5,6,7] [] (fun v370=>[(36,bS v370)]) (fun v370=>[]) [(7,.arr 3 1 (s234.1.length) (ei .i64 (s234.1))),(8,.arr 3 1 (s234.2.1.length) (ei .i64 (s234.2.1)))] 0 (fun H=>?_)
     refine And.intro ?_ ?_
     ·refine yh hR0_0 (fun h=>ei0 h) H fun h372 H=>?_
      refine zF (e:=a0.getD s234.2.2.toNat 0) (zI hR0_0 (zH (l:=a0) (tn h372))) ?_
      refine z7 H ?_ ?_<;>intro h373 H
      ·refine yh hR0_0 (fun h=>ei0 h) H fun h374 H=>?_
       refine zF (e:=a0.getD s234.2.2.toNat 0) (zI hR0_0 (zH (l:=a0) (tn h374))) ?_
       refine z7 H ?_ ?_<;>intro h375 H
       ·refine ze H fun h376 H=>?_
        refine zF (e:=s234.2.1.getD (((s234.1.length:Nat):Int)-1).toNat 0) (own_get (ys:=ei .i64 s234.2.1) (by first | rfl | simp [ei,eb,es,ec]) (zH (l:=s234.2.1) (by first | exact tn h376 | (have:=tn h376;simp at this ⊢;omega) | (have:=tn h376;simp;omega)))) ?_
        refine ⟨_,⟨H⟩,⟨rfl⟩,?_⟩
        repeat refine z8 ?_
        trivial
       ·refine ⟨false,⟨H⟩,⟨rfl⟩,?_⟩
        repeat refine z8 ?_
        trivial
      ·refine ⟨false,⟨H⟩,⟨rfl⟩,?_⟩
       repeat refine z8 ?_
       trivial
     ·intro v370 H
      refine z7 H ?_ ?_<;>intro h377 H
      ·refine And.intro ⟨by kernel_rfl⟩ ?_
       refine ⟨(Pn.calm 0 (Pn.calm 1 (Pn.calm 2 (Pn.calm 3 (Pn.calm 4 (Pn.calm 5 (Pn.calm 6 (Pn.calm 7 (Pn.calm 8 (Pn.calm 9 (Pn.calm 10 (Pn.calm 11 (Pn.calm 12 (Pn.calm 13 (Pn.calm 14 (Pn.calm 15 (Pn.calm 16 (Pn.calm 17 (Pn.calm 18 (Pn.calm 19 (Pn.calm 20 (Pn.calm 21 (Pn.eff 22 [21,15,0,1,4,5,6,7,8,9,10,11,12,13,14,19,18,16,17] (Pn.calm 23 (Pn.eff 24 [23,20,22,0,1,2,3,4,5,6,7,8,9,10,11,12,13,14,15,16,17,18,19,21] Pn.done Pn.no)) Pn.no))))))))))))))))))))))),⟨by kernel_rfl⟩,?_⟩
       refine ze H fun h378 H=>?_
       refine zF (e:=s234.1.getD (((s234.1.length:Nat):Int)-1).toNat 0) (own_get (ys:=ei .i64 s234.1) (by first | rfl | simp [ei,eb,es,ec]) (zH (l:=s234.1) (by first | exact tn h378 | (have:=tn h378;simp at this ⊢;omega) | (have:=tn h378;simp;omega)))) ?_
       refine ze H fun h379 H=>?_
       refine yh hR0_0 (fun h=>ei0 h) H fun h380 H=>?_
       refine zF (e:=a0.getD s234.2.2.toNat 0) (zI hR0_0 (zH (l:=a0) (tn h380))) ?_
       refine ze H fun h381 H=>?_
       refine ze H fun h382 H=>?_
       refine ze H fun h383 H=>?_
       refine ze H fun h384 H=>?_
       refine zF (e:=s234.2.1.getD (((s234.1.length:Nat):Int)-1).toNat 0) (own_get (ys:=ei .i64 s234.2.1) (by first | rfl | simp [ei,eb,es,ec]) (zH (l:=s234.2.1) (by first | exact tn h384 | (have:=tn h384;simp at this ⊢;omega) | (have:=tn h384;simp;omega)))) ?_
       refine ze H fun h385 H=>?_
       refine ze H fun h386 H=>?_
       refine And.intro ?_ trivial
       refine And.intro ⟨by first | (have:=tn h386;simp [ei,eb,es,ec] at this ⊢;omega) | (have:=tn h386;simp [ei,eb,es,ec];omega)⟩ ?_
       intro n387 zs389 hn388 hz390
       subst hn388
       have hl391:(s234.1.set (((s234.1.length:Nat):Int)-1).toNat ((10 * (s234.1.getD (((s234.1.length:Nat):Int)-1).toNat 0))+((a0.getD s234.2.2.toNat 0)-48))).length=s234.1.length:=List.length_set
       obtain rfl:zs389=ei .i64 (s234.1.set (((s234.1.length:Nat):Int)-1).toNat ((10 * (s234.1.getD (((s234.1.length:Nat):Int)-1).toNat 0))+((a0.getD s234.2.2.toNat 0)-48))):=hz390.trans ei_set.symm
       refine And.intro ⟨fun _ _ _ h=>h⟩ ?_
       refine ze H fun h392 H=>?_
       refine And.intro ?_ trivial
       refine And.intro ⟨by first | (have:=tn h392;simp [ei,eb,es,ec] at this ⊢;omega) | (have:=tn h392;simp [ei,eb,es,ec];omega)⟩ ?_
       intro n393 zs395 hn394 hz396
       subst hn394
       have hl397:(s234.2.1.set (((s234.1.length:Nat):Int)-1).toNat ((s234.2.1.getD (((s234.1.length:Nat):Int)-1).toNat 0)+1)).length=s234.2.1.length:=List.length_set
       obtain rfl:zs395=ei .i64 (s234.2.1.set (((s234.1.length:Nat):Int)-1).toNat ((s234.2.1.getD (((s234.1.length:Nat):Int)-1).toNat 0)+1)):=hz396.trans ei_set.symm
       refine And.intro ⟨fun _ _ _ h=>h⟩ ?_
       refine ze H fun h398 H=>?_
       replace H:=zo H
       refine ⟨(m235,((s234.1.set (((s234.1.length:Nat):Int)-1).toNat ((10 * (s234.1.getD (((s234.1.length:Nat):Int)-1).toNat 0))+((a0.getD s234.2.2.toNat 0)-48))),(s234.2.1.set (((s234.1.length:Nat):Int)-1).toNat ((s234.2.1.getD (((s234.1.length:Nat):Int)-1).toNat 0)+1)),s234.2.2+1)),⟨H,Nat.lt_succ_self _⟩,⟨trivial⟩,⟨rfl⟩,?_⟩
       repeat refine z8 ?_
       trivial
      ·replace H:=zo H
       dsimp only [stp,sm] at H
       have hfin:=z2 H
       first | subst hfin | rw [←hfin]
       refine ⟨(none,0),⟨Nat.le_refl _⟩,⟨⟨Reads.nil,trivial⟩⟩,?_⟩
       repeat refine z8 ?_
       trivial
  ·replace H:=zo H
   dsimp only [stp,sm] at H
   refine ⟨(s234.1,s234.2.1),⟨H⟩,⟨rfl⟩,?_⟩
   repeat refine z8 ?_
   trivial
 ·intro v230 H
  refine R.cut_fam H 32 [4] [] (fun v454=>[]) (fun v454=>[(17,.arr 3 1 (v454.length) (ei .i64 (v454)))]) [(18,.arr 3 1 (v230.2.length) (ei .i64 (v230.2)))] 0 (fun H=>?_)
  refine And.intro ?_ ?_
  ·refine R.loop_fam (yn H) [4,5] [] (fun _ s458=>[(8,.v (.int .i64 (s458.2)))]) (fun _ s458=>[(17,.arr 3 1 (s458.1.length) (ei .i64 (s458.1)))]) 0 (fun n497 H=>?_)
   refine ⟨(n497,_),⟨H⟩,⟨trivial⟩,?_⟩
   repeat refine z8 ?_
   rintro ⟨m0,s458⟩ H _
   obtain ⟨m459,hm0,H⟩:=yv H
   dsimp only at hm0
   subst hm0
   try dsimp only at H
   refine z7 H ?_ ?_<;>intro h485 H
   ·refine z7 H ?_ ?_<;>intro h486 H
    ·refine ze H fun h487 H=>?_
     refine zF (e:=v230.2.getD s458.2.toNat 0) (own_get (ys:=ei .i64 v230.2) (by first | rfl | simp [ei,eb,es,ec]) (zH (l:=v230.2) (by first | exact tn h487 | (have:=tn h487;simp at this ⊢;omega) | (have:=tn h487;simp;omega)))) ?_
     refine z7 H ?_ ?_<;>intro h488 H
     ·refine ze H fun h489 H=>?_
      refine And.intro ⟨by first | (have:=tn h489;simp [ei,eb,es,ec] at this ⊢;omega) | (have:=tn h489;simp [ei,eb,es,ec];omega)⟩ ?_
      intro n490 zs492 hn491 hz493
      subst hn491
      have hl494:(s458.1.set s458.2.toNat 1).length=s458.1.length:=List.length_set
      obtain rfl:zs492=ei .i64 (s458.1.set s458.2.toNat 1):=hz493.trans ei_set.symm
      refine ze H fun h495 H=>?_
      replace H:=zo H
      refine ⟨(m459,((s458.1.set s458.2.toNat 1),s458.2+1)),⟨H,Nat.lt_succ_self _⟩,⟨trivial⟩,⟨rfl⟩,?_⟩
      repeat refine z8 ?_
      trivial
     ·refine ze H fun h496 H=>?_
      replace H:=zo H
      refine ⟨(m459,(s458.1,s458.2+1)),⟨H,Nat.lt_succ_self _⟩,⟨trivial⟩,⟨rfl⟩,?_⟩
      repeat refine z8 ?_
      trivial
    ·replace H:=zo H
     dsimp only [stp,sm] at H
     refine ⟨s458.1,⟨H⟩,⟨rfl⟩,?_⟩
     repeat refine z8 ?_
     trivial
   ·replace H:=zo H
    dsimp only [stp,sm] at H
    refine ⟨s458.1,⟨H⟩,⟨rfl⟩,?_⟩
    repeat refine z8 ?_
    trivial
  ·intro v454 H
   intro q498 A499 c500 hq501 hc502 hR503
   replace hR503:Reads q498 A499 (ei .i64 v454):=Eq.mp (congrArg (Reads q498 A499) (by first | exact rfl | (simp only [ei,eb,es,ec,gmin,gmax,List.map_append,List.flatMap_append,List.nil_append,List.append_nil,List.append_assoc];done))) hR503
   have hfin:=z2 H
   first | subst hfin | rw [←hfin]
   refine ⟨(A499,c500),⟨hc502⟩,⟨⟨hR503,trivial⟩⟩,?_⟩
   repeat refine z8 ?_
   trivial
noncomputable def g115 (a0:List Int) (a1:Int):Option ((Int×ByteArray×Int×Bool×Bool×Bool)×Bool):=
 (g187 a0).bind fun v504=>
 if ¬(v504.2=true) then
  some ((0,(⟨#[]⟩:ByteArray),0,false,false,false),false)
 else
  (
   jn (α:=_) (β:=Int×ByteArray×Int×Bool×Bool×Bool×Bool) (fun k557=>
     if a1=90 then
      some ((4,(⟨#[]⟩:ByteArray),0,false,false,false),(decide (((a0.length:Nat):Int)=0)))
     else
      (
       if a1=126 then
        (
         ck (0≤(0:Int)∧0<((v504.1.length:Nat):Int)) <|
         (g188 (v504.1.getD (0:Int).toNat 0)).bind fun v561=>
         k557 (v561.1.1,v561.1.2.1,v561.1.2.2.1,v561.1.2.2.2.1,v561.1.2.2.2.2.1,v561.1.2.2.2.2.2,v561.2)
        )
       else
        (
         jn (α:=_) (β:=Bool) (fun k565=>
           if 80≤a1 then
            k565 (decide (a1≤83))
           else
            k565 false
         ) (fun v564=>
          if v564=true then
           (
            (g59 a1).bind fun v568=>
            if v568.2=true then
             (
              if ((v504.1.length:Nat):Int)=2 then
               (
                ck (0≤(0:Int)∧0<((v504.1.length:Nat):Int)) <|
                k557 (v568.1.1,v568.1.2.1,v568.1.2.2.1,v568.1.2.2.2.1,v568.1.2.2.2.2.1,v568.1.2.2.2.2.2,(decide ((v504.1.getD (0:Int).toNat 0)=1)))
               )
              else
               k557 (v568.1.1,v568.1.2.1,v568.1.2.2.1,v568.1.2.2.2.1,v568.1.2.2.2.2.1,v568.1.2.2.2.2.2,false)
             )
            else
             k557 (v568.1.1,v568.1.2.1,v568.1.2.2.1,v568.1.2.2.2.1,v568.1.2.2.2.2.1,v568.1.2.2.2.2.2,false)
           )
          else
           (
            (g59 a1).bind fun v573=>
            if v573.2=true then
             (
              ck (0≤(0:Int)∧0<((v504.1.length:Nat):Int)) <|
              k557 (v573.1.1,v573.1.2.1,v573.1.2.2.1,v573.1.2.2.2.1,v573.1.2.2.2.2.1,v573.1.2.2.2.2.2,(decide ((v504.1.getD (0:Int).toNat 0)=1)))
             )
            else
             k557 (v573.1.1,v573.1.2.1,v573.1.2.2.1,v573.1.2.2.2.1,v573.1.2.2.2.2.1,v573.1.2.2.2.2.2,false)
           )
         )
        )
      )
   ) (fun v556=>
    if ¬(v556.2.2.2.2.2.2=true) then
     some ((0,(⟨#[]⟩:ByteArray),0,false,false,false),false)
    else
     (
      if ((v504.1.length:Nat):Int)=2 then
       (
        ck (0≤(1:Int)∧1<((v504.1.length:Nat):Int)) <|
        ck (inR .i64 ((v504.1.getD (1:Int).toNat 0)-1)) <|
        if ((v504.1.getD (1:Int).toNat 0)-1)<0 then
         some ((0,(⟨#[]⟩:ByteArray),0,false,false,false),false)
        else
         (
          if 7<((v504.1.getD (1:Int).toNat 0)-1) then
           some ((0,(⟨#[]⟩:ByteArray),0,false,false,false),false)
          else
           (
            ck (inR .i64 (Int.tdiv ((v504.1.getD (1:Int).toNat 0)-1) 2)) <|
            ck (inR .i64 (Int.tdiv ((v504.1.getD (1:Int).toNat 0)-1) 4)) <|
            some ((v556.1,v556.2.1,v556.2.2.1,(decide ((Int.tmod (Int.tdiv ((v504.1.getD (1:Int).toNat 0)-1) 2) 2)=1)),(decide ((Int.tmod ((v504.1.getD (1:Int).toNat 0)-1) 2)=1)),(decide ((Int.tdiv ((v504.1.getD (1:Int).toNat 0)-1) 4)=1))),true)
           )
         )
       )
      else
       some ((v556.1,v556.2.1,v556.2.2.1,v556.2.2.2.1,v556.2.2.2.2.1,v556.2.2.2.2.2.1),true)
     )
   )
  )
noncomputable def k115:Eng.CS:={ f:=115,calm:=true,more:=0,ι:=(List Int)×Int×((Int×ByteArray×Int×Bool×Bool×Bool)×Bool),ok:=fun i=>g115 i.1 i.2.1=some i.2.2,rds:=fun _=>[],args:=fun i=>[.sl 1 i.1.length (ei .u8 i.1),.w (.v (.int .u8 (i.2.1)))],res:=fun i=>.tup [.agg [.v (.int .i64 (i.2.2.1.1)),.v (.string (i.2.2.1.2.1)),.v (.int .i64 (i.2.2.1.2.2.1)),bS i.2.2.1.2.2.2.1,bS i.2.2.1.2.2.2.2.1,bS i.2.2.1.2.2.2.2.2],bS i.2.2.2] }
theorem k115_ok:zw Tryz.prog k115:=by
 refine R.calmspec Tryz.func115 (nq9 Tryz.func115) rfl ?_
 rintro ⟨a0,a1,r⟩ hok q _ args hargs
 match args,hargs with
 | [_,_],hargs=>
 obtain ⟨⟨A0,cp0,rfl,hc0,_,hR0⟩,rfl,_⟩:=hargs
 refine ⟨envC [k59,k187,k188] false [(115,12),(115,14)],6,zk (zd ⟨fun _=>k59_ok,nofun⟩ (zd ⟨nofun,fun _=>k187_ok⟩ (zd ⟨fun _=>k188_ok,nofun⟩ (zm)))),rfl,(by intro x hx;simp only [List.mem_cons,List.not_mem_nil,or_false] at hx;rcases hx with rfl | rfl<;>rfl),?_⟩
 have H:zf (g115 a0 a1) (fun a=>a=r):=⟨r,hok,rfl⟩
 unfold g115 at H
 clear hok
 obtain ⟨v504,hv505,H⟩:=zc H
 refine ⟨(a0,v504,(A0,cp0)),⟨hv505,hc0⟩,⟨⟨hR0,trivial⟩⟩,?_⟩
 refine ⟨⟨rfl⟩,?_⟩
 intro q506 g507 hq508 hok509 hrd510
 obtain ⟨A511,c512⟩:=g507
 have hc513:=hok509
 obtain ⟨hR514,_⟩:=hrd510
 try dsimp only at hc513 hR514
 refine z7 H ?_ ?_<;>intro h516 H
 ·have hfin:=z2 H
  repeat refine zg ?_
  trivial
 ·refine R.cut_fam H 47 [4,6,8] [] (fun v556=>[(7,bS v556.2.2.2.2.2.2)]) (fun v556=>[(11,.cells 24 [.v (.int .i64 (v556.1)),.v (.string (v556.2.1)),.v (.int .i64 (v556.2.2.1)),bS v556.2.2.2.1,bS v556.2.2.2.2.1,bS v556.2.2.2.2.2.1])]) [(0,.cells 24 [.v (.int .i64 (0)),.v (.string ((⟨#[]⟩:ByteArray))),.v (.int .i64 (0)),.bb false,.bb false,.bb false])] 0 (fun H=>?_)
  refine And.intro ?_ ?_
  ·refine z7 H ?_ ?_<;>intro h558 H
   ·have hfin:=z2 H
    repeat refine zg ?_
    trivial
   ·refine z7 H ?_ ?_<;>intro h559 H
    ·refine yh hR514 (fun h=>ei0 h) H fun h560 H=>?_
     refine zF (e:=v504.1.getD (0:Int).toNat 0) (zI hR514 (zH (l:=v504.1) (tn h560))) ?_
     obtain ⟨v561,hv562,H⟩:=zc H
     refine ⟨(v504.1.getD (0:Int).toNat 0,v561),⟨hv562⟩,⟨trivial⟩,?_⟩
     refine ⟨⟨rfl⟩,?_⟩
     refine ⟨_,⟨H⟩,⟨rfl⟩,?_⟩
     repeat refine z8 ?_
     trivial
    ·refine R.cut_fam H 26 [1,4,6,8] [] (fun v564=>[(47,bS v564)]) (fun v564=>[]) [(0,.cells 24 [.v (.int .i64 (0)),.v (.string ((⟨#[]⟩:ByteArray))),.v (.int .i64 (0)),.bb false,.bb false,.bb false]),(11,.cells 24 [.v (.int .i64 (0)),.v (.string ((⟨#[]⟩:ByteArray))),.v (.int .i64 (0)),.bb false,.bb false,.bb false])] 0 (fun H=>?_)
     refine And.intro ?_ ?_
     ·refine z7 H ?_ ?_<;>intro h566 H
      ·refine ⟨_,⟨H⟩,⟨rfl⟩,?_⟩
       repeat refine z8 ?_
       trivial
      ·refine ⟨false,⟨H⟩,⟨rfl⟩,?_⟩
       repeat refine z8 ?_
       trivial
     ·intro v564 H
      refine z7 H ?_ ?_<;>intro h567 H
      ·obtain ⟨v568,hv569,H⟩:=zc H
       refine ⟨(a1,v568),⟨hv569⟩,⟨trivial⟩,?_⟩
       refine ⟨⟨rfl⟩,?_⟩
       refine z7 H ?_ ?_<;>intro h570 H
       ·refine z7 H ?_ ?_<;>intro h571 H
        ·refine yh hR514 (fun h=>ei0 h) H fun h572 H=>?_
         refine zF (e:=v504.1.getD (0:Int).toNat 0) (zI hR514 (zH (l:=v504.1) (tn h572))) ?_
         refine ⟨_,⟨H⟩,⟨rfl⟩,?_⟩
         repeat refine z8 ?_
         trivial
        ·refine ⟨_,⟨H⟩,⟨rfl⟩,?_⟩
         repeat refine z8 ?_
         trivial
       ·refine ⟨_,⟨H⟩,⟨rfl⟩,?_⟩
        repeat refine z8 ?_
        trivial
      ·obtain ⟨v573,hv574,H⟩:=zc H
       refine ⟨(a1,v573),⟨hv574⟩,⟨trivial⟩,?_⟩
       refine ⟨⟨rfl⟩,?_⟩
       refine z7 H ?_ ?_<;>intro h575 H
       ·refine yh hR514 (fun h=>ei0 h) H fun h576 H=>?_
        refine zF (e:=v504.1.getD (0:Int).toNat 0) (zI hR514 (zH (l:=v504.1) (tn h576))) ?_
        refine ⟨_,⟨H⟩,⟨rfl⟩,?_⟩
        repeat refine z8 ?_
        trivial
       ·refine ⟨_,⟨H⟩,⟨rfl⟩,?_⟩
        repeat refine z8 ?_
        trivial
  ·intro v556 H
   refine z7 H ?_ ?_<;>intro h578 H
   ·have hfin:=z2 H
    repeat refine zg ?_
    trivial
   ·refine z7 H ?_ ?_<;>intro h589 H
    ·refine yh hR514 (fun h=>ei0 h) H fun h590 H=>?_
     refine zF (e:=v504.1.getD (1:Int).toNat 0) (zI hR514 (zH (l:=v504.1) (tn h590))) ?_
     refine ze H fun h591 H=>?_
     refine z7 H ?_ ?_<;>intro h592 H
     ·have hfin:=z2 H
      repeat refine zg ?_
      trivial
     ·refine z7 H ?_ ?_<;>intro h593 H
      ·have hfin:=z2 H
       repeat refine zg ?_
       trivial
      ·refine And.intro ⟨by decide⟩ ?_
       refine And.intro ⟨by decide⟩ ?_
       refine ze H fun h594 H=>?_
       refine And.intro ⟨by decide⟩ ?_
       refine And.intro ⟨by decide⟩ ?_
       refine ze H fun h595 H=>?_
       have hfin:=z2 H
       repeat refine zg ?_
       trivial
    ·have hfin:=z2 H
     repeat refine zg ?_
     trivial
noncomputable def g58 (a0:List Int):Option ((Int×Int×ByteArray×Int×Bool×Bool×Bool×Bool×Bool)):=
 jn (α:=_) (β:=Int) (fun k626=>
   (yr (σ:=Int) (ρ:=Int) (fun s629=>
     if s629<((a0.length:Nat):Int) then
      (
       ck (0≤s629∧s629<((a0.length:Nat):Int)) <|
       if 48≤(a0.getD s629.toNat 0) then
        (
         ck (0≤s629∧s629<((a0.length:Nat):Int)) <|
         if (a0.getD s629.toNat 0)≤63 then
          (
           ck (inR .i64 (s629+1)) <|
           some (.go (s629+1))
          )
         else
          some (.out s629)
        )
       else
        some (.out s629)
      )
     else
      some (.out s629)
    ) 2).bind fun o643=>
    k626 o643
 ) (fun v625=>
  jn (α:=_) (β:=Int) (fun k681=>
    (yr (σ:=Int) (ρ:=Int) (fun s684=>
      if s684<((a0.length:Nat):Int) then
       (
        ck (0≤s684∧s684<((a0.length:Nat):Int)) <|
        if 32≤(a0.getD s684.toNat 0) then
         (
          ck (0≤s684∧s684<((a0.length:Nat):Int)) <|
          if (a0.getD s684.toNat 0)≤47 then
           (
            ck (inR .i64 (s684+1)) <|
            some (.go (s684+1))
           )
          else
           some (.out s684)
         )
        else
         some (.out s684)
       )
      else
       some (.out s684)
     ) v625).bind fun o698=>
     k681 o698
  ) (fun v680=>
   jn (α:=_) (β:=Unit) (fun k760=>
     if 32≤v680 then
      some (32,0,(⟨#[]⟩:ByteArray),0,false,false,false,false,false)
     else
      (
       if v680=((a0.length:Nat):Int) then
        some (0,0,(⟨#[]⟩:ByteArray),0,false,false,false,false,false)
       else
        (
         jn (α:=_) (β:=Bool) (fun k767=>
           ck (0≤v680∧v680<((a0.length:Nat):Int)) <|
           if (a0.getD v680.toNat 0)<64 then
            k767 true
           else
            (
             ck (0≤v680∧v680<((a0.length:Nat):Int)) <|
             k767 (decide (126<(a0.getD v680.toNat 0)))
            )
         ) (fun v766=>
          if v766=true then
           some (v680,0,(⟨#[]⟩:ByteArray),0,false,false,false,false,false)
          else
           (
            if v625=v680 then
             (
              ck (0≤v680∧v680<((a0.length:Nat):Int)) <|
              if (a0.getD v680.toNat 0)=126 then
               (
                ck (0≤(2:Int)∧(2:Int)≤v680∧v680≤((a0.length:Nat):Int)) <|
                ck (zM ((a0.drop (2:Int).toNat).take (v680.toNat-(2:Int).toNat))) <|
                if (zV ((a0.drop (2:Int).toNat).take (v680.toNat-(2:Int).toNat))).data.toList=(lit [50,48,48]).data.toList then
                 (
                  ck (inR .i64 (v680+1)) <|
                  some (v680+1,0,(⟨#[]⟩:ByteArray),0,false,false,false,false,true)
                 )
                else
                 k760 ()
               )
              else
               k760 ()
             )
            else
             k760 ()
           )
         )
        )
      )
   ) (fun v759=>
    ck (0≤(2:Int)∧(2:Int)≤v680∧v680≤((a0.length:Nat):Int)) <|
    ck (0≤v680∧v680<((a0.length:Nat):Int)) <|
    (g115 ((a0.drop (2:Int).toNat).take (v680.toNat-(2:Int).toNat)) (a0.getD v680.toNat 0)).bind fun v787=>
    ck (inR .i64 (v680+1)) <|
    some (v680+1,v787.1.1,v787.1.2.1,v787.1.2.2.1,v787.1.2.2.2.1,v787.1.2.2.2.2.1,v787.1.2.2.2.2.2,v787.2,false)
   )
  )
 )
noncomputable def k58:Eng.CS:={ f:=58,calm:=true,more:=0,ι:=(List Int)×(Int×Int×ByteArray×Int×Bool×Bool×Bool×Bool×Bool),ok:=fun i=>g58 i.1=some i.2,rds:=fun _=>[],args:=fun i=>[.sl 1 i.1.length (ei .u8 i.1)],res:=fun i=>.agg [.v (.int .i64 (i.2.1)),.v (.int .i64 (i.2.2.1)),.v (.string (i.2.2.2.1)),.v (.int .i64 (i.2.2.2.2.1)),bS i.2.2.2.2.2.1,bS i.2.2.2.2.2.2.1,bS i.2.2.2.2.2.2.2.1,bS i.2.2.2.2.2.2.2.2.1,bS i.2.2.2.2.2.2.2.2.2] }
theorem k58_ok:zw Tryz.prog k58:=by
 refine R.calmspec Tryz.func58 (nq9 Tryz.func58) rfl ?_
 rintro ⟨a0,r⟩ hok q _ args hargs
 match args,hargs with
 | [_],hargs=>
 obtain ⟨⟨A0,cp0,rfl,hc0,_,hR0⟩,_⟩:=hargs
 refine ⟨envC [k115] false [(58,4),(58,7),(58,12),(58,15)],6,zk (zd ⟨fun _=>k115_ok,nofun⟩ (zm)),rfl,(by intro x hx;simp only [List.mem_cons,List.not_mem_nil,or_false] at hx;rcases hx with rfl<;>rfl),?_⟩
 have H:zf (g58 a0) (fun a=>a=r):=⟨r,hok,rfl⟩
 unfold g58 at H
 clear hok
 refine R.cut_fam H 22 [0,2] [] (fun v625=>[(3,.v (.int .i64 (v625)))]) (fun v625=>[]) [(0,.cells 69 [.v (.int .i64 (0)),.v (.int .i64 (0)),.v (.string ((⟨#[]⟩:ByteArray))),.v (.int .i64 (0)),.bb false,.bb false,.bb false,.bb false,.bb false])] 0 (fun H=>?_)
 refine And.intro ?_ ?_
 ·refine R.loop_fam (yn H) [0,2] [] (fun _ s629=>[(3,.v (.int .i64 (s629)))]) (fun _ s629=>[]) 0 (fun n650 H=>?_)
  refine ⟨(n650,_),⟨H⟩,⟨trivial⟩,?_⟩
  repeat refine z8 ?_
  rintro ⟨m0,s629⟩ H _
  obtain ⟨m630,hm0,H⟩:=yv H
  dsimp only at hm0
  subst hm0
  try dsimp only at H
  refine z7 H ?_ ?_<;>intro h644 H
  ·refine yh hR0 (fun h=>ei0 h) H fun h645 H=>?_
   refine zF (e:=a0.getD s629.toNat 0) (zI hR0 (zH (l:=a0) (tn h645))) ?_
   refine z7 H ?_ ?_<;>intro h646 H
   ·refine yh hR0 (fun h=>ei0 h) H fun h647 H=>?_
    refine zF (e:=a0.getD s629.toNat 0) (zI hR0 (zH (l:=a0) (tn h647))) ?_
    refine z7 H ?_ ?_<;>intro h648 H
    ·refine ze H fun h649 H=>?_
     replace H:=zo H
     refine ⟨(m630,s629+1),⟨H,Nat.lt_succ_self _⟩,⟨trivial⟩,⟨rfl⟩,?_⟩
     repeat refine z8 ?_
     trivial
    ·replace H:=zo H
     dsimp only [stp,sm] at H
     refine ⟨s629,⟨H⟩,⟨rfl⟩,?_⟩
     repeat refine z8 ?_
     trivial
   ·replace H:=zo H
    dsimp only [stp,sm] at H
    refine ⟨s629,⟨H⟩,⟨rfl⟩,?_⟩
    repeat refine z8 ?_
    trivial
  ·replace H:=zo H
   dsimp only [stp,sm] at H
   refine ⟨s629,⟨H⟩,⟨rfl⟩,?_⟩
   repeat refine z8 ?_
   trivial
 ·intro v625 H
  refine R.cut_fam H 44 [0,2,4] [] (fun v680=>[(3,.v (.int .i64 (v680)))]) (fun v680=>[]) [(0,.cells 69 [.v (.int .i64 (0)),.v (.int .i64 (0)),.v (.string ((⟨#[]⟩:ByteArray))),.v (.int .i64 (0)),.bb false,.bb false,.bb false,.bb false,.bb false])] 0 (fun H=>?_)
  refine And.intro ?_ ?_
  ·refine R.loop_fam (yn H) [0,2,4] [] (fun _ s684=>[(3,.v (.int .i64 (s684)))]) (fun _ s684=>[]) 0 (fun n705 H=>?_)
   refine ⟨(n705,_),⟨H⟩,⟨trivial⟩,?_⟩
   repeat refine z8 ?_
   rintro ⟨m0,s684⟩ H _
   obtain ⟨m685,hm0,H⟩:=yv H
   dsimp only at hm0
   subst hm0
   try dsimp only at H
   refine z7 H ?_ ?_<;>intro h699 H
   ·refine yh hR0 (fun h=>ei0 h) H fun h700 H=>?_
    refine zF (e:=a0.getD s684.toNat 0) (zI hR0 (zH (l:=a0) (tn h700))) ?_
    refine z7 H ?_ ?_<;>intro h701 H
    ·refine yh hR0 (fun h=>ei0 h) H fun h702 H=>?_
     refine zF (e:=a0.getD s684.toNat 0) (zI hR0 (zH (l:=a0) (tn h702))) ?_
     refine z7 H ?_ ?_<;>intro h703 H
     ·refine ze H fun h704 H=>?_
      replace H:=zo H
      refine ⟨(m685,s684+1),⟨H,Nat.lt_succ_self _⟩,⟨trivial⟩,⟨rfl⟩,?_⟩
      repeat refine z8 ?_
      trivial
     ·replace H:=zo H
      dsimp only [stp,sm] at H
      refine ⟨s684,⟨H⟩,⟨rfl⟩,?_⟩
      repeat refine z8 ?_
      trivial
    ·replace H:=zo H
     dsimp only [stp,sm] at H
     refine ⟨s684,⟨H⟩,⟨rfl⟩,?_⟩
     repeat refine z8 ?_
     trivial
   ·replace H:=zo H
    dsimp only [stp,sm] at H
    refine ⟨s684,⟨H⟩,⟨rfl⟩,?_⟩
    repeat refine z8 ?_
    trivial
  ·intro v680 H
   refine R.cut_fam H 85 [0,2,3] [] (fun v759=>[]) (fun v759=>[]) [(0,.cells 69 [.v (.int .i64 (0)),.v (.int .i64 (0)),.v (.string ((⟨#[]⟩:ByteArray))),.v (.int .i64 (0)),.bb false,.bb false,.bb false,.bb false,.bb false])] 0 (fun H=>?_)
   refine And.intro ?_ ?_
   ·refine z7 H ?_ ?_<;>intro h761 H
    ·have hfin:=z2 H
     repeat refine zg ?_
     trivial
    ·refine z7 H ?_ ?_<;>intro h762 H
     ·have hfin:=z2 H
      repeat refine zg ?_
      trivial
     ·refine R.cut_fam H 66 [0,2,3,4] [] (fun v766=>[(58,bS v766)]) (fun v766=>[]) [(0,.cells 69 [.v (.int .i64 (0)),.v (.int .i64 (0)),.v (.string ((⟨#[]⟩:ByteArray))),.v (.int .i64 (0)),.bb false,.bb false,.bb false,.bb false,.bb false])] 0 (fun H=>?_)
      refine And.intro ?_ ?_
      ·refine yh hR0 (fun h=>ei0 h) H fun h768 H=>?_
       refine zF (e:=a0.getD v680.toNat 0) (zI hR0 (zH (l:=a0) (tn h768))) ?_
       refine z7 H ?_ ?_<;>intro h769 H
       ·refine ⟨true,⟨H⟩,⟨rfl⟩,?_⟩
        repeat refine z8 ?_
        trivial
       ·refine yh hR0 (fun h=>ei0 h) H fun h770 H=>?_
        refine zF (e:=a0.getD v680.toNat 0) (zI hR0 (zH (l:=a0) (tn h770))) ?_
        refine ⟨_,⟨H⟩,⟨rfl⟩,?_⟩
        repeat refine z8 ?_
        trivial
      ·intro v766 H
       refine z7 H ?_ ?_<;>intro h771 H
       ·have hfin:=z2 H
        repeat refine zg ?_
        trivial
       ·refine z7 H ?_ ?_<;>intro h772 H
        ·refine yh hR0 (fun h=>ei0 h) H fun h773 H=>?_
         refine zF (e:=a0.getD v680.toNat 0) (zI hR0 (zH (l:=a0) (tn h773))) ?_
         refine z7 H ?_ ?_<;>intro h774 H
         ·refine ob_sl hc0 H fun h775 H=>?_
          have hs776:=sl_ei hR0 rfl hc0 h775
          intro n777 hn778
          obtain rfl:n777=((a0.drop (2:Int).toNat).take (v680.toNat-(2:Int).toNat)).length:=hn778.trans hs776.2.1.symm
          refine rs_st hs776.1 (by rw [ei_len,Nat.mul_one]) ?_
          refine yA (l:=((a0.drop (2:Int).toNat).take (v680.toNat-(2:Int).toNat))) H fun h779 H=>?_
          refine z7 H ?_ ?_<;>intro h780 H
          ·refine ze H fun h781 H=>?_
           have hfin:=z2 H
           repeat refine zg ?_
           trivial
          ·refine ⟨(),⟨H⟩,⟨rfl⟩,?_⟩
           repeat refine z8 ?_
           trivial
         ·refine ⟨(),⟨H⟩,⟨rfl⟩,?_⟩
          repeat refine z8 ?_
          trivial
        ·refine ⟨(),⟨H⟩,⟨rfl⟩,?_⟩
         repeat refine z8 ?_
         trivial
   ·intro v759 H
    refine And.intro ⟨by kernel_rfl⟩ ?_
    refine ⟨(Pn.calm 0 (Pn.calm 1 (Pn.calm 2 (Pn.calm 3 (Pn.calm 4 (Pn.calm 5 (Pn.calm 6 (Pn.calm 7 (Pn.calm 8 (Pn.calm 9 (Pn.calm 10 (Pn.eff 11 [] (Pn.eff 12 [11,9,7,0,1,2,3,4,5,6,8] (Pn.calm 13 Pn.done) Pn.no) Pn.no)))))))))))),⟨by kernel_rfl⟩,?_⟩
    refine ob_sl hc0 H fun h782 H=>?_
    have hs783:=sl_ei hR0 rfl hc0 h782
    intro n784 hn785
    obtain rfl:n784=((a0.drop (2:Int).toNat).take (v680.toNat-(2:Int).toNat)).length:=hn785.trans hs783.2.1.symm
    refine yh hR0 (fun h=>ei0 h) H fun h786 H=>?_
    refine zF (e:=a0.getD v680.toNat 0) (zI hR0 (zH (l:=a0) (tn h786))) ?_
    obtain ⟨v787,hv788,H⟩:=zc H
    refine ⟨(((a0.drop (2:Int).toNat).take (v680.toNat-(2:Int).toNat)),a0.getD v680.toNat 0,v787),⟨hv788⟩,⟨trivial⟩,?_⟩
    refine And.intro ⟨rfl,(Nat.le_trans (Nat.le_of_eq hs783.2.1) hs783.2.2),ei_len.trans ((show _=_ from rfl).trans (Nat.mul_one _).symm),hs783.1⟩ ?_
    refine ⟨⟨rfl⟩,?_⟩
    refine And.intro ?_ trivial
    refine And.intro ⟨fun _ _ _ h=>h⟩ ?_
    refine And.intro ?_ trivial
    refine And.intro ⟨fun _ _ _ h=>h⟩ ?_
    refine ze H fun h789 H=>?_
    have hfin:=z2 H
    repeat refine zg ?_
    trivial
noncomputable def g22 (a0:List Int):Option ((Int×Int×ByteArray×Int×Bool×Bool×Bool×Bool×Bool)):=
 ck (0≤(0:Int)∧0<((a0.length:Nat):Int)) <|
 if ¬(a0.getD (0:Int).toNat 0)=27 then
  (
   (g57 a0).bind fun v796=>
   some v796
  )
 else
  (
   if ((a0.length:Nat):Int)=1 then
    some (0,0,(⟨#[]⟩:ByteArray),0,false,false,false,false,false)
   else
    (
     ck (0≤(1:Int)∧1<((a0.length:Nat):Int)) <|
     if (a0.getD (1:Int).toNat 0)=27 then
      some (1,5,(⟨#[]⟩:ByteArray),0,false,false,false,true,false)
     else
      (
       if (a0.getD (1:Int).toNat 0)=91 then
        (
         (g58 a0).bind fun v825=>
         some v825
        )
       else
        (
         if (a0.getD (1:Int).toNat 0)=79 then
          (
           if ((a0.length:Nat):Int)=2 then
            some (0,0,(⟨#[]⟩:ByteArray),0,false,false,false,false,false)
           else
            (
             ck (0≤(2:Int)∧2<((a0.length:Nat):Int)) <|
             if (a0.getD (2:Int).toNat 0)<64 then
              some (2,0,(⟨#[]⟩:ByteArray),0,false,false,false,false,false)
             else
              (
               ck (0≤(2:Int)∧2<((a0.length:Nat):Int)) <|
               if 126<(a0.getD (2:Int).toNat 0) then
                some (2,0,(⟨#[]⟩:ByteArray),0,false,false,false,false,false)
               else
                (
                 ck (0≤(2:Int)∧2<((a0.length:Nat):Int)) <|
                 (g59 (a0.getD (2:Int).toNat 0)).bind fun v834=>
                 some (3,v834.1.1,v834.1.2.1,v834.1.2.2.1,v834.1.2.2.2.1,v834.1.2.2.2.2.1,v834.1.2.2.2.2.2,v834.2,false)
                )
              )
            )
          )
         else
          (
           ck (0≤(1:Int)∧(1:Int)≤((a0.length:Nat):Int)∧((a0.length:Nat):Int)≤((a0.length:Nat):Int)) <|
           (g57 ((a0.drop (1:Int).toNat).take (((a0.length:Nat):Int).toNat-(1:Int).toNat))).bind fun v840=>
           if 0<v840.1 then
            (
             ck (inR .i64 (v840.1+1)) <|
             some (v840.1+1,v840.2.1,v840.2.2.1,v840.2.2.2.1,true,v840.2.2.2.2.2.1,v840.2.2.2.2.2.2.1,v840.2.2.2.2.2.2.2.1,v840.2.2.2.2.2.2.2.2)
            )
           else
            some v840
          )
        )
      )
    )
  )
noncomputable def k22:Eng.CS:={ f:=22,calm:=true,more:=0,ι:=(List Int)×(Int×Int×ByteArray×Int×Bool×Bool×Bool×Bool×Bool),ok:=fun i=>g22 i.1=some i.2,rds:=fun _=>[],args:=fun i=>[.sl 1 i.1.length (ei .u8 i.1)],res:=fun i=>.agg [.v (.int .i64 (i.2.1)),.v (.int .i64 (i.2.2.1)),.v (.string (i.2.2.2.1)),.v (.int .i64 (i.2.2.2.2.1)),bS i.2.2.2.2.2.1,bS i.2.2.2.2.2.2.1,bS i.2.2.2.2.2.2.2.1,bS i.2.2.2.2.2.2.2.2.1,bS i.2.2.2.2.2.2.2.2.2] }
theorem k22_ok:zw Tryz.prog k22:=by
 refine R.calmspec Tryz.func22 (nq9 Tryz.func22) rfl ?_
 rintro ⟨a0,r⟩ hok q _ args hargs
 match args,hargs with
 | [_],hargs=>
 obtain ⟨⟨A0,cp0,rfl,hc0,_,hR0⟩,_⟩:=hargs
 refine ⟨envC [k57,k58,k59] false [],6,zk (zd ⟨fun _=>k57_ok,nofun⟩ (zd ⟨fun _=>k58_ok,nofun⟩ (zd ⟨fun _=>k59_ok,nofun⟩ (zm)))),rfl,(by intro x hx;simp only [List.mem_cons,List.not_mem_nil,or_false] at hx;rcases hx with rfl<;>rfl),?_⟩
 have H:zf (g22 a0) (fun a=>a=r):=⟨r,hok,rfl⟩
 unfold g22 at H
 clear hok
 refine yh hR0 (fun h=>ei0 h) H fun h794 H=>?_
 refine zF (e:=a0.getD (0:Int).toNat 0) (zI hR0 (zH (l:=a0) (tn h794))) ?_
 refine z7 H ?_ ?_<;>intro h795 H
 ·obtain ⟨v796,hv797,H⟩:=zc H
  refine ⟨(a0,v796),⟨hv797⟩,⟨trivial⟩,?_⟩
  refine And.intro ⟨rfl,hc0,ei_len.trans ((show _=_ from rfl).trans (Nat.mul_one _).symm),hR0⟩ ?_
  have hfin:=z2 H
  repeat refine zg ?_
  trivial
 ·refine z7 H ?_ ?_<;>intro h799 H
  ·have hfin:=z2 H
   repeat refine zg ?_
   trivial
  ·refine yh hR0 (fun h=>ei0 h) H fun h822 H=>?_
   refine zF (e:=a0.getD (1:Int).toNat 0) (zI hR0 (zH (l:=a0) (tn h822))) ?_
   refine z7 H ?_ ?_<;>intro h823 H
   ·have hfin:=z2 H
    repeat refine zg ?_
    trivial
   ·refine z7 H ?_ ?_<;>intro h824 H
    ·obtain ⟨v825,hv826,H⟩:=zc H
     refine ⟨(a0,v825),⟨hv826⟩,⟨trivial⟩,?_⟩
     refine And.intro ⟨rfl,hc0,ei_len.trans ((show _=_ from rfl).trans (Nat.mul_one _).symm),hR0⟩ ?_
     have hfin:=z2 H
     repeat refine zg ?_
     trivial
    ·refine z7 H ?_ ?_<;>intro h827 H
     ·refine z7 H ?_ ?_<;>intro h828 H
      ·have hfin:=z2 H
       repeat refine zg ?_
       trivial
      ·refine yh hR0 (fun h=>ei0 h) H fun h829 H=>?_
       refine zF (e:=a0.getD (2:Int).toNat 0) (zI hR0 (zH (l:=a0) (tn h829))) ?_
       refine z7 H ?_ ?_<;>intro h830 H
       ·have hfin:=z2 H
        repeat refine zg ?_
        trivial
       ·refine yh hR0 (fun h=>ei0 h) H fun h831 H=>?_
        refine zF (e:=a0.getD (2:Int).toNat 0) (zI hR0 (zH (l:=a0) (tn h831))) ?_
        refine z7 H ?_ ?_<;>intro h832 H
        ·have hfin:=z2 H
         repeat refine zg ?_
         trivial
        ·refine yh hR0 (fun h=>ei0 h) H fun h833 H=>?_
         refine zF (e:=a0.getD (2:Int).toNat 0) (zI hR0 (zH (l:=a0) (tn h833))) ?_
         obtain ⟨v834,hv835,H⟩:=zc H
         refine ⟨(a0.getD (2:Int).toNat 0,v834),⟨hv835⟩,⟨trivial⟩,?_⟩
         refine ⟨⟨rfl⟩,?_⟩
         have hfin:=z2 H
         repeat refine zg ?_
         trivial
     ·refine ob_sl hc0 H fun h836 H=>?_
      have hs837:=sl_ei hR0 rfl hc0 h836
      intro n838 hn839
      obtain rfl:n838=((a0.drop (1:Int).toNat).take (((a0.length:Nat):Int).toNat-(1:Int).toNat)).length:=hn839.trans hs837.2.1.symm
      obtain ⟨v840,hv841,H⟩:=zc H
      refine ⟨(((a0.drop (1:Int).toNat).take (((a0.length:Nat):Int).toNat-(1:Int).toNat)),v840),⟨hv841⟩,⟨trivial⟩,?_⟩
      refine And.intro ⟨rfl,(Nat.le_trans (Nat.le_of_eq hs837.2.1) hs837.2.2),ei_len.trans ((show _=_ from rfl).trans (Nat.mul_one _).symm),hs837.1⟩ ?_
      refine z7 H ?_ ?_<;>intro h844 H
      ·refine ze H fun h845 H=>?_
       have hfin:=z2 H
       repeat refine zg ?_
       trivial
      ·have hfin:=z2 H
       repeat refine zg ?_
       trivial
noncomputable def g21 (a0:List Int):Option (Int):=
 jn (α:=_) (β:=Unit) (fun k894=>
   (yr (σ:=Int) (ρ:=(Int) ⊕ (Unit)) (fun s897=>
     ck (inR .i64 (s897+6)) <|
     if (s897+6)≤((a0.length:Nat):Int) then
      (
       ck (inR .i64 (s897+6)) <|
       ck (0≤s897∧s897≤s897+6∧s897+6≤((a0.length:Nat):Int)) <|
       ck (zM ((a0.drop s897.toNat).take ((s897+6).toNat-s897.toNat))) <|
       if (zV ((a0.drop s897.toNat).take ((s897+6).toNat-s897.toNat))).data.toList=(lit [27,91,50,48,49,126]).data.toList then
        some (.out (.inl (s897)))
       else
        (
         ck (inR .i64 (s897+1)) <|
         some (.go (s897+1))
        )
      )
     else
      some (.out (.inr (())))
    ) 0).bind fun o919=>
   sm o919 (fun o930=>
     some o930
    ) (fun o931=>
     k894 ()
    )
 ) (fun v893=>
  some (-1)
 )
noncomputable def k21:Eng.CS:={ f:=21,calm:=true,more:=0,ι:=(List Int)×Int,ok:=fun i=>g21 i.1=some i.2,rds:=fun _=>[],args:=fun i=>[.sl 1 i.1.length (ei .u8 i.1)],res:=fun i=>.v (.int .i64 (i.2)) }
theorem k21_ok:zw Tryz.prog k21:=by
 refine R.calmspec Tryz.func21 (nq9 Tryz.func21) rfl ?_
 rintro ⟨a0,r⟩ hok q _ args hargs
 match args,hargs with
 | [_],hargs=>
 obtain ⟨⟨A0,cp0,rfl,hc0,_,hR0⟩,_⟩:=hargs
 refine ⟨envC [] false [(21,6)],6,zk (zm),rfl,(by intro x hx;simp only [List.mem_cons,List.not_mem_nil,or_false] at hx;rcases hx with rfl<;>rfl),?_⟩
 have H:zf (g21 a0) (fun a=>a=r):=⟨r,hok,rfl⟩
 unfold g21 at H
 clear hok
 refine R.cut_fam H 9 [] [] (fun v893=>[]) (fun v893=>[]) [] 0 (fun H=>?_)
 refine And.intro ?_ ?_
 ·refine R.loop_fam (yn H) [0] [] (fun _ s897=>[(3,.v (.int .i64 (s897)))]) (fun _ s897=>[]) 0 (fun n932 H=>?_)
  refine ⟨(n932,_),⟨H⟩,⟨trivial⟩,?_⟩
  repeat refine z8 ?_
  rintro ⟨m0,s897⟩ H _
  obtain ⟨m898,hm0,H⟩:=yv H
  dsimp only at hm0
  subst hm0
  try dsimp only at H
  refine ze H fun h920 H=>?_
  refine z7 H ?_ ?_<;>intro h921 H
  ·refine ze H fun h922 H=>?_
   refine ob_sl hc0 H fun h923 H=>?_
   have hs924:=sl_ei hR0 rfl hc0 h923
   intro n925 hn926
   obtain rfl:n925=((a0.drop s897.toNat).take ((s897+6).toNat-s897.toNat)).length:=hn926.trans hs924.2.1.symm
   refine rs_st hs924.1 (by rw [ei_len,Nat.mul_one]) ?_
   refine yA (l:=((a0.drop s897.toNat).take ((s897+6).toNat-s897.toNat))) H fun h927 H=>?_
   refine z7 H ?_ ?_<;>intro h928 H
   ·replace H:=zo H
    dsimp only [stp,sm] at H
    have hfin:=z2 H
    repeat refine zg ?_
    trivial
   ·refine ze H fun h929 H=>?_
    replace H:=zo H
    refine ⟨(m898,s897+1),⟨H,Nat.lt_succ_self _⟩,⟨trivial⟩,⟨rfl⟩,?_⟩
    repeat refine z8 ?_
    trivial
  ·replace H:=zo H
   dsimp only [stp,sm] at H
   refine ⟨(),⟨H⟩,⟨rfl⟩,?_⟩
   repeat refine z8 ?_
   trivial
 ·intro v893 H
  have hfin:=z2 H
  repeat refine zg ?_
  trivial
end Go.Proofs.YtmpknfgjfmgleaaGreatDoor
end
