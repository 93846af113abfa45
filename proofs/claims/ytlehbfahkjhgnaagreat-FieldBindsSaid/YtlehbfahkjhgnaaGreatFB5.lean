/- Texts that the law leans on. -/
import Derived.Test.YtlehbfahkjhgnaaGreatFB4
import Derived.Test.YtlehbfahkjhgnaaGreatFB3
import Derived.Test.YtlehbfahkjhgnaaGreatFB2
import Derived.Shelf.Sort.Plain
import Derived.Ground.Names2Prog
import Derived.Shelf.Slices.Clone
import Derived.Test.YtlehbfahkjhgnaaGreatProg
import Derived.WalkKit
import Derived.WalkSpells
import Derived.WalkLawsBesides
import Derived.Shelf.RegionOpenPlain
import Derived.Lib.Walk
set_option linter.unusedVariables false
set_option linter.unusedSimpArgs false
section
set_option maxRecDepth 8000
set_option maxHeartbeats 4000000
namespace Go.Proofs.YtlehbfahkjhgnaaGreat
open Go Go.Eng
noncomputable def g55 (a0:Int) (a1:Int) (a2:Int):Option (Bool):=
 if a1≤a0 then
  some (decide (a0≤a2))
 else
  some false
noncomputable def k55:Eng.CS:={ f:=55,calm:=true,more:=0,ι:=Int×Int×Int×Bool,ok:=fun i=>g55 i.1 i.2.1 i.2.2.1=some i.2.2.2,rds:=fun _=>[],args:=fun i=>[.w (.v (.int .i64 (i.1))),.w (.v (.int .i64 (i.2.1))),.w (.v (.int .i64 (i.2.2.1)))],res:=fun i=>bS i.2.2.2 }
theorem k55_ok:CalmOk Tryz.prog k55:=by
 refine R.calmspec Tryz.func55 (nq9 Tryz.func55) rfl ?_
 rintro ⟨a0,a1,a2,r⟩ hok q _ args hargs
 match args,hargs with
 | [_,_,_],hargs=>
 obtain ⟨rfl,rfl,rfl,_⟩:=hargs
 refine ⟨envC [] false [],6,envC_ok (css_nil),rfl,(by intro x hx;simp only [List.mem_cons,List.not_mem_nil,or_false] at hx;rcases hx with rfl | rfl | rfl<;>rfl),?_⟩
 have H:Gives (g55 a0 a1 a2) (fun a=>a=r):=⟨r,hok,rfl⟩
 unfold g55 at H
 clear hok
 refine if_st H (fun _ H=>?_) (fun _ H=>?_)
 all_goals
  have hfin:=fin_st H
  repeat refine mf1FB2 ?_
  first | exact trivial | exact rfl
noncomputable def g101 (a0:ByteArray):Option (Bool):=
 (g58 a0).bind fun v2=>
 if v2.data.toList=a0.data.toList then
  (
   (g59 a0).bind fun v5=>
   (g55 ((v5.length:Nat):Int) 1 64).bind fun v7=>
   some v7
  )
 else
  some false
noncomputable def k101:Eng.CS:={ f:=101,calm:=true,more:=0,ι:=ByteArray×Bool,ok:=fun i=>g101 i.1=some i.2,rds:=fun _=>[],args:=fun i=>[.w (.v (.string (i.1)))],res:=fun i=>bS i.2 }
theorem k101_ok:CalmOk Tryz.prog k101:=by
 refine R.calmspec Tryz.func101 (nq9 Tryz.func101) rfl ?_
 rintro ⟨a0,r⟩ hok q _ args hargs
 match args,hargs with
 | [_],hargs=>
 obtain ⟨rfl,_⟩:=hargs
 refine ⟨envC [k55,k58,k59] false [],6,envC_ok (css_cons ⟨fun _=>k55_ok,fun h=>(by cases h)⟩ (css_cons ⟨fun _=>k58_ok,fun h=>(by cases h)⟩ (css_cons ⟨fun h=>(by cases h),fun _=>k59_ok⟩ (css_nil)))),rfl,(by intro x hx;simp only [List.mem_cons,List.not_mem_nil,or_false] at hx;rcases hx with rfl<;>rfl),?_⟩
 have H:Gives (g101 a0) (fun a=>a=r):=⟨r,hok,rfl⟩
 unfold g101 at H
 clear hok
 obtain ⟨v2,hv3,H⟩:=call_st H
 refine ⟨(a0,v2),⟨hv3⟩,⟨trivial⟩,?_⟩
 refine And.intro ⟨rfl⟩ ?_
 refine if_st H (fun h4 H=>?_) (fun h4 H=>?_)
 ·obtain ⟨v5,hv6,H⟩:=call_st H
  refine ⟨(a0,v5),⟨hv6⟩,⟨trivial⟩,?_⟩
  refine And.intro ⟨rfl⟩ ?_
  obtain ⟨v7,hv8,H⟩:=call_st H
  refine ⟨(((v5.length:Nat):Int),1,64,v7),⟨hv8⟩,⟨trivial⟩,?_⟩
  iterate 3 refine And.intro ⟨rfl⟩ ?_
  have hfin:=fin_st H
  repeat refine mf1FB2 ?_
  first | exact trivial | exact rfl
 ·have hfin:=fin_st H
  repeat refine mf1FB2 ?_
  first | exact trivial | exact rfl
noncomputable def g22 (a0:Int):Option (Int):=
 jn (α:=_) (β:=Bool) (fun k39=>
   if a0=1 then
    k39 (decide (a0=1))
   else
    (
     if a0=2 then
      k39 (decide (a0=2))
     else
      (
       if a0=4 then
        k39 (decide (a0=4))
       else
        (
         if a0=6 then
          k39 (decide (a0=6))
         else
          k39 (decide (a0=8))
        )
      )
    )
 ) (fun v38=>
  if v38=true then
   some 2
  else
   (
    if a0=3 then
     (
      if a0=3 then
       some 1
      else
       (
        if a0=5 then
         some 3
        else
         some 0
       )
     )
    else
     (
      if a0=9 then
       (
        if a0=9 then
         some 1
        else
         (
          if a0=5 then
           some 3
          else
           some 0
         )
       )
      else
       (
        if a0=7 then
         some 1
        else
         (
          if a0=5 then
           some 3
          else
           some 0
         )
       )
     )
   )
 )
noncomputable def k22:Eng.CS:={ f:=22,calm:=true,more:=0,ι:=Int×Int,ok:=fun i=>g22 i.1=some i.2,rds:=fun _=>[],args:=fun i=>[.w (.v (.int .i64 (i.1)))],res:=fun i=>.v (.int .i64 (i.2)) }
theorem k22_ok:CalmOk Tryz.prog k22:=by
 refine R.calmspec Tryz.func22 (nq9 Tryz.func22) rfl ?_
 rintro ⟨a0,r⟩ hok q _ args hargs
 match args,hargs with
 | [_],hargs=>
 obtain ⟨rfl,_⟩:=hargs
 refine ⟨envC [] false [(22,7)],6,envC_ok (css_nil),rfl,(by intro x hx;simp only [List.mem_cons,List.not_mem_nil,or_false] at hx;rcases hx with rfl<;>rfl),?_⟩
 have H:Gives (g22 a0) (fun a=>a=r):=⟨r,hok,rfl⟩
 unfold g22 at H
 clear hok
 refine R.cut_fam H 13 [3] [] (fun v38=>[(4,bS v38)]) (fun v38=>[]) [] 0 (fun H=>?_)
 refine And.intro ?_ ?_
 ·refine if_st H (fun h40 H=>?_) (fun h40 H=>?_)
  ·refine ⟨(decide (a0=1)),⟨H⟩,⟨rfl⟩,?_⟩
   repeat refine mo1FB2 ?_
   first | exact trivial | exact rfl
  ·refine if_st H (fun h41 H=>?_) (fun h41 H=>?_)
   ·refine ⟨(decide (a0=2)),⟨H⟩,⟨rfl⟩,?_⟩
    repeat refine mo1FB2 ?_
    first | exact trivial | exact rfl
   ·refine if_st H (fun h42 H=>?_) (fun h42 H=>?_)
    ·refine ⟨(decide (a0=4)),⟨H⟩,⟨rfl⟩,?_⟩
     repeat refine mo1FB2 ?_
     first | exact trivial | exact rfl
    ·refine if_st H (fun h43 H=>?_) (fun h43 H=>?_)
     ·refine ⟨(decide (a0=6)),⟨H⟩,⟨rfl⟩,?_⟩
      repeat refine mo1FB2 ?_
      first | exact trivial | exact rfl
     ·refine ⟨(decide (a0=8)),⟨H⟩,⟨rfl⟩,?_⟩
      repeat refine mo1FB2 ?_
      first | exact trivial | exact rfl
 ·intro v38 H
  repeat' refine if_st H (fun _ H=>?_) (fun _ H=>?_)
  all_goals
   have hfin:=fin_st H
   repeat refine mf1FB2 ?_
   first | exact trivial | exact rfl
noncomputable def g53 (a0:Int):Option (Bool):=
 if a0=6 then
  some true
 else
  (
   if a0=7 then
    some true
   else
    some (decide (a0=8))
  )
noncomputable def k53:Eng.CS:={ f:=53,calm:=true,more:=0,ι:=Int×Bool,ok:=fun i=>g53 i.1=some i.2,rds:=fun _=>[],args:=fun i=>[.w (.v (.int .i64 (i.1)))],res:=fun i=>bS i.2 }
theorem k53_ok:CalmOk Tryz.prog k53:=by
 refine R.calmspec Tryz.func53 (nq9 Tryz.func53) rfl ?_
 rintro ⟨a0,r⟩ hok q _ args hargs
 match args,hargs with
 | [_],hargs=>
 obtain ⟨rfl,_⟩:=hargs
 refine ⟨envC [] false [],6,envC_ok (css_nil),rfl,(by intro x hx;simp only [List.mem_cons,List.not_mem_nil,or_false] at hx;rcases hx with rfl<;>rfl),?_⟩
 have H:Gives (g53 a0) (fun a=>a=r):=⟨r,hok,rfl⟩
 unfold g53 at H
 clear hok
 repeat' refine if_st H (fun _ H=>?_) (fun _ H=>?_)
 all_goals
  have hfin:=fin_st H
  repeat refine mf1FB2 ?_
  first | exact trivial | exact rfl
noncomputable def g57 (a0:Int) (a1:(ByteArray×Int×Bool×List Int×Nat)):Option (Bool):=
 jn (α:=_) (β:=Bool) (fun k60=>
   if a0=1 then
    k60 true
   else
    (
     if a0=2 then
      k60 true
     else
      k60 (decide (a0=4))
    )
 ) (fun v59=>
  jn (α:=_) (β:=Bool) (fun k68=>
    if a0=3 then
     k68 true
    else
     (
      if a0=6 then
       k68 true
      else
       k68 (decide (a0=8))
     )
  ) (fun v67=>
   if v59=true then
    (
     if v67=true then
      (
       if a0=5 then
        (
         if a0=7 then
          (
           if a0=9 then
            some true
           else
            some (decide (FloatKind.f64.format.order a1.2.2.2.2 0=some .eq))
          )
         else
          (
           if ((a1.2.2.2.1.length:Nat):Int)=0 then
            (
             if a0=9 then
              some true
             else
              some (decide (FloatKind.f64.format.order a1.2.2.2.2 0=some .eq))
            )
           else
            some false
          )
        )
       else
        (
         if ¬(a1.2.2.1=true) then
          (
           if a0=7 then
            (
             if a0=9 then
              some true
             else
              some (decide (FloatKind.f64.format.order a1.2.2.2.2 0=some .eq))
            )
           else
            (
             if ((a1.2.2.2.1.length:Nat):Int)=0 then
              (
               if a0=9 then
                some true
               else
                some (decide (FloatKind.f64.format.order a1.2.2.2.2 0=some .eq))
              )
             else
              some false
            )
          )
         else
          some false
        )
      )
     else
      (
       if a1.2.1=0 then
        (
         if a0=5 then
          (
           if a0=7 then
            (
             if a0=9 then
              some true
             else
              some (decide (FloatKind.f64.format.order a1.2.2.2.2 0=some .eq))
            )
           else
            (
             if ((a1.2.2.2.1.length:Nat):Int)=0 then
              (
               if a0=9 then
                some true
               else
                some (decide (FloatKind.f64.format.order a1.2.2.2.2 0=some .eq))
              )
             else
              some false
            )
          )
         else
          (
           if ¬(a1.2.2.1=true) then
            (
             if a0=7 then
              (
               if a0=9 then
                some true
               else
                some (decide (FloatKind.f64.format.order a1.2.2.2.2 0=some .eq))
              )
             else
              (
               if ((a1.2.2.2.1.length:Nat):Int)=0 then
                (
                 if a0=9 then
                  some true
                 else
                  some (decide (FloatKind.f64.format.order a1.2.2.2.2 0=some .eq))
                )
               else
                some false
              )
            )
           else
            some false
          )
        )
       else
        some false
      )
    )
   else
    (
     if a1.1.data.toList=(lit []).data.toList then
      (
       if v67=true then
        (
         if a0=5 then
          (
           if a0=7 then
            (
             if a0=9 then
              some true
             else
              some (decide (FloatKind.f64.format.order a1.2.2.2.2 0=some .eq))
            )
           else
            (
             if ((a1.2.2.2.1.length:Nat):Int)=0 then
              (
               if a0=9 then
                some true
               else
                some (decide (FloatKind.f64.format.order a1.2.2.2.2 0=some .eq))
              )
             else
              some false
            )
          )
         else
          (
           if ¬(a1.2.2.1=true) then
            (
             if a0=7 then
              (
               if a0=9 then
                some true
               else
                some (decide (FloatKind.f64.format.order a1.2.2.2.2 0=some .eq))
              )
             else
              (
               if ((a1.2.2.2.1.length:Nat):Int)=0 then
                (
                 if a0=9 then
                  some true
                 else
                  some (decide (FloatKind.f64.format.order a1.2.2.2.2 0=some .eq))
                )
               else
                some false
              )
            )
           else
            some false
          )
        )
       else
        (
         if a1.2.1=0 then
          (
           if a0=5 then
            (
             if a0=7 then
              (
               if a0=9 then
                some true
               else
                some (decide (FloatKind.f64.format.order a1.2.2.2.2 0=some .eq))
              )
             else
              (
               if ((a1.2.2.2.1.length:Nat):Int)=0 then
                (
                 if a0=9 then
                  some true
                 else
                  some (decide (FloatKind.f64.format.order a1.2.2.2.2 0=some .eq))
                )
               else
                some false
              )
            )
           else
            (
             if ¬(a1.2.2.1=true) then
              (
               if a0=7 then
                (
                 if a0=9 then
                  some true
                 else
                  some (decide (FloatKind.f64.format.order a1.2.2.2.2 0=some .eq))
                )
               else
                (
                 if ((a1.2.2.2.1.length:Nat):Int)=0 then
                  (
                   if a0=9 then
                    some true
                   else
                    some (decide (FloatKind.f64.format.order a1.2.2.2.2 0=some .eq))
                  )
                 else
                  some false
                )
              )
             else
              some false
            )
          )
         else
          some false
        )
      )
     else
      some false
    )
  )
 )
noncomputable def k57:Eng.CS:={ f:=57,calm:=false,more:=0,ι:=Int×(ByteArray×Int×Bool×List Int×Nat)×Bool×((Option Addr×Nat)),ok:=fun i=>g57 i.1 i.2.1=some i.2.2.1∧i.2.1.2.2.2.1.length≤i.2.2.2.2,rds:=fun i=>[(i.2.2.2.1,ei .i64 i.2.1.2.2.2.1)],args:=fun i=>[.w (.v (.int .i64 (i.1))),.w (.agg [.v (.string (i.2.1.1)),.v (.int .i64 (i.2.1.2.1)),bS i.2.1.2.2.1,.v (.slice i.2.2.2.1 i.2.1.2.2.2.1.length i.2.2.2.2),.v (.float .f64 (i.2.1.2.2.2.2))])],res:=fun _=>.bad,rn:=[],gr:=true,γ:=Unit,resG:=fun i _=>bS i.2.2.1,LG:=fun i _=>[],okG:=fun i _=>True,rdsG:=fun i _=>[],fzr:=[] }
theorem k57_ok:CSOk Tryz.prog k57:=by
 refine R.cspecG Tryz.func57 (nq9 Tryz.func57) rfl rfl (fun _=>rfl) ?_
 rintro ⟨a0,a1,r,⟨A1_3,cp1_3⟩⟩ ⟨hok,hc1_3⟩ q hrds args hargs
 obtain ⟨hR1_3,_⟩:=hrds
 dsimp only at hR1_3 hc1_3
 dsimp only [k57] at hargs ⊢
 match args,hargs with
 | [_,_],hargs=>
 obtain ⟨rfl,rfl,_⟩:=hargs
 refine ⟨envC [] false [(57,2),(57,3)],6,envC_ok (css_nil),?_⟩
 have H:Gives (g57 a0 a1) (fun a=>a=r):=⟨r,hok,rfl⟩
 unfold g57 at H
 clear hok
 refine R.cut_fam H 14 [0,3] [] (fun v59=>[(5,bS v59)]) (fun v59=>[]) [(0,.cells 27 [.v (.string (a1.1)),.v (.int .i64 (a1.2.1)),bS a1.2.2.1,.v (.slice (A1_3) (a1.2.2.2.1.length) (cp1_3)),.v (.float .f64 (a1.2.2.2.2))])] 0 (fun H=>?_)
 refine And.intro ?_ ?_
 ·refine if_st H (fun h61 H=>?_) (fun h61 H=>?_)
  ·refine ⟨true,⟨H⟩,⟨rfl⟩,?_⟩
   repeat refine mo1FB2 ?_
   first | exact trivial | exact rfl
  ·refine if_st H (fun h62 H=>?_) (fun h62 H=>?_)
   ·refine ⟨true,⟨H⟩,⟨rfl⟩,?_⟩
    repeat refine mo1FB2 ?_
    first | exact trivial | exact rfl
   ·refine ⟨(decide (a0=4)),⟨H⟩,⟨rfl⟩,?_⟩
    repeat refine mo1FB2 ?_
    first | exact trivial | exact rfl
 ·intro v59 H
  refine R.cut_fam H 26 [0,3,5] [] (fun v67=>[(6,bS v67)]) (fun v67=>[]) [(0,.cells 27 [.v (.string (a1.1)),.v (.int .i64 (a1.2.1)),bS a1.2.2.1,.v (.slice (A1_3) (a1.2.2.2.1.length) (cp1_3)),.v (.float .f64 (a1.2.2.2.2))])] 0 (fun H=>?_)
  refine And.intro ?_ ?_
  ·refine if_st H (fun h69 H=>?_) (fun h69 H=>?_)
   ·refine ⟨true,⟨H⟩,⟨rfl⟩,?_⟩
    repeat refine mo1FB2 ?_
    first | exact trivial | exact rfl
   ·refine if_st H (fun h70 H=>?_) (fun h70 H=>?_)
    ·refine ⟨true,⟨H⟩,⟨rfl⟩,?_⟩
     repeat refine mo1FB2 ?_
     first | exact trivial | exact rfl
    ·refine ⟨(decide (a0=8)),⟨H⟩,⟨rfl⟩,?_⟩
     repeat refine mo1FB2 ?_
     first | exact trivial | exact rfl
  ·intro v67 H
   repeat' refine if_st H (fun _ H=>?_) (fun _ H=>?_)
   all_goals
    have hfin:=fin_st H
    first | subst hfin | rw [←hfin]
    refine ⟨(),⟨trivial⟩,⟨trivial⟩,?_⟩
    repeat refine mo1FB2 ?_
    first | exact trivial | exact rfl
noncomputable def g103 (a0:(Int×ByteArray×ByteArray×List ByteArray×Int×Int×Nat×Nat×Nat×ByteArray×Int×Bool×List Int×Nat×ByteArray×ByteArray)) (a1:Int):Option (Nat):=
 (FloatKind.f64.format.mul (FloatKind.f64.nearest a1) a0.2.2.2.2.2.2.2.2.1).bind fun v117=>
 (FloatKind.f64.format.add a0.2.2.2.2.2.2.1 v117).bind fun v119=>
 some v119
noncomputable def k103:Eng.CS:={ f:=103,calm:=false,more:=0,ι:=(Int×ByteArray×ByteArray×List ByteArray×Int×Int×Nat×Nat×Nat×ByteArray×Int×Bool×List Int×Nat×ByteArray×ByteArray)×Int×Nat×((Option Addr×Nat)×(Option Addr×Nat)),ok:=fun i=>g103 i.1 i.2.1=some i.2.2.1∧i.1.2.2.2.1.length≤i.2.2.2.1.2∧i.1.2.2.2.2.2.2.2.2.2.2.2.2.1.length≤i.2.2.2.2.2,rds:=fun i=>[(i.2.2.2.1.1,es i.1.2.2.2.1),(i.2.2.2.2.1,ei .i64 i.1.2.2.2.2.2.2.2.2.2.2.2.2.1)],args:=fun i=>[.w (.agg [.v (.int .i64 (i.1.1)),.v (.string (i.1.2.1)),.v (.string (i.1.2.2.1)),.v (.slice i.2.2.2.1.1 i.1.2.2.2.1.length i.2.2.2.1.2),.v (.int .i64 (i.1.2.2.2.2.1)),.v (.int .i64 (i.1.2.2.2.2.2.1)),.v (.float .f64 (i.1.2.2.2.2.2.2.1)),.v (.float .f64 (i.1.2.2.2.2.2.2.2.1)),.v (.float .f64 (i.1.2.2.2.2.2.2.2.2.1)),.v (.string (i.1.2.2.2.2.2.2.2.2.2.1)),.v (.int .i64 (i.1.2.2.2.2.2.2.2.2.2.2.1)),bS i.1.2.2.2.2.2.2.2.2.2.2.2.1,.v (.slice i.2.2.2.2.1 i.1.2.2.2.2.2.2.2.2.2.2.2.2.1.length i.2.2.2.2.2),.v (.float .f64 (i.1.2.2.2.2.2.2.2.2.2.2.2.2.2.1)),.v (.string (i.1.2.2.2.2.2.2.2.2.2.2.2.2.2.2.1)),.v (.string (i.1.2.2.2.2.2.2.2.2.2.2.2.2.2.2.2))]),.w (.v (.int .i64 (i.2.1)))],res:=fun _=>.bad,rn:=[],gr:=true,γ:=Unit,resG:=fun i _=>.v (.float .f64 (i.2.2.1)),LG:=fun i _=>[],okG:=fun i _=>True,rdsG:=fun i _=>[],fzr:=[] }
theorem k103_ok:CSOk Tryz.prog k103:=by
 refine R.cspecG Tryz.func103 (nq9 Tryz.func103) rfl rfl (fun _=>rfl) ?_
 rintro ⟨a0,a1,r,⟨⟨A0_3,cp0_3⟩,⟨A0_12,cp0_12⟩⟩⟩ ⟨hok,hc0_3,hc0_12⟩ q hrds args hargs
 obtain ⟨hR0_3,hR0_12,_⟩:=hrds
 dsimp only at hR0_3 hc0_3 hR0_12 hc0_12
 dsimp only [k103] at hargs ⊢
 match args,hargs with
 | [_,_],hargs=>
 obtain ⟨rfl,rfl,_⟩:=hargs
 refine ⟨envC [] false [],6,envC_ok (css_nil),?_⟩
 have H:Gives (g103 a0 a1) (fun a=>a=r):=⟨r,hok,rfl⟩
 unfold g103 at H
 clear hok
 obtain ⟨v117,hv118,H⟩:=call_st H
 refine ob_flt hv118 ?_
 obtain ⟨v119,hv120,H⟩:=call_st H
 refine ob_flt hv120 ?_
 have hfin:=fin_st H
 first | subst hfin | rw [←hfin]
 refine ⟨(),⟨trivial⟩,⟨trivial⟩,?_⟩
 repeat refine mo1FB2 ?_
 first | exact trivial | exact rfl
noncomputable def g56 (a0:(Int×ByteArray×ByteArray×List ByteArray×Int×Int×Nat×Nat×Nat×ByteArray×Int×Bool×List Int×Nat×ByteArray×ByteArray)):Option (Int):=
 if ¬a0.1=9 then
  some 0
 else
  (
   (g102 a0.2.2.2.2.2.2.1).bind fun v145=>
   if ¬(v145=true) then
    some 0
   else
    (
     (g102 a0.2.2.2.2.2.2.2.1).bind fun v148=>
     if ¬(v148=true) then
      some 0
     else
      (
       (g102 a0.2.2.2.2.2.2.2.2.1).bind fun v151=>
       if ¬(v151=true) then
        some 0
       else
        (
         if FloatKind.f64.format.order a0.2.2.2.2.2.2.1 a0.2.2.2.2.2.2.2.1=some .gt then
          some 0
         else
          (
           if ¬(FloatKind.f64.format.order a0.2.2.2.2.2.2.2.2.1 0=some .gt) then
            some 0
           else
            (
             jn (α:=_) (β:=Int) (fun k202=>
               (loopO (σ:=Int) (ρ:=Int) (fun s205=>
                 if s205≤10001 then
                  (
                   (g103 a0 s205).bind fun v228=>
                   if FloatKind.f64.format.order v228 a0.2.2.2.2.2.2.2.1=some .lt∨FloatKind.f64.format.order v228 a0.2.2.2.2.2.2.2.1=some .eq then
                    (
                     ck (inR .i64 (s205+1)) <|
                     some (.go (s205+1))
                    )
                   else
                    some (.out s205)
                  )
                 else
                  some (.out s205)
                ) 0).bind fun o226=>
                k202 o226
             ) (fun v201=>
              if 10001<v201 then
               some 0
              else
               some v201
             )
            )
          )
        )
      )
    )
  )
noncomputable def k56:Eng.CS:={ f:=56,calm:=false,more:=0,ι:=(Int×ByteArray×ByteArray×List ByteArray×Int×Int×Nat×Nat×Nat×ByteArray×Int×Bool×List Int×Nat×ByteArray×ByteArray)×Int×((Option Addr×Nat)×(Option Addr×Nat)),ok:=fun i=>g56 i.1=some i.2.1∧i.1.2.2.2.1.length≤i.2.2.1.2∧i.1.2.2.2.2.2.2.2.2.2.2.2.2.1.length≤i.2.2.2.2,rds:=fun i=>[(i.2.2.1.1,es i.1.2.2.2.1),(i.2.2.2.1,ei .i64 i.1.2.2.2.2.2.2.2.2.2.2.2.2.1)],args:=fun i=>[.w (.agg [.v (.int .i64 (i.1.1)),.v (.string (i.1.2.1)),.v (.string (i.1.2.2.1)),.v (.slice i.2.2.1.1 i.1.2.2.2.1.length i.2.2.1.2),.v (.int .i64 (i.1.2.2.2.2.1)),.v (.int .i64 (i.1.2.2.2.2.2.1)),.v (.float .f64 (i.1.2.2.2.2.2.2.1)),.v (.float .f64 (i.1.2.2.2.2.2.2.2.1)),.v (.float .f64 (i.1.2.2.2.2.2.2.2.2.1)),.v (.string (i.1.2.2.2.2.2.2.2.2.2.1)),.v (.int .i64 (i.1.2.2.2.2.2.2.2.2.2.2.1)),bS i.1.2.2.2.2.2.2.2.2.2.2.2.1,.v (.slice i.2.2.2.1 i.1.2.2.2.2.2.2.2.2.2.2.2.2.1.length i.2.2.2.2),.v (.float .f64 (i.1.2.2.2.2.2.2.2.2.2.2.2.2.2.1)),.v (.string (i.1.2.2.2.2.2.2.2.2.2.2.2.2.2.2.1)),.v (.string (i.1.2.2.2.2.2.2.2.2.2.2.2.2.2.2.2))])],res:=fun _=>.bad,rn:=[],gr:=true,γ:=Unit,resG:=fun i _=>.v (.int .i64 (i.2.1)),LG:=fun i _=>[],okG:=fun i _=>True,rdsG:=fun i _=>[],fzr:=[] }
theorem k56_ok:CSOk Tryz.prog k56:=by
 refine R.cspecG Tryz.func56 (nq9 Tryz.func56) rfl rfl (fun _=>rfl) ?_
 rintro ⟨a0,r,⟨⟨A0_3,cp0_3⟩,⟨A0_12,cp0_12⟩⟩⟩ ⟨hok,hc0_3,hc0_12⟩ q hrds args hargs
 obtain ⟨hR0_3,hR0_12,_⟩:=hrds
 dsimp only at hR0_3 hc0_3 hR0_12 hc0_12
 dsimp only [k56] at hargs ⊢
 match args,hargs with
 | [_],hargs=>
 obtain ⟨rfl,_⟩:=hargs
 refine ⟨envC [k102,k103] false [(56,6)],6,envC_ok (css_cons ⟨fun _=>k102_ok,fun h=>(by cases h)⟩ (css_cons ⟨fun h=>(by cases h),fun _=>k103_ok⟩ (css_nil))),?_⟩
 have H:Gives (g56 a0) (fun a=>a=r):=⟨r,hok,rfl⟩
 unfold g56 at H
 clear hok
 refine if_st H (fun h144 H=>?_) (fun h144 H=>?_)
 ·have hfin:=fin_st H
  first | subst hfin | rw [←hfin]
  refine ⟨(),⟨trivial⟩,⟨trivial⟩,?_⟩
  repeat refine mo1FB2 ?_
  first | exact trivial | exact rfl
 ·obtain ⟨v145,hv146,H⟩:=call_st H
  refine ⟨(a0.2.2.2.2.2.2.1,v145),⟨hv146⟩,⟨trivial⟩,?_⟩
  refine And.intro ⟨rfl⟩ ?_
  refine if_st H (fun h147 H=>?_) (fun h147 H=>?_)
  ·have hfin:=fin_st H
   first | subst hfin | rw [←hfin]
   refine ⟨(),⟨trivial⟩,⟨trivial⟩,?_⟩
   repeat refine mo1FB2 ?_
   first | exact trivial | exact rfl
  ·obtain ⟨v148,hv149,H⟩:=call_st H
   refine ⟨(a0.2.2.2.2.2.2.2.1,v148),⟨hv149⟩,⟨trivial⟩,?_⟩
   refine And.intro ⟨rfl⟩ ?_
   refine if_st H (fun h150 H=>?_) (fun h150 H=>?_)
   ·have hfin:=fin_st H
    first | subst hfin | rw [←hfin]
    refine ⟨(),⟨trivial⟩,⟨trivial⟩,?_⟩
    repeat refine mo1FB2 ?_
    first | exact trivial | exact rfl
   ·obtain ⟨v151,hv152,H⟩:=call_st H
    refine ⟨(a0.2.2.2.2.2.2.2.2.1,v151),⟨hv152⟩,⟨trivial⟩,?_⟩
    refine And.intro ⟨rfl⟩ ?_
    refine if_st H (fun h153 H=>?_) (fun h153 H=>?_)
    ·have hfin:=fin_st H
     first | subst hfin | rw [←hfin]
     refine ⟨(),⟨trivial⟩,⟨trivial⟩,?_⟩
     repeat refine mo1FB2 ?_
     first | exact trivial | exact rfl
    ·refine if_st H (fun h154 H=>?_) (fun h154 H=>?_)
     ·have hfin:=fin_st H
      first | subst hfin | rw [←hfin]
      refine ⟨(),⟨trivial⟩,⟨trivial⟩,?_⟩
      repeat refine mo1FB2 ?_
      first | exact trivial | exact rfl
     ·refine if_st H (fun h155 H=>?_) (fun h155 H=>?_)
      ·have hfin:=fin_st H
       first | subst hfin | rw [←hfin]
       refine ⟨(),⟨trivial⟩,⟨trivial⟩,?_⟩
       repeat refine mo1FB2 ?_
       first | exact trivial | exact rfl
      ·refine R.cut_famG H 40 [] [] [] (fun v201=>[(3,.v (.int .i64 (v201)))]) (fun v201=>[]) [(0,.cells 29 [.v (.int .i64 (a0.1)),.v (.string (a0.2.1)),.v (.string (a0.2.2.1)),.v (.slice (A0_3) (a0.2.2.2.1.length) (cp0_3)),.v (.int .i64 (a0.2.2.2.2.1)),.v (.int .i64 (a0.2.2.2.2.2.1)),.v (.float .f64 (a0.2.2.2.2.2.2.1)),.v (.float .f64 (a0.2.2.2.2.2.2.2.1)),.v (.float .f64 (a0.2.2.2.2.2.2.2.2.1)),.v (.string (a0.2.2.2.2.2.2.2.2.2.1)),.v (.int .i64 (a0.2.2.2.2.2.2.2.2.2.2.1)),bS a0.2.2.2.2.2.2.2.2.2.2.2.1,.v (.slice (A0_12) (a0.2.2.2.2.2.2.2.2.2.2.2.2.1.length) (cp0_12)),.v (.float .f64 (a0.2.2.2.2.2.2.2.2.2.2.2.2.2.1)),.v (.string (a0.2.2.2.2.2.2.2.2.2.2.2.2.2.2.1)),.v (.string (a0.2.2.2.2.2.2.2.2.2.2.2.2.2.2.2))])] 0 (fun H=>?_)
       refine And.intro ?_ ?_
       ·refine R.loop_famG (bind_st H) [1] [] [] (fun _ s205=>[(3,.v (.int .i64 (s205)))]) (fun _ s205=>[]) 0 (fun n237 H=>?_)
        refine ⟨(n237,_),⟨H⟩,⟨trivial⟩,?_⟩
        repeat refine mo1FB2 ?_
        rintro q204 hq203 ⟨m0,s205⟩ H _
        obtain ⟨m206,hm0,H⟩:=IG_succ H
        dsimp only at hm0
        subst hm0
        try dsimp only at H
        refine And.intro ⟨by kernel_rfl⟩ ?_
        refine ⟨(Pn.calm 0 (Pn.calm 1 (Pn.calm 2 (Pn.calm 3 (Pn.calm 4 (Pn.calm 6 (Pn.calm 7 (Pn.eff 5 [3,4,2,1,0] (Pn.calm 8 (Pn.calm 9 Pn.done)) Pn.no)))))))),⟨by kernel_rfl⟩,?_⟩
        refine if_st H (fun h227 H=>?_) (fun h227 H=>?_)
        ·refine And.intro ?_ trivial
         obtain ⟨v228,hv229,H⟩:=call_st H
         refine ⟨(a0,s205,v228,((A0_3,cp0_3),(A0_12,cp0_12))),⟨hv229,hc0_3,hc0_12⟩,⟨⟨(Reads.mono hq203 hR0_3),(Reads.mono hq203 hR0_12),trivial⟩⟩,?_⟩
         iterate 11 refine And.intro ⟨rfl⟩ ?_
         refine mo1FB2 ?_
         iterate 5 refine And.intro ⟨rfl⟩ ?_
         intro q230 g231 hq232 hok233 hrd234
         refine And.intro ⟨fun _ _ _ h=>(hq232 _ _ _ h)⟩ ?_
         refine if_st H (fun h235 H=>?_) (fun h235 H=>?_)
         ·refine ob_ck H fun h236 H=>?_
          replace H:=some_st H
          refine ⟨(m206,s205+1),⟨H,Nat.lt_succ_self _⟩,⟨trivial⟩,⟨fun _ _ _ h=>(hq232 _ _ _ (hq203 _ _ _ h))⟩,?_⟩
          repeat refine mo1FB2 ?_
          first | exact trivial | exact rfl
         ·replace H:=some_st H
          dsimp only [stp,sm] at H
          refine ⟨s205,⟨H⟩,⟨fun _ _ _ h=>(hq232 _ _ _ (hq203 _ _ _ h))⟩,?_⟩
          repeat refine mo1FB2 ?_
          first | exact trivial | exact rfl
        ·refine And.intro ?_ trivial
         replace H:=some_st H
         dsimp only [stp,sm] at H
         refine ⟨s205,⟨H⟩,⟨fun _ _ _ h=>(hq203 _ _ _ h)⟩,?_⟩
         repeat refine mo1FB2 ?_
         first | exact trivial | exact rfl
       ·intro q200 hq199 v201 H
        refine if_st H (fun _ H=>?_) (fun _ H=>?_)
        all_goals
         have hfin:=fin_st H
         first | subst hfin | rw [←hfin]
         refine ⟨(),⟨trivial⟩,⟨trivial⟩,?_⟩
         repeat refine mo1FB2 ?_
         first | exact trivial | exact rfl
noncomputable def g209 (a0:Nat):Option (Bool):=
 (FloatKind.f64.format.div 4607182418800017408 a0).bind fun v240=>
 some (decide (FloatKind.f64.format.order v240 0=some .lt))
noncomputable def k209:Eng.CS:={ f:=209,calm:=true,more:=0,ι:=Nat×Bool,ok:=fun i=>g209 i.1=some i.2,rds:=fun _=>[],args:=fun i=>[.w (.v (.float .f64 (i.1)))],res:=fun i=>bS i.2 }
theorem k209_ok:CalmOk Tryz.prog k209:=by
 refine R.calmspec Tryz.func209 (nq9 Tryz.func209) rfl ?_
 rintro ⟨a0,r⟩ hok q _ args hargs
 match args,hargs with
 | [_],hargs=>
 obtain ⟨rfl,_⟩:=hargs
 refine ⟨envC [] false [],6,envC_ok (css_nil),rfl,(by intro x hx;simp only [List.mem_cons,List.not_mem_nil,or_false] at hx;rcases hx with rfl<;>rfl),?_⟩
 have H:Gives (g209 a0) (fun a=>a=r):=⟨r,hok,rfl⟩
 unfold g209 at H
 clear hok
 obtain ⟨v240,hv241,H⟩:=call_st H
 refine ob_flt hv241 ?_
 have hfin:=fin_st H
 repeat refine mf1FB2 ?_
 first | exact trivial | exact rfl
noncomputable def g169 (a0:(Int×Nat×ByteArray×Bool)) (a1:(Int×Nat×ByteArray×Bool)):Option (Bool):=
 if ¬a0.1=a1.1 then
  some false
 else
  (
   if a0.1=1 then
    (
     if ¬FloatKind.f64.format.order a0.2.1 a0.2.1=some .eq then
      (
       if ¬FloatKind.f64.format.order a0.2.1 a0.2.1=some .eq then
        some (decide (¬FloatKind.f64.format.order a1.2.1 a1.2.1=some .eq))
       else
        some false
      )
     else
      (
       if ¬FloatKind.f64.format.order a1.2.1 a1.2.1=some .eq then
        (
         if ¬FloatKind.f64.format.order a0.2.1 a0.2.1=some .eq then
          some (decide (¬FloatKind.f64.format.order a1.2.1 a1.2.1=some .eq))
         else
          some false
        )
       else
        (
         if FloatKind.f64.format.order a0.2.1 a1.2.1=some .eq then
          (
           if ¬FloatKind.f64.format.order a0.2.1 0=some .eq then
            some true
           else
            (
             (g209 a0.2.1).bind fun v256=>
             (g209 a1.2.1).bind fun v258=>
             some (decide ((v256=true)↔(v258=true)))
            )
          )
         else
          some false
        )
      )
    )
   else
    (
     if a0.1=2 then
      some (decide (a0.2.2.1.data.toList=a1.2.2.1.data.toList))
     else
      (
       if a0.1=3 then
        some (decide ((a0.2.2.2=true)↔(a1.2.2.2=true)))
       else
        some true
      )
    )
  )
noncomputable def k169:Eng.CS:={ f:=169,calm:=true,more:=0,ι:=(Int×Nat×ByteArray×Bool)×(Int×Nat×ByteArray×Bool)×Bool,ok:=fun i=>g169 i.1 i.2.1=some i.2.2,rds:=fun _=>[],args:=fun i=>[.w (.agg [.v (.int .i64 (i.1.1)),.v (.float .f64 (i.1.2.1)),.v (.string (i.1.2.2.1)),bS i.1.2.2.2]),.w (.agg [.v (.int .i64 (i.2.1.1)),.v (.float .f64 (i.2.1.2.1)),.v (.string (i.2.1.2.2.1)),bS i.2.1.2.2.2])],res:=fun i=>bS i.2.2 }
theorem k169_ok:CalmOk Tryz.prog k169:=by
 refine R.calmspec Tryz.func169 (nq9 Tryz.func169) rfl ?_
 rintro ⟨a0,a1,r⟩ hok q _ args hargs
 match args,hargs with
 | [_,_],hargs=>
 obtain ⟨rfl,rfl,_⟩:=hargs
 refine ⟨envC [k209] false [],6,envC_ok (css_cons ⟨fun _=>k209_ok,fun h=>(by cases h)⟩ (css_nil)),rfl,(by intro x hx;simp only [List.mem_cons,List.not_mem_nil,or_false] at hx;rcases hx with rfl | rfl<;>rfl),?_⟩
 have H:Gives (g169 a0 a1) (fun a=>a=r):=⟨r,hok,rfl⟩
 unfold g169 at H
 clear hok
 refine if_st H (fun h243 H=>?_) (fun h243 H=>?_)
 ·have hfin:=fin_st H
  repeat refine mf1FB2 ?_
  first | exact trivial | exact rfl
 ·refine if_st H (fun h244 H=>?_) (fun h244 H=>?_)
  ·refine if_st H (fun h250 H=>?_) (fun h250 H=>?_)
   ·refine if_st H (fun _ H=>?_) (fun _ H=>?_)
    all_goals
     have hfin:=fin_st H
     repeat refine mf1FB2 ?_
     first | exact trivial | exact rfl
   ·refine if_st H (fun h252 H=>?_) (fun h252 H=>?_)
    ·refine if_st H (fun _ H=>?_) (fun _ H=>?_)
     all_goals
      have hfin:=fin_st H
      repeat refine mf1FB2 ?_
      first | exact trivial | exact rfl
    ·refine And.intro ⟨by kernel_rfl⟩ ?_
     refine if_st H (fun h254 H=>?_) (fun h254 H=>?_)
     ·refine if_st H (fun h255 H=>?_) (fun h255 H=>?_)
      ·have hfin:=fin_st H
       repeat refine mf1FB2 ?_
       first | exact trivial | exact rfl
      ·obtain ⟨v256,hv257,H⟩:=call_st H
       refine ⟨(a0.2.1,v256),⟨hv257⟩,⟨trivial⟩,?_⟩
       refine And.intro ⟨rfl⟩ ?_
       obtain ⟨v258,hv259,H⟩:=call_st H
       refine ⟨(a1.2.1,v258),⟨hv259⟩,⟨trivial⟩,?_⟩
       refine And.intro ⟨rfl⟩ ?_
       have hfin:=fin_st H
       repeat refine mf1FB2 ?_
       first | exact trivial | exact rfl
     ·have hfin:=fin_st H
      repeat refine mf1FB2 ?_
      first | exact trivial | exact rfl
  ·repeat' refine if_st H (fun _ H=>?_) (fun _ H=>?_)
   all_goals
    have hfin:=fin_st H
    repeat refine mf1FB2 ?_
    first | exact trivial | exact rfl
noncomputable def g110 (a0:Nat) (a1:Nat):Option (Bool):=
 (g169 (1,a0,(⟨#[]⟩:ByteArray),false) (1,a1,(⟨#[]⟩:ByteArray),false)).bind fun v262=>
 if v262=true then
  some (decide (FloatKind.f64.format.order a0 a0=some .eq))
 else
  some false
noncomputable def k110:Eng.CS:={ f:=110,calm:=true,more:=0,ι:=Nat×Nat×Bool,ok:=fun i=>g110 i.1 i.2.1=some i.2.2,rds:=fun _=>[],args:=fun i=>[.w (.v (.float .f64 (i.1))),.w (.v (.float .f64 (i.2.1)))],res:=fun i=>bS i.2.2 }
theorem k110_ok:CalmOk Tryz.prog k110:=by
 refine R.calmspec Tryz.func110 (nq9 Tryz.func110) rfl ?_
 rintro ⟨a0,a1,r⟩ hok q _ args hargs
 match args,hargs with
 | [_,_],hargs=>
 obtain ⟨rfl,rfl,_⟩:=hargs
 refine ⟨envC [k169] false [],6,envC_ok (css_cons ⟨fun _=>k169_ok,fun h=>(by cases h)⟩ (css_nil)),rfl,(by intro x hx;simp only [List.mem_cons,List.not_mem_nil,or_false] at hx;rcases hx with rfl | rfl<;>rfl),?_⟩
 have H:Gives (g110 a0 a1) (fun a=>a=r):=⟨r,hok,rfl⟩
 unfold g110 at H
 clear hok
 obtain ⟨v262,hv263,H⟩:=call_st H
 refine ⟨((1,a0,(⟨#[]⟩:ByteArray),false),(1,a1,(⟨#[]⟩:ByteArray),false),v262),⟨hv263⟩,⟨trivial⟩,?_⟩
 iterate 8 refine mo1FB2 ?_
 refine if_st H (fun _ H=>?_) (fun _ H=>?_)
 all_goals
  have hfin:=fin_st H
  repeat refine mf1FB2 ?_
  first | exact trivial | exact rfl
noncomputable def g61 (a0:(Int×ByteArray×ByteArray×List ByteArray×Int×Int×Nat×Nat×Nat×ByteArray×Int×Bool×List Int×Nat×ByteArray×ByteArray)) (a1:Nat):Option (Int×Bool):=
 (g56 a0).bind fun v265=>
 jn (α:=_) (β:=Unit) (fun k330=>
   (loopO (σ:=Int) (ρ:=(Int) ⊕ (Unit)) (fun s333=>
     if s333<v265 then
      (
       (g103 a0 s333).bind fun v361=>
       (g110 v361 a1).bind fun v368=>
       if v368=true then
        some (.out (.inl (s333)))
       else
        (
         ck (inR .i64 (s333+1)) <|
         some (.go (s333+1))
        )
      )
     else
      some (.out (.inr (())))
    ) 0).bind fun o359=>
   sm o359 (fun o372=>
     some (o372,true)
    ) (fun o373=>
     k330 ()
    )
 ) (fun v329=>
  some (0,false)
 )
noncomputable def k61:Eng.CS:={ f:=61,calm:=false,more:=0,ι:=(Int×ByteArray×ByteArray×List ByteArray×Int×Int×Nat×Nat×Nat×ByteArray×Int×Bool×List Int×Nat×ByteArray×ByteArray)×Nat×(Int×Bool)×((Option Addr×Nat)×(Option Addr×Nat)),ok:=fun i=>g61 i.1 i.2.1=some i.2.2.1∧i.1.2.2.2.1.length≤i.2.2.2.1.2∧i.1.2.2.2.2.2.2.2.2.2.2.2.2.1.length≤i.2.2.2.2.2,rds:=fun i=>[(i.2.2.2.1.1,es i.1.2.2.2.1),(i.2.2.2.2.1,ei .i64 i.1.2.2.2.2.2.2.2.2.2.2.2.2.1)],args:=fun i=>[.w (.agg [.v (.int .i64 (i.1.1)),.v (.string (i.1.2.1)),.v (.string (i.1.2.2.1)),.v (.slice i.2.2.2.1.1 i.1.2.2.2.1.length i.2.2.2.1.2),.v (.int .i64 (i.1.2.2.2.2.1)),.v (.int .i64 (i.1.2.2.2.2.2.1)),.v (.float .f64 (i.1.2.2.2.2.2.2.1)),.v (.float .f64 (i.1.2.2.2.2.2.2.2.1)),.v (.float .f64 (i.1.2.2.2.2.2.2.2.2.1)),.v (.string (i.1.2.2.2.2.2.2.2.2.2.1)),.v (.int .i64 (i.1.2.2.2.2.2.2.2.2.2.2.1)),bS i.1.2.2.2.2.2.2.2.2.2.2.2.1,.v (.slice i.2.2.2.2.1 i.1.2.2.2.2.2.2.2.2.2.2.2.2.1.length i.2.2.2.2.2),.v (.float .f64 (i.1.2.2.2.2.2.2.2.2.2.2.2.2.2.1)),.v (.string (i.1.2.2.2.2.2.2.2.2.2.2.2.2.2.2.1)),.v (.string (i.1.2.2.2.2.2.2.2.2.2.2.2.2.2.2.2))]),.w (.v (.float .f64 (i.2.1)))],res:=fun _=>.bad,rn:=[],gr:=true,γ:=Unit,resG:=fun i _=>.tup [.v (.int .i64 (i.2.2.1.1)),bS i.2.2.1.2],LG:=fun i _=>[],okG:=fun i _=>True,rdsG:=fun i _=>[],fzr:=[] }
theorem k61_ok:CSOk Tryz.prog k61:=by
 refine R.cspecG Tryz.func61 (nq9 Tryz.func61) rfl rfl (fun _=>rfl) ?_
 rintro ⟨a0,a1,r,⟨⟨A0_3,cp0_3⟩,⟨A0_12,cp0_12⟩⟩⟩ ⟨hok,hc0_3,hc0_12⟩ q hrds args hargs
 obtain ⟨hR0_3,hR0_12,_⟩:=hrds
 dsimp only at hR0_3 hc0_3 hR0_12 hc0_12
 dsimp only [k61] at hargs ⊢
 match args,hargs with
 | [_,_],hargs=>
 obtain ⟨rfl,rfl,_⟩:=hargs
 refine ⟨envC [k56,k103,k110] false [(61,7)],6,envC_ok (css_cons ⟨fun h=>(by cases h),fun _=>k56_ok⟩ (css_cons ⟨fun h=>(by cases h),fun _=>k103_ok⟩ (css_cons ⟨fun _=>k110_ok,fun h=>(by cases h)⟩ (css_nil)))),?_⟩
 have H:Gives (g61 a0 a1) (fun a=>a=r):=⟨r,hok,rfl⟩
 unfold g61 at H
 clear hok
 obtain ⟨v265,hv266,H⟩:=call_st H
 refine ⟨(a0,v265,((A0_3,cp0_3),(A0_12,cp0_12))),⟨hv266,hc0_3,hc0_12⟩,⟨⟨hR0_3,hR0_12,trivial⟩⟩,?_⟩
 iterate 11 refine And.intro ⟨rfl⟩ ?_
 refine mo1FB2 ?_
 iterate 4 refine And.intro ⟨rfl⟩ ?_
 intro q267 g268 hq269 hok270 hrd271
 refine R.cut_famG H 12 [] [] [] (fun v329=>[]) (fun v329=>[]) [(0,.cells 29 [.v (.int .i64 (a0.1)),.v (.string (a0.2.1)),.v (.string (a0.2.2.1)),.v (.slice (A0_3) (a0.2.2.2.1.length) (cp0_3)),.v (.int .i64 (a0.2.2.2.2.1)),.v (.int .i64 (a0.2.2.2.2.2.1)),.v (.float .f64 (a0.2.2.2.2.2.2.1)),.v (.float .f64 (a0.2.2.2.2.2.2.2.1)),.v (.float .f64 (a0.2.2.2.2.2.2.2.2.1)),.v (.string (a0.2.2.2.2.2.2.2.2.2.1)),.v (.int .i64 (a0.2.2.2.2.2.2.2.2.2.2.1)),bS a0.2.2.2.2.2.2.2.2.2.2.2.1,.v (.slice (A0_12) (a0.2.2.2.2.2.2.2.2.2.2.2.2.1.length) (cp0_12)),.v (.float .f64 (a0.2.2.2.2.2.2.2.2.2.2.2.2.2.1)),.v (.string (a0.2.2.2.2.2.2.2.2.2.2.2.2.2.2.1)),.v (.string (a0.2.2.2.2.2.2.2.2.2.2.2.2.2.2.2))])] 0 (fun H=>?_)
 refine And.intro ?_ ?_
 ·refine R.loop_famG (bind_st H) [1,2,6] [] [] (fun _ s333=>[(7,.v (.int .i64 (s333)))]) (fun _ s333=>[]) 0 (fun n374 H=>?_)
  refine ⟨(n374,_),⟨H⟩,⟨trivial⟩,?_⟩
  repeat refine mo1FB2 ?_
  rintro q332 hq331 ⟨m0,s333⟩ H _
  obtain ⟨m334,hm0,H⟩:=IG_succ H
  dsimp only at hm0
  subst hm0
  try dsimp only at H
  refine if_st H (fun h360 H=>?_) (fun h360 H=>?_)
  ·obtain ⟨v361,hv362,H⟩:=call_st H
   refine ⟨(a0,s333,v361,((A0_3,cp0_3),(A0_12,cp0_12))),⟨hv362,hc0_3,hc0_12⟩,⟨⟨(Reads.mono hq331 (Reads.mono hq269 hR0_3)),(Reads.mono hq331 (Reads.mono hq269 hR0_12)),trivial⟩⟩,?_⟩
   iterate 11 refine And.intro ⟨rfl⟩ ?_
   refine mo1FB2 ?_
   iterate 5 refine And.intro ⟨rfl⟩ ?_
   intro q363 g364 hq365 hok366 hrd367
   obtain ⟨v368,hv369,H⟩:=call_st H
   refine ⟨(v361,a1,v368),⟨hv369⟩,⟨trivial⟩,?_⟩
   iterate 2 refine And.intro ⟨rfl⟩ ?_
   refine if_st H (fun h370 H=>?_) (fun h370 H=>?_)
   ·replace H:=some_st H
    dsimp only [stp,sm] at H
    have hfin:=fin_st H
    first | subst hfin | rw [←hfin]
    refine ⟨(),⟨trivial⟩,⟨trivial⟩,?_⟩
    repeat refine mo1FB2 ?_
    first | exact trivial | exact rfl
   ·refine ob_ck H fun h371 H=>?_
    replace H:=some_st H
    refine ⟨(m334,s333+1),⟨H,Nat.lt_succ_self _⟩,⟨trivial⟩,⟨fun _ _ _ h=>(hq365 _ _ _ (hq331 _ _ _ h))⟩,?_⟩
    repeat refine mo1FB2 ?_
    first | exact trivial | exact rfl
  ·replace H:=some_st H
   dsimp only [stp,sm] at H
   refine ⟨(),⟨H⟩,⟨fun _ _ _ h=>(hq331 _ _ _ h)⟩,?_⟩
   repeat refine mo1FB2 ?_
   first | exact trivial | exact rfl
 ·intro q328 hq327 v329 H
  have hfin:=fin_st H
  first | subst hfin | rw [←hfin]
  refine ⟨(),⟨trivial⟩,⟨trivial⟩,?_⟩
  repeat refine mo1FB2 ?_
  first | exact trivial | exact rfl
noncomputable def g54 (a0:List ByteArray):Option (Bool):=
 (g55 ((a0.length:Nat):Int) 1 256).bind fun v378=>
 if ¬(v378=true) then
  some false
 else
  (
   jn (α:=_) (β:=Unit) (fun k538=>
     (loopO (σ:=Int) (ρ:=(Unit) ⊕ (Unit)) (fun s541=>
       if s541<((a0.length:Nat):Int) then
        (
         jn (α:=_) (β:=Unit) (fun k655=>
           ck (0≤s541∧s541<((a0.length:Nat):Int)) <|
           (g101 (a0.getD s541.toNat default)).bind fun v657=>
           if ¬(v657=true) then
            some (.out (.inl (())))
           else
            (
             (loopO (σ:=Int) (ρ:=(Unit) ⊕ (Unit)) (fun s662=>
               if s662<s541 then
                (
                 ck (0≤s662∧s662<((a0.length:Nat):Int)) <|
                 ck (0≤s541∧s541<((a0.length:Nat):Int)) <|
                 if (a0.getD s662.toNat default).data.toList=(a0.getD s541.toNat default).data.toList then
                  some (.out (.inl (())))
                 else
                  (
                   ck (inR .i64 (s662+1)) <|
                   some (.go (s662+1))
                  )
                )
               else
                some (.out (.inr (())))
              ) 0).bind fun o674=>
             sm o674 (fun o680=>
               some (.out (.inl (())))
              ) (fun o681=>
               k655 ()
              )
            )
         ) (fun v654=>
          ck (inR .i64 (s541+1)) <|
          some (.go (s541+1))
         )
        )
       else
        some (.out (.inr (())))
      ) 0).bind fun o625=>
     sm o625 (fun o684=>
       some false
      ) (fun o685=>
       k538 ()
      )
   ) (fun v537=>
    some true
   )
  )
noncomputable def k54:Eng.CS:={ f:=54,calm:=true,more:=0,ι:=(List ByteArray)×Bool,ok:=fun i=>g54 i.1=some i.2,rds:=fun _=>[],args:=fun i=>[.sl 1 i.1.length (es i.1)],res:=fun i=>bS i.2 }
theorem k54_ok:CalmOk Tryz.prog k54:=by
 refine R.calmspec Tryz.func54 (nq9 Tryz.func54) rfl ?_
 rintro ⟨a0,r⟩ hok q _ args hargs
 match args,hargs with
 | [_],hargs=>
 obtain ⟨⟨A0,cp0,rfl,hc0,_,hR0⟩,_⟩:=hargs
 refine ⟨envC [k55,k101] false [(54,5),(54,13)],6,envC_ok (css_cons ⟨fun _=>k55_ok,fun h=>(by cases h)⟩ (css_cons ⟨fun _=>k101_ok,fun h=>(by cases h)⟩ (css_nil))),rfl,(by intro x hx;simp only [List.mem_cons,List.not_mem_nil,or_false] at hx;rcases hx with rfl<;>rfl),?_⟩
 have H:Gives (g54 a0) (fun a=>a=r):=⟨r,hok,rfl⟩
 unfold g54 at H
 clear hok
 obtain ⟨v378,hv379,H⟩:=call_st H
 refine ⟨(((a0.length:Nat):Int),1,256,v378),⟨hv379⟩,⟨trivial⟩,?_⟩
 iterate 3 refine And.intro ⟨rfl⟩ ?_
 refine if_st H (fun h380 H=>?_) (fun h380 H=>?_)
 ·have hfin:=fin_st H
  repeat refine mf1FB2 ?_
  first | exact trivial | exact rfl
 ·refine R.cut_fam H 12 [] [] (fun v537=>[]) (fun v537=>[]) [] 0 (fun H=>?_)
  refine And.intro ?_ ?_
  ·refine R.loop_fam (bind_st H) [0] [] (fun _ s541=>[(3,.v (.int .i64 (s541)))]) (fun _ s541=>[]) 0 (fun n686 H=>?_)
   refine ⟨(n686,_),⟨H⟩,⟨trivial⟩,?_⟩
   repeat refine mo1FB2 ?_
   rintro ⟨m0,s541⟩ H _
   obtain ⟨m542,hm0,H⟩:=IG_succ H
   dsimp only at hm0
   subst hm0
   try dsimp only at H
   refine if_st H (fun h626 H=>?_) (fun h626 H=>?_)
   ·refine R.cut_fam H 22 [0,3] [] (fun v654=>[]) (fun v654=>[]) [] 0 (fun H=>?_)
    refine And.intro ?_ ?_
    ·refine ob_ix hR0 (fun h=>es0 h) H fun h656 H=>?_
     refine ld_str (e:=a0.getD s541.toNat default) (rd_get hR0 (es_get (l:=a0) (tn h656))) ?_
     obtain ⟨v657,hv658,H⟩:=call_st H
     refine ⟨(a0.getD s541.toNat default,v657),⟨hv658⟩,⟨trivial⟩,?_⟩
     refine And.intro ⟨rfl⟩ ?_
     refine if_st H (fun h659 H=>?_) (fun h659 H=>?_)
     ·replace H:=some_st H
      dsimp only [stp,sm] at H
      have hfin:=fin_st H
      repeat refine mf1FB2 ?_
      first | exact trivial | exact rfl
     ·refine R.loop_fam (bind_st H) [0,3] [] (fun _ s662=>[(4,.v (.int .i64 (s662)))]) (fun _ s662=>[]) 0 (fun n682 H=>?_)
      refine ⟨(n682,_),⟨H⟩,⟨trivial⟩,?_⟩
      repeat refine mo1FB2 ?_
      rintro ⟨m0,s662⟩ H _
      obtain ⟨m663,hm0,H⟩:=IG_succ H
      dsimp only at hm0
      subst hm0
      try dsimp only at H
      refine if_st H (fun h675 H=>?_) (fun h675 H=>?_)
      ·refine And.intro ⟨by kernel_rfl⟩ ?_
       refine ob_ix hR0 (fun h=>es0 h) H fun h676 H=>?_
       refine ld_str (e:=a0.getD s662.toNat default) (rd_get hR0 (es_get (l:=a0) (tn h676))) ?_
       refine ob_ix hR0 (fun h=>es0 h) H fun h677 H=>?_
       refine ld_str (e:=a0.getD s541.toNat default) (rd_get hR0 (es_get (l:=a0) (tn h677))) ?_
       refine if_st H (fun h678 H=>?_) (fun h678 H=>?_)
       ·replace H:=some_st H
        dsimp only [stp,sm] at H
        replace H:=some_st H
        dsimp only [stp,sm] at H
        have hfin:=fin_st H
        repeat refine mf1FB2 ?_
        first | exact trivial | exact rfl
       ·refine ob_ck H fun h679 H=>?_
        replace H:=some_st H
        refine ⟨(m663,s662+1),⟨H,Nat.lt_succ_self _⟩,⟨trivial⟩,⟨rfl⟩,?_⟩
        repeat refine mo1FB2 ?_
        first | exact trivial | exact rfl
      ·replace H:=some_st H
       dsimp only [stp,sm] at H
       refine ⟨(),⟨H⟩,⟨rfl⟩,?_⟩
       repeat refine mo1FB2 ?_
       first | exact trivial | exact rfl
    ·intro v654 H
     refine ob_ck H fun h683 H=>?_
     replace H:=some_st H
     refine ⟨(m542,s541+1),⟨H,Nat.lt_succ_self _⟩,⟨trivial⟩,⟨rfl⟩,?_⟩
     repeat refine mo1FB2 ?_
     first | exact trivial | exact rfl
   ·replace H:=some_st H
    dsimp only [stp,sm] at H
    refine ⟨(),⟨H⟩,⟨rfl⟩,?_⟩
    repeat refine mo1FB2 ?_
    first | exact trivial | exact rfl
  ·intro v537 H
   have hfin:=fin_st H
   repeat refine mf1FB2 ?_
   first | exact trivial | exact rfl
noncomputable def g228 (a0:Int):Option (Bool):=
 if 1≤a0 then
  (
   if a0≤9999 then
    (
     if (Int.tmod a0 4)=0 then
      (
       if ¬(Int.tmod a0 100)=0 then
        some true
       else
        some (decide ((Int.tmod a0 400)=0))
      )
     else
      some false
    )
   else
    some false
  )
 else
  some false
noncomputable def k228:Eng.CS:={ f:=228,calm:=true,more:=0,ι:=Int×Bool,ok:=fun i=>g228 i.1=some i.2,rds:=fun _=>[],args:=fun i=>[.w (.v (.int .i64 (i.1)))],res:=fun i=>bS i.2 }
theorem k228_ok:CalmOk Tryz.prog k228:=by
 refine R.calmspec Tryz.func228 (nq9 Tryz.func228) rfl ?_
 rintro ⟨a0,r⟩ hok q _ args hargs
 match args,hargs with
 | [_],hargs=>
 obtain ⟨rfl,_⟩:=hargs
 refine ⟨envC [] false [],6,envC_ok (css_nil),rfl,(by intro x hx;simp only [List.mem_cons,List.not_mem_nil,or_false] at hx;rcases hx with rfl<;>rfl),?_⟩
 have H:Gives (g228 a0) (fun a=>a=r):=⟨r,hok,rfl⟩
 unfold g228 at H
 clear hok
 refine if_st H (fun h687 H=>?_) (fun h687 H=>?_)
 ·refine if_st H (fun h688 H=>?_) (fun h688 H=>?_)
  ·refine And.intro ⟨by decide⟩ ?_
   refine if_st H (fun h689 H=>?_) (fun h689 H=>?_)
   ·refine And.intro ⟨by decide⟩ ?_
    refine if_st H (fun h690 H=>?_) (fun h690 H=>?_)
    ·have hfin:=fin_st H
     repeat refine mf1FB2 ?_
     first | exact trivial | exact rfl
    ·refine And.intro ⟨by decide⟩ ?_
     have hfin:=fin_st H
     repeat refine mf1FB2 ?_
     first | exact trivial | exact rfl
   ·have hfin:=fin_st H
    repeat refine mf1FB2 ?_
    first | exact trivial | exact rfl
  ·have hfin:=fin_st H
   repeat refine mf1FB2 ?_
   first | exact trivial | exact rfl
 ·have hfin:=fin_st H
  repeat refine mf1FB2 ?_
  first | exact trivial | exact rfl
noncomputable def g208 (a0:Int) (a1:Int):Option (Int):=
 if a0<1 then
  some 0
 else
  (
   if 9999<a0 then
    some 0
   else
    (
     if a1<1 then
      some 0
     else
      (
       if 12<a1 then
        some 0
       else
        (
         if a1=2 then
          (
           (g228 a0).bind fun v710=>
           if v710=true then
            some 29
           else
            some 28
          )
         else
          (
           if a1=4 then
            some 30
           else
            (
             if a1=6 then
              some 30
             else
              (
               if a1=9 then
                some 30
               else
                (
                 if a1=11 then
                  some 30
                 else
                  some 31
                )
              )
            )
          )
        )
      )
    )
  )
noncomputable def k208:Eng.CS:={ f:=208,calm:=true,more:=0,ι:=Int×Int×Int,ok:=fun i=>g208 i.1 i.2.1=some i.2.2,rds:=fun _=>[],args:=fun i=>[.w (.v (.int .i64 (i.1))),.w (.v (.int .i64 (i.2.1)))],res:=fun i=>.v (.int .i64 (i.2.2)) }
theorem k208_ok:CalmOk Tryz.prog k208:=by
 refine R.calmspec Tryz.func208 (nq9 Tryz.func208) rfl ?_
 rintro ⟨a0,a1,r⟩ hok q _ args hargs
 match args,hargs with
 | [_,_],hargs=>
 obtain ⟨rfl,rfl,_⟩:=hargs
 refine ⟨envC [k228] false [],6,envC_ok (css_cons ⟨fun _=>k228_ok,fun h=>(by cases h)⟩ (css_nil)),rfl,(by intro x hx;simp only [List.mem_cons,List.not_mem_nil,or_false] at hx;rcases hx with rfl | rfl<;>rfl),?_⟩
 have H:Gives (g208 a0 a1) (fun a=>a=r):=⟨r,hok,rfl⟩
 unfold g208 at H
 clear hok
 refine if_st H (fun h698 H=>?_) (fun h698 H=>?_)
 ·have hfin:=fin_st H
  repeat refine mf1FB2 ?_
  first | exact trivial | exact rfl
 ·refine if_st H (fun h699 H=>?_) (fun h699 H=>?_)
  ·have hfin:=fin_st H
   repeat refine mf1FB2 ?_
   first | exact trivial | exact rfl
  ·refine if_st H (fun h700 H=>?_) (fun h700 H=>?_)
   ·have hfin:=fin_st H
    repeat refine mf1FB2 ?_
    first | exact trivial | exact rfl
   ·refine if_st H (fun h701 H=>?_) (fun h701 H=>?_)
    ·have hfin:=fin_st H
     repeat refine mf1FB2 ?_
     first | exact trivial | exact rfl
    ·refine if_st H (fun h709 H=>?_) (fun h709 H=>?_)
     ·obtain ⟨v710,hv711,H⟩:=call_st H
      refine ⟨(a0,v710),⟨hv711⟩,⟨trivial⟩,?_⟩
      refine And.intro ⟨rfl⟩ ?_
      refine if_st H (fun _ H=>?_) (fun _ H=>?_)
      all_goals
       have hfin:=fin_st H
       repeat refine mf1FB2 ?_
       first | exact trivial | exact rfl
     ·repeat' refine if_st H (fun _ H=>?_) (fun _ H=>?_)
      all_goals
       have hfin:=fin_st H
       repeat refine mf1FB2 ?_
       first | exact trivial | exact rfl
noncomputable def g168 (a0:(Int×Int×Int)):Option (Bool):=
 if 1≤a0.2.2 then
  (
   (g208 a0.1 a0.2.1).bind fun v725=>
   some (decide (a0.2.2≤v725))
  )
 else
  some false
noncomputable def k168:Eng.CS:={ f:=168,calm:=true,more:=0,ι:=(Int×Int×Int)×Bool,ok:=fun i=>g168 i.1=some i.2,rds:=fun _=>[],args:=fun i=>[.w (.agg [.v (.int .i64 (i.1.1)),.v (.int .i64 (i.1.2.1)),.v (.int .i64 (i.1.2.2))])],res:=fun i=>bS i.2 }
theorem k168_ok:CalmOk Tryz.prog k168:=by
 refine R.calmspec Tryz.func168 (nq9 Tryz.func168) rfl ?_
 rintro ⟨a0,r⟩ hok q _ args hargs
 match args,hargs with
 | [_],hargs=>
 obtain ⟨rfl,_⟩:=hargs
 refine ⟨envC [k208] false [],6,envC_ok (css_cons ⟨fun _=>k208_ok,fun h=>(by cases h)⟩ (css_nil)),rfl,(by intro x hx;simp only [List.mem_cons,List.not_mem_nil,or_false] at hx;rcases hx with rfl<;>rfl),?_⟩
 have H:Gives (g168 a0) (fun a=>a=r):=⟨r,hok,rfl⟩
 unfold g168 at H
 clear hok
 refine And.intro ⟨by kernel_rfl⟩ ?_
 refine if_st H (fun h724 H=>?_) (fun h724 H=>?_)
 ·obtain ⟨v725,hv726,H⟩:=call_st H
  refine ⟨(a0.1,a0.2.1,v725),⟨hv726⟩,⟨trivial⟩,?_⟩
  iterate 2 refine And.intro ⟨rfl⟩ ?_
  have hfin:=fin_st H
  repeat refine mf1FB2 ?_
  first | exact trivial | exact rfl
 ·have hfin:=fin_st H
  repeat refine mf1FB2 ?_
  first | exact trivial | exact rfl
noncomputable def g167 (a0:ByteArray):Option (Int):=
 jn (α:=_) (β:=Int) (fun k786=>
   (loopO (σ:=Int×Int) (ρ:=(Unit) ⊕ (Int)) (fun s789=>
     if s789.2<(a0.size:Int) then
      (
       ck (0≤s789.2∧s789.2<(a0.size:Int)) <|
       if ((a0.data.toList[s789.2.toNat]?.getD 0).toNat:Int)<48 then
        some (.out (.inl (())))
       else
        (
         ck (0≤s789.2∧s789.2<(a0.size:Int)) <|
         if 57<((a0.data.toList[s789.2.toNat]?.getD 0).toNat:Int) then
          some (.out (.inl (())))
         else
          (
           ck (inR .i64 (s789.1 * 10)) <|
           ck (0≤s789.2∧s789.2<(a0.size:Int)) <|
           ck (inR .u8 (((a0.data.toList[s789.2.toNat]?.getD 0).toNat:Int)-48)) <|
           ck (inR .i64 (((a0.data.toList[s789.2.toNat]?.getD 0).toNat:Int)-48)) <|
           ck (inR .i64 ((s789.1 * 10)+(((a0.data.toList[s789.2.toNat]?.getD 0).toNat:Int)-48))) <|
           ck (inR .i64 (s789.2+1)) <|
           some (.go ((s789.1 * 10)+(((a0.data.toList[s789.2.toNat]?.getD 0).toNat:Int)-48),s789.2+1))
          )
        )
      )
     else
      some (.out (.inr (s789.1)))
    ) (0,0)).bind fun o813=>
   sm o813 (fun o825=>
     some (-1)
    ) (fun o826=>
     k786 o826
    )
 ) (fun v785=>
  some v785
 )
noncomputable def k167:Eng.CS:={ f:=167,calm:=true,more:=0,ι:=ByteArray×Int,ok:=fun i=>g167 i.1=some i.2,rds:=fun _=>[],args:=fun i=>[.w (.v (.string (i.1)))],res:=fun i=>.v (.int .i64 (i.2)) }
theorem k167_ok:CalmOk Tryz.prog k167:=by
 refine R.calmspec Tryz.func167 (nq9 Tryz.func167) rfl ?_
 rintro ⟨a0,r⟩ hok q _ args hargs
 match args,hargs with
 | [_],hargs=>
 obtain ⟨rfl,_⟩:=hargs
 refine ⟨envC [] false [(167,8)],6,envC_ok (css_nil),rfl,(by intro x hx;simp only [List.mem_cons,List.not_mem_nil,or_false] at hx;rcases hx with rfl<;>rfl),?_⟩
 have H:Gives (g167 a0) (fun a=>a=r):=⟨r,hok,rfl⟩
 unfold g167 at H
 clear hok
 refine R.cut_fam H 9 [] [] (fun v785=>[(3,.v (.int .i64 (v785)))]) (fun v785=>[]) [] 0 (fun H=>?_)
 refine And.intro ?_ ?_
 ·refine R.loop_fam (bind_st H) [0] [] (fun _ s789=>[(3,.v (.int .i64 (s789.1))),(4,.v (.int .i64 (s789.2)))]) (fun _ s789=>[]) 0 (fun n827 H=>?_)
  refine ⟨(n827,_),⟨H⟩,⟨trivial⟩,?_⟩
  repeat refine mo1FB2 ?_
  rintro ⟨m0,s789⟩ H _
  obtain ⟨m790,hm0,H⟩:=IG_succ H
  dsimp only at hm0
  subst hm0
  try dsimp only at H
  refine if_st H (fun h814 H=>?_) (fun h814 H=>?_)
  ·refine ob_ck H fun h815 H=>?_
   refine if_st H (fun h816 H=>?_) (fun h816 H=>?_)
   ·replace H:=some_st H
    dsimp only [stp,sm] at H
    have hfin:=fin_st H
    repeat refine mf1FB2 ?_
    first | exact trivial | exact rfl
   ·refine ob_ck H fun h817 H=>?_
    refine if_st H (fun h818 H=>?_) (fun h818 H=>?_)
    ·replace H:=some_st H
     dsimp only [stp,sm] at H
     have hfin:=fin_st H
     repeat refine mf1FB2 ?_
     first | exact trivial | exact rfl
    ·refine ob_ck H fun h819 H=>?_
     refine ob_ck H fun h820 H=>?_
     refine ob_ck H fun h821 H=>?_
     refine ob_ck H fun h822 H=>?_
     refine ob_ck H fun h823 H=>?_
     refine ob_ck H fun h824 H=>?_
     replace H:=some_st H
     refine ⟨(m790,((s789.1 * 10)+(((a0.data.toList[s789.2.toNat]?.getD 0).toNat:Int)-48),s789.2+1)),⟨H,Nat.lt_succ_self _⟩,⟨trivial⟩,⟨rfl⟩,?_⟩
     repeat refine mo1FB2 ?_
     first | exact trivial | exact rfl
  ·replace H:=some_st H
   dsimp only [stp,sm] at H
   refine ⟨s789.1,⟨H⟩,⟨rfl⟩,?_⟩
   repeat refine mo1FB2 ?_
   first | exact trivial | exact rfl
 ·intro v785 H
  have hfin:=fin_st H
  repeat refine mf1FB2 ?_
  first | exact trivial | exact rfl
noncomputable def g109 (a0:ByteArray):Option ((Int×Int×Int)×Bool):=
 if ¬(a0.size:Int)=10 then
  some ((0,0,0),false)
 else
  (
   ck (0≤(4:Int)∧4<(a0.size:Int)) <|
   if ¬((a0.data.toList[(4:Int).toNat]?.getD 0).toNat:Int)=45 then
    some ((0,0,0),false)
   else
    (
     ck (0≤(7:Int)∧7<(a0.size:Int)) <|
     if ¬((a0.data.toList[(7:Int).toNat]?.getD 0).toNat:Int)=45 then
      some ((0,0,0),false)
     else
      (
       ck (0≤(0:Int)∧(0:Int)≤(4:Int)∧(4:Int)≤(a0.size:Int)) <|
       (g167 (a0.extract (0:Int).toNat (4:Int).toNat)).bind fun v843=>
       ck (0≤(5:Int)∧(5:Int)≤(7:Int)∧(7:Int)≤(a0.size:Int)) <|
       (g167 (a0.extract (5:Int).toNat (7:Int).toNat)).bind fun v846=>
       ck (0≤(8:Int)∧(8:Int)≤(a0.size:Int)∧(a0.size:Int)≤(a0.size:Int)) <|
       (g167 (a0.extract (8:Int).toNat (a0.size:Int).toNat)).bind fun v849=>
       (g168 (v843,v846,v849)).bind fun v854=>
       if ¬(v854=true) then
        some ((0,0,0),false)
       else
        some ((v843,v846,v849),true)
      )
    )
  )
noncomputable def k109:Eng.CS:={ f:=109,calm:=true,more:=0,ι:=ByteArray×((Int×Int×Int)×Bool),ok:=fun i=>g109 i.1=some i.2,rds:=fun _=>[],args:=fun i=>[.w (.v (.string (i.1)))],res:=fun i=>.tup [.agg [.v (.int .i64 (i.2.1.1)),.v (.int .i64 (i.2.1.2.1)),.v (.int .i64 (i.2.1.2.2))],bS i.2.2] }
theorem k109_ok:CalmOk Tryz.prog k109:=by
 refine R.calmspec Tryz.func109 (nq9 Tryz.func109) rfl ?_
 rintro ⟨a0,r⟩ hok q _ args hargs
 match args,hargs with
 | [_],hargs=>
 obtain ⟨rfl,_⟩:=hargs
 refine ⟨envC [k167,k168] false [],6,envC_ok (css_cons ⟨fun _=>k167_ok,fun h=>(by cases h)⟩ (css_cons ⟨fun _=>k168_ok,fun h=>(by cases h)⟩ (css_nil))),rfl,(by intro x hx;simp only [List.mem_cons,List.not_mem_nil,or_false] at hx;rcases hx with rfl<;>rfl),?_⟩
 have H:Gives (g109 a0) (fun a=>a=r):=⟨r,hok,rfl⟩
 unfold g109 at H
 clear hok
 refine if_st H (fun h837 H=>?_) (fun h837 H=>?_)
 ·have hfin:=fin_st H
  repeat refine mf1FB2 ?_
  first | exact trivial | exact rfl
 ·refine ob_ck H fun h838 H=>?_
  refine if_st H (fun h839 H=>?_) (fun h839 H=>?_)
  ·have hfin:=fin_st H
   repeat refine mf1FB2 ?_
   first | exact trivial | exact rfl
  ·refine ob_ck H fun h840 H=>?_
   refine if_st H (fun h841 H=>?_) (fun h841 H=>?_)
   ·have hfin:=fin_st H
    repeat refine mf1FB2 ?_
    first | exact trivial | exact rfl
   ·refine And.intro ⟨by kernel_rfl⟩ ?_
    refine ⟨(Pn.calm 0 (Pn.calm 1 (Pn.calm 2 (Pn.calm 3 (Pn.calm 4 (Pn.calm 5 (Pn.calm 6 (Pn.calm 7 (Pn.calm 8 (Pn.calm 9 (Pn.eff 10 [] (Pn.eff 11 [10,9,8,0,1,2,3,4,5,6,7] Pn.done Pn.no) Pn.no))))))))))),⟨by kernel_rfl⟩,?_⟩
    refine ob_ck H fun h842 H=>?_
    obtain ⟨v843,hv844,H⟩:=call_st H
    refine ⟨(a0.extract (0:Int).toNat (4:Int).toNat,v843),⟨hv844⟩,⟨trivial⟩,?_⟩
    refine And.intro ⟨rfl⟩ ?_
    refine ob_ck H fun h845 H=>?_
    obtain ⟨v846,hv847,H⟩:=call_st H
    refine ⟨(a0.extract (5:Int).toNat (7:Int).toNat,v846),⟨hv847⟩,⟨trivial⟩,?_⟩
    refine And.intro ⟨rfl⟩ ?_
    refine ob_ck H fun h848 H=>?_
    obtain ⟨v849,hv850,H⟩:=call_st H
    refine ⟨(a0.extract (8:Int).toNat (a0.size:Int).toNat,v849),⟨hv850⟩,⟨trivial⟩,?_⟩
    refine And.intro ⟨rfl⟩ ?_
    refine And.intro ?_ trivial
    refine And.intro ⟨fun _ _ _ h=>h⟩ ?_
    refine And.intro ?_ trivial
    refine And.intro ⟨fun _ _ _ h=>h⟩ ?_
    obtain ⟨v854,hv855,H⟩:=call_st H
    refine ⟨((v843,v846,v849),v854),⟨hv855⟩,⟨trivial⟩,?_⟩
    iterate 3 refine mo1FB2 ?_
    refine if_st H (fun _ H=>?_) (fun _ H=>?_)
    all_goals
     have hfin:=fin_st H
     repeat refine mf1FB2 ?_
     first | exact trivial | exact rfl
noncomputable def g60 (a0:ByteArray):Option (Bool):=
 (g109 a0).bind fun v857=>
 some v857.2
noncomputable def k60:Eng.CS:={ f:=60,calm:=true,more:=0,ι:=ByteArray×Bool,ok:=fun i=>g60 i.1=some i.2,rds:=fun _=>[],args:=fun i=>[.w (.v (.string (i.1)))],res:=fun i=>bS i.2 }
theorem k60_ok:CalmOk Tryz.prog k60:=by
 refine R.calmspec Tryz.func60 (nq9 Tryz.func60) rfl ?_
 rintro ⟨a0,r⟩ hok q _ args hargs
 match args,hargs with
 | [_],hargs=>
 obtain ⟨rfl,_⟩:=hargs
 refine ⟨envC [k109] false [],6,envC_ok (css_cons ⟨fun _=>k109_ok,fun h=>(by cases h)⟩ (css_nil)),rfl,(by intro x hx;simp only [List.mem_cons,List.not_mem_nil,or_false] at hx;rcases hx with rfl<;>rfl),?_⟩
 have H:Gives (g60 a0) (fun a=>a=r):=⟨r,hok,rfl⟩
 unfold g60 at H
 clear hok
 obtain ⟨v857,hv858,H⟩:=call_st H
 refine ⟨(a0,v857),⟨hv858⟩,⟨trivial⟩,?_⟩
 refine And.intro ⟨rfl⟩ ?_
 have hfin:=fin_st H
 repeat refine mf1FB2 ?_
 first | exact trivial | exact rfl
noncomputable def g23 (a0:(Int×ByteArray×ByteArray×List ByteArray×Int×Int×Nat×Nat×Nat×ByteArray×Int×Bool×List Int×Nat×ByteArray×ByteArray)):Option (Bool):=
 jn (α:=_) (β:=Unit) (fun k900=>
   (g53 a0.1).bind fun v901=>
   if v901=true then
    (
     (g54 a0.2.2.2.1).bind fun v904=>
     if ¬(v904=true) then
      some false
     else
      (
       (g53 a0.1).bind fun v907=>
       if ¬(v907=true) then
        (
         if 0<((a0.2.2.2.1.length:Nat):Int) then
          some false
         else
          k900 ()
        )
       else
        k900 ()
      )
    )
   else
    (
     (g53 a0.1).bind fun v911=>
     if ¬(v911=true) then
      (
       if 0<((a0.2.2.2.1.length:Nat):Int) then
        some false
       else
        k900 ()
      )
     else
      k900 ()
    )
 ) (fun v899=>
  jn (α:=_) (β:=Unit) (fun k927=>
    if ¬a0.1=9 then
     (
      if ¬FloatKind.f64.format.order a0.2.2.2.2.2.2.1 0=some .eq then
       some false
      else
       (
        if ¬FloatKind.f64.format.order a0.2.2.2.2.2.2.2.1 0=some .eq then
         some false
        else
         (
          if ¬FloatKind.f64.format.order a0.2.2.2.2.2.2.2.2.1 0=some .eq then
           some false
          else
           k927 ()
         )
       )
     )
    else
     k927 ()
  ) (fun v926=>
   jn (α:=_) (β:=Bool) (fun k962=>
     if a0.1=1 then
      k962 (decide (a0.1=1))
     else
      k962 (decide (a0.1=2))
   ) (fun v961=>
    if v961=true then
     (
      if 0≤a0.2.2.2.2.1 then
       (
        if a0.2.2.2.2.1≤a0.2.2.2.2.2.1 then
         some (decide (a0.2.2.2.2.2.1≤4096))
        else
         some false
       )
      else
       some false
     )
    else
     (
      if a0.1=3 then
       (
        if a0.2.2.2.2.1≤a0.2.2.2.2.2.1 then
         (
          (g55 a0.2.2.2.2.1 (-999999999999999) 999999999999999).bind fun v969=>
          if v969=true then
           (
            (g55 a0.2.2.2.2.2.1 (-999999999999999) 999999999999999).bind fun v972=>
            some v972
           )
          else
           some false
         )
        else
         some false
       )
      else
       (
        if a0.1=7 then
         (
          if 0≤a0.2.2.2.2.1 then
           (
            if a0.2.2.2.2.1≤a0.2.2.2.2.2.1 then
             some (decide (a0.2.2.2.2.2.1≤((a0.2.2.2.1.length:Nat):Int)))
            else
             some false
           )
          else
           some false
         )
        else
         (
          if a0.1=9 then
           (
            (g56 a0).bind fun v978=>
            if 0<v978 then
             (
              if a0.2.2.2.2.1=0 then
               some (decide (a0.2.2.2.2.2.1=0))
              else
               some false
             )
            else
             some false
           )
          else
           (
            if a0.2.2.2.2.1=0 then
             some (decide (a0.2.2.2.2.2.1=0))
            else
             some false
           )
         )
       )
     )
   )
  )
 )
noncomputable def k23:Eng.CS:={ f:=23,calm:=false,more:=0,ι:=(Int×ByteArray×ByteArray×List ByteArray×Int×Int×Nat×Nat×Nat×ByteArray×Int×Bool×List Int×Nat×ByteArray×ByteArray)×Bool×((Option Addr×Nat)×(Option Addr×Nat)),ok:=fun i=>g23 i.1=some i.2.1∧i.1.2.2.2.1.length≤i.2.2.1.2∧i.1.2.2.2.2.2.2.2.2.2.2.2.2.1.length≤i.2.2.2.2,rds:=fun i=>[(i.2.2.1.1,es i.1.2.2.2.1),(i.2.2.2.1,ei .i64 i.1.2.2.2.2.2.2.2.2.2.2.2.2.1)],args:=fun i=>[.w (.agg [.v (.int .i64 (i.1.1)),.v (.string (i.1.2.1)),.v (.string (i.1.2.2.1)),.v (.slice i.2.2.1.1 i.1.2.2.2.1.length i.2.2.1.2),.v (.int .i64 (i.1.2.2.2.2.1)),.v (.int .i64 (i.1.2.2.2.2.2.1)),.v (.float .f64 (i.1.2.2.2.2.2.2.1)),.v (.float .f64 (i.1.2.2.2.2.2.2.2.1)),.v (.float .f64 (i.1.2.2.2.2.2.2.2.2.1)),.v (.string (i.1.2.2.2.2.2.2.2.2.2.1)),.v (.int .i64 (i.1.2.2.2.2.2.2.2.2.2.2.1)),bS i.1.2.2.2.2.2.2.2.2.2.2.2.1,.v (.slice i.2.2.2.1 i.1.2.2.2.2.2.2.2.2.2.2.2.2.1.length i.2.2.2.2),.v (.float .f64 (i.1.2.2.2.2.2.2.2.2.2.2.2.2.2.1)),.v (.string (i.1.2.2.2.2.2.2.2.2.2.2.2.2.2.2.1)),.v (.string (i.1.2.2.2.2.2.2.2.2.2.2.2.2.2.2.2))])],res:=fun _=>.bad,rn:=[],gr:=true,γ:=Unit,resG:=fun i _=>bS i.2.1,LG:=fun i _=>[],okG:=fun i _=>True,rdsG:=fun i _=>[],fzr:=[] }
theorem k23_ok:CSOk Tryz.prog k23:=by
 refine R.cspecG Tryz.func23 (nq9 Tryz.func23) rfl rfl (fun _=>rfl) ?_
 rintro ⟨a0,r,⟨⟨A0_3,cp0_3⟩,⟨A0_12,cp0_12⟩⟩⟩ ⟨hok,hc0_3,hc0_12⟩ q hrds args hargs
 obtain ⟨hR0_3,hR0_12,_⟩:=hrds
 dsimp only at hR0_3 hc0_3 hR0_12 hc0_12
 dsimp only [k23] at hargs ⊢
 match args,hargs with
 | [_],hargs=>
 obtain ⟨rfl,_⟩:=hargs
 refine ⟨envC [k53,k54,k55,k56] false [(23,3),(23,5),(23,8)],6,envC_ok (css_cons ⟨fun _=>k53_ok,fun h=>(by cases h)⟩ (css_cons ⟨fun _=>k54_ok,fun h=>(by cases h)⟩ (css_cons ⟨fun _=>k55_ok,fun h=>(by cases h)⟩ (css_cons ⟨fun h=>(by cases h),fun _=>k56_ok⟩ (css_nil))))),?_⟩
 have H:Gives (g23 a0) (fun a=>a=r):=⟨r,hok,rfl⟩
 unfold g23 at H
 clear hok
 refine R.cut_fam H 24 [1] [] (fun v899=>[]) (fun v899=>[]) [(0,.cells 29 [.v (.int .i64 (a0.1)),.v (.string (a0.2.1)),.v (.string (a0.2.2.1)),.v (.slice (A0_3) (a0.2.2.2.1.length) (cp0_3)),.v (.int .i64 (a0.2.2.2.2.1)),.v (.int .i64 (a0.2.2.2.2.2.1)),.v (.float .f64 (a0.2.2.2.2.2.2.1)),.v (.float .f64 (a0.2.2.2.2.2.2.2.1)),.v (.float .f64 (a0.2.2.2.2.2.2.2.2.1)),.v (.string (a0.2.2.2.2.2.2.2.2.2.1)),.v (.int .i64 (a0.2.2.2.2.2.2.2.2.2.2.1)),bS a0.2.2.2.2.2.2.2.2.2.2.2.1,.v (.slice (A0_12) (a0.2.2.2.2.2.2.2.2.2.2.2.2.1.length) (cp0_12)),.v (.float .f64 (a0.2.2.2.2.2.2.2.2.2.2.2.2.2.1)),.v (.string (a0.2.2.2.2.2.2.2.2.2.2.2.2.2.2.1)),.v (.string (a0.2.2.2.2.2.2.2.2.2.2.2.2.2.2.2))])] 0 (fun H=>?_)
 refine And.intro ?_ ?_
 ·obtain ⟨v901,hv902,H⟩:=call_st H
  refine ⟨(a0.1,v901),⟨hv902⟩,⟨trivial⟩,?_⟩
  refine And.intro ⟨rfl⟩ ?_
  refine if_st H (fun h903 H=>?_) (fun h903 H=>?_)
  ·obtain ⟨v904,hv905,H⟩:=call_st H
   refine ⟨(a0.2.2.2.1,v904),⟨hv905⟩,⟨trivial⟩,?_⟩
   refine And.intro ⟨rfl,hc0_3,es_len.trans ((show _=_ from rfl).trans (Nat.mul_one _).symm),hR0_3⟩ ?_
   refine if_st H (fun h906 H=>?_) (fun h906 H=>?_)
   ·have hfin:=fin_st H
    first | subst hfin | rw [←hfin]
    refine ⟨(),⟨trivial⟩,⟨trivial⟩,?_⟩
    repeat refine mo1FB2 ?_
    first | exact trivial | exact rfl
   ·obtain ⟨v907,hv908,H⟩:=call_st H
    refine ⟨(a0.1,v907),⟨hv908⟩,⟨trivial⟩,?_⟩
    refine And.intro ⟨rfl⟩ ?_
    refine if_st H (fun h909 H=>?_) (fun h909 H=>?_)
    ·refine if_st H (fun h910 H=>?_) (fun h910 H=>?_)
     ·have hfin:=fin_st H
      first | subst hfin | rw [←hfin]
      refine ⟨(),⟨trivial⟩,⟨trivial⟩,?_⟩
      repeat refine mo1FB2 ?_
      first | exact trivial | exact rfl
     ·refine ⟨(),⟨H⟩,⟨rfl⟩,?_⟩
      repeat refine mo1FB2 ?_
      first | exact trivial | exact rfl
    ·refine ⟨(),⟨H⟩,⟨rfl⟩,?_⟩
     repeat refine mo1FB2 ?_
     first | exact trivial | exact rfl
  ·obtain ⟨v911,hv912,H⟩:=call_st H
   refine ⟨(a0.1,v911),⟨hv912⟩,⟨trivial⟩,?_⟩
   refine And.intro ⟨rfl⟩ ?_
   refine if_st H (fun h913 H=>?_) (fun h913 H=>?_)
   ·refine if_st H (fun h914 H=>?_) (fun h914 H=>?_)
    ·have hfin:=fin_st H
     first | subst hfin | rw [←hfin]
     refine ⟨(),⟨trivial⟩,⟨trivial⟩,?_⟩
     repeat refine mo1FB2 ?_
     first | exact trivial | exact rfl
    ·refine ⟨(),⟨H⟩,⟨rfl⟩,?_⟩
     repeat refine mo1FB2 ?_
     first | exact trivial | exact rfl
   ·refine ⟨(),⟨H⟩,⟨rfl⟩,?_⟩
    repeat refine mo1FB2 ?_
    first | exact trivial | exact rfl
 ·intro v899 H
  refine R.cut_fam H 43 [1] [] (fun v926=>[]) (fun v926=>[]) [(0,.cells 29 [.v (.int .i64 (a0.1)),.v (.string (a0.2.1)),.v (.string (a0.2.2.1)),.v (.slice (A0_3) (a0.2.2.2.1.length) (cp0_3)),.v (.int .i64 (a0.2.2.2.2.1)),.v (.int .i64 (a0.2.2.2.2.2.1)),.v (.float .f64 (a0.2.2.2.2.2.2.1)),.v (.float .f64 (a0.2.2.2.2.2.2.2.1)),.v (.float .f64 (a0.2.2.2.2.2.2.2.2.1)),.v (.string (a0.2.2.2.2.2.2.2.2.2.1)),.v (.int .i64 (a0.2.2.2.2.2.2.2.2.2.2.1)),bS a0.2.2.2.2.2.2.2.2.2.2.2.1,.v (.slice (A0_12) (a0.2.2.2.2.2.2.2.2.2.2.2.2.1.length) (cp0_12)),.v (.float .f64 (a0.2.2.2.2.2.2.2.2.2.2.2.2.2.1)),.v (.string (a0.2.2.2.2.2.2.2.2.2.2.2.2.2.2.1)),.v (.string (a0.2.2.2.2.2.2.2.2.2.2.2.2.2.2.2))])] 0 (fun H=>?_)
  refine And.intro ?_ ?_
  ·refine if_st H (fun h928 H=>?_) (fun h928 H=>?_)
   ·refine if_st H (fun h929 H=>?_) (fun h929 H=>?_)
    ·have hfin:=fin_st H
     first | subst hfin | rw [←hfin]
     refine ⟨(),⟨trivial⟩,⟨trivial⟩,?_⟩
     repeat refine mo1FB2 ?_
     first | exact trivial | exact rfl
    ·refine if_st H (fun h930 H=>?_) (fun h930 H=>?_)
     ·have hfin:=fin_st H
      first | subst hfin | rw [←hfin]
      refine ⟨(),⟨trivial⟩,⟨trivial⟩,?_⟩
      repeat refine mo1FB2 ?_
      first | exact trivial | exact rfl
     ·refine if_st H (fun h931 H=>?_) (fun h931 H=>?_)
      ·have hfin:=fin_st H
       first | subst hfin | rw [←hfin]
       refine ⟨(),⟨trivial⟩,⟨trivial⟩,?_⟩
       repeat refine mo1FB2 ?_
       first | exact trivial | exact rfl
      ·refine ⟨(),⟨H⟩,⟨rfl⟩,?_⟩
       repeat refine mo1FB2 ?_
       first | exact trivial | exact rfl
   ·refine ⟨(),⟨H⟩,⟨rfl⟩,?_⟩
    repeat refine mo1FB2 ?_
    first | exact trivial | exact rfl
  ·intro v926 H
   refine R.cut_fam H 50 [1,43] [] (fun v961=>[(44,bS v961)]) (fun v961=>[]) [(0,.cells 29 [.v (.int .i64 (a0.1)),.v (.string (a0.2.1)),.v (.string (a0.2.2.1)),.v (.slice (A0_3) (a0.2.2.2.1.length) (cp0_3)),.v (.int .i64 (a0.2.2.2.2.1)),.v (.int .i64 (a0.2.2.2.2.2.1)),.v (.float .f64 (a0.2.2.2.2.2.2.1)),.v (.float .f64 (a0.2.2.2.2.2.2.2.1)),.v (.float .f64 (a0.2.2.2.2.2.2.2.2.1)),.v (.string (a0.2.2.2.2.2.2.2.2.2.1)),.v (.int .i64 (a0.2.2.2.2.2.2.2.2.2.2.1)),bS a0.2.2.2.2.2.2.2.2.2.2.2.1,.v (.slice (A0_12) (a0.2.2.2.2.2.2.2.2.2.2.2.2.1.length) (cp0_12)),.v (.float .f64 (a0.2.2.2.2.2.2.2.2.2.2.2.2.2.1)),.v (.string (a0.2.2.2.2.2.2.2.2.2.2.2.2.2.2.1)),.v (.string (a0.2.2.2.2.2.2.2.2.2.2.2.2.2.2.2))])] 0 (fun H=>?_)
   refine And.intro ?_ ?_
   ·refine if_st H (fun h963 H=>?_) (fun h963 H=>?_)
    ·refine ⟨(decide (a0.1=1)),⟨H⟩,⟨rfl⟩,?_⟩
     repeat refine mo1FB2 ?_
     first | exact trivial | exact rfl
    ·refine ⟨(decide (a0.1=2)),⟨H⟩,⟨rfl⟩,?_⟩
     repeat refine mo1FB2 ?_
     first | exact trivial | exact rfl
   ·intro v961 H
    refine if_st H (fun h964 H=>?_) (fun h964 H=>?_)
    ·repeat' refine if_st H (fun _ H=>?_) (fun _ H=>?_)
     all_goals
      have hfin:=fin_st H
      first | subst hfin | rw [←hfin]
      refine ⟨(),⟨trivial⟩,⟨trivial⟩,?_⟩
      repeat refine mo1FB2 ?_
      first | exact trivial | exact rfl
    ·refine if_st H (fun h967 H=>?_) (fun h967 H=>?_)
     ·refine if_st H (fun h968 H=>?_) (fun h968 H=>?_)
      ·obtain ⟨v969,hv970,H⟩:=call_st H
       refine ⟨(a0.2.2.2.2.1,(-999999999999999),999999999999999,v969),⟨hv970⟩,⟨trivial⟩,?_⟩
       iterate 3 refine And.intro ⟨rfl⟩ ?_
       refine if_st H (fun h971 H=>?_) (fun h971 H=>?_)
       ·obtain ⟨v972,hv973,H⟩:=call_st H
        refine ⟨(a0.2.2.2.2.2.1,(-999999999999999),999999999999999,v972),⟨hv973⟩,⟨trivial⟩,?_⟩
        iterate 3 refine And.intro ⟨rfl⟩ ?_
        have hfin:=fin_st H
        first | subst hfin | rw [←hfin]
        refine ⟨(),⟨trivial⟩,⟨trivial⟩,?_⟩
        repeat refine mo1FB2 ?_
        first | exact trivial | exact rfl
       ·have hfin:=fin_st H
        first | subst hfin | rw [←hfin]
        refine ⟨(),⟨trivial⟩,⟨trivial⟩,?_⟩
        repeat refine mo1FB2 ?_
        first | exact trivial | exact rfl
      ·have hfin:=fin_st H
       first | subst hfin | rw [←hfin]
       refine ⟨(),⟨trivial⟩,⟨trivial⟩,?_⟩
       repeat refine mo1FB2 ?_
       first | exact trivial | exact rfl
     ·refine if_st H (fun h974 H=>?_) (fun h974 H=>?_)
      ·repeat' refine if_st H (fun _ H=>?_) (fun _ H=>?_)
       all_goals
        have hfin:=fin_st H
        first | subst hfin | rw [←hfin]
        refine ⟨(),⟨trivial⟩,⟨trivial⟩,?_⟩
        repeat refine mo1FB2 ?_
        first | exact trivial | exact rfl
      ·refine if_st H (fun h977 H=>?_) (fun h977 H=>?_)
       ·obtain ⟨v978,hv979,H⟩:=call_st H
        refine ⟨(a0,v978,((A0_3,cp0_3),(A0_12,cp0_12))),⟨hv979,hc0_3,hc0_12⟩,⟨⟨hR0_3,hR0_12,trivial⟩⟩,?_⟩
        iterate 11 refine And.intro ⟨rfl⟩ ?_
        refine mo1FB2 ?_
        iterate 4 refine And.intro ⟨rfl⟩ ?_
        intro q980 g981 hq982 hok983 hrd984
        repeat' refine if_st H (fun _ H=>?_) (fun _ H=>?_)
        all_goals
         have hfin:=fin_st H
         first | subst hfin | rw [←hfin]
         refine ⟨(),⟨trivial⟩,⟨trivial⟩,?_⟩
         repeat refine mo1FB2 ?_
         first | exact trivial | exact rfl
       ·refine if_st H (fun _ H=>?_) (fun _ H=>?_)
        all_goals
         have hfin:=fin_st H
         first | subst hfin | rw [←hfin]
         refine ⟨(),⟨trivial⟩,⟨trivial⟩,?_⟩
         repeat refine mo1FB2 ?_
         first | exact trivial | exact rfl
noncomputable def g24 (a0:(Int×ByteArray×ByteArray×List ByteArray×Int×Int×Nat×Nat×Nat×ByteArray×Int×Bool×List Int×Nat×ByteArray×ByteArray)) (a1:(ByteArray×Int×Bool×List Int×Nat)):Option (Bool):=
 (g57 a0.1 a1).bind fun v996=>
 if ¬(v996=true) then
  some false
 else
  (
   jn (α:=_) (β:=Unit) (fun k1136=>
     jn (α:=_) (β:=Bool) (fun k1139=>
       if a0.1=1 then
        k1139 (decide (a0.1=1))
       else
        k1139 (decide (a0.1=2))
     ) (fun v1138=>
      if v1138=true then
       (
        (g58 a1.1).bind fun v1142=>
        if v1142.data.toList=a1.1.data.toList then
         (
          (g59 a1.1).bind fun v1145=>
          some (decide (((v1145.length:Nat):Int)≤a0.2.2.2.2.2.1))
         )
        else
         some false
       )
      else
       (
        if a0.1=3 then
         (
          (g55 a1.2.1 (-999999999999999) 999999999999999).bind fun v1148=>
          some v1148
         )
        else
         (
          if a0.1=4 then
           (
            if a1.1.data.toList=(lit []).data.toList then
             some true
            else
             (
              (g60 a1.1).bind fun v1152=>
              some v1152
             )
           )
          else
           (
            jn (α:=_) (β:=Bool) (fun k1156=>
              if a0.1=6 then
               k1156 (decide (a0.1=6))
              else
               k1156 (decide (a0.1=8))
            ) (fun v1155=>
             if v1155=true then
              (
               ck (inR .i64 (((a0.2.2.2.1.length:Nat):Int)-1)) <|
               (g55 a1.2.1 0 (((a0.2.2.2.1.length:Nat):Int)-1)).bind fun v1160=>
               some v1160
              )
             else
              (
               if a0.1=7 then
                (
                 jn (α:=_) (β:=Unit) (fun k1205=>
                   (loopO (σ:=Int) (ρ:=(Unit) ⊕ (Unit)) (fun s1208=>
                     if s1208<((a1.2.2.2.1.length:Nat):Int) then
                      (
                       ck (0≤s1208∧s1208<((a1.2.2.2.1.length:Nat):Int)) <|
                       ck (inR .i64 (((a0.2.2.2.1.length:Nat):Int)-1)) <|
                       (g55 (a1.2.2.2.1.getD s1208.toNat 0) 0 (((a0.2.2.2.1.length:Nat):Int)-1)).bind fun v1234=>
                       if ¬(v1234=true) then
                        some (.out (.inl (())))
                       else
                        (
                         if 0<s1208 then
                          (
                           ck (0≤s1208∧s1208<((a1.2.2.2.1.length:Nat):Int)) <|
                           ck (inR .i64 (s1208-1)) <|
                           ck (0≤s1208-1∧s1208-1<((a1.2.2.2.1.length:Nat):Int)) <|
                           if (a1.2.2.2.1.getD s1208.toNat 0)≤(a1.2.2.2.1.getD (s1208-1).toNat 0) then
                            some (.out (.inl (())))
                           else
                            (
                             ck (inR .i64 (s1208+1)) <|
                             some (.go (s1208+1))
                            )
                          )
                         else
                          (
                           ck (inR .i64 (s1208+1)) <|
                           some (.go (s1208+1))
                          )
                        )
                      )
                     else
                      some (.out (.inr (())))
                    ) 0).bind fun o1230=>
                   sm o1230 (fun o1244=>
                     some false
                    ) (fun o1245=>
                     k1205 ()
                    )
                 ) (fun v1204=>
                  some true
                 )
                )
               else
                (
                 if a0.1=9 then
                  (
                   (g61 a0 a1.2.2.2.2).bind fun v1248=>
                   some v1248.2
                  )
                 else
                  k1136 ()
                )
              )
            )
           )
         )
       )
     )
   ) (fun v1135=>
    some (decide (a0.1=5))
   )
  )
noncomputable def k24:Eng.CS:={ f:=24,calm:=false,more:=0,ι:=(Int×ByteArray×ByteArray×List ByteArray×Int×Int×Nat×Nat×Nat×ByteArray×Int×Bool×List Int×Nat×ByteArray×ByteArray)×(ByteArray×Int×Bool×List Int×Nat)×Bool×((Option Addr×Nat)×(Option Addr×Nat)×(Option Addr×Nat)),ok:=fun i=>g24 i.1 i.2.1=some i.2.2.1∧i.1.2.2.2.1.length≤i.2.2.2.1.2∧i.1.2.2.2.2.2.2.2.2.2.2.2.2.1.length≤i.2.2.2.2.1.2∧i.2.1.2.2.2.1.length≤i.2.2.2.2.2.2,rds:=fun i=>[(i.2.2.2.1.1,es i.1.2.2.2.1),(i.2.2.2.2.1.1,ei .i64 i.1.2.2.2.2.2.2.2.2.2.2.2.2.1),(i.2.2.2.2.2.1,ei .i64 i.2.1.2.2.2.1)],args:=fun i=>[.w (.agg [.v (.int .i64 (i.1.1)),.v (.string (i.1.2.1)),.v (.string (i.1.2.2.1)),.v (.slice i.2.2.2.1.1 i.1.2.2.2.1.length i.2.2.2.1.2),.v (.int .i64 (i.1.2.2.2.2.1)),.v (.int .i64 (i.1.2.2.2.2.2.1)),.v (.float .f64 (i.1.2.2.2.2.2.2.1)),.v (.float .f64 (i.1.2.2.2.2.2.2.2.1)),.v (.float .f64 (i.1.2.2.2.2.2.2.2.2.1)),.v (.string (i.1.2.2.2.2.2.2.2.2.2.1)),.v (.int .i64 (i.1.2.2.2.2.2.2.2.2.2.2.1)),bS i.1.2.2.2.2.2.2.2.2.2.2.2.1,.v (.slice i.2.2.2.2.1.1 i.1.2.2.2.2.2.2.2.2.2.2.2.2.1.length i.2.2.2.2.1.2),.v (.float .f64 (i.1.2.2.2.2.2.2.2.2.2.2.2.2.2.1)),.v (.string (i.1.2.2.2.2.2.2.2.2.2.2.2.2.2.2.1)),.v (.string (i.1.2.2.2.2.2.2.2.2.2.2.2.2.2.2.2))]),.w (.agg [.v (.string (i.2.1.1)),.v (.int .i64 (i.2.1.2.1)),bS i.2.1.2.2.1,.v (.slice i.2.2.2.2.2.1 i.2.1.2.2.2.1.length i.2.2.2.2.2.2),.v (.float .f64 (i.2.1.2.2.2.2))])],res:=fun _=>.bad,rn:=[],gr:=true,γ:=Unit,resG:=fun i _=>bS i.2.2.1,LG:=fun i _=>[],okG:=fun i _=>True,rdsG:=fun i _=>[],fzr:=[] }
theorem k24_ok:CSOk Tryz.prog k24:=by
 refine R.cspecG Tryz.func24 (nq9 Tryz.func24) rfl rfl (fun _=>rfl) ?_
 rintro ⟨a0,a1,r,⟨⟨A0_3,cp0_3⟩,⟨A0_12,cp0_12⟩,⟨A1_3,cp1_3⟩⟩⟩ ⟨hok,hc0_3,hc0_12,hc1_3⟩ q hrds args hargs
 obtain ⟨hR0_3,hR0_12,hR1_3,_⟩:=hrds
 dsimp only at hR0_3 hc0_3 hR0_12 hc0_12 hR1_3 hc1_3
 dsimp only [k24] at hargs ⊢
 match args,hargs with
 | [_,_],hargs=>
 obtain ⟨rfl,rfl,_⟩:=hargs
 refine ⟨envC [k55,k57,k58,k59,k60,k61] false [(24,6),(24,13),(24,20),(24,24)],6,envC_ok (css_cons ⟨fun _=>k55_ok,fun h=>(by cases h)⟩ (css_cons ⟨fun h=>(by cases h),fun _=>k57_ok⟩ (css_cons ⟨fun _=>k58_ok,fun h=>(by cases h)⟩ (css_cons ⟨fun h=>(by cases h),fun _=>k59_ok⟩ (css_cons ⟨fun _=>k60_ok,fun h=>(by cases h)⟩ (css_cons ⟨fun h=>(by cases h),fun _=>k61_ok⟩ (css_nil))))))),?_⟩
 have H:Gives (g24 a0 a1) (fun a=>a=r):=⟨r,hok,rfl⟩
 unfold g24 at H
 clear hok
 obtain ⟨v996,hv997,H⟩:=call_st H
 refine ⟨(a0.1,a1,v996,(A1_3,cp1_3)),⟨hv997,hc1_3⟩,⟨⟨hR1_3,trivial⟩⟩,?_⟩
 iterate 3 refine And.intro ⟨rfl⟩ ?_
 refine mo1FB2 ?_
 iterate 2 refine And.intro ⟨rfl⟩ ?_
 intro q998 g999 hq1000 hok1001 hrd1002
 refine if_st H (fun h1003 H=>?_) (fun h1003 H=>?_)
 ·have hfin:=fin_st H
  first | subst hfin | rw [←hfin]
  refine ⟨(),⟨trivial⟩,⟨trivial⟩,?_⟩
  repeat refine mo1FB2 ?_
  first | exact trivial | exact rfl
 ·refine R.cut_fam H 29 [2] [] (fun v1135=>[]) (fun v1135=>[]) [(0,.cells 29 [.v (.int .i64 (a0.1)),.v (.string (a0.2.1)),.v (.string (a0.2.2.1)),.v (.slice (A0_3) (a0.2.2.2.1.length) (cp0_3)),.v (.int .i64 (a0.2.2.2.2.1)),.v (.int .i64 (a0.2.2.2.2.2.1)),.v (.float .f64 (a0.2.2.2.2.2.2.1)),.v (.float .f64 (a0.2.2.2.2.2.2.2.1)),.v (.float .f64 (a0.2.2.2.2.2.2.2.2.1)),.v (.string (a0.2.2.2.2.2.2.2.2.2.1)),.v (.int .i64 (a0.2.2.2.2.2.2.2.2.2.2.1)),bS a0.2.2.2.2.2.2.2.2.2.2.2.1,.v (.slice (A0_12) (a0.2.2.2.2.2.2.2.2.2.2.2.2.1.length) (cp0_12)),.v (.float .f64 (a0.2.2.2.2.2.2.2.2.2.2.2.2.2.1)),.v (.string (a0.2.2.2.2.2.2.2.2.2.2.2.2.2.2.1)),.v (.string (a0.2.2.2.2.2.2.2.2.2.2.2.2.2.2.2))]),(1,.cells 27 [.v (.string (a1.1)),.v (.int .i64 (a1.2.1)),bS a1.2.2.1,.v (.slice (A1_3) (a1.2.2.2.1.length) (cp1_3)),.v (.float .f64 (a1.2.2.2.2))])] 0 (fun H=>?_)
  refine And.intro ?_ ?_
  ·refine R.cut_fam H 15 [2,3,14] [] (fun v1138=>[(15,bS v1138)]) (fun v1138=>[]) [(0,.cells 29 [.v (.int .i64 (a0.1)),.v (.string (a0.2.1)),.v (.string (a0.2.2.1)),.v (.slice (A0_3) (a0.2.2.2.1.length) (cp0_3)),.v (.int .i64 (a0.2.2.2.2.1)),.v (.int .i64 (a0.2.2.2.2.2.1)),.v (.float .f64 (a0.2.2.2.2.2.2.1)),.v (.float .f64 (a0.2.2.2.2.2.2.2.1)),.v (.float .f64 (a0.2.2.2.2.2.2.2.2.1)),.v (.string (a0.2.2.2.2.2.2.2.2.2.1)),.v (.int .i64 (a0.2.2.2.2.2.2.2.2.2.2.1)),bS a0.2.2.2.2.2.2.2.2.2.2.2.1,.v (.slice (A0_12) (a0.2.2.2.2.2.2.2.2.2.2.2.2.1.length) (cp0_12)),.v (.float .f64 (a0.2.2.2.2.2.2.2.2.2.2.2.2.2.1)),.v (.string (a0.2.2.2.2.2.2.2.2.2.2.2.2.2.2.1)),.v (.string (a0.2.2.2.2.2.2.2.2.2.2.2.2.2.2.2))]),(1,.cells 27 [.v (.string (a1.1)),.v (.int .i64 (a1.2.1)),bS a1.2.2.1,.v (.slice (A1_3) (a1.2.2.2.1.length) (cp1_3)),.v (.float .f64 (a1.2.2.2.2))])] 0 (fun H=>?_)
   refine And.intro ?_ ?_
   ·refine if_st H (fun h1140 H=>?_) (fun h1140 H=>?_)
    ·refine ⟨(decide (a0.1=1)),⟨H⟩,⟨rfl⟩,?_⟩
     repeat refine mo1FB2 ?_
     first | exact trivial | exact rfl
    ·refine ⟨(decide (a0.1=2)),⟨H⟩,⟨rfl⟩,?_⟩
     repeat refine mo1FB2 ?_
     first | exact trivial | exact rfl
   ·intro v1138 H
    refine if_st H (fun h1141 H=>?_) (fun h1141 H=>?_)
    ·refine And.intro ⟨by kernel_rfl⟩ ?_
     refine ⟨(Pn.calm 0 (Pn.calm 1 (Pn.calm 2 (Pn.calm 3 (Pn.calm 4 (Pn.calm 5 (Pn.calm 6 (Pn.calm 7 (Pn.calm 8 (Pn.calm 11 (Pn.calm 12 (Pn.eff 9 [8,6,7,5,2,4,1,3,0] (Pn.calm 10 (Pn.calm 13 (Pn.calm 14 (Pn.calm 15 Pn.done)))) Pn.no)))))))))))),⟨by kernel_rfl⟩,?_⟩
     obtain ⟨v1142,hv1143,H⟩:=call_st H
     refine ⟨(a1.1,v1142),⟨hv1143⟩,⟨trivial⟩,?_⟩
     refine And.intro ⟨rfl⟩ ?_
     refine if_st H (fun h1144 H=>?_) (fun h1144 H=>?_)
     ·refine And.intro ?_ trivial
      obtain ⟨v1145,hv1146,H⟩:=call_st H
      refine ⟨(a1.1,v1145),⟨hv1146⟩,⟨trivial⟩,?_⟩
      refine And.intro ⟨rfl⟩ ?_
      refine And.intro ⟨fun _ _ _ h=>h⟩ ?_
      have hfin:=fin_st H
      first | subst hfin | rw [←hfin]
      refine ⟨(),⟨trivial⟩,⟨trivial⟩,?_⟩
      repeat refine mo1FB2 ?_
      first | exact trivial | exact rfl
     ·refine And.intro ?_ trivial
      have hfin:=fin_st H
      first | subst hfin | rw [←hfin]
      refine ⟨(),⟨trivial⟩,⟨trivial⟩,?_⟩
      repeat refine mo1FB2 ?_
      first | exact trivial | exact rfl
    ·refine if_st H (fun h1147 H=>?_) (fun h1147 H=>?_)
     ·obtain ⟨v1148,hv1149,H⟩:=call_st H
      refine ⟨(a1.2.1,(-999999999999999),999999999999999,v1148),⟨hv1149⟩,⟨trivial⟩,?_⟩
      iterate 3 refine And.intro ⟨rfl⟩ ?_
      have hfin:=fin_st H
      first | subst hfin | rw [←hfin]
      refine ⟨(),⟨trivial⟩,⟨trivial⟩,?_⟩
      repeat refine mo1FB2 ?_
      first | exact trivial | exact rfl
     ·refine if_st H (fun h1150 H=>?_) (fun h1150 H=>?_)
      ·refine if_st H (fun h1151 H=>?_) (fun h1151 H=>?_)
       ·have hfin:=fin_st H
        first | subst hfin | rw [←hfin]
        refine ⟨(),⟨trivial⟩,⟨trivial⟩,?_⟩
        repeat refine mo1FB2 ?_
        first | exact trivial | exact rfl
       ·obtain ⟨v1152,hv1153,H⟩:=call_st H
        refine ⟨(a1.1,v1152),⟨hv1153⟩,⟨trivial⟩,?_⟩
        refine And.intro ⟨rfl⟩ ?_
        have hfin:=fin_st H
        first | subst hfin | rw [←hfin]
        refine ⟨(),⟨trivial⟩,⟨trivial⟩,?_⟩
        repeat refine mo1FB2 ?_
        first | exact trivial | exact rfl
      ·refine R.cut_fam H 24 [2,3,14] [] (fun v1155=>[(48,bS v1155)]) (fun v1155=>[]) [(0,.cells 29 [.v (.int .i64 (a0.1)),.v (.string (a0.2.1)),.v (.string (a0.2.2.1)),.v (.slice (A0_3) (a0.2.2.2.1.length) (cp0_3)),.v (.int .i64 (a0.2.2.2.2.1)),.v (.int .i64 (a0.2.2.2.2.2.1)),.v (.float .f64 (a0.2.2.2.2.2.2.1)),.v (.float .f64 (a0.2.2.2.2.2.2.2.1)),.v (.float .f64 (a0.2.2.2.2.2.2.2.2.1)),.v (.string (a0.2.2.2.2.2.2.2.2.2.1)),.v (.int .i64 (a0.2.2.2.2.2.2.2.2.2.2.1)),bS a0.2.2.2.2.2.2.2.2.2.2.2.1,.v (.slice (A0_12) (a0.2.2.2.2.2.2.2.2.2.2.2.2.1.length) (cp0_12)),.v (.float .f64 (a0.2.2.2.2.2.2.2.2.2.2.2.2.2.1)),.v (.string (a0.2.2.2.2.2.2.2.2.2.2.2.2.2.2.1)),.v (.string (a0.2.2.2.2.2.2.2.2.2.2.2.2.2.2.2))]),(1,.cells 27 [.v (.string (a1.1)),.v (.int .i64 (a1.2.1)),bS a1.2.2.1,.v (.slice (A1_3) (a1.2.2.2.1.length) (cp1_3)),.v (.float .f64 (a1.2.2.2.2))])] 0 (fun H=>?_)
       refine And.intro ?_ ?_
       ·refine if_st H (fun h1157 H=>?_) (fun h1157 H=>?_)
        ·refine ⟨(decide (a0.1=6)),⟨H⟩,⟨rfl⟩,?_⟩
         repeat refine mo1FB2 ?_
         first | exact trivial | exact rfl
        ·refine ⟨(decide (a0.1=8)),⟨H⟩,⟨rfl⟩,?_⟩
         repeat refine mo1FB2 ?_
         first | exact trivial | exact rfl
       ·intro v1155 H
        refine if_st H (fun h1158 H=>?_) (fun h1158 H=>?_)
        ·refine ob_ck H fun h1159 H=>?_
         obtain ⟨v1160,hv1161,H⟩:=call_st H
         refine ⟨(a1.2.1,0,((a0.2.2.2.1.length:Nat):Int)-1,v1160),⟨hv1161⟩,⟨trivial⟩,?_⟩
         iterate 3 refine And.intro ⟨rfl⟩ ?_
         have hfin:=fin_st H
         first | subst hfin | rw [←hfin]
         refine ⟨(),⟨trivial⟩,⟨trivial⟩,?_⟩
         repeat refine mo1FB2 ?_
         first | exact trivial | exact rfl
        ·refine if_st H (fun h1162 H=>?_) (fun h1162 H=>?_)
         ·refine R.cut_fam H 34 [] [] (fun v1204=>[]) (fun v1204=>[]) [(0,.cells 29 [.v (.int .i64 (a0.1)),.v (.string (a0.2.1)),.v (.string (a0.2.2.1)),.v (.slice (A0_3) (a0.2.2.2.1.length) (cp0_3)),.v (.int .i64 (a0.2.2.2.2.1)),.v (.int .i64 (a0.2.2.2.2.2.1)),.v (.float .f64 (a0.2.2.2.2.2.2.1)),.v (.float .f64 (a0.2.2.2.2.2.2.2.1)),.v (.float .f64 (a0.2.2.2.2.2.2.2.2.1)),.v (.string (a0.2.2.2.2.2.2.2.2.2.1)),.v (.int .i64 (a0.2.2.2.2.2.2.2.2.2.2.1)),bS a0.2.2.2.2.2.2.2.2.2.2.2.1,.v (.slice (A0_12) (a0.2.2.2.2.2.2.2.2.2.2.2.2.1.length) (cp0_12)),.v (.float .f64 (a0.2.2.2.2.2.2.2.2.2.2.2.2.2.1)),.v (.string (a0.2.2.2.2.2.2.2.2.2.2.2.2.2.2.1)),.v (.string (a0.2.2.2.2.2.2.2.2.2.2.2.2.2.2.2))]),(1,.cells 27 [.v (.string (a1.1)),.v (.int .i64 (a1.2.1)),bS a1.2.2.1,.v (.slice (A1_3) (a1.2.2.2.1.length) (cp1_3)),.v (.float .f64 (a1.2.2.2.2))])] 0 (fun H=>?_)
          refine And.intro ?_ ?_
          ·refine R.loop_fam (bind_st H) [2,3] [] (fun _ s1208=>[(5,.v (.int .i64 (s1208)))]) (fun _ s1208=>[]) 0 (fun n1246 H=>?_)
           refine ⟨(n1246,_),⟨H⟩,⟨trivial⟩,?_⟩
           repeat refine mo1FB2 ?_
           rintro ⟨m0,s1208⟩ H _
           obtain ⟨m1209,hm0,H⟩:=IG_succ H
           dsimp only at hm0
           subst hm0
           try dsimp only at H
           refine if_st H (fun h1231 H=>?_) (fun h1231 H=>?_)
           ·refine And.intro ⟨by kernel_rfl⟩ ?_
            refine ob_ix (Reads.mono hq1000 hR1_3) (fun h=>ei0 h) H fun h1232 H=>?_
            refine ld_int (e:=a1.2.2.2.1.getD s1208.toNat 0) (rd_get (Reads.mono hq1000 hR1_3) (ei_get (l:=a1.2.2.2.1) (tn h1232))) ?_
            refine ob_ck H fun h1233 H=>?_
            obtain ⟨v1234,hv1235,H⟩:=call_st H
            refine ⟨(a1.2.2.2.1.getD s1208.toNat 0,0,((a0.2.2.2.1.length:Nat):Int)-1,v1234),⟨hv1235⟩,⟨trivial⟩,?_⟩
            iterate 3 refine And.intro ⟨rfl⟩ ?_
            refine if_st H (fun h1236 H=>?_) (fun h1236 H=>?_)
            ·replace H:=some_st H
             dsimp only [stp,sm] at H
             have hfin:=fin_st H
             first | subst hfin | rw [←hfin]
             refine ⟨(),⟨trivial⟩,⟨trivial⟩,?_⟩
             repeat refine mo1FB2 ?_
             first | exact trivial | exact rfl
            ·refine if_st H (fun h1237 H=>?_) (fun h1237 H=>?_)
             ·refine ob_ix (Reads.mono hq1000 hR1_3) (fun h=>ei0 h) H fun h1238 H=>?_
              refine ld_int (e:=a1.2.2.2.1.getD s1208.toNat 0) (rd_get (Reads.mono hq1000 hR1_3) (ei_get (l:=a1.2.2.2.1) (tn h1238))) ?_
              refine ob_ck H fun h1239 H=>?_
              refine ob_ix (Reads.mono hq1000 hR1_3) (fun h=>ei0 h) H fun h1240 H=>?_
              refine ld_int (e:=a1.2.2.2.1.getD (s1208-1).toNat 0) (rd_get (Reads.mono hq1000 hR1_3) (ei_get (l:=a1.2.2.2.1) (tn h1240))) ?_
              refine if_st H (fun h1241 H=>?_) (fun h1241 H=>?_)
              ·replace H:=some_st H
               dsimp only [stp,sm] at H
               have hfin:=fin_st H
               first | subst hfin | rw [←hfin]
               refine ⟨(),⟨trivial⟩,⟨trivial⟩,?_⟩
               repeat refine mo1FB2 ?_
               first | exact trivial | exact rfl
              ·refine ob_ck H fun h1242 H=>?_
               replace H:=some_st H
               refine ⟨(m1209,s1208+1),⟨H,Nat.lt_succ_self _⟩,⟨trivial⟩,⟨rfl⟩,?_⟩
               repeat refine mo1FB2 ?_
               first | exact trivial | exact rfl
             ·refine ob_ck H fun h1243 H=>?_
              replace H:=some_st H
              refine ⟨(m1209,s1208+1),⟨H,Nat.lt_succ_self _⟩,⟨trivial⟩,⟨rfl⟩,?_⟩
              repeat refine mo1FB2 ?_
              first | exact trivial | exact rfl
           ·replace H:=some_st H
            dsimp only [stp,sm] at H
            refine ⟨(),⟨H⟩,⟨rfl⟩,?_⟩
            repeat refine mo1FB2 ?_
            first | exact trivial | exact rfl
          ·intro v1204 H
           have hfin:=fin_st H
           first | subst hfin | rw [←hfin]
           refine ⟨(),⟨trivial⟩,⟨trivial⟩,?_⟩
           repeat refine mo1FB2 ?_
           first | exact trivial | exact rfl
         ·refine if_st H (fun h1247 H=>?_) (fun h1247 H=>?_)
          ·obtain ⟨v1248,hv1249,H⟩:=call_st H
           refine ⟨(a0,a1.2.2.2.2,v1248,((A0_3,cp0_3),(A0_12,cp0_12))),⟨hv1249,hc0_3,hc0_12⟩,⟨⟨(Reads.mono hq1000 hR0_3),(Reads.mono hq1000 hR0_12),trivial⟩⟩,?_⟩
           iterate 11 refine And.intro ⟨rfl⟩ ?_
           refine mo1FB2 ?_
           iterate 5 refine And.intro ⟨rfl⟩ ?_
           intro q1250 g1251 hq1252 hok1253 hrd1254
           have hfin:=fin_st H
           first | subst hfin | rw [←hfin]
           refine ⟨(),⟨trivial⟩,⟨trivial⟩,?_⟩
           repeat refine mo1FB2 ?_
           first | exact trivial | exact rfl
          ·refine ⟨(),⟨H⟩,⟨rfl⟩,?_⟩
           repeat refine mo1FB2 ?_
           first | exact trivial | exact rfl
  ·intro v1135 H
   have hfin:=fin_st H
   first | subst hfin | rw [←hfin]
   refine ⟨(),⟨trivial⟩,⟨trivial⟩,?_⟩
   repeat refine mo1FB2 ?_
   first | exact trivial | exact rfl
noncomputable def g12 (a0:(Int×ByteArray×ByteArray×List ByteArray×Int×Int×Nat×Nat×Nat×ByteArray×Int×Bool×List Int×Nat×ByteArray×ByteArray)) (a1:(ByteArray×Int×Bool×List Int×Nat)):Option (Bool):=
 (g22 a0.1).bind fun v1255=>
 if ¬v1255=0 then
  (
   (g23 a0).bind fun v1258=>
   if v1258=true then
    (
     (g24 a0 a1).bind fun v1266=>
     some v1266
    )
   else
    some false
  )
 else
  some false
noncomputable def k12:Eng.CS:={ f:=12,calm:=false,more:=0,ι:=(Int×ByteArray×ByteArray×List ByteArray×Int×Int×Nat×Nat×Nat×ByteArray×Int×Bool×List Int×Nat×ByteArray×ByteArray)×(ByteArray×Int×Bool×List Int×Nat)×Bool×((Option Addr×Nat)×(Option Addr×Nat)×(Option Addr×Nat)),ok:=fun i=>g12 i.1 i.2.1=some i.2.2.1∧i.1.2.2.2.1.length≤i.2.2.2.1.2∧i.1.2.2.2.2.2.2.2.2.2.2.2.2.1.length≤i.2.2.2.2.1.2∧i.2.1.2.2.2.1.length≤i.2.2.2.2.2.2,rds:=fun i=>[(i.2.2.2.1.1,es i.1.2.2.2.1),(i.2.2.2.2.1.1,ei .i64 i.1.2.2.2.2.2.2.2.2.2.2.2.2.1),(i.2.2.2.2.2.1,ei .i64 i.2.1.2.2.2.1)],args:=fun i=>[.w (.agg [.v (.int .i64 (i.1.1)),.v (.string (i.1.2.1)),.v (.string (i.1.2.2.1)),.v (.slice i.2.2.2.1.1 i.1.2.2.2.1.length i.2.2.2.1.2),.v (.int .i64 (i.1.2.2.2.2.1)),.v (.int .i64 (i.1.2.2.2.2.2.1)),.v (.float .f64 (i.1.2.2.2.2.2.2.1)),.v (.float .f64 (i.1.2.2.2.2.2.2.2.1)),.v (.float .f64 (i.1.2.2.2.2.2.2.2.2.1)),.v (.string (i.1.2.2.2.2.2.2.2.2.2.1)),.v (.int .i64 (i.1.2.2.2.2.2.2.2.2.2.2.1)),bS i.1.2.2.2.2.2.2.2.2.2.2.2.1,.v (.slice i.2.2.2.2.1.1 i.1.2.2.2.2.2.2.2.2.2.2.2.2.1.length i.2.2.2.2.1.2),.v (.float .f64 (i.1.2.2.2.2.2.2.2.2.2.2.2.2.2.1)),.v (.string (i.1.2.2.2.2.2.2.2.2.2.2.2.2.2.2.1)),.v (.string (i.1.2.2.2.2.2.2.2.2.2.2.2.2.2.2.2))]),.w (.agg [.v (.string (i.2.1.1)),.v (.int .i64 (i.2.1.2.1)),bS i.2.1.2.2.1,.v (.slice i.2.2.2.2.2.1 i.2.1.2.2.2.1.length i.2.2.2.2.2.2),.v (.float .f64 (i.2.1.2.2.2.2))])],res:=fun _=>.bad,rn:=[],gr:=true,γ:=Unit,resG:=fun i _=>bS i.2.2.1,LG:=fun i _=>[],okG:=fun i _=>True,rdsG:=fun i _=>[],fzr:=[] }
theorem k12_ok:CSOk Tryz.prog k12:=by
 refine R.cspecG Tryz.func12 (nq9 Tryz.func12) rfl rfl (fun _=>rfl) ?_
 rintro ⟨a0,a1,r,⟨⟨A0_3,cp0_3⟩,⟨A0_12,cp0_12⟩,⟨A1_3,cp1_3⟩⟩⟩ ⟨hok,hc0_3,hc0_12,hc1_3⟩ q hrds args hargs
 obtain ⟨hR0_3,hR0_12,hR1_3,_⟩:=hrds
 dsimp only at hR0_3 hc0_3 hR0_12 hc0_12 hR1_3 hc1_3
 dsimp only [k12] at hargs ⊢
 match args,hargs with
 | [_,_],hargs=>
 obtain ⟨rfl,rfl,_⟩:=hargs
 refine ⟨envC [k22,k23,k24] false [],6,envC_ok (css_cons ⟨fun _=>k22_ok,fun h=>(by cases h)⟩ (css_cons ⟨fun h=>(by cases h),fun _=>k23_ok⟩ (css_cons ⟨fun h=>(by cases h),fun _=>k24_ok⟩ (css_nil)))),?_⟩
 have H:Gives (g12 a0 a1) (fun a=>a=r):=⟨r,hok,rfl⟩
 unfold g12 at H
 clear hok
 obtain ⟨v1255,hv1256,H⟩:=call_st H
 refine ⟨(a0.1,v1255),⟨hv1256⟩,⟨trivial⟩,?_⟩
 refine And.intro ⟨rfl⟩ ?_
 refine if_st H (fun h1257 H=>?_) (fun h1257 H=>?_)
 ·obtain ⟨v1258,hv1259,H⟩:=call_st H
  refine ⟨(a0,v1258,((A0_3,cp0_3),(A0_12,cp0_12))),⟨hv1259,hc0_3,hc0_12⟩,⟨⟨hR0_3,hR0_12,trivial⟩⟩,?_⟩
  iterate 11 refine And.intro ⟨rfl⟩ ?_
  refine mo1FB2 ?_
  iterate 4 refine And.intro ⟨rfl⟩ ?_
  intro q1260 g1261 hq1262 hok1263 hrd1264
  refine if_st H (fun h1265 H=>?_) (fun h1265 H=>?_)
  ·obtain ⟨v1266,hv1267,H⟩:=call_st H
   refine ⟨(a0,a1,v1266,((A0_3,cp0_3),(A0_12,cp0_12),(A1_3,cp1_3))),⟨hv1267,hc0_3,hc0_12,hc1_3⟩,⟨⟨(Reads.mono hq1262 hR0_3),(Reads.mono hq1262 hR0_12),(Reads.mono hq1262 hR1_3),trivial⟩⟩,?_⟩
   iterate 11 refine And.intro ⟨rfl⟩ ?_
   refine mo1FB2 ?_
   iterate 6 refine And.intro ⟨rfl⟩ ?_
   refine mo1FB2 ?_
   iterate 2 refine And.intro ⟨rfl⟩ ?_
   intro q1268 g1269 hq1270 hok1271 hrd1272
   have hfin:=fin_st H
   first | subst hfin | rw [←hfin]
   refine ⟨(),⟨trivial⟩,⟨trivial⟩,?_⟩
   repeat refine mo1FB2 ?_
   first | exact trivial | exact rfl
  ·have hfin:=fin_st H
   first | subst hfin | rw [←hfin]
   refine ⟨(),⟨trivial⟩,⟨trivial⟩,?_⟩
   repeat refine mo1FB2 ?_
   first | exact trivial | exact rfl
 ·have hfin:=fin_st H
  first | subst hfin | rw [←hfin]
  refine ⟨(),⟨trivial⟩,⟨trivial⟩,?_⟩
  repeat refine mo1FB2 ?_
  first | exact trivial | exact rfl
noncomputable def g25 (a0:ByteArray):Option ((Int×Nat×ByteArray×Bool)):=
 some (2,0,a0,false)
noncomputable def k25:Eng.CS:={ f:=25,calm:=true,more:=0,ι:=ByteArray×(Int×Nat×ByteArray×Bool),ok:=fun i=>g25 i.1=some i.2,rds:=fun _=>[],args:=fun i=>[.w (.v (.string (i.1)))],res:=fun i=>.agg [.v (.int .i64 (i.2.1)),.v (.float .f64 (i.2.2.1)),.v (.string (i.2.2.2.1)),bS i.2.2.2.2] }
theorem k25_ok:CalmOk Tryz.prog k25:=by
 refine R.calmspec Tryz.func25 (nq9 Tryz.func25) rfl ?_
 rintro ⟨a0,r⟩ hok q _ args hargs
 match args,hargs with
 | [_],hargs=>
 obtain ⟨rfl,_⟩:=hargs
 refine ⟨envC [] false [],6,envC_ok (css_nil),rfl,(by intro x hx;simp only [List.mem_cons,List.not_mem_nil,or_false] at hx;rcases hx with rfl<;>rfl),?_⟩
 have H:Gives (g25 a0) (fun a=>a=r):=⟨r,hok,rfl⟩
 unfold g25 at H
 clear hok
 have hfin:=fin_st H
 repeat refine mf1FB2 ?_
 first | exact trivial | exact rfl
noncomputable def g26 (a0:Nat):Option ((Int×Nat×ByteArray×Bool)):=
 some (1,a0,(⟨#[]⟩:ByteArray),false)
noncomputable def k26:Eng.CS:={ f:=26,calm:=true,more:=0,ι:=Nat×(Int×Nat×ByteArray×Bool),ok:=fun i=>g26 i.1=some i.2,rds:=fun _=>[],args:=fun i=>[.w (.v (.float .f64 (i.1)))],res:=fun i=>.agg [.v (.int .i64 (i.2.1)),.v (.float .f64 (i.2.2.1)),.v (.string (i.2.2.2.1)),bS i.2.2.2.2] }
theorem k26_ok:CalmOk Tryz.prog k26:=by
 refine R.calmspec Tryz.func26 (nq9 Tryz.func26) rfl ?_
 rintro ⟨a0,r⟩ hok q _ args hargs
 match args,hargs with
 | [_],hargs=>
 obtain ⟨rfl,_⟩:=hargs
 refine ⟨envC [] false [],6,envC_ok (css_nil),rfl,(by intro x hx;simp only [List.mem_cons,List.not_mem_nil,or_false] at hx;rcases hx with rfl<;>rfl),?_⟩
 have H:Gives (g26 a0) (fun a=>a=r):=⟨r,hok,rfl⟩
 unfold g26 at H
 clear hok
 have hfin:=fin_st H
 repeat refine mf1FB2 ?_
 first | exact trivial | exact rfl
noncomputable def g13 (a0:(Int×ByteArray×ByteArray×List ByteArray×Int×Int×Nat×Nat×Nat×ByteArray×Int×Bool×List Int×Nat×ByteArray×ByteArray)) (a1:(ByteArray×Int×Bool×List Int×Nat)):Option ((ByteArray×Int×Nat×ByteArray×Bool)):=
 jn (α:=_) (β:=Bool) (fun k1296=>
   if a0.1=6 then
    k1296 (decide (a0.1=6))
   else
    k1296 (decide (a0.1=8))
 ) (fun v1295=>
  if v1295=true then
   (
    ck (0≤a1.2.1∧a1.2.1<((a0.2.2.2.1.length:Nat):Int)) <|
    (g25 (a0.2.2.2.1.getD a1.2.1.toNat default)).bind fun v1300=>
    some (a0.2.1,v1300.1,v1300.2.1,v1300.2.2.1,v1300.2.2.2)
   )
  else
   (
    if a0.1=3 then
     (
      (g26 (FloatKind.f64.nearest a1.2.1)).bind fun v1303=>
      some (a0.2.1,v1303.1,v1303.2.1,v1303.2.2.1,v1303.2.2.2)
     )
    else
     (
      if a0.1=7 then
       (
        (g26 (FloatKind.f64.nearest ((a1.2.2.2.1.length:Nat):Int))).bind fun v1306=>
        some (a0.2.1,v1306.1,v1306.2.1,v1306.2.2.1,v1306.2.2.2)
       )
      else
       (
        if a0.1=9 then
         (
          (g26 a1.2.2.2.2).bind fun v1309=>
          some (a0.2.1,v1309.1,v1309.2.1,v1309.2.2.1,v1309.2.2.2)
         )
        else
         (
          if a0.1=5 then
           some (a0.2.1,3,0,(⟨#[]⟩:ByteArray),a1.2.2.1)
          else
           (
            (g25 a1.1).bind fun v1312=>
            some (a0.2.1,v1312.1,v1312.2.1,v1312.2.2.1,v1312.2.2.2)
           )
         )
       )
     )
   )
 )
noncomputable def k13:Eng.CS:={ f:=13,calm:=false,more:=0,ι:=(Int×ByteArray×ByteArray×List ByteArray×Int×Int×Nat×Nat×Nat×ByteArray×Int×Bool×List Int×Nat×ByteArray×ByteArray)×(ByteArray×Int×Bool×List Int×Nat)×(ByteArray×Int×Nat×ByteArray×Bool)×((Option Addr×Nat)×(Option Addr×Nat)×(Option Addr×Nat)),ok:=fun i=>g13 i.1 i.2.1=some i.2.2.1∧i.1.2.2.2.1.length≤i.2.2.2.1.2∧i.1.2.2.2.2.2.2.2.2.2.2.2.2.1.length≤i.2.2.2.2.1.2∧i.2.1.2.2.2.1.length≤i.2.2.2.2.2.2,rds:=fun i=>[(i.2.2.2.1.1,es i.1.2.2.2.1),(i.2.2.2.2.1.1,ei .i64 i.1.2.2.2.2.2.2.2.2.2.2.2.2.1),(i.2.2.2.2.2.1,ei .i64 i.2.1.2.2.2.1)],args:=fun i=>[.w (.agg [.v (.int .i64 (i.1.1)),.v (.string (i.1.2.1)),.v (.string (i.1.2.2.1)),.v (.slice i.2.2.2.1.1 i.1.2.2.2.1.length i.2.2.2.1.2),.v (.int .i64 (i.1.2.2.2.2.1)),.v (.int .i64 (i.1.2.2.2.2.2.1)),.v (.float .f64 (i.1.2.2.2.2.2.2.1)),.v (.float .f64 (i.1.2.2.2.2.2.2.2.1)),.v (.float .f64 (i.1.2.2.2.2.2.2.2.2.1)),.v (.string (i.1.2.2.2.2.2.2.2.2.2.1)),.v (.int .i64 (i.1.2.2.2.2.2.2.2.2.2.2.1)),bS i.1.2.2.2.2.2.2.2.2.2.2.2.1,.v (.slice i.2.2.2.2.1.1 i.1.2.2.2.2.2.2.2.2.2.2.2.2.1.length i.2.2.2.2.1.2),.v (.float .f64 (i.1.2.2.2.2.2.2.2.2.2.2.2.2.2.1)),.v (.string (i.1.2.2.2.2.2.2.2.2.2.2.2.2.2.2.1)),.v (.string (i.1.2.2.2.2.2.2.2.2.2.2.2.2.2.2.2))]),.w (.agg [.v (.string (i.2.1.1)),.v (.int .i64 (i.2.1.2.1)),bS i.2.1.2.2.1,.v (.slice i.2.2.2.2.2.1 i.2.1.2.2.2.1.length i.2.2.2.2.2.2),.v (.float .f64 (i.2.1.2.2.2.2))])],res:=fun _=>.bad,rn:=[],gr:=true,γ:=Unit,resG:=fun i _=>.agg [.v (.string (i.2.2.1.1)),.v (.int .i64 (i.2.2.1.2.1)),.v (.float .f64 (i.2.2.1.2.2.1)),.v (.string (i.2.2.1.2.2.2.1)),bS i.2.2.1.2.2.2.2],LG:=fun i _=>[],okG:=fun i _=>True,rdsG:=fun i _=>[],fzr:=[] }
theorem k13_ok:CSOk Tryz.prog k13:=by
 refine R.cspecG Tryz.func13 (nq9 Tryz.func13) rfl rfl (fun _=>rfl) ?_
 rintro ⟨a0,a1,r,⟨⟨A0_3,cp0_3⟩,⟨A0_12,cp0_12⟩,⟨A1_3,cp1_3⟩⟩⟩ ⟨hok,hc0_3,hc0_12,hc1_3⟩ q hrds args hargs
 obtain ⟨hR0_3,hR0_12,hR1_3,_⟩:=hrds
 dsimp only at hR0_3 hc0_3 hR0_12 hc0_12 hR1_3 hc1_3
 dsimp only [k13] at hargs ⊢
 match args,hargs with
 | [_,_],hargs=>
 obtain ⟨rfl,rfl,_⟩:=hargs
 refine ⟨envC [k25,k26] false [(13,6)],6,envC_ok (css_cons ⟨fun _=>k25_ok,fun h=>(by cases h)⟩ (css_cons ⟨fun _=>k26_ok,fun h=>(by cases h)⟩ (css_nil))),?_⟩
 have H:Gives (g13 a0 a1) (fun a=>a=r):=⟨r,hok,rfl⟩
 unfold g13 at H
 clear hok
 refine R.cut_fam H 15 [2,3,4,5,10] [] (fun v1295=>[(15,bS v1295)]) (fun v1295=>[]) [(0,.cells 29 [.v (.int .i64 (a0.1)),.v (.string (a0.2.1)),.v (.string (a0.2.2.1)),.v (.slice (A0_3) (a0.2.2.2.1.length) (cp0_3)),.v (.int .i64 (a0.2.2.2.2.1)),.v (.int .i64 (a0.2.2.2.2.2.1)),.v (.float .f64 (a0.2.2.2.2.2.2.1)),.v (.float .f64 (a0.2.2.2.2.2.2.2.1)),.v (.float .f64 (a0.2.2.2.2.2.2.2.2.1)),.v (.string (a0.2.2.2.2.2.2.2.2.2.1)),.v (.int .i64 (a0.2.2.2.2.2.2.2.2.2.2.1)),bS a0.2.2.2.2.2.2.2.2.2.2.2.1,.v (.slice (A0_12) (a0.2.2.2.2.2.2.2.2.2.2.2.2.1.length) (cp0_12)),.v (.float .f64 (a0.2.2.2.2.2.2.2.2.2.2.2.2.2.1)),.v (.string (a0.2.2.2.2.2.2.2.2.2.2.2.2.2.2.1)),.v (.string (a0.2.2.2.2.2.2.2.2.2.2.2.2.2.2.2))]),(1,.cells 27 [.v (.string (a1.1)),.v (.int .i64 (a1.2.1)),bS a1.2.2.1,.v (.slice (A1_3) (a1.2.2.2.1.length) (cp1_3)),.v (.float .f64 (a1.2.2.2.2))]),(2,.cells 36 [.v (.string ((⟨#[]⟩:ByteArray))),.v (.int .i64 (0)),.v (.float .f64 (0)),.v (.string ((⟨#[]⟩:ByteArray))),.bb false]),(6,.cells 36 [.v (.string (a0.2.1)),.v (.int .i64 (0)),.v (.float .f64 (0)),.v (.string ((⟨#[]⟩:ByteArray))),.bb false])] 0 (fun H=>?_)
 refine And.intro ?_ ?_
 ·refine if_st H (fun h1297 H=>?_) (fun h1297 H=>?_)
  ·refine ⟨(decide (a0.1=6)),⟨H⟩,⟨rfl⟩,?_⟩
   repeat refine mo1FB2 ?_
   first | exact trivial | exact rfl
  ·refine ⟨(decide (a0.1=8)),⟨H⟩,⟨rfl⟩,?_⟩
   repeat refine mo1FB2 ?_
   first | exact trivial | exact rfl
 ·intro v1295 H
  refine if_st H (fun h1298 H=>?_) (fun h1298 H=>?_)
  ·refine ob_ix hR0_3 (fun h=>es0 h) H fun h1299 H=>?_
   refine ld_str (e:=a0.2.2.2.1.getD a1.2.1.toNat default) (rd_get hR0_3 (es_get (l:=a0.2.2.2.1) (tn h1299))) ?_
   obtain ⟨v1300,hv1301,H⟩:=call_st H
   refine ⟨(a0.2.2.2.1.getD a1.2.1.toNat default,v1300),⟨hv1301⟩,⟨trivial⟩,?_⟩
   refine And.intro ⟨rfl⟩ ?_
   have hfin:=fin_st H
   first | subst hfin | rw [←hfin]
   refine ⟨(),⟨trivial⟩,⟨trivial⟩,?_⟩
   repeat refine mo1FB2 ?_
   first | exact trivial | exact rfl
  ·refine if_st H (fun h1302 H=>?_) (fun h1302 H=>?_)
   ·obtain ⟨v1303,hv1304,H⟩:=call_st H
    refine ⟨(FloatKind.f64.nearest a1.2.1,v1303),⟨hv1304⟩,⟨trivial⟩,?_⟩
    refine And.intro ⟨rfl⟩ ?_
    have hfin:=fin_st H
    first | subst hfin | rw [←hfin]
    refine ⟨(),⟨trivial⟩,⟨trivial⟩,?_⟩
    repeat refine mo1FB2 ?_
    first | exact trivial | exact rfl
   ·refine if_st H (fun h1305 H=>?_) (fun h1305 H=>?_)
    ·obtain ⟨v1306,hv1307,H⟩:=call_st H
     refine ⟨(FloatKind.f64.nearest ((a1.2.2.2.1.length:Nat):Int),v1306),⟨hv1307⟩,⟨trivial⟩,?_⟩
     refine And.intro ⟨rfl⟩ ?_
     have hfin:=fin_st H
     first | subst hfin | rw [←hfin]
     refine ⟨(),⟨trivial⟩,⟨trivial⟩,?_⟩
     repeat refine mo1FB2 ?_
     first | exact trivial | exact rfl
    ·refine if_st H (fun h1308 H=>?_) (fun h1308 H=>?_)
     ·obtain ⟨v1309,hv1310,H⟩:=call_st H
      refine ⟨(a1.2.2.2.2,v1309),⟨hv1310⟩,⟨trivial⟩,?_⟩
      refine And.intro ⟨rfl⟩ ?_
      have hfin:=fin_st H
      first | subst hfin | rw [←hfin]
      refine ⟨(),⟨trivial⟩,⟨trivial⟩,?_⟩
      repeat refine mo1FB2 ?_
      first | exact trivial | exact rfl
     ·refine if_st H (fun h1311 H=>?_) (fun h1311 H=>?_)
      ·have hfin:=fin_st H
       first | subst hfin | rw [←hfin]
       refine ⟨(),⟨trivial⟩,⟨trivial⟩,?_⟩
       repeat refine mo1FB2 ?_
       first | exact trivial | exact rfl
      ·obtain ⟨v1312,hv1313,H⟩:=call_st H
       refine ⟨(a1.1,v1312),⟨hv1313⟩,⟨trivial⟩,?_⟩
       refine And.intro ⟨rfl⟩ ?_
       have hfin:=fin_st H
       first | subst hfin | rw [←hfin]
       refine ⟨(),⟨trivial⟩,⟨trivial⟩,?_⟩
       repeat refine mo1FB2 ?_
       first | exact trivial | exact rfl
noncomputable def g7 (a0:(Int×ByteArray×ByteArray×List ByteArray×Int×Int×Nat×Nat×Nat×ByteArray×Int×Bool×List Int×Nat×ByteArray×ByteArray)) (a1:(ByteArray×Int×Bool×List Int×Nat)):Option ((ByteArray×Int×Nat×ByteArray×Bool)×Int):=
 (g12 a0 a1).bind fun v1322=>
 if ¬(v1322=true) then
  some (((⟨#[]⟩:ByteArray),0,0,(⟨#[]⟩:ByteArray),false),1)
 else
  (
   (g13 a0 a1).bind fun v1330=>
   some (v1330,0)
  )
noncomputable def k7:Eng.CS:={ f:=7,calm:=false,more:=0,ι:=(Int×ByteArray×ByteArray×List ByteArray×Int×Int×Nat×Nat×Nat×ByteArray×Int×Bool×List Int×Nat×ByteArray×ByteArray)×(ByteArray×Int×Bool×List Int×Nat)×((ByteArray×Int×Nat×ByteArray×Bool)×Int)×((Option Addr×Nat)×(Option Addr×Nat)×(Option Addr×Nat)),ok:=fun i=>g7 i.1 i.2.1=some i.2.2.1∧i.1.2.2.2.1.length≤i.2.2.2.1.2∧i.1.2.2.2.2.2.2.2.2.2.2.2.2.1.length≤i.2.2.2.2.1.2∧i.2.1.2.2.2.1.length≤i.2.2.2.2.2.2,rds:=fun i=>[(i.2.2.2.1.1,es i.1.2.2.2.1),(i.2.2.2.2.1.1,ei .i64 i.1.2.2.2.2.2.2.2.2.2.2.2.2.1),(i.2.2.2.2.2.1,ei .i64 i.2.1.2.2.2.1)],args:=fun i=>[.w (.agg [.v (.int .i64 (i.1.1)),.v (.string (i.1.2.1)),.v (.string (i.1.2.2.1)),.v (.slice i.2.2.2.1.1 i.1.2.2.2.1.length i.2.2.2.1.2),.v (.int .i64 (i.1.2.2.2.2.1)),.v (.int .i64 (i.1.2.2.2.2.2.1)),.v (.float .f64 (i.1.2.2.2.2.2.2.1)),.v (.float .f64 (i.1.2.2.2.2.2.2.2.1)),.v (.float .f64 (i.1.2.2.2.2.2.2.2.2.1)),.v (.string (i.1.2.2.2.2.2.2.2.2.2.1)),.v (.int .i64 (i.1.2.2.2.2.2.2.2.2.2.2.1)),bS i.1.2.2.2.2.2.2.2.2.2.2.2.1,.v (.slice i.2.2.2.2.1.1 i.1.2.2.2.2.2.2.2.2.2.2.2.2.1.length i.2.2.2.2.1.2),.v (.float .f64 (i.1.2.2.2.2.2.2.2.2.2.2.2.2.2.1)),.v (.string (i.1.2.2.2.2.2.2.2.2.2.2.2.2.2.2.1)),.v (.string (i.1.2.2.2.2.2.2.2.2.2.2.2.2.2.2.2))]),.w (.agg [.v (.string (i.2.1.1)),.v (.int .i64 (i.2.1.2.1)),bS i.2.1.2.2.1,.v (.slice i.2.2.2.2.2.1 i.2.1.2.2.2.1.length i.2.2.2.2.2.2),.v (.float .f64 (i.2.1.2.2.2.2))])],res:=fun _=>.bad,rn:=[],gr:=true,γ:=Unit,resG:=fun i _=>.tup [.agg [.v (.string (i.2.2.1.1.1)),.v (.int .i64 (i.2.2.1.1.2.1)),.v (.float .f64 (i.2.2.1.1.2.2.1)),.v (.string (i.2.2.1.1.2.2.2.1)),bS i.2.2.1.1.2.2.2.2],.v (.int .i64 (i.2.2.1.2))],LG:=fun i _=>[],okG:=fun i _=>True,rdsG:=fun i _=>[],fzr:=[] }
theorem k7_ok:CSOk Tryz.prog k7:=by
 refine R.cspecG Tryz.func7 (nq9 Tryz.func7) rfl rfl (fun _=>rfl) ?_
 rintro ⟨a0,a1,r,⟨⟨A0_3,cp0_3⟩,⟨A0_12,cp0_12⟩,⟨A1_3,cp1_3⟩⟩⟩ ⟨hok,hc0_3,hc0_12,hc1_3⟩ q hrds args hargs
 obtain ⟨hR0_3,hR0_12,hR1_3,_⟩:=hrds
 dsimp only at hR0_3 hc0_3 hR0_12 hc0_12 hR1_3 hc1_3
 dsimp only [k7] at hargs ⊢
 match args,hargs with
 | [_,_],hargs=>
 obtain ⟨rfl,rfl,_⟩:=hargs
 refine ⟨envC [k12,k13] false [],6,envC_ok (css_cons ⟨fun h=>(by cases h),fun _=>k12_ok⟩ (css_cons ⟨fun h=>(by cases h),fun _=>k13_ok⟩ (css_nil))),?_⟩
 have H:Gives (g7 a0 a1) (fun a=>a=r):=⟨r,hok,rfl⟩
 unfold g7 at H
 clear hok
 obtain ⟨v1322,hv1323,H⟩:=call_st H
 refine ⟨(a0,a1,v1322,((A0_3,cp0_3),(A0_12,cp0_12),(A1_3,cp1_3))),⟨hv1323,hc0_3,hc0_12,hc1_3⟩,⟨⟨hR0_3,hR0_12,hR1_3,trivial⟩⟩,?_⟩
 iterate 11 refine And.intro ⟨rfl⟩ ?_
 refine mo1FB2 ?_
 iterate 6 refine And.intro ⟨rfl⟩ ?_
 refine mo1FB2 ?_
 iterate 2 refine And.intro ⟨rfl⟩ ?_
 intro q1324 g1325 hq1326 hok1327 hrd1328
 refine if_st H (fun h1329 H=>?_) (fun h1329 H=>?_)
 ·have hfin:=fin_st H
  first | subst hfin | rw [←hfin]
  refine ⟨(),⟨trivial⟩,⟨trivial⟩,?_⟩
  repeat refine mo1FB2 ?_
  first | exact trivial | exact rfl
 ·obtain ⟨v1330,hv1331,H⟩:=call_st H
  refine ⟨(a0,a1,v1330,((A0_3,cp0_3),(A0_12,cp0_12),(A1_3,cp1_3))),⟨hv1331,hc0_3,hc0_12,hc1_3⟩,⟨⟨(Reads.mono hq1326 hR0_3),(Reads.mono hq1326 hR0_12),(Reads.mono hq1326 hR1_3),trivial⟩⟩,?_⟩
  iterate 11 refine And.intro ⟨rfl⟩ ?_
  refine mo1FB2 ?_
  iterate 6 refine And.intro ⟨rfl⟩ ?_
  refine mo1FB2 ?_
  iterate 2 refine And.intro ⟨rfl⟩ ?_
  intro q1332 g1333 hq1334 hok1335 hrd1336
  have hfin:=fin_st H
  first | subst hfin | rw [←hfin]
  refine ⟨(),⟨trivial⟩,⟨trivial⟩,?_⟩
  repeat refine mo1FB2 ?_
  first | exact trivial | exact rfl
end Go.Proofs.YtlehbfahkjhgnaaGreat
end
section
namespace Go.Proofs
open Go.Shelf
def Tryz.lays190_ren:Go.Shelf.Ren:=⟨fun | 190=>93 | 125=>155 | 258=>154 | 128=>199 | 129=>200 | 302=>190 | 303=>191 | 304=>192 | 305=>193 | 306=>194 | 307=>195 | 308=>196 | 309=>197 | 310=>198 | 333=>221 | 329=>222 | 330=>223 | 334=>224 | 335=>225 | 336=>226 | 344=>236 | n=>n,fun | 31=>23 | 9=>9 | 3=>3 | 46=>106 | 0=>0 | 51=>175 | 53=>124 | 4=>4 | 183=>214 | 182=>213 | 131=>73 | 5=>5 | 218=>234 | 222=>238 | 228=>248 | 229=>249 | n=>n,fun | n=>n⟩
theorem Tryz.lays190:Go.Proofs.Lays.n190 Tryz.prog Tryz.lays190_ren:={
 mixed:=by kernel_rfl
 f125:=Tryz.func155.trans (congrArg some (by kernel_rfl))
 f128:=Tryz.func199.trans (congrArg some (by kernel_rfl))
 f129:=Tryz.func200.trans (congrArg some (by kernel_rfl))
 f190:=Tryz.func93.trans (congrArg some (by kernel_rfl))
 f258:=Tryz.func154.trans (congrArg some (by kernel_rfl))
 f302:=Tryz.func190.trans (congrArg some (by kernel_rfl))
 f303:=Tryz.func191.trans (congrArg some (by kernel_rfl))
 f304:=Tryz.func192.trans (congrArg some (by kernel_rfl))
 f305:=Tryz.func193.trans (congrArg some (by kernel_rfl))
 f306:=Tryz.func194.trans (congrArg some (by kernel_rfl))
 f307:=Tryz.func195.trans (congrArg some (by kernel_rfl))
 f308:=Tryz.func196.trans (congrArg some (by kernel_rfl))
 f309:=Tryz.func197.trans (congrArg some (by kernel_rfl))
 f310:=Tryz.func198.trans (congrArg some (by kernel_rfl))
 f329:=Tryz.func222.trans (congrArg some (by kernel_rfl))
 f330:=Tryz.func223.trans (congrArg some (by kernel_rfl))
 f333:=Tryz.func221.trans (congrArg some (by kernel_rfl))
 f334:=Tryz.func224.trans (congrArg some (by kernel_rfl))
 f335:=Tryz.func225.trans (congrArg some (by kernel_rfl))
 f336:=Tryz.func226.trans (congrArg some (by kernel_rfl))
 f344:=Tryz.func236.trans (congrArg some (by kernel_rfl))
 t0:=Tryz.underlying0
 a0:=Tryz.isAgg0
 z0:=Tryz.sizeOf0
 v0:=Tryz.zeroValue0
 t3:=Tryz.underlying3
 a3:=Tryz.isAgg3
 z3:=Tryz.sizeOf3
 v3:=Tryz.zeroValue3
 t4:=Tryz.underlying4
 a4:=Tryz.isAgg4
 z4:=Tryz.sizeOf4
 v4:=Tryz.zeroValue4
 t5:=Tryz.underlying5
 a5:=Tryz.isAgg5
 z5:=Tryz.sizeOf5
 v5:=Tryz.zeroValue5
 t9:=Tryz.underlying9
 a9:=Tryz.isAgg9
 z9:=Tryz.sizeOf9
 v9:=Tryz.zeroValue9
 t31:=Tryz.underlying23
 a31:=Tryz.isAgg23
 z31:=Tryz.sizeOf23
 v31:=Tryz.zeroValue23
 t46:=Tryz.underlying106
 a46:=Tryz.isAgg106
 z46:=Tryz.sizeOf106
 v46:=Tryz.zeroValue106
 t51:=Tryz.underlying175
 a51:=Tryz.isAgg175
 z51:=Tryz.sizeOf175
 v51:=Tryz.zeroValue175
 t53:=Tryz.underlying124
 a53:=Tryz.isAgg124
 z53:=Tryz.sizeOf124
 v53:=Tryz.zeroValue124
 t131:=Tryz.underlying73
 a131:=Tryz.isAgg73
 z131:=Tryz.sizeOf73
 v131:=Tryz.zeroValue73
 t182:=Tryz.underlying213
 a182:=Tryz.isAgg213
 z182:=Tryz.sizeOf213
 v182:=Tryz.zeroValue213
 t183:=Tryz.underlying214
 a183:=Tryz.isAgg214
 z183:=Tryz.sizeOf214
 v183:=Tryz.zeroValue214
 t218:=Tryz.underlying234
 a218:=Tryz.isAgg234
 z218:=Tryz.sizeOf234
 v218:=Tryz.zeroValue234
 t222:=Tryz.underlying238
 a222:=Tryz.isAgg238
 z222:=Tryz.sizeOf238
 v222:=Tryz.zeroValue238
 t228:=Tryz.underlying248
 a228:=Tryz.isAgg248
 z228:=Tryz.sizeOf248
 v228:=Tryz.zeroValue248
 t229:=Tryz.underlying249
 a229:=Tryz.isAgg249
 z229:=Tryz.sizeOf249
 v229:=Tryz.zeroValue249 }
open Go.Sort Go.RowKit in
theorem Tryz.slices_Sort_string (blk off cap:Nat) (ss:List (List UInt8)) (w:World) (hH:Holds encStr w blk off ss.toArray) (hblk:blk<w.heap.size) (hsz:ss.length<4611686018427387904) :
  Calls Tryz.prog 93 #[.slice (some ⟨blk,off,none⟩) ss.length cap] w fun e w'=>
   e=.returned (.tuple #[])∧∃n os,w'=grow (putRow encStr (Sort.ahead w n) blk off (ss.mergeSort fun x y=>decide (x≤y)).toArray) os:=Any.slices_Sort_string Tryz.lays190 blk off cap ss w hH hblk hsz
def Tryz.laysNm216_ren:Go.Shelf.Ren:=⟨fun | 16=>64 | n=>n,fun | 24=>23 | 9=>9 | 4=>4 | n=>n,fun | n=>n⟩
theorem Tryz.laysNm216:Go.Proofs.Lays2.n16 Tryz.prog Tryz.laysNm216_ren:={
 mixed:=by kernel_rfl
 f16:=Tryz.func64.trans (congrArg some (by kernel_rfl))
 t4:=Tryz.underlying4
 a4:=Tryz.isAgg4
 z4:=Tryz.sizeOf4
 v4:=Tryz.zeroValue4
 t9:=Tryz.underlying9
 a9:=Tryz.isAgg9
 z9:=Tryz.sizeOf9
 v9:=Tryz.zeroValue9
 t24:=Tryz.underlying23
 a24:=Tryz.isAgg23
 z24:=Tryz.sizeOf23
 v24:=Tryz.zeroValue23
 i9:=by kernel_rfl }
open Go.RowKit Go.Lib in
theorem Tryz.slices_Clone_string (b off n c:Nat) (zs:List ByteArray) (w:World) (hz:n≤zs.length) (hbig:n * 16≤140737488355328) (hc:∀j,j<zs.length→w.cell? ⟨b,off+j,none⟩=some (.string (zs.getD j ByteArray.empty))) :
  Calls Tryz.prog 64 #[.slice (some ⟨b,off,none⟩) n c] w fun e w'=>∃v',e=.returned v'∧w'.ownsRow w.heap.size 9 1 v' n ((zs.take n).map (Value.string))∧v'≠.slice none 0 0∧Below w.heap.size w w':=Any.slices_Clone_string Tryz.laysNm216 b off n c zs w hz hbig hc
end Go.Proofs
end
section
namespace Go.Eng
def srt (l:List ByteArray):List (List UInt8):=(l.map (·.data.toList)).mergeSort fun x y=>decide (x≤y)
theorem srt_perm (l:List ByteArray):(srt l).Perm (l.map (·.data.toList)):=List.mergeSort_perm _ _
theorem srt_len (l:List ByteArray):(srt l).length=l.length:=by rw [(srt_perm l).length_eq,List.length_map]
theorem srt_le (l:List ByteArray):(srt l).Pairwise fun a b=>a≤b:=by
 have h:=List.pairwise_mergeSort (le:=fun x y:List UInt8=>decide (x≤y)) (fun a b c h1 h2=>by simp only [decide_eq_true_eq] at *;exact List.le_trans h1 h2)
  (fun a b=>by simp only [Bool.or_eq_true,decide_eq_true_eq];exact List.le_total a b) (l.map (·.data.toList))
 exact h.imp fun h=>by simpa using h
theorem toList_inj {a b:ByteArray} (h:a.data.toList=b.data.toList):a=b:=by
 cases a;cases b;simp only [ByteArray.mk.injEq];exact Array.toList_inj.1 h
theorem nodup_srt (l:List ByteArray):l.Nodup↔(srt l).Nodup:=by
 rw [(srt_perm l).nodup_iff]
 unfold List.Nodup
 rw [List.pairwise_map]
 exact ⟨fun h=>h.imp fun h e=>h (toList_inj e),fun h=>h.imp fun h e=>h (by rw [e])⟩
theorem nodup_adj (l:List ByteArray):l.Nodup↔∀i,1≤i→i<l.length→(srt l)[i]?≠(srt l)[i-1]?:=by
 rw [nodup_srt]
 have hl:=srt_len l
 constructor
 ·intro h i h1 h2 e
  rw [List.getElem?_eq_getElem (by omega),List.getElem?_eq_getElem (by omega)] at e
  exact (List.pairwise_iff_getElem.1 h) (i-1) i (by omega) (by omega) (by omega) (Option.some.inj e).symm
 ·intro h
  refine List.pairwise_iff_getElem.2 ?_
  intro i j hi hj hij e
  have hle:=List.pairwise_iff_getElem.1 (srt_le l)
  have h1:=h (i+1) (by omega) (by omega)
  rw [List.getElem?_eq_getElem (by omega),List.getElem?_eq_getElem (by omega)] at h1
  have a1:=hle i (i+1) (by omega) (by omega) (by omega)
  have a2:(srt l)[i+1]≤(srt l)[i]:=by
   rw [e]
   by_cases q:i+1=j
   ·subst q;exact List.le_refl _
   ·exact hle (i+1) j (by omega) (by omega) (by omega)
  exact h1 (congrArg some (List.le_antisymm a2 a1))
end Go.Eng
end
section
namespace Go.Proofs.YtlehbfahkjhgnaaGreat
open Go Go.Eng Go.RowKit Go.Sort
def Srt (g:Nat) (l:List ByteArray) (w:World):Prop:=∀j s,(srt l)[j]?=some s→w.cell? ⟨g,j,none⟩=some (.string ⟨s.toArray⟩)
theorem own_open {w:World} {base:Nat} {v:Value} {n:Nat} {xs:List Value} (h:w.ownsRow base 9 1 v n xs) (hn:v≠.slice none 0 0):∃g cap,v=.slice (some ⟨g,0,none⟩) n cap∧base≤g:=by
 rcases h.2 with ⟨h,_⟩ | ⟨g,cap,cur,h,hb,_⟩
 ·exact absurd h hn
 ·exact ⟨g,cap,h,hb⟩
theorem sort_run {g cap n:Nat} {l:List ByteArray} {w:World} {base:Nat} (hn:l.length=n) (hb:base≤g) (h:w.ownsRow base 9 1 (.slice (some ⟨g,0,none⟩) n cap) n (l.map .string)) (hl:n≤1000000) :
  Calls Tryz.prog 93 #[.slice (some ⟨g,0,none⟩) n cap] w fun e w'=>e=.returned (.tuple #[])∧Below base w w'∧Srt g l w':=by
 subst hn
 have hg:g<w.heap.size:=(h.lt g rfl).2
 have hH:Holds encStr w g 0 (l.map (·.data.toList)).toArray:=by
  intro j hj
  have hj:j<l.length:=by simpa using hj
  rw [Nat.zero_add,h.cellAt j (by omega),h.frozenAt j]
  simp [hj]
 have hs:=Tryz.slices_Sort_string g 0 cap (l.map (·.data.toList)) w hH hg (by simp;omega)
 rw [List.length_map] at hs
 refine hs.mono ?_
 rintro e w' ⟨rfl,n,os,rfl⟩
 refine ⟨rfl,?_,fun j s hj=>?_⟩
 ·refine ⟨rfl,rfl,rfl,by simp [putRow,mapBlock,Sort.ahead],fun k hk=>?_⟩
  have hk':k<(putRow encStr (Sort.ahead w n) g 0 ((l.map (·.data.toList)).mergeSort fun x y=>decide (x≤y)).toArray).heap.size:=by simp [putRow,mapBlock,Sort.ahead];omega
  rw [heap_grow_old _ _ hk']
  simp only [putRow,mapBlock,Sort.ahead,Array.getElem?_modify]
  rw [if_neg (by omega)]
 ·have hjl:j<(srt l).length:=(List.getElem?_eq_some_iff.1 hj).1
  have hjl':j<l.length:=by rw [←srt_len];exact hjl
  rw [cell?_grow _ _ _ (by simp [putRow,mapBlock,Sort.ahead];exact hg)]
  have:=cell?_putRow encStr (Sort.ahead w n) g 0 (l.map (·.data.toList)).toArray (srt l).toArray (by exact hH) (by simp [srt_len]) j (by simp;exact hjl)
  rw [Nat.zero_add] at this
  refine Eq.trans this ?_
  have e:(srt l).toArray[j]! = s:=by
   rw [getElem!_pos _ j (by simp;exact hjl)]
   simp
   rw [List.getElem?_eq_getElem hjl] at hj
   exact Option.some.inj hj
  rw [e]
def Row (B off:Nat) (l:List ByteArray) (w:World):Prop:=∀j x,l[j]?=some x→w.cell? ⟨B,off+j,none⟩=some (.string x)
theorem Row.below {B off:Nat} {l:List ByteArray} {w w':World} {b:Nat} (h:Row B off l w) (hb:Below b w w') (hB:B<b):Row B off l w':=fun j x hx=>by
 have:=h j x hx
 simp only [World.cell?] at this ⊢
 rw [hb.block B hB]
 exact this
theorem within_run (n:Nat) (b:Bool) (hb:g47 n 1 256=some b) (w:World):Calls Tryz.prog 47 #[.int .i64 n,.int .i64 1,.int .i64 256] w fun e w'=>e=.returned (.bool b)∧Below w.heap.size w w':=
 (k47_ok.2 w (fun _ _=>none) S0 (n,1,256,b) [.int .i64 n,.int .i64 1,.int .i64 256] hb trivial (fun _ _ _ h=>by cases h) ⟨rfl,rfl,rfl,trivial⟩).mono fun e w' h=>⟨h.1.trans (by cases b<;>rfl),h.2⟩
set_option maxHeartbeats 4000000 in
set_option maxRecDepth 100000 in
theorem opt_walk (B off c:Nat) (l:List ByteArray) (lab:ByteArray→Bool) (w:World) (h1:1≤l.length) (h2:l.length≤256) (hc:l.length≤c) (hB:B<w.heap.size) (hrow:Row B off l w) (hw:g47 l.length 1 256=some true)
  (hlab:∀x∈l,∀w1,Calls Tryz.prog 63 #[.string x] w1 fun e w'=>e=.returned (.bool (lab x))∧Below w1.heap.size w1 w') :
  Calls Tryz.prog 46 #[.slice (some ⟨B,off,none⟩) l.length c] w fun e w'=>e=.returned (.bool (l.all lab && decide l.Nodup))∧Below w.heap.size w w':=by
 have hwr:=within_run l.length true hw
 generalize hn:l.length=n at *
 go_enter Tryz.func46,Tryz.ntmps46
 go_wp2_with (first | (go_at_call 47;refine (hwr _).mono ?_;rintro e w0 ⟨rfl,hb0⟩) | go_in)
 go_loopw [13] (fun i wr=>∃k:Nat,k≤n∧i=.int .i64 k∧Below w.heap.size w wr∧∀j x,j<k→l[j]?=some x→lab x=true) (fun i _=>n-(intOf i).toNat)
 case atStart=>exact ⟨0,Nat.zero_le _,rfl,hb0,fun j x h=>by omega⟩
 case round=>
  obtain ⟨k,hk,rfl,hbl,hall⟩:=hrel
  have hcx:∀(h:k<n),wr.cell? ⟨B,off+k,none⟩=some (.string (l[k]'(by omega))):=fun h=>hrow.below hbl hB k _ (List.getElem?_eq_getElem _)
  have hlx:∀(h:k<n),∀w1,Calls Tryz.prog 63 #[.string (l[k]'(by omega))] w1 fun e w'=>e=.returned (.bool (lab (l[k]'(by omega))))∧Below w1.heap.size w1 w':=fun h=>hlab _ (List.getElem_mem _)
  have hRowE:n≤k→Row B off l wr:=fun _=>hrow.below hbl hB
  go_wp2_with (first | (go_at_call 63;refine (hlx (by assumption) _).mono ?_;rintro e w1 ⟨rfl,hb1⟩) | (go_at_call 64;refine (Tryz.slices_Clone_string B off n c l wr (by omega) (by omega) (fun j hj=>hRowE (by omega) j _ (by rw [List.getD_eq_getElem?_getD,List.getElem?_eq_getElem hj];rfl))).mono ?_;rintro e w2 ⟨v',rfl,hown,hnn,hb2⟩;obtain ⟨g,cap,rfl,hg⟩:=own_open hown hnn) | (go_at_call 93;refine (sort_run (l:=l) hn hg (by rw [List.take_of_length_le (by omega)] at hown;exact hown) (by omega)).mono ?_;rintro e w3 ⟨rfl,hb3,hsrt⟩) | go_in)
  ·have hlt:k<n:=by assumption
   have hf:(!lab (l[k]'(by omega)))=true:=by assumption
   go_ret
   refine ⟨?_,hbl.trans (hb1.mono hbl.size)⟩
   have:l.all lab=false:=List.all_eq_false.2 ⟨l[k]'(by omega),List.getElem_mem _,by simpa using hf⟩
   rw [this];rfl
  ·have hlt:k<n:=by assumption
   have hf:(!lab (l[k]'(by omega)))=false:=by assumption
   refine ⟨⟨k+1,by omega,by simp,hbl.trans (hb1.mono hbl.size),fun j x hj hx=>?_⟩,by simp [intOf];omega⟩
   by_cases q:j=k
   ·subst q
    rw [List.getElem?_eq_getElem (by omega)] at hx
    rw [←Option.some.inj hx]
    simpa using hf
   ·exact hall j x (by omega) hx
  ·have hnk:n≤k:=by first | assumption | omega
   have hbw:Below w.heap.size w w3:=(hbl.trans (hb2.mono hbl.size)).trans (hb3.mono hbl.size)
   have hal:l.all lab=true:=List.all_eq_true.2 fun x hx=>by
    obtain ⟨j,hj,e⟩:=List.getElem_of_mem hx
    exact hall j x (by omega) (by rw [List.getElem?_eq_getElem hj,e])
   go_loopw [6] (fun i wr=>∃k:Nat,1≤k∧k≤n∧i=.int .i64 k∧Below w.heap.size w wr∧Srt g l wr∧∀j,1≤j→j<k→(srt l)[j]?≠(srt l)[j-1]?) (fun i _=>n-(intOf i).toNat)
   case atStart=>exact ⟨1,Nat.le_refl _,by omega,rfl,hbw,hsrt,fun j h=>by omega⟩
   case round=>
    obtain ⟨k,h1k,hk,rfl,hbl2,hst,hadj⟩:=hrel
    have mixed:Tryz.prog.follows Departure.mixedOrders=true:=by kernel_rfl
    have hln:=srt_len l
    have hc1:∀(h:k<n),wr.drew.cell? ⟨g,k,none⟩=some (.string ⟨((srt l)[k]'(by omega)).toArray⟩):=fun h=>hst k _ (List.getElem?_eq_getElem _)
    have hc2:∀(h:k<n),wr.drew.cell? ⟨g,k-1,none⟩=some (.string ⟨((srt l)[k-1]'(by omega)).toArray⟩):=fun h=>hst (k-1) _ (List.getElem?_eq_getElem _)
    go_wp2_with (first | go_in)
    ·go_region_o
     all_goals go_wp2_with (first | go_in)
     ·have hlt:k<n:=by assumption
      have he:((srt l)[k]'(by omega) == (srt l)[k-1]'(by omega))=true:=by assumption
      go_ret
      refine ⟨?_,hbl2.drew⟩
      have:¬l.Nodup:=fun h=>(nodup_adj l).1 h k h1k (by omega) (by rw [List.getElem?_eq_getElem (by omega),List.getElem?_eq_getElem (by omega),eq_of_beq he])
      rw [decide_eq_false this,Bool.and_false]
      rfl
     ·have hlt:k<n:=by assumption
      have he:((srt l)[k]'(by omega) == (srt l)[k-1]'(by omega))=false:=by assumption
      refine ⟨⟨k+1,by omega,by omega,by simp,hbl2.drew,hst,fun j hj1 hj2=>?_⟩,by simp [intOf];omega⟩
      by_cases q:j=k
      ·subst q
       rw [List.getElem?_eq_getElem (by omega),List.getElem?_eq_getElem (by omega)]
       intro e
       rw [Option.some.inj e] at he
       simp at he
      ·exact hadj j hj1 (by omega)
    ·have hnk2:n≤k:=by first | assumption | omega
     go_ret
     refine ⟨?_,hbl2⟩
     have:l.Nodup:=(nodup_adj l).2 fun i hi1 hi2=>hadj i hi1 (by omega)
     rw [hal,decide_eq_true this];rfl
open Classical in
noncomputable def g46 (l:List ByteArray):Option Bool:=
 if l.length<1∨256<l.length then some false else if ∀x∈l,(g63 x).isSome=true then some ((l.all fun x=>(g63 x).getD false) && decide l.Nodup) else none
noncomputable def k46:Eng.CS:={ f:=46,calm:=true,more:=0,ι:=(List ByteArray)×Bool,ok:=fun i=>g46 i.1=some i.2,rds:=fun _=>[],args:=fun i=>[.sl 1 i.1.length (es i.1)],res:=fun i=>bS i.2 }
set_option maxHeartbeats 4000000 in
set_option maxRecDepth 100000 in
theorem opt_out (A:Option Addr) (c n:Nat) (w:World) (hn:n<1∨256<n) (hw:g47 n 1 256=some false) :
  Calls Tryz.prog 46 #[.slice A n c] w fun e w'=>e=.returned (.bool false)∧Below w.heap.size w w':=by
 have hwr:=within_run n false hw
 go_enter Tryz.func46,Tryz.ntmps46
 go_wp2_with (first | (go_at_call 47;refine (hwr _).mono ?_;rintro e w0 ⟨rfl,hb0⟩) | go_in)
 go_ret
 exact ⟨rfl,hb0⟩
theorem g47_opt (n:Nat):g47 n 1 256=some (decide (1≤n∧n≤256)):=by
 unfold g47
 by_cases h1:1≤n
 ·rw [if_pos (by omega)];simp [h1];omega
 ·rw [if_neg (by omega)];simp [h1]
theorem k46_ok:CalmOk Tryz.prog k46:=by
 refine ⟨fun args w=>?_,?_⟩
 ·have hname' : ¬ Tryz.f46.name = "runtime.NumGoroutine" := by simpa using (nq9 Tryz.func46)
  obtain ⟨c,hc⟩:=Option.isSome_iff_exists.1 (show Tryz.f46.body.isSome=true from rfl)
  have hP:=Tryz.func46
  simp [callFunc,k46,hP,hname',hc]
 ·rintro w q S ⟨a0,r⟩ vs hok _ hm hargs
  have hr:g46 a0=some r:=hok
  match vs,hargs with
  | [v],hargs=>
  obtain ⟨⟨A,c,hv,hnc,hl0,hcell⟩,_⟩:=hargs
  subst hv
  have hnc:a0.length≤c:=hnc
  have hcell:∀j u,(es a0)[j]?=some u→∃a,A=some a∧a.spot=none∧a.block<w.heap.size∧w.cell? ⟨a.block,a.off+j,none⟩=some u:=hcell
  unfold g46 at hr
  split at hr
  ·rename_i h
   cases hr
   exact opt_out A c a0.length w h (by rw [g47_opt];simp;omega)
  rename_i h0
  split at hr
  rotate_left
  ·cases hr
  rename_i hl
  have hr:=(Option.some.inj hr).symm
  subst hr
  have key:∀j x,a0[j]?=some x→∃a,A=some a∧a.spot=none∧a.block<w.heap.size∧w.cell? ⟨a.block,a.off+j,none⟩=some (.string x):=fun j x hx=>
   hcell j (.string x) (by unfold es;rw [List.getElem?_map,hx];rfl)
  obtain ⟨a,e1,e2,e3,_⟩:=key 0 _ (List.getElem?_eq_getElem (by omega))
  subst e1
  obtain ⟨b,o,sp⟩:=a
  have e2:sp=none:=e2
  subst e2
  have hden:∀b:Bool,Value.bool b=den S (k46.res (a0,b)):=fun b=>by cases b<;>rfl
  refine (opt_walk b o c a0 (fun x=>(g63 x).getD false) w (by omega) (by omega) hnc e3 (fun j x hx=>?_) (by rw [g47_opt];simp;omega) fun x hx w1=>?_).mono fun e w' h=>⟨h.1.trans (congrArg _ (hden _)),h.2⟩
  ·obtain ⟨a,f1,f2,f3,f4⟩:=key j x hx
   cases f1
   exact f4
  ·obtain ⟨b,hb⟩:=Option.isSome_iff_exists.1 (hl x hx)
   rw [hb]
   exact (k63_ok.2 w1 (fun _ _=>none) S (x,b) [.string x] hb trivial (fun _ _ _ h=>by cases h) ⟨rfl,trivial⟩).mono fun e w' h=>⟨h.1.trans (by cases b<;>rfl),h.2⟩
end Go.Proofs.YtlehbfahkjhgnaaGreat
end
section
set_option maxRecDepth 8000
set_option maxHeartbeats 4000000
namespace Go.Proofs.YtlehbfahkjhgnaaGreat
open Go Go.Eng
noncomputable def g19 (a0:(Int×ByteArray×ByteArray×List ByteArray×Int×Int×Nat×Nat×Nat×ByteArray×Int×Bool×List Int×Nat×ByteArray×ByteArray)):Option (Bool):=
 jn (α:=_) (β:=Unit) (fun k16=>
   (g45 a0.1).bind fun v17=>
   if v17=true then
    (
     (g46 a0.2.2.2.1).bind fun v20=>
     if ¬(v20=true) then
      some false
     else
      k16 ()
    )
   else
    (
     if 0<((a0.2.2.2.1.length:Nat):Int) then
      some false
     else
      k16 ()
    )
 ) (fun v15=>
  jn (α:=_) (β:=Unit) (fun k36=>
    if ¬a0.1=9 then
     (
      if ¬FloatKind.f64.format.order a0.2.2.2.2.2.2.1 0=some .eq then
       some false
      else
       (
        if ¬FloatKind.f64.format.order a0.2.2.2.2.2.2.2.1 0=some .eq then
         some false
        else
         (
          if ¬FloatKind.f64.format.order a0.2.2.2.2.2.2.2.2.1 0=some .eq then
           some false
          else
           k36 ()
         )
       )
     )
    else
     k36 ()
  ) (fun v35=>
   jn (α:=_) (β:=Bool) (fun k72=>
     if a0.1=1 then
      k72 (decide (a0.1=1))
     else
      k72 (decide (a0.1=2))
   ) (fun v71=>
    if v71=true then
     (
      if 0≤a0.2.2.2.2.1 then
       (
        (g47 a0.2.2.2.2.2.1 a0.2.2.2.2.1 4096).bind fun v76=>
        some v76
       )
      else
       some false
     )
    else
     (
      if a0.1=3 then
       (
        if a0.2.2.2.2.1≤a0.2.2.2.2.2.1 then
         (
          (g47 a0.2.2.2.2.1 (-999999999999999) 999999999999999).bind fun v80=>
          if v80=true then
           (
            (g47 a0.2.2.2.2.2.1 (-999999999999999) 999999999999999).bind fun v83=>
            some v83
           )
          else
           some false
         )
        else
         some false
       )
      else
       (
        if a0.1=7 then
         (
          if 0≤a0.2.2.2.2.1 then
           (
            (g47 a0.2.2.2.2.2.1 a0.2.2.2.2.1 ((a0.2.2.2.1.length:Nat):Int)).bind fun v87=>
            some v87
           )
          else
           some false
         )
        else
         (
          if a0.1=9 then
           (
            (g31 a0).bind fun v90=>
            if v90=0 then
             some false
            else
             (
              if a0.2.2.2.2.1=0 then
               some (decide (a0.2.2.2.2.2.1=0))
              else
               some false
             )
           )
          else
           (
            if a0.2.2.2.2.1=0 then
             some (decide (a0.2.2.2.2.2.1=0))
            else
             some false
           )
         )
       )
     )
   )
  )
 )
noncomputable def k19:Eng.CS:={ f:=19,calm:=false,more:=0,ι:=(Int×ByteArray×ByteArray×List ByteArray×Int×Int×Nat×Nat×Nat×ByteArray×Int×Bool×List Int×Nat×ByteArray×ByteArray)×Bool×((Option Addr×Nat)×(Option Addr×Nat)),ok:=fun i=>g19 i.1=some i.2.1∧i.1.2.2.2.1.length≤i.2.2.1.2∧i.1.2.2.2.2.2.2.2.2.2.2.2.2.1.length≤i.2.2.2.2,rds:=fun i=>[(i.2.2.1.1,es i.1.2.2.2.1),(i.2.2.2.1,ei .i64 i.1.2.2.2.2.2.2.2.2.2.2.2.2.1)],args:=fun i=>[.w (.agg [.v (.int .i64 (i.1.1)),.v (.string (i.1.2.1)),.v (.string (i.1.2.2.1)),.v (.slice i.2.2.1.1 i.1.2.2.2.1.length i.2.2.1.2),.v (.int .i64 (i.1.2.2.2.2.1)),.v (.int .i64 (i.1.2.2.2.2.2.1)),.v (.float .f64 (i.1.2.2.2.2.2.2.1)),.v (.float .f64 (i.1.2.2.2.2.2.2.2.1)),.v (.float .f64 (i.1.2.2.2.2.2.2.2.2.1)),.v (.string (i.1.2.2.2.2.2.2.2.2.2.1)),.v (.int .i64 (i.1.2.2.2.2.2.2.2.2.2.2.1)),bS i.1.2.2.2.2.2.2.2.2.2.2.2.1,.v (.slice i.2.2.2.1 i.1.2.2.2.2.2.2.2.2.2.2.2.2.1.length i.2.2.2.2),.v (.float .f64 (i.1.2.2.2.2.2.2.2.2.2.2.2.2.2.1)),.v (.string (i.1.2.2.2.2.2.2.2.2.2.2.2.2.2.2.1)),.v (.string (i.1.2.2.2.2.2.2.2.2.2.2.2.2.2.2.2))])],res:=fun _=>.bad,rn:=[],gr:=true,γ:=Unit,resG:=fun i _=>bS i.2.1,LG:=fun i _=>[],okG:=fun i _=>True,rdsG:=fun i _=>[],fzr:=[] }
theorem k19_ok:CSOk Tryz.prog k19:=by
 refine R.cspecG Tryz.func19 (nq9 Tryz.func19) rfl rfl (fun _=>rfl) ?_
 rintro ⟨a0,r,⟨⟨A0_3,cp0_3⟩,⟨A0_12,cp0_12⟩⟩⟩ ⟨hok,hc0_3,hc0_12⟩ q hrds args hargs
 obtain ⟨hR0_3,hR0_12,_⟩:=hrds
 dsimp only at hR0_3 hc0_3 hR0_12 hc0_12
 dsimp only [k19] at hargs ⊢
 match args,hargs with
 | [_],hargs=>
 obtain ⟨rfl,_⟩:=hargs
 refine ⟨envC [k31,k45,k46,k47] false [(19,6),(19,8),(19,11)],6,envC_ok (css_cons ⟨fun h=>(by cases h),fun _=>k31_ok⟩ (css_cons ⟨fun _=>k45_ok,fun h=>(by cases h)⟩ (css_cons ⟨fun _=>k46_ok,fun h=>(by cases h)⟩ (css_cons ⟨fun _=>k47_ok,fun h=>(by cases h)⟩ (css_nil))))),?_⟩
 have H:Gives (g19 a0) (fun a=>a=r):=⟨r,hok,rfl⟩
 unfold g19 at H
 clear hok
 refine R.cut_fam H 10 [1] [] (fun v15=>[]) (fun v15=>[]) [(0,.cells 29 [.v (.int .i64 (a0.1)),.v (.string (a0.2.1)),.v (.string (a0.2.2.1)),.v (.slice (A0_3) (a0.2.2.2.1.length) (cp0_3)),.v (.int .i64 (a0.2.2.2.2.1)),.v (.int .i64 (a0.2.2.2.2.2.1)),.v (.float .f64 (a0.2.2.2.2.2.2.1)),.v (.float .f64 (a0.2.2.2.2.2.2.2.1)),.v (.float .f64 (a0.2.2.2.2.2.2.2.2.1)),.v (.string (a0.2.2.2.2.2.2.2.2.2.1)),.v (.int .i64 (a0.2.2.2.2.2.2.2.2.2.2.1)),bS a0.2.2.2.2.2.2.2.2.2.2.2.1,.v (.slice (A0_12) (a0.2.2.2.2.2.2.2.2.2.2.2.2.1.length) (cp0_12)),.v (.float .f64 (a0.2.2.2.2.2.2.2.2.2.2.2.2.2.1)),.v (.string (a0.2.2.2.2.2.2.2.2.2.2.2.2.2.2.1)),.v (.string (a0.2.2.2.2.2.2.2.2.2.2.2.2.2.2.2))])] 0 (fun H=>?_)
 refine And.intro ?_ ?_
 ·obtain ⟨v17,hv18,H⟩:=call_st H
  refine ⟨(a0.1,v17),⟨hv18⟩,⟨trivial⟩,?_⟩
  refine And.intro ⟨rfl⟩ ?_
  refine if_st H (fun h19 H=>?_) (fun h19 H=>?_)
  ·obtain ⟨v20,hv21,H⟩:=call_st H
   refine ⟨(a0.2.2.2.1,v20),⟨hv21⟩,⟨trivial⟩,?_⟩
   refine And.intro ⟨rfl,hc0_3,es_len.trans ((show _=_ from rfl).trans (Nat.mul_one _).symm),hR0_3⟩ ?_
   refine if_st H (fun h22 H=>?_) (fun h22 H=>?_)
   ·have hfin:=fin_st H
    first | subst hfin | rw [←hfin]
    refine ⟨(),⟨trivial⟩,⟨trivial⟩,?_⟩
    repeat refine mo1FB2 ?_
    first | exact trivial | exact rfl
   ·refine ⟨(),⟨H⟩,⟨rfl⟩,?_⟩
    repeat refine mo1FB2 ?_
    first | exact trivial | exact rfl
  ·refine if_st H (fun h23 H=>?_) (fun h23 H=>?_)
   ·have hfin:=fin_st H
    first | subst hfin | rw [←hfin]
    refine ⟨(),⟨trivial⟩,⟨trivial⟩,?_⟩
    repeat refine mo1FB2 ?_
    first | exact trivial | exact rfl
   ·refine ⟨(),⟨H⟩,⟨rfl⟩,?_⟩
    repeat refine mo1FB2 ?_
    first | exact trivial | exact rfl
 ·intro v15 H
  refine R.cut_fam H 29 [1] [] (fun v35=>[]) (fun v35=>[]) [(0,.cells 29 [.v (.int .i64 (a0.1)),.v (.string (a0.2.1)),.v (.string (a0.2.2.1)),.v (.slice (A0_3) (a0.2.2.2.1.length) (cp0_3)),.v (.int .i64 (a0.2.2.2.2.1)),.v (.int .i64 (a0.2.2.2.2.2.1)),.v (.float .f64 (a0.2.2.2.2.2.2.1)),.v (.float .f64 (a0.2.2.2.2.2.2.2.1)),.v (.float .f64 (a0.2.2.2.2.2.2.2.2.1)),.v (.string (a0.2.2.2.2.2.2.2.2.2.1)),.v (.int .i64 (a0.2.2.2.2.2.2.2.2.2.2.1)),bS a0.2.2.2.2.2.2.2.2.2.2.2.1,.v (.slice (A0_12) (a0.2.2.2.2.2.2.2.2.2.2.2.2.1.length) (cp0_12)),.v (.float .f64 (a0.2.2.2.2.2.2.2.2.2.2.2.2.2.1)),.v (.string (a0.2.2.2.2.2.2.2.2.2.2.2.2.2.2.1)),.v (.string (a0.2.2.2.2.2.2.2.2.2.2.2.2.2.2.2))])] 0 (fun H=>?_)
  refine And.intro ?_ ?_
  ·refine if_st H (fun h37 H=>?_) (fun h37 H=>?_)
   ·refine if_st H (fun h38 H=>?_) (fun h38 H=>?_)
    ·have hfin:=fin_st H
     first | subst hfin | rw [←hfin]
     refine ⟨(),⟨trivial⟩,⟨trivial⟩,?_⟩
     repeat refine mo1FB2 ?_
     first | exact trivial | exact rfl
    ·refine if_st H (fun h39 H=>?_) (fun h39 H=>?_)
     ·have hfin:=fin_st H
      first | subst hfin | rw [←hfin]
      refine ⟨(),⟨trivial⟩,⟨trivial⟩,?_⟩
      repeat refine mo1FB2 ?_
      first | exact trivial | exact rfl
     ·refine if_st H (fun h40 H=>?_) (fun h40 H=>?_)
      ·have hfin:=fin_st H
       first | subst hfin | rw [←hfin]
       refine ⟨(),⟨trivial⟩,⟨trivial⟩,?_⟩
       repeat refine mo1FB2 ?_
       first | exact trivial | exact rfl
      ·refine ⟨(),⟨H⟩,⟨rfl⟩,?_⟩
       repeat refine mo1FB2 ?_
       first | exact trivial | exact rfl
   ·refine ⟨(),⟨H⟩,⟨rfl⟩,?_⟩
    repeat refine mo1FB2 ?_
    first | exact trivial | exact rfl
  ·intro v35 H
   refine R.cut_fam H 36 [1,33] [] (fun v71=>[(34,bS v71)]) (fun v71=>[]) [(0,.cells 29 [.v (.int .i64 (a0.1)),.v (.string (a0.2.1)),.v (.string (a0.2.2.1)),.v (.slice (A0_3) (a0.2.2.2.1.length) (cp0_3)),.v (.int .i64 (a0.2.2.2.2.1)),.v (.int .i64 (a0.2.2.2.2.2.1)),.v (.float .f64 (a0.2.2.2.2.2.2.1)),.v (.float .f64 (a0.2.2.2.2.2.2.2.1)),.v (.float .f64 (a0.2.2.2.2.2.2.2.2.1)),.v (.string (a0.2.2.2.2.2.2.2.2.2.1)),.v (.int .i64 (a0.2.2.2.2.2.2.2.2.2.2.1)),bS a0.2.2.2.2.2.2.2.2.2.2.2.1,.v (.slice (A0_12) (a0.2.2.2.2.2.2.2.2.2.2.2.2.1.length) (cp0_12)),.v (.float .f64 (a0.2.2.2.2.2.2.2.2.2.2.2.2.2.1)),.v (.string (a0.2.2.2.2.2.2.2.2.2.2.2.2.2.2.1)),.v (.string (a0.2.2.2.2.2.2.2.2.2.2.2.2.2.2.2))])] 0 (fun H=>?_)
   refine And.intro ?_ ?_
   ·refine if_st H (fun h73 H=>?_) (fun h73 H=>?_)
    ·refine ⟨(decide (a0.1=1)),⟨H⟩,⟨rfl⟩,?_⟩
     repeat refine mo1FB2 ?_
     first | exact trivial | exact rfl
    ·refine ⟨(decide (a0.1=2)),⟨H⟩,⟨rfl⟩,?_⟩
     repeat refine mo1FB2 ?_
     first | exact trivial | exact rfl
   ·intro v71 H
    refine if_st H (fun h74 H=>?_) (fun h74 H=>?_)
    ·refine if_st H (fun h75 H=>?_) (fun h75 H=>?_)
     ·obtain ⟨v76,hv77,H⟩:=call_st H
      refine ⟨(a0.2.2.2.2.2.1,a0.2.2.2.2.1,4096,v76),⟨hv77⟩,⟨trivial⟩,?_⟩
      iterate 3 refine And.intro ⟨rfl⟩ ?_
      have hfin:=fin_st H
      first | subst hfin | rw [←hfin]
      refine ⟨(),⟨trivial⟩,⟨trivial⟩,?_⟩
      repeat refine mo1FB2 ?_
      first | exact trivial | exact rfl
     ·have hfin:=fin_st H
      first | subst hfin | rw [←hfin]
      refine ⟨(),⟨trivial⟩,⟨trivial⟩,?_⟩
      repeat refine mo1FB2 ?_
      first | exact trivial | exact rfl
    ·refine if_st H (fun h78 H=>?_) (fun h78 H=>?_)
     ·refine if_st H (fun h79 H=>?_) (fun h79 H=>?_)
      ·obtain ⟨v80,hv81,H⟩:=call_st H
       refine ⟨(a0.2.2.2.2.1,(-999999999999999),999999999999999,v80),⟨hv81⟩,⟨trivial⟩,?_⟩
       iterate 3 refine And.intro ⟨rfl⟩ ?_
       refine if_st H (fun h82 H=>?_) (fun h82 H=>?_)
       ·obtain ⟨v83,hv84,H⟩:=call_st H
        refine ⟨(a0.2.2.2.2.2.1,(-999999999999999),999999999999999,v83),⟨hv84⟩,⟨trivial⟩,?_⟩
        iterate 3 refine And.intro ⟨rfl⟩ ?_
        have hfin:=fin_st H
        first | subst hfin | rw [←hfin]
        refine ⟨(),⟨trivial⟩,⟨trivial⟩,?_⟩
        repeat refine mo1FB2 ?_
        first | exact trivial | exact rfl
       ·have hfin:=fin_st H
        first | subst hfin | rw [←hfin]
        refine ⟨(),⟨trivial⟩,⟨trivial⟩,?_⟩
        repeat refine mo1FB2 ?_
        first | exact trivial | exact rfl
      ·have hfin:=fin_st H
       first | subst hfin | rw [←hfin]
       refine ⟨(),⟨trivial⟩,⟨trivial⟩,?_⟩
       repeat refine mo1FB2 ?_
       first | exact trivial | exact rfl
     ·refine if_st H (fun h85 H=>?_) (fun h85 H=>?_)
      ·refine if_st H (fun h86 H=>?_) (fun h86 H=>?_)
       ·obtain ⟨v87,hv88,H⟩:=call_st H
        refine ⟨(a0.2.2.2.2.2.1,a0.2.2.2.2.1,((a0.2.2.2.1.length:Nat):Int),v87),⟨hv88⟩,⟨trivial⟩,?_⟩
        iterate 3 refine And.intro ⟨rfl⟩ ?_
        have hfin:=fin_st H
        first | subst hfin | rw [←hfin]
        refine ⟨(),⟨trivial⟩,⟨trivial⟩,?_⟩
        repeat refine mo1FB2 ?_
        first | exact trivial | exact rfl
       ·have hfin:=fin_st H
        first | subst hfin | rw [←hfin]
        refine ⟨(),⟨trivial⟩,⟨trivial⟩,?_⟩
        repeat refine mo1FB2 ?_
        first | exact trivial | exact rfl
      ·refine if_st H (fun h89 H=>?_) (fun h89 H=>?_)
       ·obtain ⟨v90,hv91,H⟩:=call_st H
        refine ⟨(a0,v90,((A0_3,cp0_3),(A0_12,cp0_12))),⟨hv91,hc0_3,hc0_12⟩,⟨⟨hR0_3,hR0_12,trivial⟩⟩,?_⟩
        iterate 11 refine And.intro ⟨rfl⟩ ?_
        refine mo1FB2 ?_
        iterate 4 refine And.intro ⟨rfl⟩ ?_
        intro q92 g93 hq94 hok95 hrd96
        repeat' refine if_st H (fun _ H=>?_) (fun _ H=>?_)
        all_goals
         have hfin:=fin_st H
         first | subst hfin | rw [←hfin]
         refine ⟨(),⟨trivial⟩,⟨trivial⟩,?_⟩
         repeat refine mo1FB2 ?_
         first | exact trivial | exact rfl
       ·refine if_st H (fun _ H=>?_) (fun _ H=>?_)
        all_goals
         have hfin:=fin_st H
         first | subst hfin | rw [←hfin]
         refine ⟨(),⟨trivial⟩,⟨trivial⟩,?_⟩
         repeat refine mo1FB2 ?_
         first | exact trivial | exact rfl
noncomputable def g20 (a0:(Int×ByteArray×ByteArray×List ByteArray×Int×Int×Nat×Nat×Nat×ByteArray×Int×Bool×List Int×Nat×ByteArray×ByteArray)) (a1:(ByteArray×Int×Bool×List Int×Nat)):Option (Bool):=
 (g48 a0.1 a1).bind fun v108=>
 if ¬(v108=true) then
  some false
 else
  (
   jn (α:=_) (β:=Bool) (fun k154=>
     if a0.1=1 then
      k154 (decide (a0.1=1))
     else
      k154 (decide (a0.1=2))
   ) (fun v153=>
    if v153=true then
     (
      (g49 a1.1 0 a0.2.2.2.2.2.1).bind fun v157=>
      some v157
     )
    else
     (
      if a0.1=3 then
       (
        (g47 a1.2.1 (-999999999999999) 999999999999999).bind fun v160=>
        some v160
       )
      else
       (
        if a0.1=4 then
         (
          if a1.1.data.toList=(lit []).data.toList then
           some true
          else
           (
            (g50 a1.1).bind fun v164=>
            some (decide (v164=0))
           )
         )
        else
         (
          if a0.1=5 then
           some true
          else
           (
            jn (α:=_) (β:=Bool) (fun k169=>
              if a0.1=6 then
               k169 (decide (a0.1=6))
              else
               k169 (decide (a0.1=8))
            ) (fun v168=>
             if v168=true then
              (
               ck (inR .i64 (((a0.2.2.2.1.length:Nat):Int)-1)) <|
               (g47 a1.2.1 0 (((a0.2.2.2.1.length:Nat):Int)-1)).bind fun v173=>
               some v173
              )
             else
              (
               if a0.1=7 then
                (
                 (g51 a1.2.2.2.1 ((a0.2.2.2.1.length:Nat):Int)).bind fun v176=>
                 some v176
                )
               else
                (
                 if a0.1=9 then
                  (
                   (g52 a0 a1.2.2.2.2).bind fun v179=>
                   some v179.2
                  )
                 else
                  some false
                )
              )
            )
           )
         )
       )
     )
   )
  )
noncomputable def k20:Eng.CS:={ f:=20,calm:=false,more:=0,ι:=(Int×ByteArray×ByteArray×List ByteArray×Int×Int×Nat×Nat×Nat×ByteArray×Int×Bool×List Int×Nat×ByteArray×ByteArray)×(ByteArray×Int×Bool×List Int×Nat)×Bool×((Option Addr×Nat)×(Option Addr×Nat)×(Option Addr×Nat)),ok:=fun i=>g20 i.1 i.2.1=some i.2.2.1∧i.1.2.2.2.1.length≤i.2.2.2.1.2∧i.1.2.2.2.2.2.2.2.2.2.2.2.2.1.length≤i.2.2.2.2.1.2∧i.2.1.2.2.2.1.length≤i.2.2.2.2.2.2,rds:=fun i=>[(i.2.2.2.1.1,es i.1.2.2.2.1),(i.2.2.2.2.1.1,ei .i64 i.1.2.2.2.2.2.2.2.2.2.2.2.2.1),(i.2.2.2.2.2.1,ei .i64 i.2.1.2.2.2.1)],args:=fun i=>[.w (.agg [.v (.int .i64 (i.1.1)),.v (.string (i.1.2.1)),.v (.string (i.1.2.2.1)),.v (.slice i.2.2.2.1.1 i.1.2.2.2.1.length i.2.2.2.1.2),.v (.int .i64 (i.1.2.2.2.2.1)),.v (.int .i64 (i.1.2.2.2.2.2.1)),.v (.float .f64 (i.1.2.2.2.2.2.2.1)),.v (.float .f64 (i.1.2.2.2.2.2.2.2.1)),.v (.float .f64 (i.1.2.2.2.2.2.2.2.2.1)),.v (.string (i.1.2.2.2.2.2.2.2.2.2.1)),.v (.int .i64 (i.1.2.2.2.2.2.2.2.2.2.2.1)),bS i.1.2.2.2.2.2.2.2.2.2.2.2.1,.v (.slice i.2.2.2.2.1.1 i.1.2.2.2.2.2.2.2.2.2.2.2.2.1.length i.2.2.2.2.1.2),.v (.float .f64 (i.1.2.2.2.2.2.2.2.2.2.2.2.2.2.1)),.v (.string (i.1.2.2.2.2.2.2.2.2.2.2.2.2.2.2.1)),.v (.string (i.1.2.2.2.2.2.2.2.2.2.2.2.2.2.2.2))]),.w (.agg [.v (.string (i.2.1.1)),.v (.int .i64 (i.2.1.2.1)),bS i.2.1.2.2.1,.v (.slice i.2.2.2.2.2.1 i.2.1.2.2.2.1.length i.2.2.2.2.2.2),.v (.float .f64 (i.2.1.2.2.2.2))])],res:=fun _=>.bad,rn:=[],gr:=true,γ:=Unit,resG:=fun i _=>bS i.2.2.1,LG:=fun i _=>[],okG:=fun i _=>True,rdsG:=fun i _=>[],fzr:=[] }
theorem k20_ok:CSOk Tryz.prog k20:=by
 refine R.cspecG Tryz.func20 (nq9 Tryz.func20) rfl rfl (fun _=>rfl) ?_
 rintro ⟨a0,a1,r,⟨⟨A0_3,cp0_3⟩,⟨A0_12,cp0_12⟩,⟨A1_3,cp1_3⟩⟩⟩ ⟨hok,hc0_3,hc0_12,hc1_3⟩ q hrds args hargs
 obtain ⟨hR0_3,hR0_12,hR1_3,_⟩:=hrds
 dsimp only at hR0_3 hc0_3 hR0_12 hc0_12 hR1_3 hc1_3
 dsimp only [k20] at hargs ⊢
 match args,hargs with
 | [_,_],hargs=>
 obtain ⟨rfl,rfl,_⟩:=hargs
 refine ⟨envC [k47,k48,k49,k50,k51,k52] false [(20,6),(20,15)],6,envC_ok (css_cons ⟨fun _=>k47_ok,fun h=>(by cases h)⟩ (css_cons ⟨fun h=>(by cases h),fun _=>k48_ok⟩ (css_cons ⟨fun _=>k49_ok,fun h=>(by cases h)⟩ (css_cons ⟨fun _=>k50_ok,fun h=>(by cases h)⟩ (css_cons ⟨fun _=>k51_ok,fun h=>(by cases h)⟩ (css_cons ⟨fun h=>(by cases h),fun _=>k52_ok⟩ (css_nil))))))),?_⟩
 have H:Gives (g20 a0 a1) (fun a=>a=r):=⟨r,hok,rfl⟩
 unfold g20 at H
 clear hok
 obtain ⟨v108,hv109,H⟩:=call_st H
 refine ⟨(a0.1,a1,v108,(A1_3,cp1_3)),⟨hv109,hc1_3⟩,⟨⟨hR1_3,trivial⟩⟩,?_⟩
 iterate 3 refine And.intro ⟨rfl⟩ ?_
 refine mo1FB2 ?_
 iterate 2 refine And.intro ⟨rfl⟩ ?_
 intro q110 g111 hq112 hok113 hrd114
 refine if_st H (fun h115 H=>?_) (fun h115 H=>?_)
 ·have hfin:=fin_st H
  first | subst hfin | rw [←hfin]
  refine ⟨(),⟨trivial⟩,⟨trivial⟩,?_⟩
  repeat refine mo1FB2 ?_
  first | exact trivial | exact rfl
 ·refine R.cut_fam H 15 [2,3,13] [] (fun v153=>[(14,bS v153)]) (fun v153=>[]) [(0,.cells 29 [.v (.int .i64 (a0.1)),.v (.string (a0.2.1)),.v (.string (a0.2.2.1)),.v (.slice (A0_3) (a0.2.2.2.1.length) (cp0_3)),.v (.int .i64 (a0.2.2.2.2.1)),.v (.int .i64 (a0.2.2.2.2.2.1)),.v (.float .f64 (a0.2.2.2.2.2.2.1)),.v (.float .f64 (a0.2.2.2.2.2.2.2.1)),.v (.float .f64 (a0.2.2.2.2.2.2.2.2.1)),.v (.string (a0.2.2.2.2.2.2.2.2.2.1)),.v (.int .i64 (a0.2.2.2.2.2.2.2.2.2.2.1)),bS a0.2.2.2.2.2.2.2.2.2.2.2.1,.v (.slice (A0_12) (a0.2.2.2.2.2.2.2.2.2.2.2.2.1.length) (cp0_12)),.v (.float .f64 (a0.2.2.2.2.2.2.2.2.2.2.2.2.2.1)),.v (.string (a0.2.2.2.2.2.2.2.2.2.2.2.2.2.2.1)),.v (.string (a0.2.2.2.2.2.2.2.2.2.2.2.2.2.2.2))]),(1,.cells 27 [.v (.string (a1.1)),.v (.int .i64 (a1.2.1)),bS a1.2.2.1,.v (.slice (A1_3) (a1.2.2.2.1.length) (cp1_3)),.v (.float .f64 (a1.2.2.2.2))])] 0 (fun H=>?_)
  refine And.intro ?_ ?_
  ·refine if_st H (fun h155 H=>?_) (fun h155 H=>?_)
   ·refine ⟨(decide (a0.1=1)),⟨H⟩,⟨rfl⟩,?_⟩
    repeat refine mo1FB2 ?_
    first | exact trivial | exact rfl
   ·refine ⟨(decide (a0.1=2)),⟨H⟩,⟨rfl⟩,?_⟩
    repeat refine mo1FB2 ?_
    first | exact trivial | exact rfl
  ·intro v153 H
   refine if_st H (fun h156 H=>?_) (fun h156 H=>?_)
   ·obtain ⟨v157,hv158,H⟩:=call_st H
    refine ⟨(a1.1,0,a0.2.2.2.2.2.1,v157),⟨hv158⟩,⟨trivial⟩,?_⟩
    iterate 3 refine And.intro ⟨rfl⟩ ?_
    have hfin:=fin_st H
    first | subst hfin | rw [←hfin]
    refine ⟨(),⟨trivial⟩,⟨trivial⟩,?_⟩
    repeat refine mo1FB2 ?_
    first | exact trivial | exact rfl
   ·refine if_st H (fun h159 H=>?_) (fun h159 H=>?_)
    ·obtain ⟨v160,hv161,H⟩:=call_st H
     refine ⟨(a1.2.1,(-999999999999999),999999999999999,v160),⟨hv161⟩,⟨trivial⟩,?_⟩
     iterate 3 refine And.intro ⟨rfl⟩ ?_
     have hfin:=fin_st H
     first | subst hfin | rw [←hfin]
     refine ⟨(),⟨trivial⟩,⟨trivial⟩,?_⟩
     repeat refine mo1FB2 ?_
     first | exact trivial | exact rfl
    ·refine if_st H (fun h162 H=>?_) (fun h162 H=>?_)
     ·refine if_st H (fun h163 H=>?_) (fun h163 H=>?_)
      ·have hfin:=fin_st H
       first | subst hfin | rw [←hfin]
       refine ⟨(),⟨trivial⟩,⟨trivial⟩,?_⟩
       repeat refine mo1FB2 ?_
       first | exact trivial | exact rfl
      ·obtain ⟨v164,hv165,H⟩:=call_st H
       refine ⟨(a1.1,v164),⟨hv165⟩,⟨trivial⟩,?_⟩
       refine And.intro ⟨rfl⟩ ?_
       have hfin:=fin_st H
       first | subst hfin | rw [←hfin]
       refine ⟨(),⟨trivial⟩,⟨trivial⟩,?_⟩
       repeat refine mo1FB2 ?_
       first | exact trivial | exact rfl
     ·refine if_st H (fun h166 H=>?_) (fun h166 H=>?_)
      ·have hfin:=fin_st H
       first | subst hfin | rw [←hfin]
       refine ⟨(),⟨trivial⟩,⟨trivial⟩,?_⟩
       repeat refine mo1FB2 ?_
       first | exact trivial | exact rfl
      ·refine R.cut_fam H 26 [2,3,13] [] (fun v168=>[(40,bS v168)]) (fun v168=>[]) [(0,.cells 29 [.v (.int .i64 (a0.1)),.v (.string (a0.2.1)),.v (.string (a0.2.2.1)),.v (.slice (A0_3) (a0.2.2.2.1.length) (cp0_3)),.v (.int .i64 (a0.2.2.2.2.1)),.v (.int .i64 (a0.2.2.2.2.2.1)),.v (.float .f64 (a0.2.2.2.2.2.2.1)),.v (.float .f64 (a0.2.2.2.2.2.2.2.1)),.v (.float .f64 (a0.2.2.2.2.2.2.2.2.1)),.v (.string (a0.2.2.2.2.2.2.2.2.2.1)),.v (.int .i64 (a0.2.2.2.2.2.2.2.2.2.2.1)),bS a0.2.2.2.2.2.2.2.2.2.2.2.1,.v (.slice (A0_12) (a0.2.2.2.2.2.2.2.2.2.2.2.2.1.length) (cp0_12)),.v (.float .f64 (a0.2.2.2.2.2.2.2.2.2.2.2.2.2.1)),.v (.string (a0.2.2.2.2.2.2.2.2.2.2.2.2.2.2.1)),.v (.string (a0.2.2.2.2.2.2.2.2.2.2.2.2.2.2.2))]),(1,.cells 27 [.v (.string (a1.1)),.v (.int .i64 (a1.2.1)),bS a1.2.2.1,.v (.slice (A1_3) (a1.2.2.2.1.length) (cp1_3)),.v (.float .f64 (a1.2.2.2.2))])] 0 (fun H=>?_)
       refine And.intro ?_ ?_
       ·refine if_st H (fun h170 H=>?_) (fun h170 H=>?_)
        ·refine ⟨(decide (a0.1=6)),⟨H⟩,⟨rfl⟩,?_⟩
         repeat refine mo1FB2 ?_
         first | exact trivial | exact rfl
        ·refine ⟨(decide (a0.1=8)),⟨H⟩,⟨rfl⟩,?_⟩
         repeat refine mo1FB2 ?_
         first | exact trivial | exact rfl
       ·intro v168 H
        refine if_st H (fun h171 H=>?_) (fun h171 H=>?_)
        ·refine ob_ck H fun h172 H=>?_
         obtain ⟨v173,hv174,H⟩:=call_st H
         refine ⟨(a1.2.1,0,((a0.2.2.2.1.length:Nat):Int)-1,v173),⟨hv174⟩,⟨trivial⟩,?_⟩
         iterate 3 refine And.intro ⟨rfl⟩ ?_
         have hfin:=fin_st H
         first | subst hfin | rw [←hfin]
         refine ⟨(),⟨trivial⟩,⟨trivial⟩,?_⟩
         repeat refine mo1FB2 ?_
         first | exact trivial | exact rfl
        ·refine if_st H (fun h175 H=>?_) (fun h175 H=>?_)
         ·obtain ⟨v176,hv177,H⟩:=call_st H
          refine ⟨(a1.2.2.2.1,((a0.2.2.2.1.length:Nat):Int),v176),⟨hv177⟩,⟨trivial⟩,?_⟩
          refine And.intro ⟨rfl,hc1_3,ei_len.trans ((show _=_ from rfl).trans (Nat.mul_one _).symm),(Reads.mono hq112 hR1_3)⟩ ?_
          refine And.intro ⟨rfl⟩ ?_
          have hfin:=fin_st H
          first | subst hfin | rw [←hfin]
          refine ⟨(),⟨trivial⟩,⟨trivial⟩,?_⟩
          repeat refine mo1FB2 ?_
          first | exact trivial | exact rfl
         ·refine if_st H (fun h178 H=>?_) (fun h178 H=>?_)
          ·obtain ⟨v179,hv180,H⟩:=call_st H
           refine ⟨(a0,a1.2.2.2.2,v179,((A0_3,cp0_3),(A0_12,cp0_12))),⟨hv180,hc0_3,hc0_12⟩,⟨⟨(Reads.mono hq112 hR0_3),(Reads.mono hq112 hR0_12),trivial⟩⟩,?_⟩
           iterate 11 refine And.intro ⟨rfl⟩ ?_
           refine mo1FB2 ?_
           iterate 5 refine And.intro ⟨rfl⟩ ?_
           intro q181 g182 hq183 hok184 hrd185
           have hfin:=fin_st H
           first | subst hfin | rw [←hfin]
           refine ⟨(),⟨trivial⟩,⟨trivial⟩,?_⟩
           repeat refine mo1FB2 ?_
           first | exact trivial | exact rfl
          ·have hfin:=fin_st H
           first | subst hfin | rw [←hfin]
           refine ⟨(),⟨trivial⟩,⟨trivial⟩,?_⟩
           repeat refine mo1FB2 ?_
           first | exact trivial | exact rfl
noncomputable def g10 (a0:(Int×ByteArray×ByteArray×List ByteArray×Int×Int×Nat×Nat×Nat×ByteArray×Int×Bool×List Int×Nat×ByteArray×ByteArray)) (a1:(ByteArray×Int×Bool×List Int×Nat)):Option (Bool):=
 (g19 a0).bind fun v186=>
 if v186=true then
  (
   (g20 a0 a1).bind fun v194=>
   some v194
  )
 else
  some false
noncomputable def k10:Eng.CS:={ f:=10,calm:=false,more:=0,ι:=(Int×ByteArray×ByteArray×List ByteArray×Int×Int×Nat×Nat×Nat×ByteArray×Int×Bool×List Int×Nat×ByteArray×ByteArray)×(ByteArray×Int×Bool×List Int×Nat)×Bool×((Option Addr×Nat)×(Option Addr×Nat)×(Option Addr×Nat)),ok:=fun i=>g10 i.1 i.2.1=some i.2.2.1∧i.1.2.2.2.1.length≤i.2.2.2.1.2∧i.1.2.2.2.2.2.2.2.2.2.2.2.2.1.length≤i.2.2.2.2.1.2∧i.2.1.2.2.2.1.length≤i.2.2.2.2.2.2,rds:=fun i=>[(i.2.2.2.1.1,es i.1.2.2.2.1),(i.2.2.2.2.1.1,ei .i64 i.1.2.2.2.2.2.2.2.2.2.2.2.2.1),(i.2.2.2.2.2.1,ei .i64 i.2.1.2.2.2.1)],args:=fun i=>[.w (.agg [.v (.int .i64 (i.1.1)),.v (.string (i.1.2.1)),.v (.string (i.1.2.2.1)),.v (.slice i.2.2.2.1.1 i.1.2.2.2.1.length i.2.2.2.1.2),.v (.int .i64 (i.1.2.2.2.2.1)),.v (.int .i64 (i.1.2.2.2.2.2.1)),.v (.float .f64 (i.1.2.2.2.2.2.2.1)),.v (.float .f64 (i.1.2.2.2.2.2.2.2.1)),.v (.float .f64 (i.1.2.2.2.2.2.2.2.2.1)),.v (.string (i.1.2.2.2.2.2.2.2.2.2.1)),.v (.int .i64 (i.1.2.2.2.2.2.2.2.2.2.2.1)),bS i.1.2.2.2.2.2.2.2.2.2.2.2.1,.v (.slice i.2.2.2.2.1.1 i.1.2.2.2.2.2.2.2.2.2.2.2.2.1.length i.2.2.2.2.1.2),.v (.float .f64 (i.1.2.2.2.2.2.2.2.2.2.2.2.2.2.1)),.v (.string (i.1.2.2.2.2.2.2.2.2.2.2.2.2.2.2.1)),.v (.string (i.1.2.2.2.2.2.2.2.2.2.2.2.2.2.2.2))]),.w (.agg [.v (.string (i.2.1.1)),.v (.int .i64 (i.2.1.2.1)),bS i.2.1.2.2.1,.v (.slice i.2.2.2.2.2.1 i.2.1.2.2.2.1.length i.2.2.2.2.2.2),.v (.float .f64 (i.2.1.2.2.2.2))])],res:=fun _=>.bad,rn:=[],gr:=true,γ:=Unit,resG:=fun i _=>bS i.2.2.1,LG:=fun i _=>[],okG:=fun i _=>True,rdsG:=fun i _=>[],fzr:=[] }
theorem k10_ok:CSOk Tryz.prog k10:=by
 refine R.cspecG Tryz.func10 (nq9 Tryz.func10) rfl rfl (fun _=>rfl) ?_
 rintro ⟨a0,a1,r,⟨⟨A0_3,cp0_3⟩,⟨A0_12,cp0_12⟩,⟨A1_3,cp1_3⟩⟩⟩ ⟨hok,hc0_3,hc0_12,hc1_3⟩ q hrds args hargs
 obtain ⟨hR0_3,hR0_12,hR1_3,_⟩:=hrds
 dsimp only at hR0_3 hc0_3 hR0_12 hc0_12 hR1_3 hc1_3
 dsimp only [k10] at hargs ⊢
 match args,hargs with
 | [_,_],hargs=>
 obtain ⟨rfl,rfl,_⟩:=hargs
 refine ⟨envC [k19,k20] false [],6,envC_ok (css_cons ⟨fun h=>(by cases h),fun _=>k19_ok⟩ (css_cons ⟨fun h=>(by cases h),fun _=>k20_ok⟩ (css_nil))),?_⟩
 have H:Gives (g10 a0 a1) (fun a=>a=r):=⟨r,hok,rfl⟩
 unfold g10 at H
 clear hok
 obtain ⟨v186,hv187,H⟩:=call_st H
 refine ⟨(a0,v186,((A0_3,cp0_3),(A0_12,cp0_12))),⟨hv187,hc0_3,hc0_12⟩,⟨⟨hR0_3,hR0_12,trivial⟩⟩,?_⟩
 iterate 11 refine And.intro ⟨rfl⟩ ?_
 refine mo1FB2 ?_
 iterate 4 refine And.intro ⟨rfl⟩ ?_
 intro q188 g189 hq190 hok191 hrd192
 refine if_st H (fun h193 H=>?_) (fun h193 H=>?_)
 ·obtain ⟨v194,hv195,H⟩:=call_st H
  refine ⟨(a0,a1,v194,((A0_3,cp0_3),(A0_12,cp0_12),(A1_3,cp1_3))),⟨hv195,hc0_3,hc0_12,hc1_3⟩,⟨⟨(Reads.mono hq190 hR0_3),(Reads.mono hq190 hR0_12),(Reads.mono hq190 hR1_3),trivial⟩⟩,?_⟩
  iterate 11 refine And.intro ⟨rfl⟩ ?_
  refine mo1FB2 ?_
  iterate 6 refine And.intro ⟨rfl⟩ ?_
  refine mo1FB2 ?_
  iterate 2 refine And.intro ⟨rfl⟩ ?_
  intro q196 g197 hq198 hok199 hrd200
  have hfin:=fin_st H
  first | subst hfin | rw [←hfin]
  refine ⟨(),⟨trivial⟩,⟨trivial⟩,?_⟩
  repeat refine mo1FB2 ?_
  first | exact trivial | exact rfl
 ·have hfin:=fin_st H
  first | subst hfin | rw [←hfin]
  refine ⟨(),⟨trivial⟩,⟨trivial⟩,?_⟩
  repeat refine mo1FB2 ?_
  first | exact trivial | exact rfl
noncomputable def g11 (a0:(Int×ByteArray×ByteArray×List ByteArray×Int×Int×Nat×Nat×Nat×ByteArray×Int×Bool×List Int×Nat×ByteArray×ByteArray)) (a1:(ByteArray×Int×Bool×List Int×Nat)):Option ((ByteArray×Int×Nat×ByteArray×Bool)):=
 (g21 a0.1).bind fun v201=>
 jn (α:=_) (β:=Bool) (fun k226=>
   if a0.1=1 then
    k226 (decide (a0.1=1))
   else
    (
     if a0.1=2 then
      k226 (decide (a0.1=2))
     else
      k226 (decide (a0.1=4))
    )
 ) (fun v225=>
  if v225=true then
   some (a0.2.1,v201,0,a1.1,false)
  else
   (
    jn (α:=_) (β:=Bool) (fun k232=>
      if a0.1=6 then
       k232 (decide (a0.1=6))
      else
       k232 (decide (a0.1=8))
    ) (fun v231=>
     if v231=true then
      (
       ck (0≤a1.2.1∧a1.2.1<((a0.2.2.2.1.length:Nat):Int)) <|
       some (a0.2.1,v201,0,a0.2.2.2.1.getD a1.2.1.toNat default,false)
      )
     else
      (
       if a0.1=3 then
        some (a0.2.1,v201,FloatKind.f64.nearest a1.2.1,(⟨#[]⟩:ByteArray),false)
       else
        (
         if a0.1=7 then
          some (a0.2.1,v201,FloatKind.f64.nearest ((a1.2.2.2.1.length:Nat):Int),(⟨#[]⟩:ByteArray),false)
         else
          (
           if a0.1=9 then
            some (a0.2.1,v201,a1.2.2.2.2,(⟨#[]⟩:ByteArray),false)
           else
            (
             if a0.1=5 then
              some (a0.2.1,v201,0,(⟨#[]⟩:ByteArray),a1.2.2.1)
             else
              some (a0.2.1,v201,0,(⟨#[]⟩:ByteArray),false)
            )
          )
        )
      )
    )
   )
 )
noncomputable def k11:Eng.CS:={ f:=11,calm:=false,more:=0,ι:=(Int×ByteArray×ByteArray×List ByteArray×Int×Int×Nat×Nat×Nat×ByteArray×Int×Bool×List Int×Nat×ByteArray×ByteArray)×(ByteArray×Int×Bool×List Int×Nat)×(ByteArray×Int×Nat×ByteArray×Bool)×((Option Addr×Nat)×(Option Addr×Nat)×(Option Addr×Nat)),ok:=fun i=>g11 i.1 i.2.1=some i.2.2.1∧i.1.2.2.2.1.length≤i.2.2.2.1.2∧i.1.2.2.2.2.2.2.2.2.2.2.2.2.1.length≤i.2.2.2.2.1.2∧i.2.1.2.2.2.1.length≤i.2.2.2.2.2.2,rds:=fun i=>[(i.2.2.2.1.1,es i.1.2.2.2.1),(i.2.2.2.2.1.1,ei .i64 i.1.2.2.2.2.2.2.2.2.2.2.2.2.1),(i.2.2.2.2.2.1,ei .i64 i.2.1.2.2.2.1)],args:=fun i=>[.w (.agg [.v (.int .i64 (i.1.1)),.v (.string (i.1.2.1)),.v (.string (i.1.2.2.1)),.v (.slice i.2.2.2.1.1 i.1.2.2.2.1.length i.2.2.2.1.2),.v (.int .i64 (i.1.2.2.2.2.1)),.v (.int .i64 (i.1.2.2.2.2.2.1)),.v (.float .f64 (i.1.2.2.2.2.2.2.1)),.v (.float .f64 (i.1.2.2.2.2.2.2.2.1)),.v (.float .f64 (i.1.2.2.2.2.2.2.2.2.1)),.v (.string (i.1.2.2.2.2.2.2.2.2.2.1)),.v (.int .i64 (i.1.2.2.2.2.2.2.2.2.2.2.1)),bS i.1.2.2.2.2.2.2.2.2.2.2.2.1,.v (.slice i.2.2.2.2.1.1 i.1.2.2.2.2.2.2.2.2.2.2.2.2.1.length i.2.2.2.2.1.2),.v (.float .f64 (i.1.2.2.2.2.2.2.2.2.2.2.2.2.2.1)),.v (.string (i.1.2.2.2.2.2.2.2.2.2.2.2.2.2.2.1)),.v (.string (i.1.2.2.2.2.2.2.2.2.2.2.2.2.2.2.2))]),.w (.agg [.v (.string (i.2.1.1)),.v (.int .i64 (i.2.1.2.1)),bS i.2.1.2.2.1,.v (.slice i.2.2.2.2.2.1 i.2.1.2.2.2.1.length i.2.2.2.2.2.2),.v (.float .f64 (i.2.1.2.2.2.2))])],res:=fun _=>.bad,rn:=[],gr:=true,γ:=Unit,resG:=fun i _=>.agg [.v (.string (i.2.2.1.1)),.v (.int .i64 (i.2.2.1.2.1)),.v (.float .f64 (i.2.2.1.2.2.1)),.v (.string (i.2.2.1.2.2.2.1)),bS i.2.2.1.2.2.2.2],LG:=fun i _=>[],okG:=fun i _=>True,rdsG:=fun i _=>[],fzr:=[] }
theorem k11_ok:CSOk Tryz.prog k11:=by
 refine R.cspecG Tryz.func11 (nq9 Tryz.func11) rfl rfl (fun _=>rfl) ?_
 rintro ⟨a0,a1,r,⟨⟨A0_3,cp0_3⟩,⟨A0_12,cp0_12⟩,⟨A1_3,cp1_3⟩⟩⟩ ⟨hok,hc0_3,hc0_12,hc1_3⟩ q hrds args hargs
 obtain ⟨hR0_3,hR0_12,hR1_3,_⟩:=hrds
 dsimp only at hR0_3 hc0_3 hR0_12 hc0_12 hR1_3 hc1_3
 dsimp only [k11] at hargs ⊢
 match args,hargs with
 | [_,_],hargs=>
 obtain ⟨rfl,rfl,_⟩:=hargs
 refine ⟨envC [k21] false [(11,6),(11,9)],6,envC_ok (css_cons ⟨fun _=>k21_ok,fun h=>(by cases h)⟩ (css_nil)),?_⟩
 have H:Gives (g11 a0 a1) (fun a=>a=r):=⟨r,hok,rfl⟩
 unfold g11 at H
 clear hok
 refine And.intro ⟨by kernel_rfl⟩ ?_
 refine ⟨(Pn.calm 0 (Pn.calm 1 (Pn.calm 2 (Pn.calm 3 (Pn.calm 4 (Pn.calm 5 (Pn.calm 6 (Pn.eff 7 [] (Pn.eff 8 [7,6,4,0,1,2,3,5] Pn.done Pn.no) Pn.no)))))))),⟨by kernel_rfl⟩,?_⟩
 obtain ⟨v201,hv202,H⟩:=call_st H
 refine ⟨(a0.1,v201),⟨hv202⟩,⟨trivial⟩,?_⟩
 refine And.intro ⟨rfl⟩ ?_
 refine And.intro ?_ trivial
 refine And.intro ⟨fun _ _ _ h=>h⟩ ?_
 refine And.intro ?_ trivial
 refine And.intro ⟨fun _ _ _ h=>h⟩ ?_
 refine R.cut_fam H 14 [2,3,4,5,14] [] (fun v225=>[(15,bS v225)]) (fun v225=>[]) [(1,.cells 27 [.v (.string (a1.1)),.v (.int .i64 (a1.2.1)),bS a1.2.2.1,.v (.slice (A1_3) (a1.2.2.2.1.length) (cp1_3)),.v (.float .f64 (a1.2.2.2.2))]),(2,.cells 36 [.v (.string ((⟨#[]⟩:ByteArray))),.v (.int .i64 (0)),.v (.float .f64 (0)),.v (.string ((⟨#[]⟩:ByteArray))),.bb false]),(3,.cells 36 [.v (.string (a0.2.1)),.v (.int .i64 (v201)),.v (.float .f64 (0)),.v (.string ((⟨#[]⟩:ByteArray))),.bb false]),(0,.cells 29 [.v (.int .i64 (a0.1)),.v (.string (a0.2.1)),.v (.string (a0.2.2.1)),.v (.slice (A0_3) (a0.2.2.2.1.length) (cp0_3)),.v (.int .i64 (a0.2.2.2.2.1)),.v (.int .i64 (a0.2.2.2.2.2.1)),.v (.float .f64 (a0.2.2.2.2.2.2.1)),.v (.float .f64 (a0.2.2.2.2.2.2.2.1)),.v (.float .f64 (a0.2.2.2.2.2.2.2.2.1)),.v (.string (a0.2.2.2.2.2.2.2.2.2.1)),.v (.int .i64 (a0.2.2.2.2.2.2.2.2.2.2.1)),bS a0.2.2.2.2.2.2.2.2.2.2.2.1,.v (.slice (A0_12) (a0.2.2.2.2.2.2.2.2.2.2.2.2.1.length) (cp0_12)),.v (.float .f64 (a0.2.2.2.2.2.2.2.2.2.2.2.2.2.1)),.v (.string (a0.2.2.2.2.2.2.2.2.2.2.2.2.2.2.1)),.v (.string (a0.2.2.2.2.2.2.2.2.2.2.2.2.2.2.2))])] 0 (fun H=>?_)
 refine And.intro ?_ ?_
 ·refine if_st H (fun h227 H=>?_) (fun h227 H=>?_)
  ·refine ⟨(decide (a0.1=1)),⟨H⟩,⟨rfl⟩,?_⟩
   repeat refine mo1FB2 ?_
   first | exact trivial | exact rfl
  ·refine if_st H (fun h228 H=>?_) (fun h228 H=>?_)
   ·refine ⟨(decide (a0.1=2)),⟨H⟩,⟨rfl⟩,?_⟩
    repeat refine mo1FB2 ?_
    first | exact trivial | exact rfl
   ·refine ⟨(decide (a0.1=4)),⟨H⟩,⟨rfl⟩,?_⟩
    repeat refine mo1FB2 ?_
    first | exact trivial | exact rfl
 ·intro v225 H
  refine if_st H (fun h229 H=>?_) (fun h229 H=>?_)
  ·have hfin:=fin_st H
   first | subst hfin | rw [←hfin]
   refine ⟨(),⟨trivial⟩,⟨trivial⟩,?_⟩
   repeat refine mo1FB2 ?_
   first | exact trivial | exact rfl
  ·refine R.cut_fam H 19 [2,3,4,5,14] [] (fun v231=>[(23,bS v231)]) (fun v231=>[]) [(1,.cells 27 [.v (.string (a1.1)),.v (.int .i64 (a1.2.1)),bS a1.2.2.1,.v (.slice (A1_3) (a1.2.2.2.1.length) (cp1_3)),.v (.float .f64 (a1.2.2.2.2))]),(2,.cells 36 [.v (.string ((⟨#[]⟩:ByteArray))),.v (.int .i64 (0)),.v (.float .f64 (0)),.v (.string ((⟨#[]⟩:ByteArray))),.bb false]),(3,.cells 36 [.v (.string (a0.2.1)),.v (.int .i64 (v201)),.v (.float .f64 (0)),.v (.string ((⟨#[]⟩:ByteArray))),.bb false]),(0,.cells 29 [.v (.int .i64 (a0.1)),.v (.string (a0.2.1)),.v (.string (a0.2.2.1)),.v (.slice (A0_3) (a0.2.2.2.1.length) (cp0_3)),.v (.int .i64 (a0.2.2.2.2.1)),.v (.int .i64 (a0.2.2.2.2.2.1)),.v (.float .f64 (a0.2.2.2.2.2.2.1)),.v (.float .f64 (a0.2.2.2.2.2.2.2.1)),.v (.float .f64 (a0.2.2.2.2.2.2.2.2.1)),.v (.string (a0.2.2.2.2.2.2.2.2.2.1)),.v (.int .i64 (a0.2.2.2.2.2.2.2.2.2.2.1)),bS a0.2.2.2.2.2.2.2.2.2.2.2.1,.v (.slice (A0_12) (a0.2.2.2.2.2.2.2.2.2.2.2.2.1.length) (cp0_12)),.v (.float .f64 (a0.2.2.2.2.2.2.2.2.2.2.2.2.2.1)),.v (.string (a0.2.2.2.2.2.2.2.2.2.2.2.2.2.2.1)),.v (.string (a0.2.2.2.2.2.2.2.2.2.2.2.2.2.2.2))])] 0 (fun H=>?_)
   refine And.intro ?_ ?_
   ·refine if_st H (fun h233 H=>?_) (fun h233 H=>?_)
    ·refine ⟨(decide (a0.1=6)),⟨H⟩,⟨rfl⟩,?_⟩
     repeat refine mo1FB2 ?_
     first | exact trivial | exact rfl
    ·refine ⟨(decide (a0.1=8)),⟨H⟩,⟨rfl⟩,?_⟩
     repeat refine mo1FB2 ?_
     first | exact trivial | exact rfl
   ·intro v231 H
    refine if_st H (fun h234 H=>?_) (fun h234 H=>?_)
    ·refine ob_ix hR0_3 (fun h=>es0 h) H fun h235 H=>?_
     refine ld_str (e:=a0.2.2.2.1.getD a1.2.1.toNat default) (rd_get hR0_3 (es_get (l:=a0.2.2.2.1) (tn h235))) ?_
     have hfin:=fin_st H
     first | subst hfin | rw [←hfin]
     refine ⟨(),⟨trivial⟩,⟨trivial⟩,?_⟩
     repeat refine mo1FB2 ?_
     first | exact trivial | exact rfl
    ·repeat' refine if_st H (fun _ H=>?_) (fun _ H=>?_)
     all_goals
      have hfin:=fin_st H
      first | subst hfin | rw [←hfin]
      refine ⟨(),⟨trivial⟩,⟨trivial⟩,?_⟩
      repeat refine mo1FB2 ?_
      first | exact trivial | exact rfl
noncomputable def g6 (a0:(Int×ByteArray×ByteArray×List ByteArray×Int×Int×Nat×Nat×Nat×ByteArray×Int×Bool×List Int×Nat×ByteArray×ByteArray)) (a1:(ByteArray×Int×Bool×List Int×Nat)):Option ((ByteArray×Int×Nat×ByteArray×Bool)×Int):=
 (g10 a0 a1).bind fun v248=>
 if ¬(v248=true) then
  some (((⟨#[]⟩:ByteArray),0,0,(⟨#[]⟩:ByteArray),false),1)
 else
  (
   (g11 a0 a1).bind fun v256=>
   some (v256,0)
  )
noncomputable def k6:Eng.CS:={ f:=6,calm:=false,more:=0,ι:=(Int×ByteArray×ByteArray×List ByteArray×Int×Int×Nat×Nat×Nat×ByteArray×Int×Bool×List Int×Nat×ByteArray×ByteArray)×(ByteArray×Int×Bool×List Int×Nat)×((ByteArray×Int×Nat×ByteArray×Bool)×Int)×((Option Addr×Nat)×(Option Addr×Nat)×(Option Addr×Nat)),ok:=fun i=>g6 i.1 i.2.1=some i.2.2.1∧i.1.2.2.2.1.length≤i.2.2.2.1.2∧i.1.2.2.2.2.2.2.2.2.2.2.2.2.1.length≤i.2.2.2.2.1.2∧i.2.1.2.2.2.1.length≤i.2.2.2.2.2.2,rds:=fun i=>[(i.2.2.2.1.1,es i.1.2.2.2.1),(i.2.2.2.2.1.1,ei .i64 i.1.2.2.2.2.2.2.2.2.2.2.2.2.1),(i.2.2.2.2.2.1,ei .i64 i.2.1.2.2.2.1)],args:=fun i=>[.w (.agg [.v (.int .i64 (i.1.1)),.v (.string (i.1.2.1)),.v (.string (i.1.2.2.1)),.v (.slice i.2.2.2.1.1 i.1.2.2.2.1.length i.2.2.2.1.2),.v (.int .i64 (i.1.2.2.2.2.1)),.v (.int .i64 (i.1.2.2.2.2.2.1)),.v (.float .f64 (i.1.2.2.2.2.2.2.1)),.v (.float .f64 (i.1.2.2.2.2.2.2.2.1)),.v (.float .f64 (i.1.2.2.2.2.2.2.2.2.1)),.v (.string (i.1.2.2.2.2.2.2.2.2.2.1)),.v (.int .i64 (i.1.2.2.2.2.2.2.2.2.2.2.1)),bS i.1.2.2.2.2.2.2.2.2.2.2.2.1,.v (.slice i.2.2.2.2.1.1 i.1.2.2.2.2.2.2.2.2.2.2.2.2.1.length i.2.2.2.2.1.2),.v (.float .f64 (i.1.2.2.2.2.2.2.2.2.2.2.2.2.2.1)),.v (.string (i.1.2.2.2.2.2.2.2.2.2.2.2.2.2.2.1)),.v (.string (i.1.2.2.2.2.2.2.2.2.2.2.2.2.2.2.2))]),.w (.agg [.v (.string (i.2.1.1)),.v (.int .i64 (i.2.1.2.1)),bS i.2.1.2.2.1,.v (.slice i.2.2.2.2.2.1 i.2.1.2.2.2.1.length i.2.2.2.2.2.2),.v (.float .f64 (i.2.1.2.2.2.2))])],res:=fun _=>.bad,rn:=[],gr:=true,γ:=Unit,resG:=fun i _=>.tup [.agg [.v (.string (i.2.2.1.1.1)),.v (.int .i64 (i.2.2.1.1.2.1)),.v (.float .f64 (i.2.2.1.1.2.2.1)),.v (.string (i.2.2.1.1.2.2.2.1)),bS i.2.2.1.1.2.2.2.2],.v (.int .i64 (i.2.2.1.2))],LG:=fun i _=>[],okG:=fun i _=>True,rdsG:=fun i _=>[],fzr:=[] }
theorem k6_ok:CSOk Tryz.prog k6:=by
 refine R.cspecG Tryz.func6 (nq9 Tryz.func6) rfl rfl (fun _=>rfl) ?_
 rintro ⟨a0,a1,r,⟨⟨A0_3,cp0_3⟩,⟨A0_12,cp0_12⟩,⟨A1_3,cp1_3⟩⟩⟩ ⟨hok,hc0_3,hc0_12,hc1_3⟩ q hrds args hargs
 obtain ⟨hR0_3,hR0_12,hR1_3,_⟩:=hrds
 dsimp only at hR0_3 hc0_3 hR0_12 hc0_12 hR1_3 hc1_3
 dsimp only [k6] at hargs ⊢
 match args,hargs with
 | [_,_],hargs=>
 obtain ⟨rfl,rfl,_⟩:=hargs
 refine ⟨envC [k10,k11] false [],6,envC_ok (css_cons ⟨fun h=>(by cases h),fun _=>k10_ok⟩ (css_cons ⟨fun h=>(by cases h),fun _=>k11_ok⟩ (css_nil))),?_⟩
 have H:Gives (g6 a0 a1) (fun a=>a=r):=⟨r,hok,rfl⟩
 unfold g6 at H
 clear hok
 obtain ⟨v248,hv249,H⟩:=call_st H
 refine ⟨(a0,a1,v248,((A0_3,cp0_3),(A0_12,cp0_12),(A1_3,cp1_3))),⟨hv249,hc0_3,hc0_12,hc1_3⟩,⟨⟨hR0_3,hR0_12,hR1_3,trivial⟩⟩,?_⟩
 iterate 11 refine And.intro ⟨rfl⟩ ?_
 refine mo1FB2 ?_
 iterate 6 refine And.intro ⟨rfl⟩ ?_
 refine mo1FB2 ?_
 iterate 2 refine And.intro ⟨rfl⟩ ?_
 intro q250 g251 hq252 hok253 hrd254
 refine if_st H (fun h255 H=>?_) (fun h255 H=>?_)
 ·have hfin:=fin_st H
  first | subst hfin | rw [←hfin]
  refine ⟨(),⟨trivial⟩,⟨trivial⟩,?_⟩
  repeat refine mo1FB2 ?_
  first | exact trivial | exact rfl
 ·obtain ⟨v256,hv257,H⟩:=call_st H
  refine ⟨(a0,a1,v256,((A0_3,cp0_3),(A0_12,cp0_12),(A1_3,cp1_3))),⟨hv257,hc0_3,hc0_12,hc1_3⟩,⟨⟨(Reads.mono hq252 hR0_3),(Reads.mono hq252 hR0_12),(Reads.mono hq252 hR1_3),trivial⟩⟩,?_⟩
  iterate 11 refine And.intro ⟨rfl⟩ ?_
  refine mo1FB2 ?_
  iterate 6 refine And.intro ⟨rfl⟩ ?_
  refine mo1FB2 ?_
  iterate 2 refine And.intro ⟨rfl⟩ ?_
  intro q258 g259 hq260 hok261 hrd262
  have hfin:=fin_st H
  first | subst hfin | rw [←hfin]
  refine ⟨(),⟨trivial⟩,⟨trivial⟩,?_⟩
  repeat refine mo1FB2 ?_
  first | exact trivial | exact rfl
end Go.Proofs.YtlehbfahkjhgnaaGreat
end
section
namespace Go.Eng
open Ieee
theorem read_parts (n:Nat) (hn:n<18446744073709551616):∃(s:Bool) (r:Nat),n=(if s then 9223372036854775808 else 0)+r∧r<9223372036854775808 ∧
    ((r<4503599627370496∧F64.read n=.number s r (-1074))∨(4503599627370496≤r∧r<9218868437227405312∧F64.read n=.number s (4503599627370496+r % 4503599627370496) (-1074+(r / 4503599627370496-1:Nat))) ∨
     (r=9218868437227405312∧F64.read n=.infinity s)∨(9218868437227405312<r∧F64.read n=.nan s (r-9218868437227405312))):=by
  refine ⟨n / 9223372036854775808 % 2 == 1,n % 9223372036854775808,?_,Nat.mod_lt _ (by decide),?_⟩
  · by_cases h:n<9223372036854775808
    · have e:n / 9223372036854775808 % 2=0:=by omega
      rw [e];simp;omega
    · have e:n / 9223372036854775808 % 2=1:=by omega
      rw [e];simp;omega
  · unfold Format.read
    dsimp only
    rw [f64_sw,f64_inf,f64_binade,f64_lp]
    split
    · rename_i h;exact .inl ⟨h,rfl⟩
    · rename_i h
      split
      · rename_i h2;exact .inr (.inl ⟨by omega,h2,rfl⟩)
      · rename_i h2
        split
        · rename_i h3;exact .inr (.inr (.inl ⟨h3,rfl⟩))
        · rename_i h3;exact .inr (.inr (.inr ⟨by omega,rfl⟩))
theorem order_self {n:Nat}:F64.order n n=some .eq↔nn (F64.read n):=by
 unfold Format.order
 cases h:F64.read n with
 | number s m i=>exact ⟨fun _ _ _ h=>(by cases h),fun _=>congrArg some (cmp_eq rfl)⟩
 | infinity s=>exact ⟨fun _ _ _ h=>(by cases h),fun _=>by cases s<;>rfl⟩
 | nan s t=>exact ⟨fun h=>(by simp [Datum.order] at h),fun h=>absurd rfl (h s t)⟩
theorem pow_ge {k:Nat} (h:1≤k):(2:Int)≤2 ^ k:=by
 obtain ⟨j,rfl⟩:∃j,k=j+1:=⟨k-1,by omega⟩
 rw [Int.pow_succ]
 have:=two_pos j
 omega
theorem shift_ge {m k:Nat} {d:Nat} (hd:1≤d) (hm:m<9007199254740992) (hk:4503599627370496≤k):(m:Int)<k * 2 ^ d:=by
 have h2:=pow_ge hd
 have h:(k:Int) * 2≤k * 2 ^ d:=Int.mul_le_mul_of_nonneg_left h2 (by omega)
 omega
theorem signed_zero {s:Bool} {m k:Nat}:signed s m k=0↔m=0:=by
 have hp:=two_pos k
 cases s
 ·rw [signed_pos,Int.mul_eq_zero];omega
 ·rw [signed_neg,Int.neg_eq_zero,Int.mul_eq_zero];omega
theorem signed_sign {s:Bool} {m k:Nat} (h:m≠0):if s then signed s m k<0 else 0<signed s m k:=by
 have hp:=Int.mul_pos (show (0:Int)<m by omega) (two_pos k)
 cases s
 ·rw [signed_pos];simpa using hp
 ·rw [signed_neg];simp;omega
theorem order_eq {a b:Nat} (ha:a<18446744073709551616) (hb:b<18446744073709551616) (h:F64.order a b=some .eq):a=b∨(a % 9223372036854775808=0∧b % 9223372036854775808=0):=by
 obtain ⟨s,r,e1,hr,ha'⟩:=read_parts a ha
 obtain ⟨t,u,e2,hu,hb'⟩:=read_parts b hb
 have hs9:(if s=true then (9223372036854775808:Nat) else 0) % 9223372036854775808=0:=by cases s<;>rfl
 have ht9:(if t=true then (9223372036854775808:Nat) else 0) % 9223372036854775808=0:=by cases t<;>rfl
 suffices hh:(s=t∧r=u)∨(r=0∧u=0) by
  rcases hh with ⟨rfl,rfl⟩ | ⟨rfl,rfl⟩
  ·exact .inl (e1.trans e2.symm)
  ·refine .inr ⟨?_,?_⟩
   ·rw [e1,Nat.add_zero,hs9]
   ·rw [e2,Nat.add_zero,ht9]
 clear e1 e2 hs9 ht9
 have two:∀(m:Nat) (i:Int) (k:Nat) (j:Int),((m<4503599627370496∧i=-1074∧r=m)∨(4503599627370496≤m∧m<9007199254740992∧(r:Int)=(i+1074+1) * 4503599627370496+(m-4503599627370496)∧-1074≤i)) →
   ((k<4503599627370496∧j=-1074∧u=k)∨(4503599627370496≤k∧k<9007199254740992∧(u:Int)=(j+1074+1) * 4503599627370496+(k-4503599627370496)∧-1074≤j)) →
   (Datum.number s m i).order (.number t k j)=some .eq→(s=t∧r=u)∨(r=0∧u=0):=by
  intro m i k j hm hk ho
  have ho:signed s m (i-min i j).toNat=signed t k (j-min i j).toNat:=cmp_of_eq (Option.some.inj ho)
  by_cases hm0:m=0
  ·have hk0:k=0:=by
    rw [signed_zero.2 hm0] at ho
    exact signed_zero.1 ho.symm
   right;omega
  ·have hk0:k≠0:=fun h=>hm0 (signed_zero.1 (ho.trans (signed_zero.2 h)))
   have s1:=signed_sign (s:=s) (k:=(i-min i j).toNat) hm0
   have s2:=signed_sign (s:=t) (k:=(j-min i j).toNat) hk0
   have hst:s=t:=by
    cases s<;>cases t<;>simp at s1 s2<;>first | rfl | omega
   subst hst
   left
   refine ⟨rfl,?_⟩
   have hmag:(m:Int) * 2 ^ (i-min i j).toNat=k * 2 ^ (j-min i j).toNat:=by
    cases s
    ·rwa [signed_pos,signed_pos] at ho
    ·rw [signed_neg,signed_neg] at ho;omega
   have hmk:m<9007199254740992∧k<9007199254740992:=by omega
   rcases Int.lt_trichotomy i j with h1 | h1 | h1
   ·exfalso
    have e1:(i-min i j).toNat=0:=by omega
    rw [e1,Int.pow_zero,Int.mul_one] at hmag
    have:=shift_ge (m:=m) (k:=k) (d:=(j-min i j).toNat) (by omega) hmk.1 (by omega)
    omega
   ·subst h1
    have e1:(i-min i i).toNat=0:=by omega
    rw [e1,Int.pow_zero,Int.mul_one,Int.mul_one] at hmag
    omega
   ·exfalso
    have e1:(j-min i j).toNat=0:=by omega
    rw [e1,Int.pow_zero,Int.mul_one] at hmag
    have:=shift_ge (m:=k) (k:=m) (d:=(i-min i j).toNat) (by omega) hmk.2 (by omega)
    omega
 unfold Format.order at h
 have canonR:∀v:Nat,4503599627370496≤v→v<9218868437227405312→(v:Int)=((-1074+(v / 4503599627370496-1:Nat):Int)+1074+1) * 4503599627370496+((4503599627370496+v % 4503599627370496:Nat)-4503599627370496):=fun v h1 h2=>by omega
 rcases ha' with ⟨p1,p2⟩ | ⟨p1,p1',p2⟩ | ⟨p1,p2⟩ | ⟨p1,p2⟩<;>rcases hb' with ⟨q1,q2⟩ | ⟨q1,q1',q2⟩ | ⟨q1,q2⟩ | ⟨q1,q2⟩<;>rw [p2,q2] at h
 ·exact two _ _ _ _ (.inl ⟨p1,rfl,rfl⟩) (.inl ⟨q1,rfl,rfl⟩) h
 ·exact two _ _ _ _ (.inl ⟨p1,rfl,rfl⟩) (.inr ⟨by omega,by omega,canonR u q1 q1',by omega⟩) h
 ·cases t<;>simp [Datum.order] at h
 ·simp [Datum.order] at h
 ·exact two _ _ _ _ (.inr ⟨by omega,by omega,canonR r p1 p1',by omega⟩) (.inl ⟨q1,rfl,rfl⟩) h
 ·exact two _ _ _ _ (.inr ⟨by omega,by omega,canonR r p1 p1',by omega⟩) (.inr ⟨by omega,by omega,canonR u q1 q1',by omega⟩) h
 ·cases t<;>simp [Datum.order] at h
 ·simp [Datum.order] at h
 ·cases s<;>simp [Datum.order] at h
 ·cases s<;>simp [Datum.order] at h
 ·cases s<;>cases t<;>first | exact .inl ⟨rfl,p1.trans q1.symm⟩ | (exact absurd h (by decide))
 ·simp [Datum.order] at h
 ·simp [Datum.order] at h
 ·simp [Datum.order] at h
 ·simp [Datum.order] at h
 ·simp [Datum.order] at h
end Go.Eng
end
section
set_option maxRecDepth 8000
set_option maxHeartbeats 4000000
namespace Go.Proofs.YtlehbfahkjhgnaaGreat
open Go Go.Eng
noncomputable def g5 (a0:(ByteArray×Int×Bool×List Int×Nat)):Option ((ByteArray×Int×Bool×List Int×Nat)):=
 ck (0≤(0:Int)∧(0:Int)≤gmin (a0.1.size:Int) 300∧gmin (a0.1.size:Int) 300≤(a0.1.size:Int)) <|
 ck (0≤(0:Int)∧(0:Int)≤gmin ((a0.2.2.2.1.length:Nat):Int) 300∧gmin ((a0.2.2.2.1.length:Nat):Int) 300≤((a0.2.2.2.1.length:Nat):Int)) <|
 some (a0.1.extract (0:Int).toNat (gmin (a0.1.size:Int) 300).toNat,a0.2.1,a0.2.2.1,((a0.2.2.2.1.drop (0:Int).toNat).take ((gmin ((a0.2.2.2.1.length:Nat):Int) 300).toNat-(0:Int).toNat)),a0.2.2.2.2)
noncomputable def k5:Eng.CS:={ f:=5,calm:=false,more:=0,ι:=(ByteArray×Int×Bool×List Int×Nat)×(ByteArray×Int×Bool×List Int×Nat)×((Option Addr×Nat)),ok:=fun i=>g5 i.1=some i.2.1∧i.1.2.2.2.1.length≤i.2.2.2,rds:=fun i=>[(i.2.2.1,ei .i64 i.1.2.2.2.1)],args:=fun i=>[.w (.agg [.v (.string (i.1.1)),.v (.int .i64 (i.1.2.1)),bS i.1.2.2.1,.v (.slice i.2.2.1 i.1.2.2.2.1.length i.2.2.2),.v (.float .f64 (i.1.2.2.2.2))])],res:=fun _=>.bad,rn:=[],gr:=true,γ:=(Option Addr×Nat),resG:=fun i g=>.agg [.v (.string (i.2.1.1)),.v (.int .i64 (i.2.1.2.1)),bS i.2.1.2.2.1,.v (.slice g.1 i.2.1.2.2.2.1.length g.2),.v (.float .f64 (i.2.1.2.2.2.2))],LG:=fun i g=>[],okG:=fun i g=>i.2.1.2.2.2.1.length≤g.2,rdsG:=fun i g=>[(g.1,ei .i64 i.2.1.2.2.2.1)],fzr:=[(0,3)] }
theorem k5_ok:CSOk Tryz.prog k5:=by
 refine R.cspecG Tryz.func5 (nq9 Tryz.func5) rfl rfl (fun _=>rfl) ?_
 rintro ⟨a0,r,⟨A0_3,cp0_3⟩⟩ ⟨hok,hc0_3⟩ q hrds args hargs
 obtain ⟨hR0_3,_⟩:=hrds
 dsimp only at hR0_3 hc0_3
 dsimp only [k5] at hargs ⊢
 match args,hargs with
 | [_],hargs=>
 obtain ⟨rfl,_⟩:=hargs
 refine ⟨envC [] false [],6,envC_ok (css_nil),?_⟩
 have H:Gives (g5 a0) (fun a=>a=r):=⟨r,hok,rfl⟩
 unfold g5 at H
 clear hok
 refine And.intro ⟨by kernel_rfl⟩ ?_
 refine ⟨(Pn.calm 0 (Pn.calm 1 (Pn.calm 2 (Pn.calm 3 (Pn.calm 4 (Pn.calm 5 (Pn.calm 6 (Pn.calm 7 (Pn.calm 8 (Pn.calm 9 (Pn.calm 10 (Pn.calm 11 (Pn.calm 12 (Pn.calm 13 (Pn.calm 14 (Pn.eff 15 [14,6,0,1,2,3,4,5,7,8,9,10] (Pn.calm 16 (Pn.eff 17 [16,13,15,0,1,2,3,4,5,6,7,8,9,10,11,12,14] Pn.done Pn.no)) Pn.no)))))))))))))))),⟨by kernel_rfl⟩,?_⟩
 refine ob_ck H fun h1 H=>?_
 refine ob_sl hc0_3 H fun h2 H=>?_
 have hs3:=sl_ei hR0_3 rfl hc0_3 h2
 intro n4 hn5
 obtain rfl:n4=((a0.2.2.2.1.drop (0:Int).toNat).take ((gmin ((a0.2.2.2.1.length:Nat):Int) 300).toNat-(0:Int).toNat)).length:=hn5.trans hs3.2.1.symm
 refine And.intro ?_ trivial
 refine And.intro ⟨fun _ _ _ h=>h⟩ ?_
 refine And.intro ?_ trivial
 refine And.intro ⟨fun _ _ _ h=>h⟩ ?_
 have hfin:=fin_st H
 first | subst hfin | rw [←hfin]
 refine ⟨(if cp0_3=(0:Int).toNat then A0_3 else A0_3.map (·.add ((0:Int).toNat)),cp0_3-(0:Int).toNat),⟨(Nat.le_trans (Nat.le_of_eq hs3.2.1) hs3.2.2)⟩,⟨⟨hs3.1,trivial⟩⟩,?_⟩
 repeat refine mo1FB2 ?_
 first | exact trivial | exact rfl
noncomputable def g4 (a0:(Int×ByteArray×ByteArray×List ByteArray×Int×Int×Nat×Nat×Nat×ByteArray×Int×Bool×List Int×Nat×ByteArray×ByteArray)):Option ((Int×ByteArray×ByteArray×List ByteArray×Int×Int×Nat×Nat×Nat×ByteArray×Int×Bool×List Int×Nat×ByteArray×ByteArray)):=
 ck (0≤(0:Int)∧(0:Int)≤gmin (a0.2.1.size:Int) 40∧gmin (a0.2.1.size:Int) 40≤(a0.2.1.size:Int)) <|
 ck (0≤(0:Int)∧(0:Int)≤gmin (a0.2.2.1.size:Int) 400∧gmin (a0.2.2.1.size:Int) 400≤(a0.2.2.1.size:Int)) <|
 (g5 (a0.2.2.2.2.2.2.2.2.2.1,a0.2.2.2.2.2.2.2.2.2.2.1,a0.2.2.2.2.2.2.2.2.2.2.2.1,a0.2.2.2.2.2.2.2.2.2.2.2.2.1,a0.2.2.2.2.2.2.2.2.2.2.2.2.2.1)).bind fun v8=>
 jn (α:=_) (β:=List ByteArray) (fun k67=>
   (loopO (σ:=List ByteArray×Int) (ρ:=List ByteArray) (fun s70=>
     if s70.2<((a0.2.2.2.1.length:Nat):Int) then
      (
       if s70.2<40 then
        (
         ck (0≤s70.2∧s70.2<((a0.2.2.2.1.length:Nat):Int)) <|
         ck (0≤s70.2∧s70.2<((a0.2.2.2.1.length:Nat):Int)) <|
         ck (0≤(0:Int)∧(0:Int)≤gmin ((a0.2.2.2.1.getD s70.2.toNat default).size:Int) 300∧gmin ((a0.2.2.2.1.getD s70.2.toNat default).size:Int) 300≤((a0.2.2.2.1.getD s70.2.toNat default).size:Int)) <|
         ck ((s70.1.length+1) * 16≤140737488355328) <|
         ck (inR .i64 (s70.2+1)) <|
         some (.go ((s70.1++[(a0.2.2.2.1.getD s70.2.toNat default).extract (0:Int).toNat (gmin ((a0.2.2.2.1.getD s70.2.toNat default).size:Int) 300).toNat]),s70.2+1))
        )
       else
        some (.out s70.1)
      )
     else
      some (.out s70.1)
    ) ([],0)).bind fun o93=>
    k67 o93
 ) (fun v66=>
  some (a0.1,a0.2.1.extract (0:Int).toNat (gmin (a0.2.1.size:Int) 40).toNat,a0.2.2.1.extract (0:Int).toNat (gmin (a0.2.2.1.size:Int) 400).toNat,v66,a0.2.2.2.2.1,a0.2.2.2.2.2.1,a0.2.2.2.2.2.2.1,a0.2.2.2.2.2.2.2.1,a0.2.2.2.2.2.2.2.2.1,v8.1,v8.2.1,v8.2.2.1,v8.2.2.2.1,v8.2.2.2.2,a0.2.2.2.2.2.2.2.2.2.2.2.2.2.2.1,a0.2.2.2.2.2.2.2.2.2.2.2.2.2.2.2)
 )
noncomputable def k4:Eng.CS:={ f:=4,calm:=false,more:=0,ι:=(Int×ByteArray×ByteArray×List ByteArray×Int×Int×Nat×Nat×Nat×ByteArray×Int×Bool×List Int×Nat×ByteArray×ByteArray)×(Int×ByteArray×ByteArray×List ByteArray×Int×Int×Nat×Nat×Nat×ByteArray×Int×Bool×List Int×Nat×ByteArray×ByteArray)×((Option Addr×Nat)×(Option Addr×Nat)),ok:=fun i=>g4 i.1=some i.2.1∧i.1.2.2.2.1.length≤i.2.2.1.2∧i.1.2.2.2.2.2.2.2.2.2.2.2.2.1.length≤i.2.2.2.2,rds:=fun i=>[(i.2.2.1.1,es i.1.2.2.2.1),(i.2.2.2.1,ei .i64 i.1.2.2.2.2.2.2.2.2.2.2.2.2.1)],args:=fun i=>[.w (.agg [.v (.int .i64 (i.1.1)),.v (.string (i.1.2.1)),.v (.string (i.1.2.2.1)),.v (.slice i.2.2.1.1 i.1.2.2.2.1.length i.2.2.1.2),.v (.int .i64 (i.1.2.2.2.2.1)),.v (.int .i64 (i.1.2.2.2.2.2.1)),.v (.float .f64 (i.1.2.2.2.2.2.2.1)),.v (.float .f64 (i.1.2.2.2.2.2.2.2.1)),.v (.float .f64 (i.1.2.2.2.2.2.2.2.2.1)),.v (.string (i.1.2.2.2.2.2.2.2.2.2.1)),.v (.int .i64 (i.1.2.2.2.2.2.2.2.2.2.2.1)),bS i.1.2.2.2.2.2.2.2.2.2.2.2.1,.v (.slice i.2.2.2.1 i.1.2.2.2.2.2.2.2.2.2.2.2.2.1.length i.2.2.2.2),.v (.float .f64 (i.1.2.2.2.2.2.2.2.2.2.2.2.2.2.1)),.v (.string (i.1.2.2.2.2.2.2.2.2.2.2.2.2.2.2.1)),.v (.string (i.1.2.2.2.2.2.2.2.2.2.2.2.2.2.2.2))])],res:=fun _=>.bad,rn:=[],gr:=true,γ:=(Option Addr×Nat)×(Option Addr×Nat),resG:=fun i g=>.agg [.v (.int .i64 (i.2.1.1)),.v (.string (i.2.1.2.1)),.v (.string (i.2.1.2.2.1)),.v (.slice g.1.1 i.2.1.2.2.2.1.length g.1.2),.v (.int .i64 (i.2.1.2.2.2.2.1)),.v (.int .i64 (i.2.1.2.2.2.2.2.1)),.v (.float .f64 (i.2.1.2.2.2.2.2.2.1)),.v (.float .f64 (i.2.1.2.2.2.2.2.2.2.1)),.v (.float .f64 (i.2.1.2.2.2.2.2.2.2.2.1)),.v (.string (i.2.1.2.2.2.2.2.2.2.2.2.1)),.v (.int .i64 (i.2.1.2.2.2.2.2.2.2.2.2.2.1)),bS i.2.1.2.2.2.2.2.2.2.2.2.2.2.1,.v (.slice g.2.1 i.2.1.2.2.2.2.2.2.2.2.2.2.2.2.1.length g.2.2),.v (.float .f64 (i.2.1.2.2.2.2.2.2.2.2.2.2.2.2.2.1)),.v (.string (i.2.1.2.2.2.2.2.2.2.2.2.2.2.2.2.2.1)),.v (.string (i.2.1.2.2.2.2.2.2.2.2.2.2.2.2.2.2.2))],LG:=fun i g=>[],okG:=fun i g=>i.2.1.2.2.2.1.length≤g.1.2∧i.2.1.2.2.2.2.2.2.2.2.2.2.2.2.1.length≤g.2.2,rdsG:=fun i g=>[(g.1.1,es i.2.1.2.2.2.1),(g.2.1,ei .i64 i.2.1.2.2.2.2.2.2.2.2.2.2.2.2.1)],fzr:=[(0,3),(0,12)] }
theorem k4_ok:CSOk Tryz.prog k4:=by
 refine R.cspecG Tryz.func4 (nq9 Tryz.func4) rfl rfl (fun _=>rfl) ?_
 rintro ⟨a0,r,⟨⟨A0_3,cp0_3⟩,⟨A0_12,cp0_12⟩⟩⟩ ⟨hok,hc0_3,hc0_12⟩ q hrds args hargs
 obtain ⟨hR0_3,hR0_12,_⟩:=hrds
 dsimp only at hR0_3 hc0_3 hR0_12 hc0_12
 dsimp only [k4] at hargs ⊢
 match args,hargs with
 | [_],hargs=>
 obtain ⟨rfl,_⟩:=hargs
 refine ⟨envC [k5] false [(4,8)],6,envC_ok (css_cons ⟨fun h=>(by cases h),fun _=>k5_ok⟩ (css_nil)),?_⟩
 have H:Gives (g4 a0) (fun a=>a=r):=⟨r,hok,rfl⟩
 unfold g4 at H
 clear hok
 refine And.intro ⟨by kernel_rfl⟩ ?_
 refine ⟨(Pn.calm 0 (Pn.calm 1 (Pn.calm 2 (Pn.calm 3 (Pn.calm 4 (Pn.calm 5 (Pn.calm 6 (Pn.calm 7 (Pn.calm 8 (Pn.calm 9 (Pn.calm 10 (Pn.calm 11 (Pn.calm 12 (Pn.calm 13 (Pn.calm 14 (Pn.eff 15 [14,6,0,1,2,3,4,5,7,8,9,10] (Pn.calm 16 (Pn.eff 17 [16,13,15,0,1,2,3,4,5,6,7,8,9,10,11,12,14] Pn.done Pn.no)) Pn.no)))))))))))))))),⟨by kernel_rfl⟩,?_⟩
 refine ob_ck H fun h6 H=>?_
 refine ob_ck H fun h7 H=>?_
 refine And.intro ?_ trivial
 refine And.intro ⟨fun _ _ _ h=>h⟩ ?_
 refine And.intro ?_ trivial
 refine And.intro ⟨fun _ _ _ h=>h⟩ ?_
 obtain ⟨v8,hv9,H⟩:=call_st H
 refine ⟨((a0.2.2.2.2.2.2.2.2.2.1,a0.2.2.2.2.2.2.2.2.2.2.1,a0.2.2.2.2.2.2.2.2.2.2.2.1,a0.2.2.2.2.2.2.2.2.2.2.2.2.1,a0.2.2.2.2.2.2.2.2.2.2.2.2.2.1),v8,(A0_12,cp0_12)),⟨hv9,hc0_12⟩,⟨⟨hR0_12,trivial⟩⟩,?_⟩
 iterate 2 refine And.intro ⟨rfl⟩ ?_
 refine mo1FB2 ?_
 iterate 2 refine And.intro ⟨rfl⟩ ?_
 intro q10 g11 hq12 hok13 hrd14
 obtain ⟨A15,c16⟩:=g11
 have hc17:=hok13
 obtain ⟨hR18,_⟩:=hrd14
 try dsimp only at hc17 hR18
 refine R.cut_fam H 25 [1,2] [] (fun v66=>[(3,.own 25)]) (fun v66=>[(25,.arr 9 1 (v66.length) (es (v66)))]) [(0,.cells 29 [.v (.int .i64 (a0.1)),.v (.string (a0.2.1.extract (0:Int).toNat (gmin (a0.2.1.size:Int) 40).toNat)),.v (.string (a0.2.2.1.extract (0:Int).toNat (gmin (a0.2.2.1.size:Int) 400).toNat)),.v (.slice (A0_3) (a0.2.2.2.1.length) (cp0_3)),.v (.int .i64 (a0.2.2.2.2.1)),.v (.int .i64 (a0.2.2.2.2.2.1)),.v (.float .f64 (a0.2.2.2.2.2.2.1)),.v (.float .f64 (a0.2.2.2.2.2.2.2.1)),.v (.float .f64 (a0.2.2.2.2.2.2.2.2.1)),.v (.string (v8.1)),.v (.int .i64 (v8.2.1)),bS v8.2.2.1,.v (.slice (A15) (v8.2.2.2.1.length) (c16)),.v (.float .f64 (v8.2.2.2.2)),.v (.string (a0.2.2.2.2.2.2.2.2.2.2.2.2.2.2.1)),.v (.string (a0.2.2.2.2.2.2.2.2.2.2.2.2.2.2.2))]),(1,.cells 29 [.v (.int .i64 (0)),.v (.string ((⟨#[]⟩:ByteArray))),.v (.string ((⟨#[]⟩:ByteArray))),.v (.slice none 0 0),.v (.int .i64 (0)),.v (.int .i64 (0)),.v (.float .f64 (0)),.v (.float .f64 (0)),.v (.float .f64 (0)),.v (.string ((⟨#[]⟩:ByteArray))),.v (.int .i64 (0)),.bb false,.v (.slice none 0 0),.v (.float .f64 (0)),.v (.string ((⟨#[]⟩:ByteArray))),.v (.string ((⟨#[]⟩:ByteArray)))])] 1 (fun H=>?_)
 refine And.intro ?_ ?_
 ·refine R.loop_fam (bind_st H) [1,2] [(3,0,9,1)] (fun _ s70=>[(3,.own 12),(4,.v (.int .i64 (s70.2)))]) (fun _ s70=>[(12,.arr 9 1 (s70.1.length) (es (s70.1)))]) 1 (fun n105 H=>?_)
  refine ⟨(n105,_),⟨H⟩,⟨trivial⟩,?_⟩
  repeat refine mo1FB2 ?_
  rintro ⟨m0,s70⟩ H _
  obtain ⟨m71,hm0,H⟩:=IG_succ H
  dsimp only at hm0
  subst hm0
  try dsimp only at H
  refine if_st H (fun h94 H=>?_) (fun h94 H=>?_)
  ·refine if_st H (fun h95 H=>?_) (fun h95 H=>?_)
   ·refine And.intro ⟨by kernel_rfl⟩ ?_
    refine ⟨(Pn.calm 0 (Pn.calm 1 (Pn.calm 2 (Pn.calm 3 (Pn.calm 4 (Pn.calm 5 (Pn.calm 6 (Pn.calm 7 (Pn.calm 8 (Pn.calm 9 (Pn.calm 10 (Pn.calm 11 (Pn.calm 12 (Pn.calm 13 (Pn.eff 14 [13,5,12,4,11,2,3,10,1,9,7,8,6] (Pn.eff 15 [0,14,13,5,12,4,11,2,3,10,1,9,7,8,6] (Pn.calm 16 Pn.done) Pn.no) Pn.no))))))))))))))),⟨by kernel_rfl⟩,?_⟩
    refine ob_ix (Reads.mono hq12 hR0_3) (fun h=>es0 h) H fun h96 H=>?_
    refine ld_str (e:=a0.2.2.2.1.getD s70.2.toNat default) (rd_get (Reads.mono hq12 hR0_3) (es_get (l:=a0.2.2.2.1) (tn h96))) ?_
    refine ob_ix (Reads.mono hq12 hR0_3) (fun h=>es0 h) H fun h97 H=>?_
    refine ld_str (e:=a0.2.2.2.1.getD s70.2.toNat default) (rd_get (Reads.mono hq12 hR0_3) (es_get (l:=a0.2.2.2.1) (tn h97))) ?_
    refine ob_ck H fun h98 H=>?_
    refine And.intro ?_ trivial
    refine And.intro ⟨fun _ _ _ h=>h⟩ ?_
    refine And.intro ?_ trivial
    refine ob_app (by decide) (by first | exact es_one | ((repeat (refine List.forall_mem_cons.2 ⟨rfl,?_⟩));intro y hy;cases hy;done) | (intro y hy;simp [ei,eb,es,ec] at hy;(first | (rcases hy with rfl | hy) | subst hy | skip);all_goals first | rfl | simp_all [Value.oneCell'])) H fun h99 H=>?_
    intro n100 zs102 hn101 hz103
    obtain rfl:n100=(s70.1++[(a0.2.2.2.1.getD s70.2.toNat default).extract (0:Int).toNat (gmin ((a0.2.2.2.1.getD s70.2.toNat default).size:Int) 300).toNat]).length:=hn101.trans (by first | exact List.length_append.symm | (simp;done) | (simp;omega))
    obtain rfl:zs102=es (s70.1++[(a0.2.2.2.1.getD s70.2.toNat default).extract (0:Int).toNat (gmin ((a0.2.2.2.1.getD s70.2.toNat default).size:Int) 300).toNat]):=by first | exact hz103.trans (es_app (xs:=s70.1) (ys:=([(a0.2.2.2.1.getD s70.2.toNat default).extract (0:Int).toNat (gmin ((a0.2.2.2.1.getD s70.2.toNat default).size:Int) 300).toNat]))).symm | (rw [hz103,es_vw];first | exact es_app.symm | exact (es_app (xs:=s70.1)).symm) | (rw [hz103];simp [ei,eb,es,ec])
    refine And.intro ⟨fun _ _ _ h=>h⟩ ?_
    refine ob_ck H fun h104 H=>?_
    replace H:=some_st H
    refine ⟨(m71,((s70.1++[(a0.2.2.2.1.getD s70.2.toNat default).extract (0:Int).toNat (gmin ((a0.2.2.2.1.getD s70.2.toNat default).size:Int) 300).toNat]),s70.2+1)),⟨H,Nat.lt_succ_self _⟩,⟨trivial⟩,⟨rfl⟩,?_⟩
    repeat refine mo1FB2 ?_
    first | exact trivial | exact rfl
   ·replace H:=some_st H
    dsimp only [stp,sm] at H
    refine ⟨s70.1,⟨H⟩,⟨rfl⟩,?_⟩
    repeat refine mo1FB2 ?_
    first | exact trivial | exact rfl
  ·replace H:=some_st H
   dsimp only [stp,sm] at H
   refine ⟨s70.1,⟨H⟩,⟨rfl⟩,?_⟩
   repeat refine mo1FB2 ?_
   first | exact trivial | exact rfl
 ·intro v66 H
  intro q106 A107 c108 hq109 hc110 hR111
  replace hR111:Reads q106 A107 (es v66):=Eq.mp (congrArg (Reads q106 A107) (by first | exact rfl | (simp only [ei,eb,es,ec,gmin,gmax,List.map_append,List.flatMap_append,List.nil_append,List.append_nil,List.append_assoc];done))) hR111
  have hfin:=fin_st H
  first | subst hfin | rw [←hfin]
  refine ⟨((A107,c108),(A15,c16)),⟨⟨hc110,hc17⟩⟩,⟨⟨hR111,(Reads.mono hq109 hR18),trivial⟩⟩,?_⟩
  repeat refine mo1FB2 ?_
  first | exact trivial | exact rfl
noncomputable def g8 (a0:(ByteArray×Int×Nat×ByteArray×Bool)) (a1:(ByteArray×Int×Nat×ByteArray×Bool)):Option (Bool):=
 if ¬(a0.1.data.toList=a1.1.data.toList) then
  some false
 else
  (
   if ¬a0.2.1=a1.2.1 then
    some false
   else
    (
     if ¬(a0.2.2.2.1.data.toList=a1.2.2.2.1.data.toList) then
      some false
     else
      (
       if ¬((a0.2.2.2.2=true)↔(a1.2.2.2.2=true)) then
        some false
       else
        (
         if FloatKind.f64.format.order a0.2.2.1 a1.2.2.1=some .eq then
          some true
         else
          (
           if ¬FloatKind.f64.format.order a0.2.2.1 a0.2.2.1=some .eq then
            some (decide (¬FloatKind.f64.format.order a1.2.2.1 a1.2.2.1=some .eq))
           else
            some false
          )
        )
      )
    )
  )
noncomputable def k8:Eng.CS:={ f:=8,calm:=true,more:=0,ι:=(ByteArray×Int×Nat×ByteArray×Bool)×(ByteArray×Int×Nat×ByteArray×Bool)×Bool,ok:=fun i=>g8 i.1 i.2.1=some i.2.2,rds:=fun _=>[],args:=fun i=>[.w (.agg [.v (.string (i.1.1)),.v (.int .i64 (i.1.2.1)),.v (.float .f64 (i.1.2.2.1)),.v (.string (i.1.2.2.2.1)),bS i.1.2.2.2.2]),.w (.agg [.v (.string (i.2.1.1)),.v (.int .i64 (i.2.1.2.1)),.v (.float .f64 (i.2.1.2.2.1)),.v (.string (i.2.1.2.2.2.1)),bS i.2.1.2.2.2.2])],res:=fun i=>bS i.2.2 }
theorem k8_ok:CalmOk Tryz.prog k8:=by
 refine R.calmspec Tryz.func8 (nq9 Tryz.func8) rfl ?_
 rintro ⟨a0,a1,r⟩ hok q _ args hargs
 match args,hargs with
 | [_,_],hargs=>
 obtain ⟨rfl,rfl,_⟩:=hargs
 refine ⟨envC [] false [],6,envC_ok (css_nil),rfl,(by intro x hx;simp only [List.mem_cons,List.not_mem_nil,or_false] at hx;rcases hx with rfl | rfl<;>rfl),?_⟩
 have H:Gives (g8 a0 a1) (fun a=>a=r):=⟨r,hok,rfl⟩
 unfold g8 at H
 clear hok
 repeat' refine if_st H (fun _ H=>?_) (fun _ H=>?_)
 all_goals
  have hfin:=fin_st H
  repeat refine mf1FB2 ?_
  first | exact trivial | exact rfl
end Go.Proofs.YtlehbfahkjhgnaaGreat
end
section
namespace Go.Eng
open Go Go.RowKit
namespace Exe
noncomputable section
theorem fVal_eq (x:Value) (K:Value→Prop):fVal x K=K x:=by cases x<;>rfl
theorem fSV0_eq' (x:SV) (K:SV→Prop):fSV0 x K=K x:=by
 cases x<;>first | rfl | exact fVal_eq _ _ | (rename_i b;cases b<;>rfl)
theorem fSVL_eq':∀(l:List SV) (K:List SV→Prop),fSVL l K=K l
 | [],K=>rfl
 | x::r,K=>by rw [fSVL_c,fSV0_eq',fSVL_eq' r]
theorem fSV_eq' (x:SV) (K:SV→Prop):fSV x K=K x:=by
 cases x<;>first | rfl | exact fVal_eq _ _ | exact fSVL_eq' _ _ | (rename_i b;cases b<;>rfl)
def tru:SV→Option Bool
 | .bb b=>some b
 | .b p d=>some (@decide p d)
 | _=>none
def xar (wr:Bool) (k:IntKind) (n:Int):SV:=.v (.int k (k.wrap n))
def xint (op:BinOp) (k:IntKind) (a b:Int):Option SV:=
 match op with
 | .add=>some (xar true k (a+b))
 | .sub=>some (xar true k (a-b))
 | .mul=>some (xar true k (a * b))
 | .quo=>(match decide (b=0) with | true=>none | false=>some (xar true k (a.tdiv b)))
 | .rem=>(match decide (b=0) with | true=>none | false=>some (.v (.int k (a.tmod b))))
 | .and=>some (.v (.int k (bits .and k a b)))
 | .or=>some (.v (.int k (bits .or k a b)))
 | .xor=>some (.v (.int k (bits .xor k a b)))
 | .eql=>some (.b (a=b) (Int.instDecidableEq a b))
 | .neq=>some (.b (¬a=b) (@instDecidableNot _ (Int.instDecidableEq a b)))
 | .lss=>some (.b (a<b) (Int.decLt a b))
 | .leq=>some (.b (a≤b) (Int.decLe a b))
 | .gtr=>some (.b (b<a) (Int.decLt b a))
 | .geq=>some (.b (b≤a) (Int.decLe b a))
 | _=>none
theorem xint_ok {op:BinOp} {k:IntKind} {a b:Int} {y:SV} (h:xint op k a b=some y) {K:SV→Prop} (hK:K y):intK op true k a b K:=by
  cases op<;>simp only [xint] at h<;>simp only [intK,arK]<;>first
    | (cases h;exact hK)
    | (split at h
       · cases h
       · rename_i e;cases h;exact ⟨⟨of_decide_eq_false e⟩,hK⟩)
    | cases h
def xsh (op:BinOp) (k:IntKind) (a b:Int):Option SV:=
 match op with
 | .shl=>(match decide (0≤b∧b≤k.bits) with | true=>some (.v (.int k (k.wrap (a * 2 ^ b.toNat)))) | false=>none)
 | .shr=>(match decide (0≤b∧b≤k.bits) with | true=>some (.v (.int k (a / 2 ^ b.toNat))) | false=>none)
 | _=>none
theorem xsh_ok {op:BinOp} {k:IntKind} {a b:Int} {y:SV} (h:xsh op k a b=some y) {K:SV→Prop} (hK:K y):shK op k a b K:=by
  cases op<;>simp only [xsh] at h<;>simp only [shK]<;>first
    | (split at h
       · rename_i e;cases h;exact ⟨⟨of_decide_eq_true e⟩,hK⟩
       · cases h)
    | cases h
def xstr (op:BinOp) (a b:ByteArray):Option SV:=
 match op with
 | .add=>(match decide (a.size+b.size≤9223372036854775807) with | true=>some (.v (.string (a++b))) | false=>none)
 | .eql=>some (.b (a.data.toList=b.data.toList) (decStr a b))
 | .neq=>some (.b (¬a.data.toList=b.data.toList) (@instDecidableNot _ (decStr a b)))
 | _=>none
theorem xstr_ok {op:BinOp} {a b:ByteArray} {y:SV} (h:xstr op a b=some y) {K:SV→Prop} (hK:K y):strK op a b K:=by
  cases op<;>simp only [xstr] at h<;>simp only [strK]<;>first
    | (cases h;exact hK)
    | (split at h
       · rename_i e;cases h;exact ⟨⟨of_decide_eq_true e⟩,hK⟩
       · cases h)
    | cases h
def xflr (k:FloatKind) (x:Option Nat):Option SV:=match x with | some r=>some (.v (.float k r)) | none=>none
theorem xflr_ok {k:FloatKind} {x:Option Nat} {y:SV} (h:xflr k x=some y) {K:SV→Prop} (hK:K y):flrK k x K:=by
 unfold xflr at h
 split at h
 ·rename_i r;cases h;exact ⟨⟨r,rfl⟩,fun r' e=>by cases e;exact hK⟩
 ·cases h
def xflt (op:BinOp) (k:FloatKind) (a b:Nat):Option SV:=
 match op with
 | .add=>xflr k (k.format.add a b)
 | .sub=>xflr k (k.format.sub a b)
 | .mul=>xflr k (k.format.mul a b)
 | .quo=>xflr k (k.format.div a b)
 | .eql=>some (.b (k.format.order a b=some .eq) (decOrd _ _))
 | .neq=>some (.b (¬k.format.order a b=some .eq) (@instDecidableNot _ (decOrd _ _)))
 | .lss=>some (.b (k.format.order a b=some .lt) (decOrd _ _))
 | .leq=>some (.b (k.format.order a b=some .lt∨k.format.order a b=some .eq) (@instDecidableOr _ _ (decOrd _ _) (decOrd _ _)))
 | .gtr=>some (.b (k.format.order a b=some .gt) (decOrd _ _))
 | .geq=>some (.b (k.format.order a b=some .gt∨k.format.order a b=some .eq) (@instDecidableOr _ _ (decOrd _ _) (decOrd _ _)))
 | _=>none
theorem xflt_ok {op:BinOp} {k:FloatKind} {a b:Nat} {y:SV} (h:xflt op k a b=some y) {K:SV→Prop} (hK:K y):fltK op k a b K:=by
 cases op<;>simp only [xflt] at h<;>simp only [fltK]<;>first
  | (cases h;exact hK)
  | exact xflr_ok h hK
  | cases h
def xeq (d:Ty) (x y:SV):Option SV:=
 match d with
 | .bool=>(match x,y with
  | .bb true,.bb true=>some (.bb true) | .bb false,.bb false=>some (.bb true) | .bb true,.bb false=>some (.bb false) | .bb false,.bb true=>some (.bb false)
  | .b p d,.bb true=>some (.b p d)
  | .b p d,.bb false=>some (.b (¬p) (@instDecidableNot _ d))
  | .bb true,.b p d=>some (.b p d)
  | .bb false,.b p d=>some (.b (¬p) (@instDecidableNot _ d))
  | .b p d,.b p' d'=>some (.b (p↔p') (@instDecidableIff _ _ d d'))
  | _,_=>none)
 | .ptr _=>(match x,y with
  | .lp _ _,.v (.pointer none)=>some (.bb false)
  | .v (.pointer none),.lp _ _=>some (.bb false)
  | .v (.pointer none),.v (.pointer none)=>some (.bb true)
  | _,_=>none)
 | .func=>(match x,y with
  | .fn _ _,.v .nilFunc=>some (.bb false)
  | .v .nilFunc,.v .nilFunc=>some (.bb true)
  | _,_=>none)
 | .map _ _=>(match x,y with
  | .mr _,.v (.map none)=>some (.bb false)
  | .v (.map none),.v (.map none)=>some (.bb true)
  | _,_=>none)
 | .slice _=>(match x,y with
  | .v (.slice none _ _),.v (.slice none _ _)=>some (.b ((none:Option Addr)=none) (decNone none))
  | _,_=>none)
 | _=>none
theorem xeq_ok {d:Ty} {x y z:SV} (h:xeq d x y=some z) {K:SV→Prop} (hK:K z):eqK d x y K:=by
 unfold xeq at h
 split at h
 ·split at h<;>first | (cases h;exact hK) | cases h
 ·split at h<;>first | (cases h;exact hK) | cases h
 ·split at h<;>first | (cases h;exact hK) | cases h
 ·split at h<;>first | (cases h;exact hK) | cases h
 ·split at h<;>first | (cases h;exact hK) | cases h
 ·cases h
def xnot (x:SV):Option SV:=
 match x with
 | .bb true=>some (.bb false)
 | .bb false=>some (.bb true)
 | .b p d=>some (.b (¬p) (@instDecidableNot _ d))
 | _=>none
theorem xnot_ok {x z:SV} (h:xnot x=some z) {K:SV→Prop} (hK:K z):notK x K:=by
 unfold xnot at h
 split at h<;>first | (cases h;exact hK) | cases h
def xbin (d:Ty) (op:BinOp) (x y:SV):Option SV:=
 match x,y with
 | .v (.int k a),.v (.int k' b)=>
  (match op with
  | .shl=>xsh .shl k a b
  | .shr=>xsh .shr k a b
  | op=>match Nat.beq (kc k) (kc k') with | true=>xint op k a b | false=>none)
 | .v (.string a),.v (.string b)=>xstr op a b
 | .v (.float k a),.v (.float k' b)=>(match fkc k k' with | true=>xflt op k a b | false=>none)
 | .agg _,_=>none
 | x,y=>
  (match op with
  | .eql=>xeq d x y
  | .neq=>(match xeq d x y with | some r=>xnot r | none=>none)
  | _=>none)
theorem eqsK_of {c:List Ty} {d:Ty} {x y:SV} {K:SV→Prop} (hx:∀l,x≠.agg l) (h:eqK d x y K):eqsK c d x y K:=by
 unfold eqsK
 split
 ·exact absurd rfl (hx _)
 ·exact h
theorem xbin_ok {c:List Ty} {d:Ty} {op:BinOp} {x y z:SV} (h:xbin d op x y=some z) {K:SV→Prop} (hK:K z):binK c d op true x y K:=by
  unfold xbin at h
  split at h
  · cases op<;>first
      | exact xsh_ok h hK
      | (simp only at h
         unfold binK
         dsimp only
         split at h
         · rename_i e;rw [e];exact xint_ok h hK
         · cases h)
  · exact xstr_ok h hK
  · split at h
    · rename_i e
      unfold binK
      simp only [e]
      exact xflt_ok h hK
    · cases h
  · cases h
  · rename_i N4 N1 N2 N3
    unfold binK
    split
    · exact (N1 _ _ _ _ rfl rfl).elim
    · exact (N2 _ _ rfl rfl).elim
    · exact (N3 _ _ _ _ rfl rfl).elim
    · split at h
      · exact eqsK_of (fun l e=>(N4 l e).elim) (xeq_ok h hK)
      · split at h
        · rename_i r e
          exact eqsK_of (fun l e=>(N4 l e).elim) (xeq_ok e (xnot_ok h hK))
        · cases h
      · cases h
def xbq (a b:SV) (K:(p:Prop)→Decidable p→Option SV):Option SV:=
 match a,b with
 | .bb true,.bb true=>K True instDecidableTrue
 | .bb false,.bb false=>K True instDecidableTrue
 | .bb true,.bb false=>K False instDecidableFalse
 | .bb false,.bb true=>K False instDecidableFalse
 | _,_=>none
def xeqL (c:List Ty):List SV→List SV→((p:Prop)→Decidable p→Option SV)→Option SV:=
 List.rec (motive:=fun _=>List SV→List SV→((p:Prop)→Decidable p→Option SV)→Option SV)
  (fun x y K=>match x,y with | [],[]=>K True instDecidableTrue | _,_=>none)
  (fun t _ ih x y K=>match t,x,y with
   | .int _,.v (.int k m)::s,.v (.int k' n)::r=>(match Nat.beq (kc k) (kc k') with | true=>ih s r fun p i=>K (m=n∧p) (@instDecidableAnd _ _ (Int.instDecidableEq m n) i) | false=>none)
   | .str,.v (.string a)::s,.v (.string b)::r=>ih s r fun p i=>K (a.data.toList=b.data.toList∧p) (@instDecidableAnd _ _ (decStr a b) i)
   | .bool,a::s,b::r=>xbq a b fun q d=>ih s r fun p i=>K (q∧p) (@instDecidableAnd _ _ d i)
   | _,_,_=>none) c
theorem xeqL_n {xs ys:List SV} {J:(p:Prop)→Decidable p→Option SV}:xeqL [] xs ys J=(match xs,ys with | [],[]=>J True instDecidableTrue | _,_=>none):=rfl
theorem xeqL_c {t:Ty} {c:List Ty} {xs ys:List SV} {J:(p:Prop)→Decidable p→Option SV}:xeqL (t::c) xs ys J=(match t,xs,ys with
   | .int _,.v (.int k m)::s,.v (.int k' n)::r=>(match Nat.beq (kc k) (kc k') with | true=>xeqL c s r fun p i=>J (m=n∧p) (@instDecidableAnd _ _ (Int.instDecidableEq m n) i) | false=>none)
   | .str,.v (.string a)::s,.v (.string b)::r=>xeqL c s r fun p i=>J (a.data.toList=b.data.toList∧p) (@instDecidableAnd _ _ (decStr a b) i)
   | .bool,a::s,b::r=>xbq a b fun q d=>xeqL c s r fun p i=>J (q∧p) (@instDecidableAnd _ _ d i)
   | _,_,_=>none):=rfl
theorem xqn {xs ys:List SV} {K:(p:Prop)→Decidable p→Prop}:eqsL [] xs ys K=(match xs,ys with | [],[]=>K True instDecidableTrue | _,_=>False):=rfl
theorem xqc {t:Ty} {c:List Ty} {xs ys:List SV} {K:(p:Prop)→Decidable p→Prop}:eqsL (t::c) xs ys K=(match t,xs,ys with
   | .int _,.v (.int k m)::s,.v (.int k' n)::r=>(match Nat.beq (kc k) (kc k') with | true=>eqsL c s r fun p i=>K (m=n∧p) (@instDecidableAnd _ _ (Int.instDecidableEq m n) i) | false=>False)
   | .str,.v (.string a)::s,.v (.string b)::r=>eqsL c s r fun p i=>K (a.data.toList=b.data.toList∧p) (@instDecidableAnd _ _ (decStr a b) i)
   | .bool,a::s,b::r=>bqK a b fun q d=>eqsL c s r fun p i=>K (q∧p) (@instDecidableAnd _ _ d i)
   | _,_,_=>False):=rfl
theorem xeqL_ok {z:SV}:∀{c:List Ty} {xs ys:List SV} {J:(p:Prop)→Decidable p→Option SV} {K:(p:Prop)→Decidable p→Prop},(∀p i,J p i=some z→K p i)→xeqL c xs ys J=some z→eqsL c xs ys K
 | [],xs,ys,J,K,hJ,h=>by
  rw [xeqL_n] at h
  rw [xqn]
  split at h
  ·exact hJ _ _ h
  ·cases h
 | t::c,xs,ys,J,K,hJ,h=>by
  rw [xeqL_c] at h
  rw [xqc]
  split at h
  ·split at h
   ·rename_i e;exact xeqL_ok (fun p i=>hJ _ _) h
   ·cases h
  ·exact xeqL_ok (fun p i=>hJ _ _) h
  ·unfold xbq at h
   split at h<;>first
    | exact xeqL_ok (fun p i=>hJ _ _) h
    | cases h
  ·cases h
def xbin2 (c:List Ty) (d:Ty) (op:BinOp) (x y:SV):Option SV:=
 match x,y with
 | .agg xs,.agg ys=>(match c,d,op with
  | t::c,.struct _,.eql=>xeqL (t::c) xs ys fun p i=>some (.b p i)
  | t::c,.struct _,.neq=>xeqL (t::c) xs ys fun p i=>some (.b (¬p) (@instDecidableNot _ i))
  | _,_,_=>none)
 | x,y=>xbin d op x y
theorem xbin2_ok {c:List Ty} {d:Ty} {op:BinOp} {x y z:SV} (h:xbin2 c d op x y=some z) {K:SV→Prop} (hK:K z):binK c d op true x y K:=by
 unfold xbin2 at h
 split at h
 ·rename_i xs ys
  split at h
  ·exact xeqL_ok (K:=fun p i=>K (.b p i)) (fun p i e=>by cases e;exact hK) h
  ·exact xeqL_ok (K:=fun p i=>K (.b (¬p) (@instDecidableNot _ i))) (fun p i e=>by cases e;exact hK) h
  ·cases h
 ·exact xbin_ok h hK
def xun (op:UnOp) (x:SV):Option SV:=
 match op,x with
 | .not,x=>xnot x
 | .neg,.v (.int k n)=>some (xar true k (0-n))
 | _,_=>none
theorem xun_ok {op:UnOp} {x z:SV} (h:xun op x=some z) {K:SV→Prop} (hK:K z):unK op true x K:=by
 unfold xun at h
 split at h
 ·exact xnot_ok h hK
 ·cases h;exact hK
 ·cases h
def xpick (c a b:SV):Option SV:=
 match tru c with
 | some true=>some a
 | some false=>some b
 | none=>none
theorem xpick_ok {c a b z:SV} (h:xpick c a b=some z) {K:SV→Prop} (hK:K z):pickK c a b K:=by
 unfold xpick at h
 cases c with
 | bb x=>cases x<;>(cases h;simp only [pickK,fSV_eq'];exact hK)
 | b p d=>
  simp only [pickK,fSV_eq']
  by_cases hp:p
  ·have e:tru (.b p d)=some true:=congrArg some (decide_eq_true hp)
   rw [e] at h;cases h;exact ⟨fun _=>hK,fun n=>absurd hp n⟩
  ·have e:tru (.b p d)=some false:=congrArg some (decide_eq_false hp)
   rw [e] at h;cases h;exact ⟨fun n=>absurd n hp,fun _=>hK⟩
 | _=>cases h
abbrev Mg:=Nat→Option LB
def xtake (cs:List SV) (o sz:Nat):Option (List SV):=
 match sz with
 | 0=>none
 | sz=>(match Nat.beq (takeN (dropN cs o) sz).length sz with | true=>some (takeN (dropN cs o) sz) | false=>none)
theorem xtake_ok {cs l:List SV} {o sz:Nat} (h:xtake cs o sz=some l):Nat.ble (o+sz) cs.length=true∧l=takeN (dropN cs o) sz:=by
 unfold xtake at h
 split at h
 ·cases h
 ·rename_i hne
  split at h
  ·rename_i e
   cases h
   refine ⟨?_,rfl⟩
   have e:=Nat.eq_of_beq_eq_true e
   rw [length_takeN,length_dropN] at e
   have:sz≠0:=fun h=>hne h
   exact Nat.ble_eq_true_of_le (by omega)
  ·cases h
def xload (T:Tab) (M:Mg) (t:Nat) (x:SV):Option SV:=
 match ty T t with
 | ⟨.other,_,_,_,_,_⟩=>none
 | ⟨d,sz,_,_,_,_⟩=>(match x with
  | .lp k o=>(match M k with
   | some (.cells _ cs)=>(match xtake cs o sz with | some l=>some (ofCells d l) | none=>none)
   | some (.row _ _ _ cs)=>(match xtake cs o sz with | some l=>some (ofCells d l) | none=>none)
   | _=>none)
  | _=>none)
section
variable {T:Tab} {q:PH} {L:LL} {M:Mg} {K:SV→Prop} {Γ:List Spec} {Δ:List CS} {fr:Fr}
theorem xload_ok (hM:∀k,getL L k=M k) {t:Nat} {x y:SV} (h:xload T M t x=some y) (hK:K y):loadK T q L t x K:=by
 unfold xload at h
 unfold loadK
 split at h
 ·cases h
 ·rename_i d sz byt z fl cm hne e
  have main:loadK1 d sz fl q L x K:=by
   unfold loadK1
   split at h
   ·rename_i k o
    dsimp only
    rw [hM k]
    split at h
    ·rename_i T' cs e'
     rw [e']
     split at h
     ·rename_i l hl
      cases h
      obtain ⟨h1,rfl⟩:=xtake_ok hl
      dsimp only
      rw [h1]
      simp only [fSV_eq']
      exact hK
     ·cases h
    ·rename_i E' s' n' cs e'
     rw [e']
     split at h
     ·rename_i l hl
      cases h
      obtain ⟨h1,rfl⟩:=xtake_ok hl
      dsimp only
      rw [h1]
      simp only [fSV_eq']
      exact hK
     ·cases h
    ·cases h
   ·cases h
  rw [e]
  cases d<;>first | exact main | exact absurd rfl hne
def xlen (d:Ty) (M:Mg) (x:SV):Option SV:=
 match d,x with
 | .slice _,.v (.slice _ n _)=>some (.v (.int .i64 n))
 | .str,.v (.string s)=>some (.v (.int .i64 s.size))
 | .slice _,.own k=>(match M k with | some (.row _ _ n _)=>some (.v (.int .i64 n)) | _=>none)
 | .slice _,.vw _ _ _ n _=>some (.v (.int .i64 n))
 | _,_=>none
theorem xlen_ok (hM:∀k,getL L k=M k) {d:Ty} {x y:SV} (h:xlen d M x=some y) (hK:K y):lenK d L x K:=by
 unfold xlen at h
 unfold lenK
 split at h
 ·cases h;exact hK
 ·cases h;exact hK
 ·rename_i k
  dsimp only
  rw [hM k]
  split at h
  ·rename_i e;rw [e];cases h;exact hK
  ·cases h
 ·cases h;exact hK
 ·cases h
theorem arrK_of {sz k o:Nat} {i:Int}:∀(n j:Nat),(j:Int)≤i→i<((j+n:Nat):Int)→K (.lp k (o+i.toNat * sz))→arrK sz k o i K n j
 | 0,j,h1,h2,_=>by omega
 | n+1,j,h1,h2,hK=>by
  show (i=(j:Int)→match o+j * sz with | 0=>K (.lp k 0) | m+1=>K (.lp k (m+1)))∧arrK sz k o i K n (j+1)
  refine ⟨fun e=>?_,?_⟩
  ·have:i.toNat=j:=by omega
   rw [this] at hK
   generalize o+j * sz=m at hK ⊢
   cases m<;>exact hK
  ·by_cases e:i=(j:Int)
   ·have:∀(n j':Nat),i<(j':Int)→arrK sz k o i K n j':=by
     intro n
     induction n with
     | zero=>intro _ _;trivial
     | succ n ih=>intro j' hj;exact ⟨fun e=>by omega,ih (j'+1) (by omega)⟩
    exact this n (j+1) (by omega)
   ·exact arrK_of n (j+1) (by omega) (by omega) hK
def inI (i:Int) (n:Nat):Bool:=@decide (0≤i∧i<(n:Int)) (instDecidableAnd)
def xidx (T:Tab) (M:Mg) (t:Nat) (x i:SV):Option SV:=
 match (ty T t).d,x,i with
 | .slice e,.own k,.v (.int _ i)=>(match M k with | some (.row _ _ n _)=>(match inI i n with | true=>some (.lp k (i.toNat * (ty T e).sz)) | false=>none) | _=>none)
 | .slice e,.vw k lo sz m _,.v (.int _ i)=>(match M k with
  | some (.row _ _ n _)=>(match Nat.beq sz (ty T e).sz,inI i m,Nat.ble (lo+m) n with | true,true,true=>some (.lp k ((lo+i.toNat) * (ty T e).sz)) | _,_,_=>none)
  | _=>none)
 | .arr n e,.lp k o,.v (.int _ i)=>(match inI i n with | true=>some (.lp k (o+i.toNat * (ty T e).sz)) | false=>none)
 | _,_,_=>none
theorem inI_ok {i:Int} {n:Nat} (h:inI i n=true):0≤i∧i<(n:Int):=of_decide_eq_true h
theorem xidx_ok (hM:∀k,getL L k=M k) {t:Nat} {x i y:SV} (h:xidx T M t x i=some y) (hK:K y):idxK T L t x i K:=by
 unfold xidx at h
 unfold idxK
 split at h
 ·rename_i e k ki i hd
  rw [hd]
  dsimp only
  rw [hM k]
  split at h
  ·rename_i e' ; rw [e']
   split at h
   ·rename_i hi;cases h;exact ⟨⟨inI_ok hi⟩,by rw [elK_eq];exact hK⟩
   ·cases h
  ·cases h
 ·rename_i e k lo sz m ex ki i hd
  rw [hd]
  dsimp only
  rw [hM k]
  split at h
  ·rename_i e';rw [e']
   split at h
   ·rename_i h1 h2 h3
    cases h
    dsimp only
    rw [h1]
    exact ⟨⟨(inI_ok h2).1,(inI_ok h2).2,Nat.le_of_ble_eq_true h3⟩,by rw [elK_eq];exact hK⟩
   ·cases h
  ·cases h
 ·rename_i n e k o ki i hd
  rw [hd]
  dsimp only
  split at h
  ·rename_i hi;cases h;exact ⟨⟨inI_ok hi⟩,arrK_of n 0 (inI_ok hi).1 (by simpa using (inI_ok hi).2) hK⟩
  ·cases h
 ·cases h
def xstrIdx (T:Tab) (t:Nat) (x i:SV):Option SV:=
 match (ty T t).d,x,i with
 | .str,.v (.string s),.v (.int _ i)=>(match inI i s.size with | true=>some (.v (.int .u8 ((s.data.toList[i.toNat]?.getD 0).toNat:Int))) | false=>none)
 | _,_,_=>none
theorem xstrIdx_ok {t:Nat} {x i y:SV} (h:xstrIdx T t x i=some y) (hK:K y):strIdxK T t x i K:=by
 unfold xstrIdx at h
 unfold strIdxK
 split at h
 ·rename_i s ki i hd
  rw [hd]
  split at h
  ·rename_i hi;cases h;exact ⟨⟨inI_ok hi⟩,hK⟩
  ·cases h
 ·cases h
def xbnd (x:Option SV) (d:Int):Option Int:=
 match x with
 | none=>some d
 | some (.v (.int _ i))=>some i
 | _=>none
theorem xbnd_ok {x:Option SV} {d i:Int} (h:xbnd x d=some i) {K:Int→Prop} (hK:K i):bndK x d K:=by
 unfold xbnd at h
 split at h
 ·cases h;exact hK
 ·cases h;exact hK
 ·cases h
def in3 (l h:Int) (n:Nat):Bool:=@decide (0≤l∧l≤h∧h≤(n:Int)) (instDecidableAnd)
theorem in3_ok {l h:Int} {n:Nat} (e:in3 l h n=true):0≤l∧l≤h∧h≤(n:Int):=of_decide_eq_true e
def xslc (T:Tab) (M:Mg) (t:Nat) (x:SV) (lo hi:Option SV):Option SV:=
 match (ty T t).d,x with
 | .str,.v (.string s)=>(match xbnd lo 0,xbnd hi s.size with
  | some l,some h=>(match in3 l h s.size with | true=>some (.v (.string (s.extract l.toNat h.toNat))) | false=>none)
  | _,_=>none)
 | .slice e,.v (.slice none 0 0)=>(match xbnd lo 0,xbnd hi 0 with
  | some l,some h=>(match in3 l h 0 with | true=>some (.v (.slice none 0 0)) | false=>none)
  | _,_=>none)
 | .slice e,.own k=>(match M k with
  | some (.row _ sz n _)=>(match Nat.beq sz (ty T e).sz,xbnd lo 0,xbnd hi n with
   | true,some l,some h=>(match in3 l h n with | true=>some (.vw k l.toNat sz (h.toNat-l.toNat) true) | false=>none)
   | _,_,_=>none)
  | _=>none)
 | .slice e,.vw k lo0 sz n _=>(match Nat.beq sz (ty T e).sz,xbnd lo 0,xbnd hi n with
   | true,some l,some h=>(match in3 l h n with | true=>some (.vw k (lo0+l.toNat) sz (h.toNat-l.toNat) false) | false=>none)
   | _,_,_=>none)
 | _,_=>none
theorem xslc_ok (hM:∀k,getL L k=M k) {t:Nat} {x y:SV} {lo hi:Option SV} (h:xslc T M t x lo hi=some y) (hK:K y):slcK T L t x lo hi K:=by
 unfold xslc at h
 unfold slcK
 split at h
 ·rename_i s hd
  rw [hd]
  dsimp only
  split at h
  ·rename_i l h' h1 h2
   split at h
   ·rename_i h3;cases h;exact xbnd_ok h1 (xbnd_ok h2 ⟨⟨in3_ok h3⟩,hK⟩)
   ·cases h
  ·cases h
 ·rename_i e hd
  rw [hd]
  dsimp only
  split at h
  ·rename_i l h' h1 h2
   split at h
   ·rename_i h3
    cases h
    refine xbnd_ok h1 (xbnd_ok h2 ⟨⟨in3_ok h3⟩,?_⟩)
    rw [elK_eq]
    intro m hm
    have h3:=in3_ok h3
    have:m=0:=by omega
    subst this
    have e1:(if 0=l.toNat then (none:Option Addr) else none.map (fun x:Addr=>x.add (l.toNat * (ty T e).sz)))=none:=by split<;>rfl
    rw [e1]
    simpa using hK
   ·cases h
  ·cases h
 ·rename_i e k hd
  rw [hd]
  dsimp only
  rw [hM k]
  split at h
  ·rename_i e' sz n cs ek
   rw [ek]
   split at h
   ·rename_i l h' h0 h1 h2
    split at h
    ·rename_i h3
     cases h
     dsimp only
     rw [h0]
     exact xbnd_ok h1 (xbnd_ok h2 ⟨⟨in3_ok h3⟩,fun m hm=>by subst hm;exact hK⟩)
    ·cases h
   ·cases h
  ·cases h
 ·rename_i e k lo0 sz n ex hd
  rw [hd]
  dsimp only
  split at h
  ·rename_i l h' h0 h1 h2
   split at h
   ·rename_i h3
    cases h
    rw [h0]
    exact xbnd_ok h1 (xbnd_ok h2 ⟨⟨in3_ok h3⟩,fun m hm=>by subst hm;exact hK⟩)
   ·cases h
  ·cases h
 ·cases h
def in4 (l h x:Int) (n:Nat):Bool:=@decide (0≤l∧l≤h∧h≤x∧x≤(n:Int)) (instDecidableAnd)
def xslc3 (T:Tab) (M:Mg) (t:Nat) (x:SV) (lo hi:Option SV) (mx:SV):Option SV:=
 match (ty T t).d,x,hi with
 | .slice e,.own k,some hi=>(match M k with
  | some (.row _ sz n _)=>(match Nat.beq sz (ty T e).sz,xbnd lo 0,xbnd (some hi) 0,xbnd (some mx) 0 with
   | true,some l,some h,some x=>(match in4 l h x n with | true=>some (.vw k l.toNat sz (h.toNat-l.toNat) false) | false=>none)
   | _,_,_,_=>none)
  | _=>none)
 | _,_,_=>none
theorem xslc3_ok (hM:∀k,getL L k=M k) {t:Nat} {x y mx:SV} {lo hi:Option SV} (h:xslc3 T M t x lo hi mx=some y) (hK:K y):slc3K T L t x lo hi mx K:=by
 unfold xslc3 at h
 unfold slc3K
 split at h
 ·rename_i e k hi hd
  rw [hd]
  dsimp only
  rw [hM k]
  split at h
  ·rename_i e' sz n cs ek
   rw [ek]
   split at h
   ·rename_i l h' x' h0 h1 h2 h3
    split at h
    ·rename_i h4
     cases h
     dsimp only
     rw [h0]
     exact xbnd_ok h1 (xbnd_ok h2 (xbnd_ok h3 ⟨⟨of_decide_eq_true h4⟩,fun m hm=>by subst hm;exact hK⟩))
    ·cases h
   ·cases h
  ·cases h
 ·cases h
def xbytes (l:List Value):Option (List UInt8):=List.rec (motive:=fun _=>Option (List UInt8)) (some [])
 (fun x _ ih=>match x with
  | .int .u8 n=>(match inI n 256,ih with | true,some s=>some (UInt8.ofNat n.toNat::s) | _,_=>none)
  | _=>none) l
theorem xbytes_c {x:Value} {r:List Value}:xbytes (x::r)=(match x with
   | .int .u8 n=>(match inI n 256,xbytes r with | true,some s=>some (UInt8.ofNat n.toNat::s) | _,_=>none)
   | _=>none):=rfl
theorem xbytes_ok:∀{l:List Value} {bs:List UInt8},xbytes l=some bs→l=bs.map bv
 | [],bs,h=>by cases h;rfl
 | x::r,bs,h=>by
  rw [xbytes_c] at h
  split at h
  ·rename_i n
   split at h
   ·rename_i s h1 h2
    cases h
    have h1:=inI_ok h1
    rw [List.map_cons,←xbytes_ok h2]
    congr 1
    unfold bv
    have:(UInt8.ofNat n.toNat).toNat=n.toNat:=by simp;omega
    rw [this,Int.toNat_of_nonneg h1.1]
   ·cases h
  ·cases h
def xinR (k:IntKind) (n:Int):Bool:=
 match k with
 | .i8=>in2 (-128) 127 n | .i16=>in2 (-32768) 32767 n | .i32=>in2 (-2147483648) 2147483647 n | .i64=>in2 (-9223372036854775808) 9223372036854775807 n
 | .u8=>in2 0 255 n | .u16=>in2 0 65535 n | .u32=>in2 0 4294967295 n | .u64=>in2 0 18446744073709551615 n
where in2 (a b n:Int):Bool:=@decide (a≤n∧n≤b) (instDecidableAnd)
theorem xinR_ok {k:IntKind} {n:Int} (h:xinR k n=true):inR k n:=by
 cases k<;>(have:=of_decide_eq_true h;exact this)
def xconv (T:Tab) (M:Mg) (src dst:Nat) (x:SV):Option SV:=
 match (ty T src).d,(ty T dst).d,x with
 | .int _,.int k',.v (.int k n)=>(match widens k k' with | true=>(match xinR k' n with | true=>some (.v (.int k' n)) | false=>none) | false=>some (.v (.int k' (k'.wrap n))))
 | .str,.str,.v (.string s)=>some (.v (.string s))
 | .int _,.flt k',.v (.int _ n)=>some (.v (.float k' (k'.nearest n)))
 | .slice e,.str,.own k=>(match (ty T e).d,M k with
  | .int .u8,some (.row _ sz' _ cs)=>(match Nat.beq sz' 1,rowVL cs with
   | true,some xs=>(match xbytes xs with | some bs=>some (.v (.string ⟨bs.toArray⟩)) | none=>none)
   | _,_=>none)
  | _,_=>none)
 | .slice e,.str,.vw k lo sz' m _=>(match (ty T e).d,M k with
  | .int .u8,some (.row _ sz'' n cs)=>(match Nat.beq sz' 1,Nat.beq sz'' 1,Nat.ble (lo+m) n,rowVL (vwS cs lo 1 m) with
   | true,true,true,some xs=>(match xbytes xs with | some bs=>some (.v (.string ⟨bs.toArray⟩)) | none=>none)
   | _,_,_,_=>none)
  | _,_=>none)
 | .slice e,.str,.v (.slice none 0 _)=>(match (ty T e).d with
  | .int .u8=>some (.v (.string ⟨#[]⟩))
  | _=>none)
 | _,_,_=>none
theorem sl_bytes {xs:List Value} {bs:List UInt8} (h:xbytes xs=some bs) (hK:K (.v (.string ⟨bs.toArray⟩))):Ob (∃bs:List UInt8,xs=bs.map bv)∧∀bs:List UInt8,xs=bs.map bv→K (.v (.string ⟨bs.toArray⟩)):=by
 have e:=xbytes_ok h
 refine ⟨⟨⟨bs,e⟩⟩,fun bs' e'=>?_⟩
 have inj:∀(a b:List UInt8),a.map bv=b.map bv→a=b:=by
  intro a
  induction a with
  | nil=>intro b hb;cases b with
   | nil=>rfl
   | cons _ _=>simp at hb
  | cons x r ih=>intro b hb;cases b with
   | nil=>simp at hb
   | cons y s=>
    simp only [List.map_cons,List.cons.injEq] at hb
    obtain ⟨h1,h2⟩:=hb
    rw [ih s h2]
    congr 1
    simp only [bv,Value.int.injEq,true_and] at h1
    exact UInt8.toNat_inj.1 (by omega)
 rw [←inj bs bs' (e.symm.trans e')]
 exact hK
theorem xconv_ok (hM:∀k,getL L k=M k) {src dst:Nat} {x y:SV} (h:xconv T M src dst x=some y) (hK:K y):convK T q L src dst x K:=by
 unfold xconv at h
 unfold convK
 split at h
 ·rename_i k0 k' k n h1 h2
  rw [h1,h2]
  dsimp only
  split at h
  ·rename_i e
   rw [e]
   split at h
   ·rename_i e2;cases h;exact ⟨⟨xinR_ok e2⟩,hK⟩
   ·cases h
  ·rename_i e;rw [e];cases h;exact hK
 ·rename_i s h1 h2;rw [h1,h2];cases h;exact hK
 ·rename_i k0 k' k n h1 h2;rw [h1,h2];cases h;exact hK
 ·rename_i e k h1 h2
  rw [h1,h2]
  dsimp only
  split at h
  ·rename_i E' sz' n' cs h3 h4
   rw [h3]
   split at h
   ·rename_i xs h5 h6
    split at h
    ·rename_i bs hb
     cases h
     unfold sliceK
     dsimp only
     rw [hM k,h4]
     dsimp only
     rw [h5,h6]
     exact sl_bytes hb hK
    ·cases h
   ·cases h
  ·cases h
 ·rename_i e k lo sz' m ex h1 h2
  rw [h1,h2]
  dsimp only
  split at h
  ·rename_i E' sz'' n' cs h3 h4
   rw [h3]
   split at h
   ·rename_i xs h5 h5' h5'' h6
    split at h
    ·rename_i bs hb
     cases h
     unfold sliceK
     dsimp only
     rw [hM k,h4]
     dsimp only
     rw [h5,h5',h6]
     exact ⟨⟨Nat.le_of_ble_eq_true h5''⟩,sl_bytes hb hK⟩
    ·cases h
   ·cases h
  ·cases h
 ·rename_i e c h1 h2
  rw [h1,h2]
  dsimp only
  split at h
  ·rename_i h3
   cases h
   rw [h3]
   refine ⟨⟨[],by simp,fun j hj=>by simp at hj⟩,fun xs hl _=>?_⟩
   have:xs=[]:=List.eq_nil_of_length_eq_zero (by simpa using hl)
   subst this
   exact sl_bytes (bs:=[]) rfl hK
  ·cases h
 ·cases h
def xextr (x:SV) (i:Nat):Option SV:=
 match x with
 | .tup cs=>nth cs i
 | _=>none
theorem xextr_ok {x y:SV} {i:Nat} (h:xextr x i=some y) (hK:K y):extrK x i K:=by
 unfold xextr at h
 split at h
 ·unfold extrK;dsimp only;rw [h];simp only [fSV_eq'];exact hK
 ·cases h
def xfield (T:Tab) (t f:Nat) (x:SV):Option SV:=
 match fieldOf T t f,x with
 | some (off,ft),.agg cs=>(match ty T ft with
  | ⟨.other,_,_,_,_,_⟩=>none
  | ⟨d,sz,_,_,_,_⟩=>(match xtake cs off sz with | some l=>some (ofCells d l) | none=>none))
 | _,_=>none
theorem xfield_ok {t f:Nat} {x y:SV} (h:xfield T t f x=some y) (hK:K y):fieldK T t f x K:=by
 unfold xfield at h
 unfold fieldK
 split at h
 ·rename_i off ft cs e
  rw [e]
  dsimp only
  split at h
  ·cases h
  ·rename_i d sz b z fl cm hne e2
   split at h
   ·rename_i l hl
    cases h
    obtain ⟨h1,rfl⟩:=xtake_ok hl
    rw [e2]
    have main:(match Nat.ble (off+sz) cs.length with | true=>fSV (ofCells d (takeN (dropN cs off) sz)) K | false=>False):=by
     rw [h1]
     simp only [fSV_eq']
     exact hK
    cases d<;>first | exact main | exact absurd rfl hne
   ·cases h
 ·cases h
def xfaddr (T:Tab) (t f:Nat) (x:SV):Option SV:=
 match fieldOf T t f,x with
 | some (off,_),.lp k o=>some (.lp k (o+off))
 | _,_=>none
theorem xfaddr_ok {t f:Nat} {x y:SV} (h:xfaddr T t f x=some y) (hK:K y):faddrK T t f x K:=by
 unfold xfaddr at h
 unfold faddrK
 split at h
 ·rename_i off ft k o e;rw [e];cases h;exact hK
 ·cases h
def xnilc (x:SV):Option SV:=
 match x with
 | .lp k o=>some (.lp k o)
 | .fn f cs=>some (.fn f cs)
 | .yl k=>some (.yl k)
 | _=>none
theorem xnilc_ok {x y:SV} (h:xnilc x=some y) (hK:K y):nilcK x K:=by
 unfold xnilc at h
 split at h<;>first | (cases h;exact hK) | cases h
def xparts (T:Tab) (fs:List (Nat×Nat)) (fr:Fr) (ps:List (Nat×Operand)):List SV→Option (List SV):=
 List.rec (motive:=fun _=>List SV→Option (List SV)) (fun cs=>some cs)
  (fun p _ ih cs=>match p with
   | (i,x)=>(match nth fs i with
    | some (off,t)=>(match opv fr x with
     | .agg l=>(match Nat.beq l.length (ty T t).sz,Nat.ble (off+l.length) cs.length with | true,true=>ih (takeN cs off++l++dropN cs (off+l.length)) | _,_=>none)
     | .tup _=>none
     | .bad=>none
     | .v (.agg _)=>none
     | .v (.tuple _)=>none
     | y=>(match Nat.beq (ty T t).sz 1,Nat.blt off cs.length with | true,true=>ih (setN cs off y) | _,_=>none))
    | none=>none)) ps
theorem xparts_c {fs:List (Nat×Nat)} {i:Nat} {x:Operand} {r:List (Nat×Operand)} {cs:List SV}:xparts T fs fr ((i,x)::r) cs=(match nth fs i with
  | some (off,t)=>(match opv fr x with
   | .agg l=>(match Nat.beq l.length (ty T t).sz,Nat.ble (off+l.length) cs.length with | true,true=>xparts T fs fr r (takeN cs off++l++dropN cs (off+l.length)) | _,_=>none)
   | .tup _=>none
   | .bad=>none
   | .v (.agg _)=>none
   | .v (.tuple _)=>none
   | y=>(match Nat.beq (ty T t).sz 1,Nat.blt off cs.length with | true,true=>xparts T fs fr r (setN cs off y) | _,_=>none))
  | none=>none):=rfl
theorem xparts_ok {fs:List (Nat×Nat)} {K:List SV→Prop}:∀{ps:List (Nat×Operand)} {cs l:List SV},xparts T fs fr ps cs=some l→K l→partsK T fs fr ps cs K
 | [],cs,l,h,hK=>by cases h;exact hK
 | (i,x)::r,cs,l,h,hK=>by
  rw [xparts_c] at h
  unfold partsK
  split at h
  ·rename_i off t hn
   rw [hn]
   dsimp only
   rw [fSV_eq']
   split at h
   ·rename_i l' hx
    rw [hx]
    split at h
    ·rename_i h1 h2
     dsimp only
     rw [h1,h2]
     dsimp only
     rw [fSVL_eq']
     exact xparts_ok h hK
    ·cases h
   ·cases h
   ·cases h
   ·cases h
   ·cases h
   ·rename_i N1 N2 N3 N4 N5
    split at h
    ·rename_i h1 h2
     have:=xparts_ok h hK
     generalize opv fr x=y at N1 N2 N3 N4 N5 this
     rw [h1,h2]
     split
     ·exact absurd rfl (N1 _)
     ·exact absurd rfl (N2 _)
     ·exact absurd rfl N3
     ·exact absurd rfl (N4 _)
     ·exact absurd rfl (N5 _)
     ·rw [fSVL_eq'];exact this
    ·cases h
  ·cases h
def xbuild (T:Tab) (t:Nat) (fr:Fr) (ps:List (Nat×Operand)):Option SV:=
 match (ty T t).d with
 | .struct fs=>(match xparts T fs fr ps (valL (ty T t).zero) with | some cs=>some (.agg cs) | none=>none)
 | _=>none
theorem xbuild_ok {t:Nat} {ps:List (Nat×Operand)} {y:SV} (h:xbuild T t fr ps=some y) (hK:K y):buildK T t fr ps K:=by
 unfold xbuild at h
 unfold buildK
 split at h
 ·rename_i fs hd
  rw [hd]
  split at h
  ·rename_i cs hc;cases h;exact xparts_ok hc hK
  ·cases h
 ·cases h
def xmkf (fn:Fn) (first cs:List SV):Option SV:=
 match fn,first with
 | .func f,[]=>some (.fn f cs)
 | _,_=>none
theorem xmkf_ok {fn:Fn} {first cs:List SV} {y:SV} (h:xmkf fn first cs=some y) (hK:K y):mkfK fn first cs K:=by
 unfold xmkf at h
 unfold mkfK
 split at h
 ·cases h;dsimp only;rw [fSVL_eq'];exact hK
 ·cases h
def ltZ (a b:Int):Bool:=Int.rec (motive:=fun _=>Bool) (fun m=>Int.rec (motive:=fun _=>Bool) (fun n=>Nat.blt m n) (fun _=>false) b) (fun m=>Int.rec (motive:=fun _=>Bool) (fun _=>true) (fun n=>Nat.blt n m) b) a
theorem ltZ_eq {a b:Int}:ltZ a b=decide (a<b):=by
 cases a with
 | ofNat m=>
  cases b with
  | ofNat n=>show Nat.blt m n=_;rw [Bool.eq_iff_iff];simp [Nat.blt_eq]
  | negSucc n=>show false=_;rw [Bool.eq_iff_iff];simp;omega
 | negSucc m=>
  cases b with
  | ofNat n=>show true=_;rw [Bool.eq_iff_iff];simp;omega
  | negSucc n=>show Nat.blt n m=_;rw [Bool.eq_iff_iff];simp [Nat.blt_eq];omega
theorem ltZ_if {a b:Int} {α:Type} {x y:α}:(match ltZ a b with | true=>x | false=>y)=if a<b then x else y:=by
 rw [ltZ_eq]
 by_cases h:a<b
 ·simp [h]
 ·simp [h]
def xmin (mx:Bool) (x y:SV):Option SV:=
 match x,y with
 | .v (.int k a),.v (.int k' b)=>(match Nat.beq (kc k) (kc k') with
  | true=>(match mx with | true=>some (.v (.int k (match ltZ a b with | true=>b | false=>a))) | false=>some (.v (.int k (match ltZ b a with | true=>b | false=>a))))
  | false=>none)
 | _,_=>none
def xbuilt (T:Tab) (b:Builtin) (xs:List SV) (ts:List Nat) (M:Mg):Option SV:=
 match b,xs,ts with
 | .len,[x],[t]=>xlen (ty T t).d M x
 | .min,[x,y],_=>xmin false x y
 | .max,[x,y],_=>xmin true x y
 | _,_,_=>none
theorem xmin_ok {mx:Bool} {x y z:SV} (h:xmin mx x y=some z) (hK:K z):minK mx x y K:=by
 unfold xmin at h
 unfold minK
 split at h
 ·split at h
  ·rename_i e
   dsimp only
   rw [e]
   split at h
   ·cases h
    rw [ltZ_if] at hK
    exact hK
   ·cases h
    rw [ltZ_if] at hK
    exact hK
  ·cases h
 ·cases h
theorem xbuilt_ok (hM:∀k,getL L k=M k) {b:Builtin} {xs:List SV} {ts:List Nat} {y:SV} (h:xbuilt T b xs ts M=some y) (hK:K y):builtK T b xs ts L K:=by
 unfold xbuilt at h
 split at h
 ·exact xlen_ok hM h hK
 ·exact xmin_ok h hK
 ·exact xmin_ok h hK
 ·cases h
def xcalm (T:Tab) (op:Op) (fr:Fr) (M:Mg):Option SV:=
 match op with
 | .move x=>some (opv fr x)
 | .assign x=>some (opv fr x)
 | .pick c a b=>xpick (opv fr c) (opv fr a) (opv fr b)
 | .binOp op t x y _=>xbin2 (ty T t).cmp (ty T t).d op (opv fr x) (opv fr y)
 | .unOp op _ x=>xun op (opv fr x)
 | .convert src dst x=>xconv T M src dst (opv fr x)
 | .extract x i=>xextr (opv fr x) i
 | .field t x f=>xfield T t f (opv fr x)
 | .fieldAddr t x f=>xfaddr T t f (opv fr x)
 | .nilCheck x=>xnilc (opv fr x)
 | .indexAddr t x i=>xidx T M t (opv fr x) (opv fr i)
 | .index t x i=>xstrIdx T t (opv fr x) (opv fr i)
 | .load t x=>xload T M t (opv fr x)
 | .slice t x lo hi none=>xslc T M t (opv fr x) (optv fr lo) (optv fr hi)
 | .slice t x lo hi (some mx)=>xslc3 T M t (opv fr x) (optv fr lo) (optv fr hi) (opv fr mx)
 | .build t ps=>xbuild T t fr ps.toList
 | .makeFunc fn first cs=>xmkf fn (opvs fr first.toList) (opvs fr cs.toList)
 | .call ⟨.builtin b,xs,ts⟩=>xbuilt T b (opvs fr xs.toList) ts.toList M
 | _=>none
theorem xcalm_ok (hM:∀k,getL L k=M k) {op:Op} {y:SV} (h:xcalm T op fr M=some y) (hK:K y):calmK T Γ Δ true q op fr L K:=by
 unfold xcalm at h
 split at h<;>simp only [calmK,sliceOpK,optv]
 ·rw [fSV_eq'];cases h;exact hK
 ·rw [fSV_eq'];cases h;exact hK
 ·exact xpick_ok h hK
 ·exact xbin2_ok h hK
 ·exact xun_ok h hK
 ·exact xconv_ok hM h hK
 ·exact xextr_ok h hK
 ·exact xfield_ok h hK
 ·exact xfaddr_ok h hK
 ·exact xnilc_ok h hK
 ·exact xidx_ok hM h hK
 ·exact xstrIdx_ok h hK
 ·exact xload_ok hM h hK
 ·exact xslc_ok hM h hK
 ·exact xslc3_ok hM h hK
 ·exact xbuild_ok h hK
 ·exact xmkf_ok h hK
 ·exact xbuilt_ok hM h hK
 ·cases h
end
end
end Exe
end Go.Eng
end
section
namespace Go.Eng
open Go Go.RowKit
namespace Exe
inductive Tm (α:Type) where
 | lf
 | nd (l:Tm α) (v:Option α) (r:Tm α)
noncomputable section
def Tm.get {α:Type} (T:Tm α):Nat→Option α:=Tm.rec (motive:=fun _=>Nat→Option α) (fun _=>none)
 (fun _ v _ gl gr n=>match n with | 0=>v | m+1=>match Nat.beq (m % 2) 0 with | true=>gl (m / 2) | false=>gr (m / 2)) T
theorem Tm.get_lf {α:Type} {n:Nat}:(Tm.lf:Tm α).get n=none:=rfl
theorem Tm.get_0 {α:Type} {l r:Tm α} {v:Option α}:(Tm.nd l v r).get 0=v:=rfl
theorem Tm.get_s {α:Type} {l r:Tm α} {v:Option α} {m:Nat}:(Tm.nd l v r).get (m+1)=match Nat.beq (m % 2) 0 with | true=>l.get (m / 2) | false=>r.get (m / 2):=rfl
def Tm.put {α:Type} (f:Nat):Tm α→Nat→Option α→Tm α:=Nat.rec (motive:=fun _=>Tm α→Nat→Option α→Tm α) (fun T _ _=>T)
 (fun _ ih T n x=>match T with
  | .lf=>(match n with | 0=>.nd .lf x .lf | m+1=>match Nat.beq (m % 2) 0 with | true=>.nd (ih .lf (m / 2) x) none .lf | false=>.nd .lf none (ih .lf (m / 2) x))
  | .nd l v r=>(match n with | 0=>.nd l x r | m+1=>match Nat.beq (m % 2) 0 with | true=>.nd (ih l (m / 2) x) v r | false=>.nd l v (ih r (m / 2) x))) f
theorem beq_cases (a b:Nat):(Nat.beq a b=true∧a=b)∨(Nat.beq a b=false∧a≠b):=by
 cases h:Nat.beq a b with
 | true=>exact .inl ⟨rfl,Nat.eq_of_beq_eq_true h⟩
 | false=>exact .inr ⟨rfl,Nat.ne_of_beq_eq_false h⟩
theorem Tm.get_put {α:Type} {x:Option α}:∀(f:Nat) (T:Tm α) (n j:Nat),n+1<2 ^ f→(T.put f n x).get j=if n=j then x else T.get j
 | 0,T,n,j,h=>by simp at h
 | f+1,T,n,j,h=>by
  have hh:∀m,m+1+1<2 ^ (f+1)→m / 2+1<2 ^ f:=fun m h=>by rw [Nat.pow_succ] at h;omega
  have par:∀(a b:Nat),a % 2=b % 2→(a / 2=b / 2↔a=b):=fun a b h=>by omega
  cases T with
  | lf=>
   cases n with
   | zero=>
    show (Tm.nd .lf x .lf).get j=_
    cases j with
    | zero=>rw [Tm.get_0,if_pos rfl]
    | succ j=>rw [Tm.get_s,if_neg (by omega)];split<;>rfl
   | succ m=>
    show (match Nat.beq (m % 2) 0 with | true=>Tm.nd (Tm.put f .lf (m / 2) x) none .lf | false=>.nd .lf none (Tm.put f .lf (m / 2) x)).get j=_
    rcases beq_cases (m % 2) 0 with ⟨e,e'⟩ | ⟨e,e'⟩<;>rw [e]<;>dsimp only
    ·cases j with
     | zero=>rw [Tm.get_0,if_neg (by omega)];rfl
     | succ j=>
      rw [Tm.get_s]
      rcases beq_cases (j % 2) 0 with ⟨g,g'⟩ | ⟨g,g'⟩<;>rw [g]<;>dsimp only
      ·rw [Tm.get_put f _ _ _ (hh m h),Tm.get_lf,Tm.get_lf]
       by_cases e2:m=j
       ·subst e2;rw [if_pos rfl,if_pos rfl]
       ·rw [if_neg (by omega),if_neg (by omega)]
      ·rw [Tm.get_lf,Tm.get_lf,if_neg (by omega)]
    ·cases j with
     | zero=>rw [Tm.get_0,if_neg (by omega)];rfl
     | succ j=>
      rw [Tm.get_s]
      rcases beq_cases (j % 2) 0 with ⟨g,g'⟩ | ⟨g,g'⟩<;>rw [g]<;>dsimp only
      ·rw [Tm.get_lf,Tm.get_lf,if_neg (by omega)]
      ·rw [Tm.get_put f _ _ _ (hh m h),Tm.get_lf,Tm.get_lf]
       by_cases e2:m=j
       ·subst e2;rw [if_pos rfl,if_pos rfl]
       ·rw [if_neg (by omega),if_neg (by omega)]
  | nd l v r=>
   cases n with
   | zero=>
    show (Tm.nd l x r).get j=_
    cases j with
    | zero=>rw [Tm.get_0,if_pos rfl]
    | succ j=>rw [Tm.get_s,if_neg (by omega),Tm.get_s]
   | succ m=>
    show (match Nat.beq (m % 2) 0 with | true=>Tm.nd (Tm.put f l (m / 2) x) v r | false=>.nd l v (Tm.put f r (m / 2) x)).get j=_
    rcases beq_cases (m % 2) 0 with ⟨e,e'⟩ | ⟨e,e'⟩<;>rw [e]<;>dsimp only
    ·cases j with
     | zero=>rw [Tm.get_0,if_neg (by omega),Tm.get_0]
     | succ j=>
      rw [Tm.get_s,Tm.get_s]
      rcases beq_cases (j % 2) 0 with ⟨g,g'⟩ | ⟨g,g'⟩<;>rw [g]<;>dsimp only
      ·rw [Tm.get_put f _ _ _ (hh m h)]
       by_cases e2:m=j
       ·subst e2;rw [if_pos rfl,if_pos rfl]
       ·rw [if_neg (by omega),if_neg (by omega)]
      ·rw [if_neg (by omega)]
    ·cases j with
     | zero=>rw [Tm.get_0,if_neg (by omega),Tm.get_0]
     | succ j=>
      rw [Tm.get_s,Tm.get_s]
      rcases beq_cases (j % 2) 0 with ⟨g,g'⟩ | ⟨g,g'⟩<;>rw [g]<;>dsimp only
      ·rw [if_neg (by omega)]
      ·rw [Tm.get_put f _ _ _ (hh m h)]
       by_cases e2:m=j
       ·subst e2;rw [if_pos rfl,if_pos rfl]
       ·rw [if_neg (by omega),if_neg (by omega)]
abbrev Mm:=Tm LB
def xput (M:Mm) (k:Nat) (x:Option LB):Option Mm:=match Nat.blt k 1000000000 with | true=>some (M.put 31 k x) | false=>none
theorem xput_get {M M':Mm} {k:Nat} {x:Option LB} (h:xput M k x=some M') (j:Nat):M'.get j=if k=j then x else M.get j:=by
 unfold xput at h
 split at h
 ·rename_i e
  cases h
  have e:k<1000000000:=Nat.le_of_ble_eq_true e
  exact Tm.get_put 31 M k j (by omega)
 ·cases h
def Rep (M:Mm) (L:LL):Prop:=∀k,getL L k=M.get k
theorem Rep.new {M M':Mm} {L:LL} {k:Nat} {x:LB} (h:Rep M L) (e:xput M k (some x)=some M'):Rep M' ((k,x)::L):=fun j=>by
 rw [getL_cons,xput_get e,h j]
theorem Rep.set {M M':Mm} {L:LL} {k:Nat} {x y:LB} (h:Rep M L) (hk:getL L k=some y) (e:xput M k (some x)=some M'):Rep M' (setL L k x):=fun j=>by
 rw [getL_setL,xput_get e,h j,]
 split
 ·rename_i e;subst e;rw [hk];rfl
 ·rfl
theorem Rep.rem {M M':Mm} {L:LL} {k:Nat} (h:Rep M L) (e:xput M k none=some M'):Rep M' (remL L k):=fun j=>by
 rw [getL_remL,xput_get e,h j]
def hF (n:Nat) (fr:Fr):Prop:=∀k,hasF k fr=true→k<n
def hL (n:Nat) (L:LL):Prop:=∀k,hasLL k L=true→k<n
def hV (n:Nat) (x:SV):Prop:=∀k,x.has k=true→k<n
def hS (n:Nat) (l:List SV):Prop:=∀k,hasL k l=true→k<n
theorem hF.mono {n m:Nat} {fr:Fr} (h:hF n fr) (e:n≤m):hF m fr:=fun k hk=>Nat.lt_of_lt_of_le (h k hk) e
theorem hL.mono {n m:Nat} {L:LL} (h:hL n L) (e:n≤m):hL m L:=fun k hk=>Nat.lt_of_lt_of_le (h k hk) e
theorem hV.mono {n m:Nat} {x:SV} (h:hV n x) (e:n≤m):hV m x:=fun k hk=>Nat.lt_of_lt_of_le (h k hk) e
theorem hS.mono {n m:Nat} {x:List SV} (h:hS n x) (e:n≤m):hS m x:=fun k hk=>Nat.lt_of_lt_of_le (h k hk) e
theorem hF.cons {n t:Nat} {x:SV} {fr:Fr} (h:hF n fr) (hx:hV n x):hF n ((t,x)::fr):=fun k hk=>by
 rw [hasF_cons,Bool.or_eq_true] at hk
 exact hk.elim (hx k) (h k)
theorem hS.nil {n:Nat}:hS n []:=fun k hk=>by simp [hasL] at hk
theorem hS.cons {n:Nat} {x:SV} {l:List SV} (h:hS n l) (hx:hV n x):hS n (x::l):=fun k hk=>by
 rw [hasL_cons,Bool.or_eq_true] at hk
 exact hk.elim (hx k) (h k)
theorem hS.head {n:Nat} {x:SV} {l:List SV} (h:hS n (x::l)):hV n x:=fun k hk=>h k (by rw [hasL_cons,hk];rfl)
theorem hS.tail {n:Nat} {x:SV} {l:List SV} (h:hS n (x::l)):hS n l:=fun k hk=>h k (by rw [hasL_cons,hk,Bool.or_true])
theorem hS.append {n:Nat} {l m:List SV} (h:hS n l) (h':hS n m):hS n (l++m):=fun k hk=>(hasL_append hk).elim (h k) (h' k)
theorem hS.take {n i:Nat} {l:List SV} (h:hS n l):hS n (takeN l i):=fun k hk=>h k (hasL_takeN hk)
theorem hS.drop {n i:Nat} {l:List SV} (h:hS n l):hS n (dropN l i):=fun k hk=>h k (hasL_dropN hk)
theorem hS.valL {n:Nat} (vs:List Value):hS n (valL vs):=fun k hk=>by rw [hasL_valL] at hk;cases hk
def hB (n:Nat) (x:LB):Prop:=∀k,x.has k=true→k<n
theorem hB.row {n e sz m:Nat} {cs:List SV} (h:hS n cs):hB n (.row e sz m cs):=h
theorem hB.cells {n t:Nat} {cs:List SV} (h:hS n cs):hB n (.cells t cs):=h
theorem hL.new {n k:Nat} {x:LB} {L:LL} (h:hL n L) (hk:k<n) (hx:hB n x):hL n ((k,x)::L):=fun j hj=>by
 rw [hasLL_cons,Bool.or_eq_true,Bool.or_eq_true] at hj
 rcases hj with hj | hj | hj
 ·have:=Nat.eq_of_beq_eq_true hj;omega
 ·exact hx j hj
 ·exact h j hj
theorem hL.set {n k:Nat} {x:LB} {L:LL} (h:hL n L) (hx:hB n x):hL n (setL L k x):=fun j hj=>(hasLL_setL hj).elim (h j) (hx j)
theorem hasLL_remL {j k:Nat}:∀{L:LL},hasLL j (remL L k)=true→hasLL j L=true
 | [],h=>h
 | (u,y)::r,h=>by
  rw [remL_c] at h
  rw [hasLL_cons,Bool.or_eq_true,Bool.or_eq_true]
  cases e:Nat.beq u k with
  | true=>rw [e] at h;exact .inr (.inr (hasLL_remL h))
  | false=>
   rw [e] at h
   rw [hasLL_cons,Bool.or_eq_true,Bool.or_eq_true] at h
   exact h.imp id (fun h=>h.imp id hasLL_remL)
theorem hL.rem {n k:Nat} {L:LL} (h:hL n L):hL n (remL L k):=fun j hj=>h j (hasLL_remL hj)
theorem hL.get {n k:Nat} {L:LL} {x:LB} (h:hL n L) (hk:getL L k=some x):hB n x:=fun j hj=>h j (getL_hasLL hk (.inr hj))
theorem hL.key {n k:Nat} {L:LL} {x:LB} (h:hL n L) (hk:getL L k=some x):k<n:=h k (getL_hasLL hk (.inl rfl))
theorem hF.opv {n:Nat} {fr:Fr} (h:hF n fr) (x:Operand):hV n (opv fr x):=fun k hk=>h k (opv_has hk)
theorem hF.opvs {n:Nat} {fr:Fr} (h:hF n fr):∀(l:List Operand),hS n (opvs fr l)
 | []=>.nil
 | x::r=>(hF.opvs h r).cons (h.opv x)
mutual
theorem ltK_of:∀(x:SV) {b:Nat},hV b x→ltK b x=true
 | .v _,_,_=>rfl
 | .bb _,_,_=>rfl
 | .b _ _,_,_=>rfl
 | .bad,_,_=>rfl
 | .el _ _,_,_=>rfl
 | .lp k _,b,h=>Nat.ble_eq_true_of_le (h k (by simp [SV.has]))
 | .own k,b,h=>Nat.ble_eq_true_of_le (h k (by simp [SV.has]))
 | .yl k,b,h=>Nat.ble_eq_true_of_le (h k (by simp [SV.has]))
 | .vw k _ _ _ _,b,h=>Nat.ble_eq_true_of_le (h k (by simp [SV.has]))
 | .lq k,b,h=>Nat.ble_eq_true_of_le (h k (by simp [SV.has]))
 | .ls k _,b,h=>Nat.ble_eq_true_of_le (h k (by simp [SV.has]))
 | .mr k,b,h=>Nat.ble_eq_true_of_le (h k (by simp [SV.has]))
 | .agg l,b,h=>ltKL_of l (fun k hk=>h k (by simpa [SV.has] using hk))
 | .tup l,b,h=>ltKL_of l (fun k hk=>h k (by simpa [SV.has] using hk))
 | .fn _ l,b,h=>ltKL_of l (fun k hk=>h k (by simpa [SV.has] using hk))
theorem ltKL_of:∀(l:List SV) {b:Nat},hS b l→ltKL b l=true
 | [],_,_=>rfl
 | x::r,b,h=>by
  rw [ltKL,ltK_of x h.head]
  exact ltKL_of r h.tail
end
theorem hV_of {x:SV} {b:Nat} (h:ltK b x=true):hV b x:=fun _ hk=>ltK_has x h hk
theorem ltF_of:∀{fr:Fr} {b:Nat},hF b fr→ltF b fr=true
 | [],_,_=>rfl
 | (u,x)::r,b,h=>by
  rw [ltF_c,ltK_of x (fun k hk=>h k (by rw [hasF_cons,hk];rfl))]
  exact ltF_of (fun k hk=>h k (by rw [hasF_cons,hk,Bool.or_true]))
theorem ltLL_of:∀{L:LL} {b:Nat},hL b L→ltLL b L=true
 | [],_,_=>rfl
 | (u,x)::r,b,h=>by
  have h1:Nat.blt u b=true:=Nat.ble_eq_true_of_le (h u (by rw [hasLL_cons];simp))
  have h2:ltLL b r=true:=ltLL_of (fun k hk=>h k (by rw [hasLL_cons,hk,Bool.or_true,Bool.or_true]))
  have h3:hB b x:=fun k hk=>h k (by rw [hasLL_cons,hk,Bool.true_or,Bool.or_true])
  rw [ltLL_c,h1]
  cases x with
  | cells T l=>dsimp only;rw [ltKL_of l h3];exact h2
  | row e s n l=>dsimp only;rw [ltKL_of l h3];exact h2
  | _=>exact h2
theorem dLt_of:∀{L:LL} {b:Nat},hL b L→dLt b L=true
 | [],_,_=>rfl
 | (u,x)::r,b,h=>by
  have h1:Nat.blt u b=true:=Nat.ble_eq_true_of_le (h u (by rw [hasLL_cons];simp))
  have h2:dLt b r=true:=dLt_of (fun k hk=>h k (by rw [hasLL_cons,hk,Bool.or_true,Bool.or_true]))
  cases x<;>(unfold dLt;first | exact h2 | (rw [h1];exact h2))
def XK (nk:Nat) (fr:Fr) (M:Mm):Kt:=fun _ _ fr' L=>fr'=fr∧Rep M L∧hF nk fr∧hL nk L
variable {P:Program} {S S' Sb:Pl} {fr:Fr} {L L':LL} {q q':PH} {w0:W0} {w w':World} {a a':Act} {n0 N:Nat} {B:Nat→Prop} {E:Env}
variable {r:Option Nat} {n:Nat} {Q:Exit→Act→World→Prop}
theorem _root_.Go.Eng.Cfg.up (hc:Cfg w0 Sb B n0 N S q fr L a w) (nk:Nat):Cfg w0 S (fun d=>getL L d=some .dfr) nk N S q fr L a w:=
 ⟨fun _ _=>rfl,fun _ _ h=>h,hc.m,hc.f,hc.n,hc.d⟩
theorem _root_.Go.Eng.Cfg.down {nk:Nat} {K:Kt} (hc:Cfg w0 Sb B n0 N S q fr L a w) (h0:n0≤nk) (h:St w0 S (fun d=>getL L d=some .dfr) nk N K a' w'):St w0 Sb B n0 N K a' w':=by
 obtain ⟨S',q',fr',L',nk',hc',hK⟩:=h
 exact ⟨S',q',fr',L',nk',⟨fun k hk=>(hc'.ag k (by omega)).trans (hc.ag k hk),fun d hd hB=>hc'.b d (by omega) (hc.b d hd hB),hc'.m,hc'.f,hc'.n,hc'.d⟩,hK⟩
theorem newK_of {nk:Nat} {lb:LB} {K:LL→Prop} (h1:hF nk fr) (h2:hL nk L) (h:K ((nk,lb)::L)):newK nk nk fr L lb K:=by
 unfold newK
 have e1:hasF nk fr=false:=by
  cases hb:hasF nk fr with
  | false=>rfl
  | true=>have:=h1 nk hb;omega
 have e2:hasLL nk L=false:=by
  cases hb:hasLL nk L with
  | false=>rfl
  | true=>have:=h2 nk hb;omega
 rw [Nat.ble_eq_true_of_le (Nat.le_refl nk),e1,e2]
 exact h
theorem noF {nk:Nat} (h1:hF nk fr):hasF nk fr=false:=by
 cases hb:hasF nk fr with
 | false=>rfl
 | true=>have:=h1 nk hb;omega
theorem noL {nk:Nat} (h2:hL nk L):hasLL nk L=false:=by
 cases hb:hasLL nk L with
 | false=>rfl
 | true=>have:=h2 nk hb;omega
def putX (N:Nat) (dst:Option Nat) (y:SV) (fr:Fr):Option Fr:=
 match dst with
 | none=>some fr
 | some d=>(match Nat.blt d N with | true=>some ((d,y)::fr) | false=>none)
theorem putX_ok {dst:Option Nat} {y:SV} {fr':Fr} {K:Fr→Prop} (h:putX N dst y fr=some fr') (hK:K fr'):putK N dst y fr K:=by
 unfold putX at h
 unfold putK
 split at h
 ·cases h;exact hK
 ·split at h
  ·rename_i e;cases h;dsimp only;rw [e];exact hK
  ·cases h
theorem putX_h {nk:Nat} {dst:Option Nat} {y:SV} {fr':Fr} (h:putX N dst y fr=some fr') (hf:hF nk fr) (hy:hV nk y):hF nk fr':=by
 unfold putX at h
 split at h
 ·cases h;exact hf
 ·split at h
  ·cases h;exact hf.cons hy
  ·cases h
end
end Exe
end Go.Eng
end
