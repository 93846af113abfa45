/- Proved: the law 'ScriptKeys' answers true whatever it is called with, and leaves what it is called with as it was. Conditions: none beyond the row's own. -/
import Derived.Test.YtmpknfgjfmgleaaGreatDoorRows
import Derived.Test.YtmpknfgjfmgleaaGreatDoorCards
import Derived.Test.YtmpknfgjfmgleaaGreatDoorTie
import Derived.Test.YtmpknfgjfmgleaaGreatDoorSK7
import Derived.Test.YtmpknfgjfmgleaaGreatDoorSK8
import Derived.Test.YtmpknfgjfmgleaaGreatDoorSK3
import Derived.Shelf.Vars
import Derived.WalkKit
import Derived.ProofKit
import Derived.OpenShut
import Derived.ShutString
import Derived.ChangeOld
import Derived.Below
import Derived.Deep.Slices
import Derived.LaidMore
import Derived.Lay
import Derived.MakeChecks
import Derived.Stop.Joined
import Derived.SevenTiedAt
namespace Go.Proofs.YtmpknfgjfmgleaaGreatDoor.scriptKeys
open Go.Eng
open Go.ChangeShapes Go.WideShapes Go.ChangeAt Go.RowKit
open Go.ChangeMaps (open_string shut_string)
set_option linter.unusedVariables false

theorem own:ownKnob Tryz.prog.godebug=none:=by kernel_rfl
theorem laidOut:laidOutB Tryz.prog=true:=by kernel_rfl
set_option maxRecDepth 100000 in
theorem dec24 {H:Type} {enc:TypeId×Value→H} {w:World} {sp:Nat→Bool} {held:Bool}:∀n cs (y:DataW H×List MemPlace),DataW.trod enc Tryz.prog w 0 sp held n 24 cs=some y→∃a:(Int×ByteArray×Int×Bool×Bool×Bool),cs=c24 a∧(inR .i64 a.1∧a.2.1.size≤maxLen∧inR .i64 a.2.2.1∧True∧True∧True):=by
  intro n cs y h
  obtain ⟨xs,m,rfl,hx,hlen,hxl,hf⟩:=DataW.trod_struct Tryz.underlying24 h
  have hC:Tryz.prog.cellsOf 24=6:=by kernel_rfl
  rw [hC] at hlen
  obtain ⟨v0,v1,v2,v3,v4,v5,rfl⟩:∃v0 v1 v2 v3 v4 v5,cs=[v0,v1,v2,v3,v4,v5]:=by
    match cs,hlen with
    | [v0,v1,v2,v3,v4,v5],_=>exact ⟨_,_,_,_,_,_,rfl⟩
  have hx2:xs.length=6:=hxl
  have c3:Tryz.prog.cellsOf 3=1:=by kernel_rfl
  have c4:Tryz.prog.cellsOf 4=1:=by kernel_rfl
  have c9:Tryz.prog.cellsOf 9=1:=by kernel_rfl
  have c22:Tryz.prog.cellsOf 22=1:=by kernel_rfl
  have f0:DataW.trod enc Tryz.prog w 0 sp held m 22 (([v0,v1,v2,v3,v4,v5].drop 0).take (Tryz.prog.cellsOf 22))=xs[0]?:=hf 0 _ rfl
  rw [c22,show xs[0]?=some xs[0] from List.getElem?_eq_getElem (by omega)] at f0
  change DataW.trod enc Tryz.prog w 0 sp held m 22 [v0]=some xs[0] at f0
  obtain ⟨u0,e0,_,h0⟩:=DataW.trod_int Tryz.underlying22 f0
  simp only [List.cons.injEq,and_true] at e0
  have f1:DataW.trod enc Tryz.prog w 0 sp held m 9 (([v0,v1,v2,v3,v4,v5].drop 1).take (Tryz.prog.cellsOf 9))=xs[1]?:=hf 1 _ rfl
  rw [c9,show xs[1]?=some xs[1] from List.getElem?_eq_getElem (by omega)] at f1
  change DataW.trod enc Tryz.prog w 0 sp held m 9 [v1]=some xs[1] at f1
  obtain ⟨u1,e1,_,h1⟩:=DataW.trod_string Tryz.underlying9 f1
  simp only [List.cons.injEq,and_true] at e1
  have f2:DataW.trod enc Tryz.prog w 0 sp held m 3 (([v0,v1,v2,v3,v4,v5].drop 2).take (Tryz.prog.cellsOf 3))=xs[2]?:=hf 2 _ rfl
  rw [c3,show xs[2]?=some xs[2] from List.getElem?_eq_getElem (by omega)] at f2
  change DataW.trod enc Tryz.prog w 0 sp held m 3 [v2]=some xs[2] at f2
  obtain ⟨u2,e2,_,h2⟩:=DataW.trod_int Tryz.underlying3 f2
  simp only [List.cons.injEq,and_true] at e2
  have f3:DataW.trod enc Tryz.prog w 0 sp held m 4 (([v0,v1,v2,v3,v4,v5].drop 3).take (Tryz.prog.cellsOf 4))=xs[3]?:=hf 3 _ rfl
  rw [c4,show xs[3]?=some xs[3] from List.getElem?_eq_getElem (by omega)] at f3
  change DataW.trod enc Tryz.prog w 0 sp held m 4 [v3]=some xs[3] at f3
  obtain ⟨u3,e3,_⟩:=DataW.trod_bool Tryz.underlying4 f3
  simp only [List.cons.injEq,and_true] at e3
  have f4:DataW.trod enc Tryz.prog w 0 sp held m 4 (([v0,v1,v2,v3,v4,v5].drop 4).take (Tryz.prog.cellsOf 4))=xs[4]?:=hf 4 _ rfl
  rw [c4,show xs[4]?=some xs[4] from List.getElem?_eq_getElem (by omega)] at f4
  change DataW.trod enc Tryz.prog w 0 sp held m 4 [v4]=some xs[4] at f4
  obtain ⟨u4,e4,_⟩:=DataW.trod_bool Tryz.underlying4 f4
  simp only [List.cons.injEq,and_true] at e4
  have f5:DataW.trod enc Tryz.prog w 0 sp held m 4 (([v0,v1,v2,v3,v4,v5].drop 5).take (Tryz.prog.cellsOf 4))=xs[5]?:=hf 5 _ rfl
  rw [c4,show xs[5]?=some xs[5] from List.getElem?_eq_getElem (by omega)] at f5
  change DataW.trod enc Tryz.prog w 0 sp held m 4 [v5]=some xs[5] at f5
  obtain ⟨u5,e5,_⟩:=DataW.trod_bool Tryz.underlying4 f5
  simp only [List.cons.injEq,and_true] at e5
  subst e0 e1 e2 e3 e4 e5
  exact ⟨(u0,u1,u2,u3,u4,u5),rfl,wf_in h0,h1,wf_in h2,trivial,trivial,trivial⟩
set_option maxRecDepth 100000 in
theorem wgt24 {H:Type} {enc:TypeId×Value→H} {w:World} {sp:Nat→Bool} {held:Bool}:∀n (a:(Int×ByteArray×Int×Bool×Bool×Bool)) (y:DataW H×List MemPlace),DataW.trod enc Tryz.prog w 0 sp held n 24 (c24 a)=some y→(DataW.weights Tryz.prog 24 y.1).all (·≤reachBytes)=true→a.2.1.size≤140737488355328:=by
  intro n a y h hw
  obtain ⟨xs,m,rfl,hx,hlen,hxl,hf⟩:=DataW.trod_struct Tryz.underlying24 h
  subst hx
  obtain ⟨x0,x1,x2,x3,x4,x5,rfl⟩:∃x0 x1 x2 x3 x4 x5,xs=[x0,x1,x2,x3,x4,x5]:=by
    match xs,(show xs.length=6 from hxl) with
    | [x0,x1,x2,x3,x4,x5],_=>exact ⟨_,_,_,_,_,_,rfl⟩
  unfold DataW.weights at hw
  rw [Tryz.underlying24] at hw
  simp only [List.map_cons,List.map_nil,DataW.weightsEach,List.all_append,Bool.and_eq_true] at hw
  have c3_:Tryz.prog.cellsOf 3=1:=by kernel_rfl
  have c4_:Tryz.prog.cellsOf 4=1:=by kernel_rfl
  have c9_:Tryz.prog.cellsOf 9=1:=by kernel_rfl
  have c22_:Tryz.prog.cellsOf 22=1:=by kernel_rfl
  have f1:DataW.trod enc Tryz.prog w 0 sp held m 9 (((c24 a).drop 1).take (Tryz.prog.cellsOf 9))=some x1:=hf 1 _ rfl
  rw [c9_] at f1
  obtain ⟨u1,e1,g1,_⟩:=DataW.trod_string Tryz.underlying9 f1
  have e1':u1=a.2.1:=by injection e1 with e;injection e with e;exact e.symm
  subst e1'
  have b1:(DataW.weights Tryz.prog 9 x1.1).all (·≤reachBytes)=true:=by first | exact hw.2.1 | exact hw.2 | (simp_all;done)
  rw [g1] at b1
  simp only [DataW.weights,List.all_cons,List.all_nil,Bool.and_true,decide_eq_true_eq] at b1
  have z1:a.2.1.size≤140737488355328:=by rw [show a.2.1.size=a.2.1.data.toList.length from (Array.length_toList).symm];exact Nat.le_trans b1 (by decide)
  exact z1

theorem walk (w:World) (m:Int) (hm:w.cell? ⟨0,0,none⟩=some (.int .i64 m)) (a0:(Int×ByteArray×Int×Bool×Bool×Bool)) (w0:(fun a:(Int×ByteArray×Int×Bool×Bool×Bool)=>inR .i64 a.1∧a.2.1.size≤maxLen∧inR .i64 a.2.2.1∧True∧True∧True) a0) (z0:a0.2.1.size≤140737488355328) :
    Calls Tryz.prog 3 #[.agg (c24 a0).toArray] w fun e w'=>e=.returned (.bool true)∧Below w.heap.size w w':=by
  have h:=k3_ok.2 w (phOf w) S0 (a0,true,m) [.agg (c24 a0).toArray] (g_eq (keys_gives w0.2.2.1)) ⟨(fun j hj=>by match j,hj with | 0,_=>exact hm),trivial⟩ (phOf_on w) ⟨⟨_,rfl,rfl,rfl,rfl,(by simp [bS,okv]),(by simp [bS,okv]),(by simp [bS,okv]),trivial⟩,trivial⟩
  exact h.mono fun e w' ⟨he,hb⟩=>⟨he.trans rfl,hb⟩

theorem door_met (os:Os) (args:Array Value):laidMetH Tryz.prog Rows.scriptKeysRow.laid ((World.laidAll Tryz.prog os Rows.scriptKeysRow.laid).forCall (fun _ _=>0) ⟨#[],args,[]⟩).memory:=by
  rw [MakeChecks.laidMetH_plain _ _ _ (by kernel_rfl)]
  exact laidMet_laidAll _ (by kernel_rfl) (by kernel_rfl)
theorem cellM {W:World} (h:W.ShapedOpen Tryz.prog):∃m,W.cell? ⟨0,0,none⟩=some (.int .i64 m):=
  cell_of_shapedOpen_int (t:=3) (zero:=#[.int .i64 0]) h (of_decide_eq_true (by kernel_rfl)) (by kernel_rfl) rfl (by kernel_rfl) (by kernel_rfl) Tryz.underlying3
set_option maxRecDepth 100000 in
theorem core {H:Type} {enc:TypeId×Value→H} (W:World) (base:Nat) (args:Array Value) (ds gs:List (DataW H)) (before:List MemPlace)
    (hval0:∀(j:Nat) t v,Tryz.f3.params[j]?=some t→args[j]?=some v→Value.okWide Tryz.prog W .any base t v)
    (hW:DataW.Whole enc Tryz.prog Tryz.f3.params.toList Rows.scriptKeysSpec.vars false W args.toList ds gs before)
    (hz:(DataW.weightsEach Tryz.prog (Tryz.f3.params.toList++Rows.scriptKeysSpec.plain.varTypes Tryz.prog) (ds++gs)).all (·≤reachBytes)=true)
    (hsh:W.ShapedOpen Tryz.prog):Calls Tryz.prog 3 args W fun e W'=>∃v,e=.returned v∧Rows.scriptKeysSpec.post enc Tryz.prog Tryz.f3 false true false false W args v W':=by
  have hval:∀(j:Nat) t v,Tryz.f3.params[j]?=some t→args[j]?=some v→Value.okWide Tryz.prog W .any base t v:=hval0
  have hW':=hW
  obtain ⟨p,q,hA0,hV,rfl,hfz,hnd⟩:=hW
  have hA:DataW.TrodAll enc Tryz.prog W 0 (fun _=>true) true Tryz.f3.params.toList args.toList ds p:=hA0
  rw [Tryz.params3] at hA hval
  obtain ⟨v0,vs0,d0,ds0,p0,q0,hargs,rfl,rfl,h0,r0⟩:=trodAll_cons hA
  obtain ⟨rfl,rfl,rfl⟩:=trodAll_nil r0
  obtain rfl:args=#[v0]:=by cases args;simp_all
  obtain ⟨rfl,rfl⟩:=trodVars_none hV
  obtain ⟨cs0,rfl⟩:∃cs,v0=Value.agg cs:=by
    have h:=hval 0 24 v0 rfl rfl
    unfold Value.okWide at h
    rw [Tryz.underlying24] at h
    obtain ⟨cs,e,_⟩:=h
    exact ⟨cs,e⟩
  have k0:=h0
  have lt0:∀x∈p0,x.block<W.heap.size:=by obtain ⟨m,hm⟩:=k0;exact DataW.trod_lt m _ _ _ hm
  obtain ⟨fuel0,hf0⟩:=h0
  obtain ⟨a0,e0,w0⟩:=dec24 _ _ _ hf0
  replace e0:cs0.toList=c24 a0:=e0
  obtain rfl:cs0=(c24 a0).toArray:=by rw [←e0]
  have z0:a0.2.1.size≤140737488355328:=wgt24 _ _ _ hf0 (by
    have h:=hz
    rw [Tryz.params3] at h
    simp only [DataW.weightsEach,List.cons_append,List.nil_append,List.all_append,Bool.and_eq_true] at h
    first | exact h.1 | exact h | (simp_all;done))
  clear hA0 hval0
  simp only [List.append_nil] at hW'
  obtain ⟨m,hm⟩:=cellM hsh
  refine (walk W m hm a0 w0 z0).mono fun e W' ⟨he,bel⟩=>?_
  subst he
  exact ⟨_,rfl,_,_,_,[],_,[],hW',trodAll_mk1 (shut_bool Tryz.underlying4 _),(trodAll_cons_mk (Below.trod laidOut (by kernel_rfl) (of_decide_eq_true (by kernel_rfl)) k0 bel lt0) trodAll_mk0),rfl,bel.frame _,fun h=>by cases h⟩

set_option maxRecDepth 100000 in
theorem lifted (os:Os) (started:os.Started) (H:Type) (enc:TypeId×Value→H) :
    ReturnsInHanded {} Tryz.checked os 3 .any (fun w args=>(Rows.scriptKeysSpec.pre enc Tryz.prog Tryz.f3 [] false w args∧laidMetH Tryz.prog Rows.scriptKeysRow.laid w)∧sizedMet enc Tryz.prog Tryz.f3 (OpenSpec.ofChange Rows.scriptKeysSpec) false w args) (Rows.scriptKeysSpec.post enc Tryz.prog Tryz.f3 false true false false):=by
  refine returnsInHanded_of_calls (C:=Tryz.checked) own started (by kernel_rfl)
    (ChangeSpec.witness_shaped (enc:=enc) (C:=Tryz.checked) (os:=os) (X:=fun w _=>laidMetH Tryz.prog Rows.scriptKeysRow.laid w) false (World.laidAll Tryz.prog os Rows.scriptKeysRow.laid) #[.agg #[.int .i64 0,.string ⟨#[]⟩,.int .i64 0,.bool false,.bool false,.bool false]] 8 (World.laidAll_os _ _ _) (World.shaped_of_ZipB (by kernel_rfl) (by kernel_rfl)) (by kernel_rfl) (by kernel_rfl) (by kernel_rfl) (door_met os _)) ?_
  intro w tape i _ hsh _ hok hpre _
  obtain ⟨_,_,_,fn',hfn',_,_,_,_,hval⟩:=hok
  obtain rfl:fn'=Tryz.f3:=Option.some.inj (hfn'.symm.trans Tryz.func3)
  obtain ⟨⟨⟨ds,gs,before,hw,_⟩,_⟩,hz⟩:=hpre
  refine (core (w.forCall tape i) w.heap.size i.args ds gs before hval (DataW.Whole.of_heap (w':=w.forCall tape i) (by rfl) hw) (hz.weights hw) hsh).mono fun e W' ⟨v,he,hp⟩=>?_
  subst he
  exact ChangeSpec.post_blind hp

theorem jnf:Tryz.prog.funcNamed Rows.scriptKeysRow.func=some 3:=by kernel_rfl
theorem jni:Tryz.f3.isInstance Tryz.prog Rows.scriptKeysRow.origin Rows.scriptKeysRow.targs:=of_decide_eq_true (by kernel_rfl)
theorem jnw:Tryz.f3.isWrapper Tryz.prog Rows.scriptKeysRow.wrapper Rows.scriptKeysRow.mainSum:=by unfold Func.isWrapper;first | (rw [if_pos (by decide +kernel)];kernel_rfl) | (rw [if_neg (by decide +kernel)];exact ⟨rfl,rfl⟩)
theorem over:Rows.scriptKeysRow.holds Tryz.pinned (OpenSpec.ofChange Rows.scriptKeysSpec):=
  OpenClaim.holds_of_wide 3 Tryz.f3 rfl rfl rfl rfl rfl rfl rfl ⟨rfl,rfl,rfl,rfl,rfl⟩ rfl rfl rfl rfl rfl jnf Tryz.func3 jnr jni jnw
    (fun os started H enc _=>lifted os started H enc)

theorem proved:Rows.ScriptKeysCardSaid:=
  Claim7.holds_tied_plain_at .later [] [.data, .data, .data, .data, .pinned] true (true, "1457ad7cdbbb8315a36ec4a06acb6016ae28519f0e5f533f5c73df03e15837fc") false
    over (fun _ h=>by cases h) (by kernel_rfl) (fun _ h=>by cases h) scriptKeys_row_tie rfl ⟨rfl,rfl⟩ (by kernel_rfl) rfl
    (fun f fn hf hfn=>by
      obtain rfl : f = 3 := Option.some.inj ((show Tryz.prog.funcNamed "placard/placardlaw29.ScriptKeys" = some 3 by kernel_rfl).symm.trans hf) |>.symm
      obtain rfl:fn=Tryz.f3:=(Option.some.inj (Tryz.func3.symm.trans hfn)).symm
      exact ⟨by kernel_rfl,fun j t ht=>by
        rw [Tryz.params3] at ht
        have hm:t∈[24]:=by simpa using Array.mem_of_getElem? ht
        have hall:([24].all fun u=>!Tryz.prog.wantsStandIn u)=true:=by kernel_rfl
        exact (show Tryz.prog.wantsStandIn t=false by simpa using List.all_eq_true.1 hall t hm)⟩)
    (goesBy_none anyK _)
end Go.Proofs.YtmpknfgjfmgleaaGreatDoor.scriptKeys
