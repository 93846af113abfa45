/- Proved: the law 'ScriptParses' answers true whatever it is called with, and leaves what it is called with as it was. Conditions: none beyond the row's own. -/
import Derived.Test.YticmemgehllacaaGreatDoorRows
import Derived.Test.YticmemgehllacaaGreatDoorCards
import Derived.Test.YticmemgehllacaaGreatDoorTie
import Derived.Test.YticmemgehllacaaGreatDoorSR7
import Derived.Test.YticmemgehllacaaGreatDoorSR8
import Derived.Test.YticmemgehllacaaGreatDoorSR3
import Derived.Shelf.Vars
import Derived.WalkKit
import Derived.ProofKit
import Derived.OpenShut
import Derived.ShutString
import Derived.ChangeOld
import Derived.Below
import Derived.Deep.Slices
import Derived.LaidMore
import Derived.Lay
import Derived.MakeChecks
import Derived.Stop.Joined
import Derived.SevenTiedAt
namespace Go.Proofs.YticmemgehllacaaGreatDoor.scriptParses
open Go.Eng
open Go.ChangeShapes Go.WideShapes Go.ChangeAt Go.RowKit
open Go.ChangeMaps (open_string shut_string)
set_option linter.unusedVariables false

theorem own:ownKnob Tryz.prog.godebug=none:=by kernel_rfl
theorem laidOut:laidOutB Tryz.prog=true:=by kernel_rfl
theorem trod_flt{H:Type}{enc:TypeId×Value→H}{P:Program}{w:World}{base:Nat}{sp:Nat→Bool}{held:Bool}{fuel:Nat}{t:TypeId}{cs:List Value}{x:DataW H×List MemPlace}{k:FloatKind}(ht:P.underlying t=some (.float k))(h:DataW.trod enc P w base sp held fuel t cs=some x):∃n,cs=[.float k n]∧(Lit.float k n).wf=true:=by
  cases fuel with
  |zero=>simp[DataW.trod] at h
  |succ m=>
    unfold DataW.trod at h
    rw[ht] at h
    split at h<;>simp_all

theorem mem0(w:World):Mem (yh (phOf w) w S0 []) (phOf w) S0 [] w:=⟨λ_ _ h=>(by cases h),λ_ _ _ _ h=>(by cases h),λ_ _ h=>(by cases h),λ_ _ h=>(by cases h),phOf_on w,Bel.refl _,λ_ _ _ hv _=>hv⟩
theorem bel0{w w':World}{q:PH}{S:Pl}{L:LL}(h:Mem (yh (phOf w) w S0 []) q S L w'):Below w.heap.size w w':=⟨h.be.os,h.be.tape,h.be.output,h.be.size,λk hk=>h.be.block k ⟨hk,λ_ _ h=>by cases h⟩⟩
theorem walk(w:World)(m:Int)(hm:w.cell? ⟨0,0,none⟩=some (.int .i64 m))(a0:ByteArray)(w0:a0.size≤maxLen)(a1:Int)(w1:(Lit.int .u8 a1).wf=true):
    Calls Tryz.prog 3 #[.string a0,.int .u8 a1] w λe w'=>e=.returned (.bool true)∧Below w.heap.size w w':=by
  have hr:(0:Int)≤a1∧a1≤255:=by have h:inR .u8 a1:=wf_in w1;exact h
  have h:=k3_ok.2 w (phOf w) S0 (a0,a1,true,m) [.string a0,.int .u8 a1] (g_eq (parses_give hr.1 hr.2)) ⟨(λj hj=>by match j,hj with|0,_=>exact hm),trivial⟩ (mem0 w) ⟨rfl,rfl,trivial⟩
  refine h.mono ?_
  rintro e w' ⟨v,S',q',g,rfl,hv,_,hm,_⟩
  have hv:v=.bool true:=hv
  exact⟨by rw[hv],bel0 hm⟩

theorem door_met(os:Os)(args:Array Value):laidMetH Tryz.prog Rows.scriptParsesRow.laid ((World.laidAll Tryz.prog os Rows.scriptParsesRow.laid).forCall (λ_ _=>0) ⟨#[],args,[]⟩).memory:=by
  rw[MakeChecks.laidMetH_plain _ _ _ (by kernel_rfl)]
  exact laidMet_laidAll _ (by kernel_rfl) (by kernel_rfl)
theorem cellM{W:World}(h:W.ShapedOpen Tryz.prog):∃m,W.cell? ⟨0,0,none⟩=some (.int .i64 m):=
  cell_of_shapedOpen_int (t:=3) (zero:=#[.int .i64 0]) h (of_decide_eq_true (by kernel_rfl)) (by kernel_rfl) rfl (by kernel_rfl) (by kernel_rfl) Tryz.underlying3
set_option maxRecDepth 100000 in
theorem core{H:Type}{enc:TypeId×Value→H}(W:World)(base:Nat)(args:Array Value)(ds gs:List (DataW H))(before:List MemPlace)
    (hval0:∀(j:Nat) t v,Tryz.f3.params[j]?=some t→args[j]?=some v→Value.okWide Tryz.prog W .any base t v)
    (hW:DataW.Whole enc Tryz.prog Tryz.f3.params.toList Rows.scriptParsesSpec.vars false W args.toList ds gs before)
    (hz:(DataW.weightsEach Tryz.prog (Tryz.f3.params.toList++Rows.scriptParsesSpec.plain.varTypes Tryz.prog) (ds++gs)).all (·≤reachBytes)=true)
    (hsh:W.ShapedOpen Tryz.prog):Calls Tryz.prog 3 args W λe W'=>∃v,e=.returned v∧Rows.scriptParsesSpec.post enc Tryz.prog Tryz.f3 false true false false W args v W':=by
  have hval:∀(j:Nat) t v,Tryz.f3.params[j]?=some t→args[j]?=some v→Value.okWide Tryz.prog W .any base t v:=hval0
  have hW':=hW
  obtain⟨p,q,hA0,hV,rfl,hfz,hnd⟩:=hW
  have hA:DataW.TrodAll enc Tryz.prog W 0 (λ_=>true) true Tryz.f3.params.toList args.toList ds p:=hA0
  rw[Tryz.params3] at hA hval
  obtain⟨v0,vs0,d0,ds0,p0,q0,hargs,rfl,rfl,h0,r0⟩:=trodAll_cons hA
  obtain⟨v1,vs1,d1,ds1,p1,q1,rfl,rfl,rfl,h1,r1⟩:=trodAll_cons r0
  obtain⟨rfl,rfl,rfl⟩:=trodAll_nil r1
  obtain rfl:args=#[v0,v1]:=by cases args;simp_all
  obtain⟨rfl,rfl⟩:=trodVars_none hV
  obtain⟨a0,rfl,rfl,rfl,w0⟩:=open_string Tryz.underlying9 (hval 0 9 v0 rfl rfl) h0
  obtain⟨a1,rfl,rfl,rfl,w1⟩:=open_int Tryz.underlying5 (hval 1 5 v1 rfl rfl) h1
  clear hA0 hval0
  simp only[List.append_nil] at hW'
  obtain⟨m,hm⟩:=cellM hsh
  refine(walk W m hm a0 w0 a1 w1).mono λe W' ⟨he,bel⟩=>?_
  subst he
  exact⟨_,rfl,_,_,_,[],_,[],hW',trodAll_mk1 (shut_bool Tryz.underlying4 _),(trodAll_cons_mk (shut_string Tryz.underlying9 w0) (trodAll_cons_mk (shut_int Tryz.underlying5 w1) trodAll_mk0)),rfl,bel.frame _,λh=>by cases h⟩

set_option maxRecDepth 100000 in
theorem lifted(os:Os)(started:os.Started)(H:Type)(enc:TypeId×Value→H):
    ReturnsInHanded {} Tryz.checked os 3 .any (λw args=>(Rows.scriptParsesSpec.pre enc Tryz.prog Tryz.f3 [] false w args∧laidMetH Tryz.prog Rows.scriptParsesRow.laid w)∧sizedMet enc Tryz.prog Tryz.f3 (OpenSpec.ofChange Rows.scriptParsesSpec) false w args) (Rows.scriptParsesSpec.post enc Tryz.prog Tryz.f3 false true false false):=by
  refine returnsInHanded_of_calls (C:=Tryz.checked) own started (by kernel_rfl)
    (ChangeSpec.witness_shaped (enc:=enc) (C:=Tryz.checked) (os:=os) (X:=λw _=>laidMetH Tryz.prog Rows.scriptParsesRow.laid w) false (World.laidAll Tryz.prog os Rows.scriptParsesRow.laid) #[.string ⟨#[]⟩,.int .u8 0] 8 (World.laidAll_os _ _ _) (World.shaped_of_ZipB (by kernel_rfl) (by kernel_rfl)) (by kernel_rfl) (by kernel_rfl) (by kernel_rfl) (door_met os _)) ?_
  intro w tape i _ hsh _ hok hpre _
  obtain⟨_,_,_,fn',hfn',_,_,_,_,hval⟩:=hok
  obtain rfl:fn'=Tryz.f3:=Option.some.inj (hfn'.symm.trans Tryz.func3)
  obtain⟨⟨⟨ds,gs,before,hw,_⟩,_⟩,hz⟩:=hpre
  refine(core (w.forCall tape i) w.heap.size i.args ds gs before hval (DataW.Whole.of_heap (w':=w.forCall tape i) (by rfl) hw) (hz.weights hw) hsh).mono λe W' ⟨v,he,hp⟩=>?_
  subst he
  exact ChangeSpec.post_blind hp

theorem jnf:Tryz.prog.funcNamed Rows.scriptParsesRow.func=some 3:=by kernel_rfl
theorem jni:Tryz.f3.isInstance Tryz.prog Rows.scriptParsesRow.origin Rows.scriptParsesRow.targs:=of_decide_eq_true (by kernel_rfl)
theorem jnw:Tryz.f3.isWrapper Tryz.prog Rows.scriptParsesRow.wrapper Rows.scriptParsesRow.mainSum:=by unfold Func.isWrapper;first|(rw[if_pos (by decide +kernel)];kernel_rfl)|(rw[if_neg (by decide +kernel)];exact⟨rfl,rfl⟩)
theorem over:Rows.scriptParsesRow.holds Tryz.pinned (OpenSpec.ofChange Rows.scriptParsesSpec):=
  OpenClaim.holds_of_wide 3 Tryz.f3 rfl rfl rfl rfl rfl rfl rfl ⟨rfl,rfl,rfl,rfl,rfl⟩ rfl rfl rfl rfl rfl jnf Tryz.func3 jnr jni jnw
    (λos started H enc _=>lifted os started H enc)

theorem proved:Rows.ScriptParsesCardSaid:=
  Claim7.holds_tied_plain_at .later [] [.data, .data, .data, .data, .pinned] true (true, "2394903d781d152cde9898a098e0e96699286f0f565b493109a4f3c701d9425c") false
    over (λ_ h=>by cases h) (by kernel_rfl) (λ_ h=>by cases h) scriptParses_row_tie rfl ⟨rfl,rfl⟩ (by kernel_rfl) rfl
    (fun f fn hf hfn=>by
      obtain rfl : f = 3 := Option.some.inj ((show Tryz.prog.funcNamed "placard/placardlaw29.ScriptParses" = some 3 by kernel_rfl).symm.trans hf) |>.symm
      obtain rfl:fn=Tryz.f3:=(Option.some.inj (Tryz.func3.symm.trans hfn)).symm
      exact ⟨by kernel_rfl,fun j t ht=>by
        rw[Tryz.params3] at ht
        have hm:t∈[9,5]:=by simpa using Array.mem_of_getElem? ht
        have hall:([9,5].all λu=>!Tryz.prog.wantsStandIn u)=true:=by kernel_rfl
        exact (show Tryz.prog.wantsStandIn t=false by simpa using List.all_eq_true.1 hall t hm)⟩)
    (goesBy_none anyP _)
end Go.Proofs.YticmemgehllacaaGreatDoor.scriptParses
