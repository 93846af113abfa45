/- Proved: the law 'ScriptPrints' answers true whatever it is called with, and leaves what it is called with as it was. Conditions: none beyond the row's own. -/
import Derived.Test.YticmemgehllacaaGreatDoorRows
import Derived.Test.YticmemgehllacaaGreatDoorCards
import Derived.Test.YticmemgehllacaaGreatDoorTie
import Derived.Test.YticmemgehllacaaGreatDoorSP6
import Derived.Test.YticmemgehllacaaGreatDoorSP7
import Derived.Test.YticmemgehllacaaGreatDoorSP3
import Derived.Shelf.Vars
import Derived.WalkKit
import Derived.ProofKit
import Derived.OpenShut
import Derived.ShutString
import Derived.ChangeOld
import Derived.Below
import Derived.Deep.Slices
import Derived.LaidMore
import Derived.Lay
import Derived.MakeChecks
import Derived.Stop.LaidErr
import Derived.Lib.LaidTab
import Derived.Stop.Joined
import Derived.SevenTiedAt
namespace Go.Proofs.YticmemgehllacaaGreatDoor.scriptPrints
open Go.Eng
open Go.ChangeShapes Go.WideShapes Go.ChangeAt Go.RowKit
open Go.ChangeMaps (open_string shut_string)
set_option linter.unusedVariables false

theorem own:ownKnob Tryz.prog.godebug=none:=by kernel_rfl
theorem laidOut:laidOutB Tryz.prog=true:=by kernel_rfl
theorem trod_flt {H:Type} {enc:TypeId×Value→H} {P:Program} {w:World} {base:Nat} {sp:Nat→Bool} {held:Bool} {fuel:Nat} {t:TypeId} {cs:List Value} {x:DataW H×List MemPlace} {k:FloatKind} (ht:P.underlying t=some (.float k)) (h:DataW.trod enc P w base sp held fuel t cs=some x):∃n,cs=[.float k n]∧(Lit.float k n).wf=true:=by
  cases fuel with
  | zero=>simp [DataW.trod] at h
  | succ m=>
    unfold DataW.trod at h
    rw [ht] at h
    split at h<;>simp_all
theorem dec5 {H:Type} {enc:TypeId×Value→H} {w:World} {sp:Nat→Bool} {held:Bool}:∀n cs (y:DataW H×List MemPlace),DataW.trod enc Tryz.prog w 0 sp held n 5 cs=some y→∃a:Int,cs=[.int .u8 a]∧inR .u8 a:=by
  intro n cs y h
  obtain ⟨v,rfl,_,hw⟩:=DataW.trod_int Tryz.underlying5 h
  exact ⟨v,rfl,wf_in hw⟩
theorem ecN5:∀l:List Int,ec (fun a:Int=>[Value.int .u8 a]) l=ei .u8 l
  | []=>rfl
  | x::t=>congrArg (List.cons (Value.int .u8 x)) (ecN5 t)
set_option maxRecDepth 100000 in
theorem dec37 {H:Type} {enc:TypeId×Value→H} {w:World} {sp:Nat→Bool} {held:Bool}:∀n cs (y:DataW H×List MemPlace),DataW.trod enc Tryz.prog w 0 sp held n 37 cs=some y→∃a:(Int×((Option Addr×Nat)×List Int)×Int×Int),cs=c37 a∧(inR .i64 a.1∧SlIn (fun a:Int=>[Value.int .u8 a]) (fun a:Int=>inR .u8 a) w a.2.1.1.1 a.2.1.2.length a.2.1.1.2 a.2.1.2∧inR .i64 a.2.2.1∧inR .i64 a.2.2.2):=by
  intro n cs y h
  obtain ⟨xs,m,rfl,hx,hlen,hxl,hf⟩:=DataW.trod_struct Tryz.underlying37 h
  have hC:Tryz.prog.cellsOf 37=4:=by kernel_rfl
  rw [hC] at hlen
  obtain ⟨v0,v1,v2,v3,rfl⟩:∃v0 v1 v2 v3,cs=[v0,v1,v2,v3]:=by
    match cs,hlen with
    | [v0,v1,v2,v3],_=>exact ⟨_,_,_,_,rfl⟩
  have hx2:xs.length=4:=hxl
  have cz3:Tryz.prog.cellsOf 3=1:=by kernel_rfl
  have cz34:Tryz.prog.cellsOf 34=1:=by kernel_rfl
  have cz35:Tryz.prog.cellsOf 35=1:=by kernel_rfl
  have f0:DataW.trod enc Tryz.prog w 0 sp held m 34 (([v0,v1,v2,v3].drop 0).take (Tryz.prog.cellsOf 34))=xs[0]?:=hf 0 _ rfl
  rw [cz34,show xs[0]?=some xs[0] from List.getElem?_eq_getElem (by omega)] at f0
  change DataW.trod enc Tryz.prog w 0 sp held m 34 [v0]=some xs[0] at f0
  obtain ⟨u0,e0,_,h0⟩:=DataW.trod_int Tryz.underlying34 f0
  simp only [List.cons.injEq,and_true] at e0
  have f1:DataW.trod enc Tryz.prog w 0 sp held m 35 (([v0,v1,v2,v3].drop 1).take (Tryz.prog.cellsOf 35))=xs[1]?:=hf 1 _ rfl
  rw [cz35,show xs[1]?=some xs[1] from List.getElem?_eq_getElem (by omega)] at f1
  change DataW.trod enc Tryz.prog w 0 sp held m 35 [v1]=some xs[1] at f1
  obtain ⟨A1,len1,cap1,e1⟩:∃A len cap,[v1]=[Value.slice A len cap]:=by
    rcases Go.Deep.open_slice Tryz.underlying35 f1 with ⟨h0,_⟩ | ⟨a,len',cap',m,n,D,Pl,hcs,_⟩
    · exact ⟨_,_,_,h0⟩
    · exact ⟨_,_,_,hcs⟩
  simp only [List.cons.injEq,and_true] at e1
  subst e1
  obtain ⟨u1,h1⟩:=slice_in (c:=(fun a:Int=>[Value.int .u8 a])) (R:=(fun a:Int=>inR .u8 a)) (sz:=1) (fun _=>rfl) (by decide) Tryz.underlying35 (by kernel_rfl) dec5 f1
  have g1:=h1.1
  subst g1
  have f2:DataW.trod enc Tryz.prog w 0 sp held m 3 (([v0,Value.slice A1 u1.length cap1,v2,v3].drop 2).take (Tryz.prog.cellsOf 3))=xs[2]?:=hf 2 _ rfl
  rw [cz3,show xs[2]?=some xs[2] from List.getElem?_eq_getElem (by omega)] at f2
  change DataW.trod enc Tryz.prog w 0 sp held m 3 [v2]=some xs[2] at f2
  obtain ⟨u2,e2,_,h2⟩:=DataW.trod_int Tryz.underlying3 f2
  simp only [List.cons.injEq,and_true] at e2
  have f3:DataW.trod enc Tryz.prog w 0 sp held m 3 (([v0,Value.slice A1 u1.length cap1,v2,v3].drop 3).take (Tryz.prog.cellsOf 3))=xs[3]?:=hf 3 _ rfl
  rw [cz3,show xs[3]?=some xs[3] from List.getElem?_eq_getElem (by omega)] at f3
  change DataW.trod enc Tryz.prog w 0 sp held m 3 [v3]=some xs[3] at f3
  obtain ⟨u3,e3,_,h3⟩:=DataW.trod_int Tryz.underlying3 f3
  simp only [List.cons.injEq,and_true] at e3
  subst e0 e2 e3
  exact ⟨(u0,((A1,cap1),u1),u2,u3),rfl,wf_in h0,h1,wf_in h2,wf_in h3⟩

theorem mem0 (w:World):Mem (frameW (phOf w) w S0 []) (phOf w) S0 [] w:=⟨fun _ _ h=>(by cases h),fun _ _ _ _ h=>(by cases h),fun _ _ h=>(by cases h),fun _ _ h=>(by cases h),phOf_on w,Bel.refl _,fun _ _ _ hv _=>hv⟩
theorem bel0 {w w':World} {q:PH} {S:Pl} {L:LL} (h:Mem (frameW (phOf w) w S0 []) q S L w'):Below w.heap.size w w':=⟨h.be.os,h.be.tape,h.be.output,h.be.size,fun k hk=>h.be.block k ⟨hk,fun _ _ h=>by cases h⟩⟩
theorem walk (w : World) (m : Int) (hm : w.cell? ⟨0, 0, none⟩ = some (.int .i64 m)) (ht : Lib.TabIs Tryz.prog w "internal/strconv.uint64pow10" .u64 Lib.pow10Tab) (A0 : Option Addr) (len0 cap0 : Nat) (l0 : List (Int × ((Option Addr × Nat) × List Int) × Int × Int)) (w0 : SlIn c37 (fun a : (Int × ((Option Addr × Nat) × List Int) × Int × Int) => inR .i64 a.1 ∧ SlIn (fun a : Int => [Value.int .u8 a]) (fun a : Int => inR .u8 a) w a.2.1.1.1 a.2.1.2.length a.2.1.1.2 a.2.1.2 ∧ inR .i64 a.2.2.1 ∧ inR .i64 a.2.2.2) w A0 len0 cap0 l0) :
    Calls Tryz.prog 4 #[.slice A0 len0 cap0] w fun e w'=>e=.returned (.bool true)∧Below w.heap.size w w':=by
  obtain rfl:len0=l0.length:=w0.1
  have hb:∀e∈l0.map e37,isBytes e.2.1:=fun e he=>by
    obtain ⟨q,hq,rfl⟩:=List.mem_map.1 he
    have h:=w0.2.2.2 q hq
    exact fun c hc=>h.2.1.2.2.2 c hc
  have hT:Reads (phOf w) (some ⟨2,0,none⟩) (ei .u64 Lib.pow10Tab):=fun j hj=>by
    have hj:j<20:=by rw [ei_len,Lib.pow10Tab_length] at hj;exact hj
    have h1:=ht.cell (g:=2) (by kernel_rfl) j (by rw [Lib.pow10Tab_length];exact hj)
    show w.cell? ⟨2,0+j,none⟩=_
    rw [Nat.zero_add,h1,ei_get (by rw [Lib.pow10Tab_length];exact hj)]
  have h:=k4_ok.2 w (phOf w) S0 (l0.map e37,true,(A0,cap0),l0,m) [.slice A0 l0.length cap0] ⟨g_eq (prints_give hb),by rw [List.length_map];exact w0.2.1,rfl,fun p hp=>(w0.2.2.2 p hp).2.1.2.1⟩ (rdsOk_app.2 ⟨⟨slin_reads w0,(fun j hj=>by match j,hj with | 0,_=>exact hm),hT,trivial⟩,rds_of fun x hx=>by obtain ⟨p,hp,hx⟩:=List.mem_flatMap.1 hx;have h:=w0.2.2.2 p hp;simp only [R37,List.mem_cons,List.not_mem_nil,or_false] at hx;rcases hx with rfl;exact (by have:=slin_reads h.2.1;rwa [ecN5] at this)⟩) (mem0 w) ⟨by show Value.slice A0 l0.length cap0=Value.slice A0 (l0.map e37).length cap0;rw [List.length_map],trivial⟩
  refine h.mono ?_
  rintro e w' ⟨v,S',q',g,rfl,hv,_,hm,_⟩
  have hv:v=.bool true:=hv
  exact ⟨by rw [hv],bel0 hm⟩

theorem door_met (os:Os) (args:Array Value):laidMetH Tryz.prog Rows.scriptPrintsRow.laid ((World.laidAll Tryz.prog os Rows.scriptPrintsRow.laid).forCall (fun _ _=>0) ⟨#[],args,[]⟩).memory:=by
  rw [MakeChecks.laidMetH_plain _ _ _ (by kernel_rfl)]
  exact laidMet_laidAll _ (by kernel_rfl) (by kernel_rfl)
theorem cellM {W:World} (h:W.ShapedOpen Tryz.prog):∃m,W.cell? ⟨0,0,none⟩=some (.int .i64 m):=
  cell_of_shapedOpen_int (t:=3) (zero:=#[.int .i64 0]) h (of_decide_eq_true (by kernel_rfl)) (by kernel_rfl) rfl (by kernel_rfl) (by kernel_rfl) Tryz.underlying3
theorem tab_eq:(Rows.laid_internal_strconv_uint64pow10:DataW Unit)=Lib.tabData .u64 Lib.pow10Tab:=by kernel_rfl
theorem tabP {W : World} (h : laidMetH Tryz.prog Rows.scriptPrintsRow.laid W) : Lib.TabIs Tryz.prog W "internal/strconv.uint64pow10" .u64 Lib.pow10Tab := by
  rw [MakeChecks.laidMetH_plain _ _ _ (by kernel_rfl)] at h
  have h1 : laidMet Tryz.prog [("math/bits.deBruijn32tab", Rows.laid_math_bits_deBruijn32tab), ("math/bits.deBruijn64tab", Rows.laid_math_bits_deBruijn64tab), ("internal/strconv.uint64pow10", Rows.laid_internal_strconv_uint64pow10), ("unicode/utf8.acceptRanges", Rows.laid_unicode_utf8_acceptRanges), ("unicode/utf8.first", Rows.laid_unicode_utf8_first)] W := h
  have h2:=h1.tail.tail
  rw [tab_eq] at h2
  exact Lib.tabIs_of_head (g:=2) (t:=430) (e:=255) (n:=20) (by kernel_rfl) (by kernel_rfl) Tryz.underlying430 Tryz.underlying255 (by kernel_rfl) (by kernel_rfl) h2
set_option maxRecDepth 100000 in
theorem core {H:Type} {enc:TypeId×Value→H} (W:World) (base:Nat) (args:Array Value) (ds gs:List (DataW H)) (before:List MemPlace)
    (hval0:∀(j:Nat) t v,Tryz.f4.params[j]?=some t→args[j]?=some v→Value.okWide Tryz.prog W .any base t v)
    (hW:DataW.Whole enc Tryz.prog Tryz.f4.params.toList Rows.scriptPrintsSpec.vars false W args.toList ds gs before)
    (hz:(DataW.weightsEach Tryz.prog (Tryz.f4.params.toList++Rows.scriptPrintsSpec.plain.varTypes Tryz.prog) (ds++gs)).all (·≤reachBytes)=true)
    (hsh:W.ShapedOpen Tryz.prog) (hL:laidMetH Tryz.prog Rows.scriptPrintsRow.laid W):Calls Tryz.prog 4 args W fun e W'=>∃v,e=.returned v∧Rows.scriptPrintsSpec.post enc Tryz.prog Tryz.f4 false true false false W args v W':=by
  have hval:∀(j:Nat) t v,Tryz.f4.params[j]?=some t→args[j]?=some v→Value.okWide Tryz.prog W .any base t v:=hval0
  have hW':=hW
  obtain ⟨p,q,hA0,hV,rfl,hfz,hnd⟩:=hW
  have hA:DataW.TrodAll enc Tryz.prog W 0 (fun _=>true) true Tryz.f4.params.toList args.toList ds p:=hA0
  rw [Tryz.params4] at hA hval
  obtain ⟨v0,vs0,d0,ds0,p0,q0,hargs,rfl,rfl,h0,r0⟩:=trodAll_cons hA
  obtain ⟨rfl,rfl,rfl⟩:=trodAll_nil r0
  obtain rfl:args=#[v0]:=by cases args;simp_all
  obtain ⟨rfl,rfl⟩:=trodVars_none hV
  obtain ⟨A0,len0,cap0,rfl⟩:=okWide_slice Tryz.underlying22 (hval 0 22 v0 rfl rfl)
  have k0:=h0
  have lt0:∀x∈p0,x.block<W.heap.size:=by obtain ⟨m,hm⟩:=k0;exact DataW.trod_lt m _ _ _ hm
  obtain ⟨l0,w0⟩:∃l:List (Int×((Option Addr×Nat)×List Int)×Int×Int),SlIn c37 (fun a:(Int×((Option Addr×Nat)×List Int)×Int×Int)=>inR .i64 a.1∧SlIn (fun a:Int=>[Value.int .u8 a]) (fun a:Int=>inR .u8 a) W a.2.1.1.1 a.2.1.2.length a.2.1.1.2 a.2.1.2∧inR .i64 a.2.2.1∧inR .i64 a.2.2.2) W A0 len0 cap0 l:=by
    obtain ⟨fuel,hf⟩:=h0
    exact slice_in c37_len (by decide) Tryz.underlying22 (by kernel_rfl) dec37 hf
  clear hA0 hval0
  obtain ⟨m,hm⟩:=cellM hsh
  refine (walk W m hm (tabP hL) A0 len0 cap0 l0 w0).mono fun e W' ⟨he,bel⟩=>?_
  subst he
  exact ⟨_,rfl,_,_,_,[],_,[],hW',trodAll_mk1 (shut_bool Tryz.underlying4 _),(trodAll_cons_mk (Below.trod laidOut (by kernel_rfl) (of_decide_eq_true (by kernel_rfl)) k0 bel lt0) trodAll_mk0),rfl,bel.frame _,fun h=>by cases h⟩

set_option maxRecDepth 100000 in
theorem lifted (os:Os) (started:os.Started) (H:Type) (enc:TypeId×Value→H) :
    ReturnsInHanded {} Tryz.checked os 4 .any (fun w args=>(Rows.scriptPrintsSpec.pre enc Tryz.prog Tryz.f4 [] false w args∧laidMetH Tryz.prog Rows.scriptPrintsRow.laid w)∧sizedMet enc Tryz.prog Tryz.f4 (OpenSpec.ofChange Rows.scriptPrintsSpec) false w args) (Rows.scriptPrintsSpec.post enc Tryz.prog Tryz.f4 false true false false):=by
  refine returnsInHanded_of_calls (C:=Tryz.checked) own started (by kernel_rfl)
    (ChangeSpec.witness_shaped (enc:=enc) (C:=Tryz.checked) (os:=os) (X:=fun w _=>laidMetH Tryz.prog Rows.scriptPrintsRow.laid w) false (World.laidAll Tryz.prog os Rows.scriptPrintsRow.laid) #[.slice none 0 0] 8 (World.laidAll_os _ _ _) (World.shaped_of_ZipB (by kernel_rfl) (by kernel_rfl)) (by kernel_rfl) (by kernel_rfl) (by kernel_rfl) (door_met os _)) ?_
  intro w tape i _ hsh _ hok hpre _
  obtain ⟨_,_,_,fn',hfn',_,_,_,_,hval⟩:=hok
  obtain rfl:fn'=Tryz.f4:=Option.some.inj (hfn'.symm.trans Tryz.func4)
  obtain ⟨⟨⟨ds,gs,before,hw,_⟩,hl⟩,hz⟩:=hpre
  refine (core (w.forCall tape i) w.heap.size i.args ds gs before hval (DataW.Whole.of_heap (w':=w.forCall tape i) (by rfl) hw) (hz.weights hw) hsh (hl.of_heap (by rfl))).mono fun e W' ⟨v,he,hp⟩=>?_
  subst he
  exact ChangeSpec.post_blind hp

theorem jnf:Tryz.prog.funcNamed Rows.scriptPrintsRow.func=some 4:=by kernel_rfl
theorem jni:Tryz.f4.isInstance Tryz.prog Rows.scriptPrintsRow.origin Rows.scriptPrintsRow.targs:=of_decide_eq_true (by kernel_rfl)
theorem jnw:Tryz.f4.isWrapper Tryz.prog Rows.scriptPrintsRow.wrapper Rows.scriptPrintsRow.mainSum:=by unfold Func.isWrapper;first | (rw [if_pos (by decide +kernel)];kernel_rfl) | (rw [if_neg (by decide +kernel)];exact ⟨rfl,rfl⟩)
theorem over:Rows.scriptPrintsRow.holds Tryz.pinned (OpenSpec.ofChange Rows.scriptPrintsSpec):=
  OpenClaim.holds_of_wide 4 Tryz.f4 rfl rfl rfl rfl rfl rfl rfl ⟨rfl,rfl,rfl,rfl,rfl⟩ rfl rfl rfl rfl rfl jnf Tryz.func4 jnr jni jnw
    (fun os started H enc _=>lifted os started H enc)

theorem proved:Rows.ScriptPrintsCardSaid:=
  Claim7.holds_tied_plain_at .later [] [.data, .data, .data, .data, .pinned] true (true, "2394903d781d152cde9898a098e0e96699286f0f565b493109a4f3c701d9425c") false
    over (fun _ h=>by cases h) (by kernel_rfl) (fun _ h=>by cases h) scriptPrints_row_tie rfl ⟨rfl,rfl⟩ (by kernel_rfl) rfl
    (fun f fn hf hfn=>by
      obtain rfl : f = 4 := Option.some.inj ((show Tryz.prog.funcNamed "placard/placardlaw29.ScriptPrints" = some 4 by kernel_rfl).symm.trans hf) |>.symm
      obtain rfl:fn=Tryz.f4:=(Option.some.inj (Tryz.func4.symm.trans hfn)).symm
      exact ⟨by kernel_rfl,fun j t ht=>by
        rw [Tryz.params4] at ht
        have hm:t∈[22]:=by simpa using Array.mem_of_getElem? ht
        have hall:([22].all fun u=>!Tryz.prog.wantsStandIn u)=true:=by kernel_rfl
        exact (show Tryz.prog.wantsStandIn t=false by simpa using List.all_eq_true.1 hall t hm)⟩)
    (goesBy_none anyP _)
end Go.Proofs.YticmemgehllacaaGreatDoor.scriptPrints
