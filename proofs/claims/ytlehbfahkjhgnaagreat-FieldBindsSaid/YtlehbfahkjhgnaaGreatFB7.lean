/- Texts that the law leans on. -/
import Derived.Test.YtlehbfahkjhgnaaGreatFB3
import Derived.Test.YtlehbfahkjhgnaaGreatFB6
import Derived.Test.YtlehbfahkjhgnaaGreatFB4
import Derived.Test.YtlehbfahkjhgnaaGreatFB5
import Derived.WalkKit
import Derived.WalkSpells
import Derived.WalkLawsBesides
import Derived.Laws.Externs
import Derived.Lib.Builder
import Derived.Lib.UnsafeStr
import Derived.Shelf.RegionOpenPlain
import Derived.Lib.Walk
set_option linter.unusedVariables false
set_option linter.unusedSimpArgs false
section
namespace Go.Proofs.YtlehbfahkjhgnaaGreat
open Go Go.Eng Go.RowKit
set_option maxHeartbeats 1000000 in
set_option maxRecDepth 100000 in
theorem cc_used (b:Nat) (w:World) (h0:w.cell? ⟨b,0,none⟩=some (.pointer (some ⟨b,0,none⟩))) :
  Calls Tryz.prog 146 #[.pointer (some ⟨b,0,none⟩)] w fun e w'=>e=.returned (.tuple #[])∧w'=w:=by
 have hj:(Tryz.prog.info? 112).map (·.size)=some 2:=by kernel_rfl
 obtain ⟨j,hj,hjs⟩:=Option.map_eq_some_iff.1 hj
 go_enter Tryz.func146,Tryz.ntmps146
 go_wp2
 rw [Lib.run_neq_ptr_same w _ Tryz.underlying110 hj]
 go_wp2
 go_end0
 exact ⟨rfl,rfl⟩
set_option maxHeartbeats 1000000 in
set_option maxRecDepth 100000 in
theorem cc_fresh (b t n:Nat) (hlies:liesAt Tryz.prog Tryz.prog.depth t (n / Tryz.prog.cellsOf t) 0 112 1=true) (hn:0<n) (w:World) (h0:w.cell? ⟨b,0,none⟩=some (.pointer none)) (hsh:w.shape? b=some (t,n)) (hfz:w.frozen? ⟨b,0,none⟩=false) :
  Calls Tryz.prog 146 #[.pointer (some ⟨b,0,none⟩)] w fun e w'=>e=.returned (.tuple #[])∧w'=w.setCell ⟨b,0,none⟩ (.pointer (some ⟨b,0,none⟩)):=by
 have hj:(Tryz.prog.info? 112).map (·.size)=some 2:=by kernel_rfl
 obtain ⟨j,hj,hjs⟩:=Option.map_eq_some_iff.1 hj
 go_enter Tryz.func146,Tryz.ntmps146
 go_wp2
 rw [Lib.run_to_unsafe w ⟨b,0,none⟩ Tryz.underlying110 Tryz.underlying207 hj (by rw [hjs];decide) hsh hn]
 simp only [Result.andThen]
 rw [Oper.upon_value]
 go_wp2
 rw [run_callFunc_extern Tryz.func186 (by kernel_rfl) (by kernel_rfl) (by kernel_rfl) (e:=Extern.AbiNoEscape.same) (by kernel_rfl)]
 rw [Lib.run_noEscape]
 simp only [Result.andThen]
 rw [Oper.upon_value]
 go_wp2
 rw [Lib.run_from_unsafe w ⟨b,0,none⟩ Tryz.underlying207 Tryz.underlying110 hj hsh hlies]
 simp only [Result.andThen]
 rw [Oper.upon_value]
 go_wp2
 go_end0
 exact ⟨rfl,rfl⟩
theorem us_nil (W:World) (q:Option Addr):(Builtin.unsafeString_ #[180,3] 9 #[.pointer q,.int .i64 0]).run Tryz.prog W=.ok (.string .empty) W:=
 Lib.run_unsafeString_none W _ _ _ q
set_option maxHeartbeats 2000000 in
set_option maxRecDepth 100000 in
theorem str_nil (b:Nat) (w:World) (cs:Array Value) (t:Nat) (hv1:cs[1]?=some (.slice none 0 0)) (hbk:w.heap[b]?=some (.cells cs t (0,0))) :
  Calls Tryz.prog 85 #[.pointer (some ⟨b,0,none⟩)] w fun e w'=>e=.returned (.string ⟨#[]⟩)∧w.grownBy w' none:=by
 have mixed:Tryz.prog.follows Departure.mixedOrders=true:=by kernel_rfl
 have hUS:=us_nil
 have c1:w.drew.cell? ⟨b,1,none⟩=some (.slice none 0 0):=by
  have:w.drew.heap[b]?=some (.cells cs t (0,0)):=hbk
  rw [Lib.cell_of_heap this];exact hv1
 have hSD:(Builtin.unsafeSliceData_ #[101] 180 #[.slice none 0 0]).run Tryz.prog w.drew=.ok (.pointer none) w.drew:=rfl
 go_enter Tryz.func85,Tryz.ntmps85
 go_wp2
 go_region_o
 all_goals (go_wp2;go_ret;exact ⟨rfl,rfl,rfl,rfl,Nat.le_refl _,fun _ _ _=>rfl⟩)
set_option maxHeartbeats 2000000 in
set_option maxRecDepth 100000 in
theorem str_noroom (b g:Nat) (cur:Array Value) (w:World) (cs:Array Value) (t:Nat) (hv1:cs[1]?=some (.slice (some ⟨g,0,none⟩) 0 0)) (hbk:w.heap[b]?=some (.cells cs t (0,0))) (hg:w.heap[g]?=some (.cells cur 5 (0,0))) :
  Calls Tryz.prog 85 #[.pointer (some ⟨b,0,none⟩)] w fun e w'=>e=.returned (.string ⟨#[]⟩)∧w.grownBy w' (some g):=by
 have mixed:Tryz.prog.follows Departure.mixedOrders=true:=by kernel_rfl
 have hUS:=us_nil
 have hlt:b<w.heap.size:=(Array.getElem?_eq_some_iff.1 hbk).1
 have c1:w.drew.cell? ⟨b,1,none⟩=some (.slice (some ⟨g,0,none⟩) 0 0):=by
  have:w.drew.heap[b]?=some (.cells cs t (0,0)):=hbk
  rw [Lib.cell_of_heap this];exact hv1
 have hSD:(Builtin.unsafeSliceData_ #[101] 180 #[.slice (some ⟨g,0,none⟩) 0 0]).run Tryz.prog w.drew=.ok (.pointer (some ⟨w.drew.heap.size,0,none⟩)) (w.drew.alloc (.view ⟨g,0,none⟩ 5)):=
  Lib.run_unsafeSliceData_zero w.drew _ _ 5 Tryz.underlying180 ⟨g,0,none⟩ 0 (5,cur.size) (by have hg':w.drew.heap[g]?=some (.cells cur 5 (0,0)):=hg;simp [World.shape?,hg'])
 have c2:(w.drew.alloc (.view ⟨g,0,none⟩ 5)).cell? ⟨b,1,none⟩=some (.slice (some ⟨g,0,none⟩) 0 0):=by
  have:(w.drew.alloc (.view ⟨g,0,none⟩ 5)).heap[b]?=_:=(Lib.alloc_old w.drew _ b hlt).trans hbk
  rw [Lib.cell_of_heap this];exact hv1
 have c3:(w.alloc (.view ⟨g,0,none⟩ 5)).drew.cell? ⟨b,1,none⟩=some (.slice (some ⟨g,0,none⟩) 0 0):=c2
 have c0:w.cell? ⟨b,1,none⟩=some (.slice (some ⟨g,0,none⟩) 0 0):=c1
 go_enter Tryz.func85,Tryz.ntmps85
 go_wp2
 go_region_o
 all_goals (go_wp2;go_ret;exact ⟨rfl,rfl,rfl,rfl,by simp,fun k hk _=>heap_alloc_old w.drew _ hk⟩)
set_option maxHeartbeats 2000000 in
set_option maxRecDepth 100000 in
theorem str_room (b g cap:Nat) (w:World) (hc0:cap≠0) (cs:Array Value) (t:Nat) (hv1:cs[1]?=some (.slice (some ⟨g,0,none⟩) 0 cap)) (hbk:w.heap[b]?=some (.cells cs t (0,0))) :
  Calls Tryz.prog 85 #[.pointer (some ⟨b,0,none⟩)] w fun e w'=>e=.returned (.string ⟨#[]⟩)∧w.grownBy w' (some g):=by
 have mixed:Tryz.prog.follows Departure.mixedOrders=true:=by kernel_rfl
 have hUS:=us_nil
 have c1:w.drew.cell? ⟨b,1,none⟩=some (.slice (some ⟨g,0,none⟩) 0 cap):=by
  have:w.drew.heap[b]?=some (.cells cs t (0,0)):=hbk
  rw [Lib.cell_of_heap this];exact hv1
 have hSD:(Builtin.unsafeSliceData_ #[101] 180 #[.slice (some ⟨g,0,none⟩) 0 cap]).run Tryz.prog w.drew=.ok (.pointer (some ⟨g,0,none⟩)) w.drew:=
  Lib.run_unsafeSliceData_row _ _ _ _ _ _ hc0
 clear hc0
 go_enter Tryz.func85,Tryz.ntmps85
 go_wp2
 go_region_o
 all_goals (go_wp2;go_ret;exact ⟨rfl,rfl,rfl,rfl,Nat.le_refl _,fun _ _ _=>rfl⟩)
set_option maxHeartbeats 2000000 in
set_option maxRecDepth 100000 in
theorem str_some (b g cap:Nat) (cur:Array Value) (l:List UInt8) (w:World) (h0:l≠[]) (cs:Array Value) (t:Nat) (hv1:cs[1]?=some (.slice (some ⟨g,0,none⟩) l.length cap)) (hbk:w.heap[b]?=some (.cells cs t (0,0))) (hg:w.heap[g]?=some (.cells cur 5 (0,0)))
  (hnc:l.length≤cap) (hcm:cap≤maxLen) (hcs:cur.size=cap) (hcell:∀j x,l[j]?=some x→w.cell? ((⟨g,0,none⟩:Addr).add j)=some (.int .u8 x.toNat)) :
  Calls Tryz.prog 85 #[.pointer (some ⟨b,0,none⟩)] w fun e w'=>e=.returned (.string ⟨l.toArray⟩)∧w.grownBy w' (some g):=by
 have mixed:Tryz.prog.follows Departure.mixedOrders=true:=by kernel_rfl
 have hl0:l.length≠0:=by simpa using h0
 have c1:w.drew.cell? ⟨b,1,none⟩=some (.slice (some ⟨g,0,none⟩) l.length cap):=by
  have:w.drew.heap[b]?=some (.cells cs t (0,0)):=hbk
  rw [Lib.cell_of_heap this];exact hv1
 have hSD:(Builtin.unsafeSliceData_ #[101] 180 #[.slice (some ⟨g,0,none⟩) l.length cap]).run Tryz.prog w.drew=.ok (.pointer (some ⟨g,0,none⟩)) w.drew:=
  Lib.run_unsafeSliceData_row _ _ _ _ _ _ (by omega)
 have hUS:(Builtin.unsafeString_ #[180,3] 9 #[.pointer (some ⟨g,0,none⟩),.int .i64 l.length]).run Tryz.prog w.drew=.ok (.string ⟨l.toArray⟩) (w.drew.freeze ⟨g,0,none⟩ l.length):=by
  refine Lib.run_unsafeString_row w.drew 180 3 9 5 Tryz.underlying180 (by kernel_rfl) g cur.size (by have hg':w.drew.heap[g]?=some (.cells cur 5 (0,0)):=hg;simp [World.shape?,hg']) l h0 (by omega) (by unfold maxLen at hcm;omega) ?_
  intro j x hx
  exact hcell j x hx
 have hfz:w.grownBy (w.drew.freeze ⟨g,0,none⟩ l.length) (some g):=by
  unfold World.freeze
  rw [if_neg hl0]
  refine ⟨rfl,rfl,rfl,by simp,fun k _ hk=>?_⟩
  have hne:g≠k:=fun e=>hk (by rw [e])
  show (Array.modify _ g _)[k]?=_
  rw [Array.getElem?_modify,if_neg hne]
  rfl
 clear hcell hcs hnc hcm h0
 go_enter Tryz.func85,Tryz.ntmps85
 go_wp2
 go_region_o
 all_goals (go_wp2;go_ret;exact ⟨rfl,hfz⟩)
end Go.Proofs.YtlehbfahkjhgnaaGreat
end
section
namespace Go.Proofs.YtlehbfahkjhgnaaGreat
open Go Go.Eng Go.RowKit Go.Eng.Exe
noncomputable section
def strsL (l:List Value):Option (List ByteArray):=List.rec (motive:=fun _=>Option (List ByteArray)) (some [])
 (fun x _ ih=>match x,ih with | .string s,some r=>some (s::r) | _,_=>none) l
theorem strsL_c {x:Value} {r:List Value}:strsL (x::r)=(match x,strsL r with | .string s,some r=>some (s::r) | _,_=>none):=rfl
theorem strsL_ok:∀{l:List Value} {ss:List ByteArray},strsL l=some ss→l=ss.map .string
 | [],ss,h=>by cases h;rfl
 | x::r,ss,h=>by
  rw [strsL_c] at h
  split at h
  ·rename_i s r' hr;cases h;rw [List.map_cons,←strsL_ok hr]
  ·cases h
theorem calls_of {f : Nat} (hP : ∃ fn, Tryz.prog.funcs[f]? = some fn ∧ (fn.name == "runtime.NumGoroutine") = false ∧ fn.body.isSome = true) : ∀ args w, (callFunc f args).run Tryz.prog w = .ok (.enter f args) w := fun args w => by
 obtain ⟨fn,hP,hname,hb⟩:=hP
 have hname' : ¬ fn.name = "runtime.NumGoroutine" := by simpa using hname
 obtain ⟨c,hc⟩:=Option.isSome_iff_exists.1 hb
 simp [callFunc,hP,hname',hc]
theorem src_room {q:PH} {S:Pl} {L:LL} {w0:W0} {w:World} {m:Nat} {x:SV} {ys:List SV} {A:Option Addr} {c m':Nat} (hm:Mem w0 q S L w) (h:xsrc L 1 x=some (m,ys)) (hx:okv S x (.slice A m' c)):m'=m→m≤c:=by
 intro e
 subst e
 unfold xsrc at h
 split at h
 ·cases h;exact Nat.zero_le _
 ·rename_i j
  have hx:Value.slice A m' c=.slice (S j).A (S j).n (S j).c:=hx
  injection hx with e1 e2 e3
  split at h
  ·rename_i e' sz' n' cs hj
   split at h
   rotate_left
   ·cases h
   cases h
   obtain ⟨xs,hown,_⟩:=hm.ch j _ hj
   rcases hown.1.2 with ⟨hv,h0⟩ | ⟨g,cap,cur,hv,_,_,hle,_⟩
   ·omega
   ·injection hv with f1 f2 f3
    omega
  ·rename_i e' n' xs hj
   split at h
   rotate_left
   ·cases h
   cases h
   obtain ⟨_,_,_,hle,_⟩:=hm.ch j _ hj
   omega
  ·cases h
 ·rename_i j lo sz'' m2 ex
  obtain ⟨A2,c2,e1,e2,_⟩:=hx
  injection e1 with f1 f2 f3
  have:m2=m':=by
   split at h
   ·split at h
    ·cases h;rfl
    ·cases h
   ·split at h
    ·cases h;rfl
    ·cases h
   ·cases h
  omega
 ·cases h
def pJoin:XH:=fun args nk M=>match args with
 | [s,.v (.string sep)]=>(match xsrcM M.get 1 s with
  | some (m,cs)=>(match rowVL cs with
   | some xs=>(match strsL xs with
    | some ss=>(match Nat.ble ss.length 140737488355328,Nat.ble (Lib.join (ss.map (·.data.toList)) sep.data.toList).length 140737488355328 with
     | true,true=>some (.v (.string ⟨(Lib.join (ss.map (·.data.toList)) sep.data.toList).toArray⟩),nk,M)
     | _,_=>none)
    | none=>none)
   | none=>none)
  | none=>none)
 | _=>none
def pRep:XH:=fun args nk M=>match args with
 | [.v (.string s),.v (.int .i64 c)]=>(match in3 0 c 9223372036854775807,Nat.ble (s.size * c.toNat) 140737488355328 with
  | true,true=>some (.v (.string ⟨(Lib.repeatL s.data.toList c.toNat).toArray⟩),nk,M)
  | _,_=>none)
 | _=>none
def tbs (t n:Nat):Bool:=(Nat.beq t 112 && Nat.beq n 2)
theorem tbs_ok {t n:Nat} (h:tbs t n=true):liesAt Tryz.prog Tryz.prog.depth t (n / Tryz.prog.cellsOf t) 0 112 1=true∧0<n:=by
 simp only [tbs,Bool.or_eq_true,Bool.and_eq_true] at h
 rcases h with h<;>(have h1:=Nat.eq_of_beq_eq_true h.1;have h2:=Nat.eq_of_beq_eq_true h.2;subst h1;subst h2;exact ⟨by kernel_rfl,by decide⟩)
def pCc:XH:=fun args nk M=>match args with
 | [.lp k 0]=>(match M.get k with
  | some (.cells t (a::b::l))=>(match tbs t (l.length+2) with
   | true=>(match a with
    | .v (.pointer none)=>(match xput M k (some (.cells t (.lp k 0::b::l))) with | some M'=>some (.tup [],nk,M') | none=>none)
    | .lp k' 0=>(match Nat.beq k' k with | true=>some (.tup [],nk,M) | false=>none)
    | _=>none)
   | false=>none)
  | _=>none)
 | _=>none
def pStr:XH:=fun args nk M=>match args with
 | [.lp k 0]=>(match M.get k with
  | some (.cells t (a::b::l))=>(match tbs t (l.length+2) with
   | true=>(match b with
    | .v (.slice none 0 0)=>some (.v (.string ⟨#[]⟩),nk,M)
    | .own j=>(match M.get j with
     | some (.row e sz n cs)=>(match Nat.beq e 5,Nat.beq sz 1,Nat.beq j k,rowVL cs with
      | true,true,false,some xs=>(match xbytes xs,xput M j none with
       | some bs,some M'=>some (.v (.string ⟨bs.toArray⟩),nk,M')
       | _,_=>none)
      | _,_,_,_=>none)
     | _=>none)
    | _=>none)
   | false=>none)
  | _=>none)
 | _=>none
abbrev PrimOk (f:Nat) (p:XH):Prop:=∀(w0:W0) args nk q L M vs w (S:Pl) (r:Option Nat) n y nk' M',p args nk M=some (y,nk',M')→Rep M L→hL nk L→hS nk args→okL S args vs→Mem w0 q S L w →
 (∀args w,(callFunc f args).run Tryz.prog w=.ok (.enter f args) w) ∧
 CallsIn (FF r) n Tryz.prog f vs.toArray w fun e w'=>∃v S' q' L',e=.returned v∧okv S' y v∧(∀k,k<nk→S' k=S k)∧Mem w0 q' S' L' w'∧(∀d,d<nk→getL L d=some .dfr→getL L' d=some .dfr)∧Rep M' L'∧hL nk' L'
theorem pJoin_ok : PrimOk 201 pJoin := by
  intro w0 args nk q L M vs w S r n y nk' M' h hR hl hs hvs hm
  unfold pJoin at h
  split at h
  rotate_left
  · cases h
  rename_i s sep
  split at h
  rotate_left
  · cases h
  rename_i m cs hsrc
  split at h
  rotate_left
  · cases h
  rename_i xs hxs
  split at h
  rotate_left
  · cases h
  rename_i ss hss
  split at h
  rotate_left
  · cases h
  rename_i h1 h2
  cases h
  have h1 := Nat.le_of_ble_eq_true h1
  have h2 := Nat.le_of_ble_eq_true h2
  match vs, hvs with
  | [u, v], hvs =>
  obtain ⟨hu, hv, _⟩ := hvs
  have hv : v = .string sep := hv
  subst hv
  rw [← xsrc_eq hR] at hsrc
  obtain ⟨A, c, vals, hue, ⟨hlen, hcell⟩, hok, _, _⟩ := xsrc_ok hm hsrc hu
  have hvals := rowVL_ok hxs hok
  subst hvals
  have hse := strsL_ok hss
  subst hue
  have hroom := src_room hm hsrc hu rfl
  have hml : ss.length = m := by have : vals.length = ss.length := by rw [hse]; simp
                                 omega
  refine ⟨calls_of ⟨_, Tryz.func201, (nq9 Tryz.func201), rfl⟩, ?_⟩
  have fin : Calls Tryz.prog 201 #[.slice A m c, .string sep] w fun e w' => e = .returned (.string ⟨(Lib.join (ss.map (·.data.toList)) sep.data.toList).toArray⟩) ∧ Below w.heap.size w w' := by
    by_cases h0 : ss = []
    · subst h0
      have hm0 : m = 0 := by simpa using hml.symm
      subst hm0
      refine (Tryz.strings_Join_none A c sep w).mono ?_
      rintro e w' ⟨rfl, rfl⟩
      exact ⟨rfl, Below.refl _ _⟩
    · have hp : 0 < ss.length := List.length_pos_iff.2 h0
      have key : ∀ j x, ss[j]? = some x → ∃ a, A = some a ∧ a.spot = none ∧ w.cell? ⟨a.block, a.off + j, none⟩ = some (.string x) := fun j x hx => by
        obtain ⟨a, e1, e2, e3⟩ := hcell j (.string x) (by rw [hse, List.getElem?_map, hx]; rfl)
        refine ⟨a, e1, e2, ?_⟩
        obtain ⟨b, o, sp⟩ := a
        have e2 : sp = none := e2
        subst e2
        exact e3
      obtain ⟨a, e1, e2, e3⟩ := key 0 _ (List.getElem?_eq_getElem hp)
      subst e1
      obtain ⟨b, o, sp⟩ := a
      have e2 : sp = none := e2
      subst e2
      have := Tryz.strings_Join b o c ss sep w (fun j x hx => by
        obtain ⟨a, f1, f2, f3⟩ := key j x hx
        cases f1
        exact f3) (World.block_lt_of_cell? w _ e3) h1 (by omega) h2
      rw [hml] at this
      exact this
  refine (calls_ff fin).mono ?_
  rintro e w' ⟨rfl, hb⟩
  exact ⟨_, S, q, L, rfl, rfl, fun _ _ => rfl, hm.below hb, fun _ _ h => h, hR, hl⟩
theorem pRep_ok:PrimOk 37 pRep:=by
 intro w0 args nk q L M vs w S r n y nk' M' h hR hl hs hvs hm
 unfold pRep at h
 split at h
 rotate_left
 ·cases h
 rename_i s c
 split at h
 rotate_left
 ·cases h
 rename_i h1 h2
 cases h
 have h1:=in3_ok h1
 have h2:=Nat.le_of_ble_eq_true h2
 match vs,hvs with
 | [u,v],hvs=>
 obtain ⟨hu,hv,_⟩:=hvs
 have hv:v=.int .i64 c:=hv
 have hu:u=.string s:=hu
 subst hv hu
 refine ⟨calls_of ⟨_,Tryz.func37,(nq9 Tryz.func37),rfl⟩,?_⟩
 have:=Tryz.strings_Repeat s c.toNat w (by omega) h2
 rw [Int.toNat_of_nonneg h1.2.1] at this
 refine (calls_ff this).mono ?_
 rintro e w' ⟨rfl,hb⟩
 exact ⟨_,S,q,L,rfl,rfl,fun _ _=>rfl,hm.below hb,fun _ _ h=>h,hR,hl⟩
theorem pCc_ok:PrimOk 146 pCc:=by
 intro w0 args nk q L M vs w S r n y nk' M' h hR hl hs hvs hm
 unfold pCc at h
 split at h
 rotate_left
 ·cases h
 rename_i k
 split at h
 rotate_left
 ·cases h
 rename_i t x z l hk
 split at h
 rotate_left
 ·cases h
 rename_i ht
 have ht:=tbs_ok ht
 match vs,hvs with
 | [v],hvs=>
 have hv:v=.pointer (some ⟨(S k).b,0,none⟩):=hvs.1
 subst hv
 refine ⟨calls_of ⟨_,Tryz.func146,(nq9 Tryz.func146),rfl⟩,?_⟩
 have hk':=hk
 rw [←hR k] at hk'
 obtain ⟨_,us,hh,hok⟩:=hm.ch k _ hk'
 match us,hok with
 | p::u::us,hok=>
 obtain ⟨hpx,huz,hrest⟩:=hok
 have hz:hS nk (z::l):=fun j hj=>hl.get hk' j (by rw [LB.has,hasL_cons,hj,Bool.or_true])
 have hlen:=okL_length hrest
 split at h
 ·have hpx:p=.pointer none:=hpx
  subst hpx
  split at h
  rotate_left
  ·cases h
  rename_i M1 hM
  cases h
  refine (calls_ff (cc_fresh (S k).b t (l.length+2) ht.1 ht.2 w ?_ ?_ ?_)).mono ?_
  ·rw [Lib.cell_of_heap hh];rfl
  ·simp [World.shape?,hh,hlen]
  ·exact Lib.frozen_of_heap hh 0
  ·rintro e w' ⟨rfl,rfl⟩
   have hset:w.setCell ⟨(S k).b,0,none⟩ (.pointer (some ⟨(S k).b,0,none⟩))=w.setRow (S k).b (.pointer (some ⟨(S k).b,0,none⟩)::u::us).toArray:=by rw [setCell_eq_setRow w _ 0 _ _ _ _ hh];simp
   rw [hset]
   have hmt:=hm.turn (lb':=.cells t (.lp k 0::z::l)) hk' rfl (w':=w.setRow (S k).b (.pointer (some ⟨(S k).b,0,none⟩)::u::us).toArray) ⟨rfl,rfl,rfl,by simp,fun k _ hk=>setRow_other w _ k _ (fun e=>hk (by rw [e]))⟩ ⟨Nat.zero_le _,.pointer (some ⟨(S k).b,0,none⟩)::u::us,setRow_heap w _ _ _ _ _ hh,rfl,huz,hrest⟩ rfl
   refine ⟨_,S,q,_,rfl,⟨[],rfl,trivial⟩,fun _ _=>rfl,hmt,fun d hd hdL=>?_,hR.set hk' hM,hl.set (.cells (hz.cons (hV_lp (hl.key hk'))))⟩
   rw [getL_setL,if_neg (fun e=>by subst e;rw [hk'] at hdL;cases hdL)]
   exact hdL
 ·rename_i k'
  split at h
  rotate_left
  ·cases h
  rename_i e
  have e:=Nat.eq_of_beq_eq_true e
  subst e
  cases h
  have hpx:p=.pointer (some ⟨(S k').b,0,none⟩):=hpx
  subst hpx
  refine (calls_ff (cc_used (S k').b w ?_)).mono ?_
  ·rw [Lib.cell_of_heap hh];rfl
  ·rintro e w' ⟨rfl,rfl⟩
   exact ⟨_,S,q,L,rfl,⟨[],rfl,trivial⟩,fun _ _=>rfl,hm,fun _ _ h=>h,hR,hl⟩
 ·cases h
theorem pStr_ok:PrimOk 85 pStr:=by
 intro w0 args nk q L M vs w S r n y nk' M' h hR hl hs hvs hm
 unfold pStr at h
 split at h
 rotate_left
 ·cases h
 rename_i k
 split at h
 rotate_left
 ·cases h
 rename_i t x z l hk
 split at h
 rotate_left
 ·cases h
 rename_i ht
 have ht:=tbs_ok ht
 match vs,hvs with
 | [v],hvs=>
 have hv:v=.pointer (some ⟨(S k).b,0,none⟩):=hvs.1
 subst hv
 refine ⟨calls_of ⟨_,Tryz.func85,(nq9 Tryz.func85),rfl⟩,?_⟩
 have hk':=hk
 rw [←hR k] at hk'
 obtain ⟨_,us,hh,hok⟩:=hm.ch k _ hk'
 match us,hok with
 | p::u::us,hok=>
 obtain ⟨hpx,huz,hrest⟩:=hok
 split at h
 ·have huz:u=.slice none 0 0:=huz
  subst huz
  cases h
  refine (calls_ff (str_nil (S k).b w _ _ rfl hh)).mono ?_
  rintro e w' ⟨rfl,hgr⟩
  exact ⟨_,S,q,L,rfl,rfl,fun _ _=>rfl,hm.below ((Below.refl _ w).grown hgr (Nat.le_refl _) (fun k e=>by cases e)),fun _ _ h=>h,hR,hl⟩
 ·rename_i j
  split at h
  rotate_left
  ·cases h
  rename_i e sz m cs hj
  split at h
  rotate_left
  ·cases h
  rename_i xs h1 h2 h3 hxs
  split at h
  rotate_left
  ·cases h
  rename_i bs M1 hbs hM
  cases h
  have h1:=Nat.eq_of_beq_eq_true h1
  have h2:=Nat.eq_of_beq_eq_true h2
  subst h1 h2
  have hj':=hj
  rw [←hR j] at hj'
  obtain ⟨ys,⟨hown,hn,_,_,hA⟩,hys⟩:=hm.ch j _ hj'
  have hyx:=rowVL_ok hxs hys
  subst hyx
  have hyb:=xbytes_ok hbs
  have hu:u=.slice (S j).A (S j).n (S j).c:=huz
  subst hu
  have hmb:bs.length=m:=by
   have:=hown.1
   rw [hyb] at this
   simpa using this
  rw [hn] at hh hown
  have done:∀(g:Nat),blk S j (.row 5 1 m cs)=some g→∀e w',(e=Ending.returned (.string ⟨bs.toArray⟩)∧w.grownBy w' (some g))→∃v S' q' L',e=.returned v∧okv S' (.v (.string ⟨bs.toArray⟩)) v∧(∀k,k<nk→S' k=S k)∧Mem w0 q' S' L' w'∧(∀d,d<nk→getL L d=some .dfr→getL L' d=some .dfr)∧Rep M' L'∧hL nk L':=by
   rintro g hg e w' ⟨rfl,hgr⟩
   refine ⟨_,S,q,_,rfl,rfl,fun _ _=>rfl,hm.lose (k:=j) hj' hg hgr,fun d hd hdL=>?_,hR.rem hM,hL.rem hl⟩
   rw [getL_remL,if_neg (fun e=>by subst e;rw [hj'] at hdL;cases hdL)]
   exact hdL
  rcases hown.2 with ⟨hv,h0⟩ | ⟨g,cap,cur,hv,_,hg,hnc,hcm,hcs,htake⟩
  ·injection hv with e1 e2 e3
   have hb0:bs=[]:=List.eq_nil_of_length_eq_zero (by omega)
   subst hb0
   rw [e1,e2,e3] at hh
   refine (calls_ff (str_nil (S k).b w _ _ rfl hh)).mono ?_
   rintro e w' ⟨rfl,hgr⟩
   have hm':=(hm.below ((Below.refl _ w).grown hgr (Nat.le_refl _) (fun k e=>by cases e))).rem j
   refine ⟨_,S,q,_,rfl,rfl,fun _ _=>rfl,hm',fun d hd hdL=>?_,hR.rem hM,hL.rem hl⟩
   rw [getL_remL,if_neg (fun e=>by subst e;rw [hj'] at hdL;cases hdL)]
   exact hdL
  ·injection hv with e1 e2 e3
   rw [e1,e3] at hh
   have hgb:blk S j (.row 5 1 m cs)=some g:=by simp [blk,e1]
   by_cases h0:bs=[]
   ·subst h0
    have hm0:m=0:=by simpa using hmb.symm
    subst hm0
    by_cases hc:cap=0
    ·subst hc
     exact (calls_ff (str_noroom (S k).b g cur w _ _ rfl hh hg)).mono (done g hgb)
    ·exact (calls_ff (str_room (S k).b g cap w hc _ _ rfl hh)).mono (done g hgb)
   ·refine (calls_ff (str_some (S k).b g cap cur bs w h0 _ _ (by rw [hmb];rfl) hh hg (by rw [hmb];exact hnc) hcm (by simpa using hcs) fun i x hx=>?_)).mono (done g hgb)
    have hcell:=hown.cells (g:=g) (by rw [e1];rfl) i (.int .u8 x.toNat) (by
     rw [hyb,List.getElem?_map,hx]
     rfl)
    exact hcell
 ·cases h
def eBits:List SV→Option SV:=fun args=>match args with | [.v (.float .f64 b)]=>some (.v (.int .u64 b)) | _=>none
def TrAll {α:Type} (T:Tr α) (Q:Nat→α→Prop):Prop:=∀k v,T.get k=some v→Q k v
theorem tr_nil {α:Type} {Q:Nat→α→Prop}:TrAll (.nil:Tr α) Q:=fun _ _ h=>by simp [Tr.get_n] at h
theorem tr_node {α:Type} {Q:Nat→α→Prop} {l r:Tr α} {k:Nat} {v:α} (hl:TrAll l Q) (h:Q k v) (hr:TrAll r Q):TrAll (.node l k v r) Q:=fun j u hj=>by
 rw [Tr.get_c] at hj
 split at hj
 ·rename_i e;cases hj;rw [Nat.eq_of_beq_eq_true e];exact h
 ·split at hj
  ·exact hl j u hj
  ·exact hr j u hj
theorem eBits_ok (f : Nat) {fn : Func} (hf : Tryz.prog.funcs[f]? = some fn) (hname : (fn.name == "runtime.NumGoroutine") = false) (hb : fn.body.isNone = true) (hn : Extern.findNext fn = none) (he : Extern.find fn = some Extern.MathFloatBits.float64bits) :
  ∀(S:Pl) args vs y,okL S args vs→eBits args=some y→∃v,okv S y v∧((∀w,(callFunc f vs.toArray).run Tryz.prog w=.ok (.value v) w)∨((∀args w,(callFunc f args).run Tryz.prog w=.ok (.enter f args) w)∧∀w,Calls Tryz.prog f vs.toArray w fun e w'=>e=.returned v∧Below w.heap.size w w')):=by
 intro S args vs y hvs h
 unfold eBits at h
 split at h
 rotate_left
 ·cases h
 cases h
 match vs,hvs with
 | [u],hvs=>
 have hu:u=.float .f64 _:=hvs.1
 subst hu
 exact ⟨_,rfl,.inl fun w=>by rw [run_callFunc_extern hf hname hb hn he];rfl⟩
def prims:Tr XH:=(.node (.node (.node .nil 37 pRep .nil) 85 pStr .nil) 146 pCc (.node .nil 201 pJoin .nil))
def exts:Tr (List SV→Option SV):=(.node .nil 157 eBits .nil)
theorem exts_ok:ExtOk Tryz.prog exts:=fun f g hg=>(show TrAll exts (fun f g=>∀(S:Pl) args vs y,okL S args vs→g args=some y→∃v,okv S y v∧((∀w,(callFunc f vs.toArray).run Tryz.prog w=.ok (.value v) w)∨((∀args w,(callFunc f args).run Tryz.prog w=.ok (.enter f args) w)∧∀w,Calls Tryz.prog f vs.toArray w fun e w'=>e=.returned v∧Below w.heap.size w w'))) from (tr_node tr_nil (eBits_ok 157 Tryz.func157 (nq9 Tryz.func157) rfl (by kernel_rfl) (by kernel_rfl)) tr_nil)) f g hg
def zt:Zt:=[(91,.int .i64 0)]
theorem zt_ok:ZOk Tryz.prog zt:=by
 intro p hp
 simp only [zt,List.mem_cons,List.not_mem_nil,or_false] at hp
 subst hp;kernel_rfl
def XX:XE:={ E:=envC [] true [],Z:=zt,ext:=exts,prim:=prims }
theorem xx_ok:XOk Tryz.prog XX:=⟨envC_ok css_nil,zt_ok,exts_ok⟩
theorem xx_prims:PrimsOk Tryz.prog XX:=fun f p hp=>(show TrAll prims (fun f p=>PrimOk f p) from (tr_node (tr_node (tr_node tr_nil pRep_ok tr_nil) pStr_ok tr_nil) pCc_ok (tr_node tr_nil pJoin_ok tr_nil))) f p hp
theorem xx_bodies:bodiesOk XX.E.FT=true:=by kernel_rfl
end
end Go.Proofs.YtlehbfahkjhgnaaGreat
end
section
namespace Go.Proofs.YtlehbfahkjhgnaaGreat
open Go Go.Eng Go.RowKit Go.Eng.Exe
noncomputable section
theorem run9:isTrue (xN XX 1000 30 [] 9 [] 0 .lf)=true:=by kernel_rfl
theorem aw9:(∀args w,(callFunc 9 args).run Tryz.prog w=.ok (.enter 9 args) w)∧∀w,Calls Tryz.prog 9 #[] w fun e w'=>e=.returned (.bool true)∧Below w.heap.size w w':=
 closed_true xx_ok xx_prims xx_bodies run9
def g9:Option Bool:=some true
def k9:Eng.CS:={ f:=9,calm:=true,more:=0,ι:=Bool,ok:=fun i=>g9=some i,rds:=fun _=>[],args:=fun _=>[],res:=fun i=>bS i }
theorem k9_ok:CalmOk Tryz.prog k9:=by
 refine ⟨fun args w=>aw9.1 args w,?_⟩
 rintro w q S r vs hok _ hm hargs
 have hr:true=r:=Option.some.inj (show some true=some r from hok)
 subst hr
 match vs,hargs with
 | [],_=>exact aw9.2 w
end
end Go.Proofs.YtlehbfahkjhgnaaGreat
end
section
set_option maxRecDepth 8000
set_option maxHeartbeats 4000000
namespace Go.Proofs.YtlehbfahkjhgnaaGreat
open Go Go.Eng
noncomputable def g3 (a0:(Int×ByteArray×ByteArray×List ByteArray×Int×Int×Nat×Nat×Nat×ByteArray×Int×Bool×List Int×Nat×ByteArray×ByteArray)) (a1:(ByteArray×Int×Bool×List Int×Nat)):Option (Bool):=
 (g4 a0).bind fun v1=>
 (g5 a1).bind fun v16=>
 (g6 v1 v16).bind fun v27=>
 (g7 v1 v16).bind fun v34=>
 if v27.2=v34.2 then
  (
   (g8 v27.1 v34.1).bind fun v42=>
   if v42=true then
    (
     (g9).bind fun v45=>
     some v45
    )
   else
    some false
  )
 else
  some false
noncomputable def k3:Eng.CS:={ f:=3,calm:=false,more:=0,ι:=(Int×ByteArray×ByteArray×List ByteArray×Int×Int×Nat×Nat×Nat×ByteArray×Int×Bool×List Int×Nat×ByteArray×ByteArray)×(ByteArray×Int×Bool×List Int×Nat)×Bool×((Option Addr×Nat)×(Option Addr×Nat)×(Option Addr×Nat)),ok:=fun i=>g3 i.1 i.2.1=some i.2.2.1∧i.1.2.2.2.1.length≤i.2.2.2.1.2∧i.1.2.2.2.2.2.2.2.2.2.2.2.2.1.length≤i.2.2.2.2.1.2∧i.2.1.2.2.2.1.length≤i.2.2.2.2.2.2,rds:=fun i=>[(i.2.2.2.1.1,es i.1.2.2.2.1),(i.2.2.2.2.1.1,ei .i64 i.1.2.2.2.2.2.2.2.2.2.2.2.2.1),(i.2.2.2.2.2.1,ei .i64 i.2.1.2.2.2.1)],args:=fun i=>[.w (.agg [.v (.int .i64 (i.1.1)),.v (.string (i.1.2.1)),.v (.string (i.1.2.2.1)),.v (.slice i.2.2.2.1.1 i.1.2.2.2.1.length i.2.2.2.1.2),.v (.int .i64 (i.1.2.2.2.2.1)),.v (.int .i64 (i.1.2.2.2.2.2.1)),.v (.float .f64 (i.1.2.2.2.2.2.2.1)),.v (.float .f64 (i.1.2.2.2.2.2.2.2.1)),.v (.float .f64 (i.1.2.2.2.2.2.2.2.2.1)),.v (.string (i.1.2.2.2.2.2.2.2.2.2.1)),.v (.int .i64 (i.1.2.2.2.2.2.2.2.2.2.2.1)),bS i.1.2.2.2.2.2.2.2.2.2.2.2.1,.v (.slice i.2.2.2.2.1.1 i.1.2.2.2.2.2.2.2.2.2.2.2.2.1.length i.2.2.2.2.1.2),.v (.float .f64 (i.1.2.2.2.2.2.2.2.2.2.2.2.2.2.1)),.v (.string (i.1.2.2.2.2.2.2.2.2.2.2.2.2.2.2.1)),.v (.string (i.1.2.2.2.2.2.2.2.2.2.2.2.2.2.2.2))]),.w (.agg [.v (.string (i.2.1.1)),.v (.int .i64 (i.2.1.2.1)),bS i.2.1.2.2.1,.v (.slice i.2.2.2.2.2.1 i.2.1.2.2.2.1.length i.2.2.2.2.2.2),.v (.float .f64 (i.2.1.2.2.2.2))])],res:=fun _=>.bad,rn:=[],gr:=true,γ:=Unit,resG:=fun i _=>bS i.2.2.1,LG:=fun i _=>[],okG:=fun i _=>True,rdsG:=fun i _=>[],fzr:=[] }
theorem k3_ok:CSOk Tryz.prog k3:=by
 refine R.cspecG Tryz.func3 (nq9 Tryz.func3) rfl rfl (fun _=>rfl) ?_
 rintro ⟨a0,a1,r,⟨⟨A0_3,cp0_3⟩,⟨A0_12,cp0_12⟩,⟨A1_3,cp1_3⟩⟩⟩ ⟨hok,hc0_3,hc0_12,hc1_3⟩ q hrds args hargs
 obtain ⟨hR0_3,hR0_12,hR1_3,_⟩:=hrds
 dsimp only at hR0_3 hc0_3 hR0_12 hc0_12 hR1_3 hc1_3
 dsimp only [k3] at hargs ⊢
 match args,hargs with
 | [_,_],hargs=>
 obtain ⟨rfl,rfl,_⟩:=hargs
 refine ⟨envC [k4,k5,k6,k7,k8,k9] false [],6,envC_ok (css_cons ⟨fun h=>(by cases h),fun _=>k4_ok⟩ (css_cons ⟨fun h=>(by cases h),fun _=>k5_ok⟩ (css_cons ⟨fun h=>(by cases h),fun _=>k6_ok⟩ (css_cons ⟨fun h=>(by cases h),fun _=>k7_ok⟩ (css_cons ⟨fun _=>k8_ok,fun h=>(by cases h)⟩ (css_cons ⟨fun _=>k9_ok,fun h=>(by cases h)⟩ (css_nil))))))),?_⟩
 have H:Gives (g3 a0 a1) (fun a=>a=r):=⟨r,hok,rfl⟩
 unfold g3 at H
 clear hok
 refine And.intro ⟨by kernel_rfl⟩ ?_
 refine ⟨(Pn.calm 0 (Pn.calm 2 (Pn.eff 1 [0] (Pn.eff 3 [2,1,0] (Pn.eff 4 [1,3,0,2] (Pn.eff 5 [3,4,0,1,2] Pn.done Pn.no) Pn.no) Pn.no) Pn.no))),⟨by kernel_rfl⟩,?_⟩
 refine And.intro ?_ trivial
 obtain ⟨v1,hv2,H⟩:=call_st H
 refine ⟨(a0,v1,((A0_3,cp0_3),(A0_12,cp0_12))),⟨hv2,hc0_3,hc0_12⟩,⟨⟨hR0_3,hR0_12,trivial⟩⟩,?_⟩
 iterate 11 refine And.intro ⟨rfl⟩ ?_
 refine mo1FB2 ?_
 iterate 4 refine And.intro ⟨rfl⟩ ?_
 intro q3 g4 hq5 hok6 hrd7
 obtain ⟨⟨A8,c9⟩,⟨A12,c13⟩⟩:=g4
 obtain ⟨hc10,hc14⟩:=hok6
 obtain ⟨hR11,hR15,_⟩:=hrd7
 try dsimp only at hc10 hR11 hc14 hR15
 refine And.intro ⟨fun _ _ _ h=>(hq5 _ _ _ h)⟩ ?_
 refine And.intro ?_ trivial
 obtain ⟨v16,hv17,H⟩:=call_st H
 refine ⟨(a1,v16,(A1_3,cp1_3)),⟨hv17,hc1_3⟩,⟨⟨(Reads.mono hq5 hR1_3),trivial⟩⟩,?_⟩
 iterate 2 refine And.intro ⟨rfl⟩ ?_
 refine mo1FB2 ?_
 iterate 2 refine And.intro ⟨rfl⟩ ?_
 intro q18 g19 hq20 hok21 hrd22
 obtain ⟨A23,c24⟩:=g19
 have hc25:=hok21
 obtain ⟨hR26,_⟩:=hrd22
 try dsimp only at hc25 hR26
 refine And.intro ⟨fun _ _ _ h=>(hq20 _ _ _ h)⟩ ?_
 refine And.intro ?_ trivial
 refine And.intro ⟨fun _ _ _ h=>h⟩ ?_
 refine And.intro ?_ trivial
 refine And.intro ⟨fun _ _ _ h=>h⟩ ?_
 obtain ⟨v27,hv28,H⟩:=call_st H
 refine ⟨(v1,v16,v27,((A8,c9),(A12,c13),(A23,c24))),⟨hv28,hc10,hc14,hc25⟩,⟨⟨(Reads.mono hq20 hR11),(Reads.mono hq20 hR15),hR26,trivial⟩⟩,?_⟩
 iterate 11 refine And.intro ⟨rfl⟩ ?_
 refine mo1FB2 ?_
 iterate 6 refine And.intro ⟨rfl⟩ ?_
 refine mo1FB2 ?_
 iterate 2 refine And.intro ⟨rfl⟩ ?_
 intro q29 g30 hq31 hok32 hrd33
 obtain ⟨v34,hv35,H⟩:=call_st H
 refine ⟨(v1,v16,v34,((A8,c9),(A12,c13),(A23,c24))),⟨hv35,hc10,hc14,hc25⟩,⟨⟨(Reads.mono hq31 (Reads.mono hq20 hR11)),(Reads.mono hq31 (Reads.mono hq20 hR15)),(Reads.mono hq31 hR26),trivial⟩⟩,?_⟩
 iterate 11 refine And.intro ⟨rfl⟩ ?_
 refine mo1FB2 ?_
 iterate 6 refine And.intro ⟨rfl⟩ ?_
 refine mo1FB2 ?_
 iterate 2 refine And.intro ⟨rfl⟩ ?_
 intro q36 g37 hq38 hok39 hrd40
 refine if_st H (fun h41 H=>?_) (fun h41 H=>?_)
 ·obtain ⟨v42,hv43,H⟩:=call_st H
  refine ⟨(v27.1,v34.1,v42),⟨hv43⟩,⟨trivial⟩,?_⟩
  iterate 10 refine mo1FB2 ?_
  refine if_st H (fun h44 H=>?_) (fun h44 H=>?_)
  ·obtain ⟨v45,hv46,H⟩:=call_st H
   refine ⟨v45,⟨hv46⟩,⟨trivial⟩,?_⟩
   have hfin:=fin_st H
   first | subst hfin | rw [←hfin]
   refine ⟨(),⟨trivial⟩,⟨trivial⟩,?_⟩
   repeat refine mo1FB2 ?_
   first | exact trivial | exact rfl
  ·have hfin:=fin_st H
   first | subst hfin | rw [←hfin]
   refine ⟨(),⟨trivial⟩,⟨trivial⟩,?_⟩
   repeat refine mo1FB2 ?_
   first | exact trivial | exact rfl
 ·have hfin:=fin_st H
  first | subst hfin | rw [←hfin]
  refine ⟨(),⟨trivial⟩,⟨trivial⟩,?_⟩
  repeat refine mo1FB2 ?_
  first | exact trivial | exact rfl
end Go.Proofs.YtlehbfahkjhgnaaGreat
end
