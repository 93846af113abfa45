/- Texts that the law leans on. -/
import Derived.Test.YticmemgehllacaaGreatDoorSR1
import Derived.Laws.OwnMore
import Derived.Laws.CopyRow
import Derived.Laws.IdiomCopy
import Derived.OrdersIn
import Derived.RangeFuncNested
import Derived.Scope
import Derived.RangeFuncLeaves
import Derived.KernelRfl
set_option linter.unusedVariables false
set_option linter.unusedSimpArgs false
namespace Go.Eng
open Go Go.RowKit
section
variable {P:Program}{S S' Sb:Pl}{fr:Fr}{L L':LL}{q q':PH}{w0:W0}{w w':World}{a:Act}{n0 N:Nat}{B:Nat→Prop}{E:Env}
variable {r:Option Nat}{n:Nat}{Q:Exit→Act→World→Prop}
theorem opv_has{x:Operand}{k:Nat}(h:(opv fr x).has k=true):hasF k fr=true:=by
 cases x with
 |tmp t=>exact get_has h
 |const v=>cases v<;>simp[opv,SV.has] at h
 |global g=>simp[opv,SV.has] at h
 |func f=>simp[opv,SV.has,hasL] at h
theorem calm_nd{T:Tab}{Γ:List Spec}{Δ:List CS}{wr:Bool}{op:Op}{K:SV→Prop}(h:calmK T Γ Δ wr q op fr L K):∀c,op≠.defer c:=by
 rintro c rfl;simp[calmK] at h
theorem yH(hT:zG P E.T)(hΓ:SpecsOk P E.Γ)(hΔ:CalmsOk P E.Δ){wr:Bool}{nk:Nat}{K:Kt}{o:Oper}(hc:Cfg w0 Sb B n0 N S q fr L a w)
  (h:calmK E.T E.Γ E.Δ wr q o.op fr L λx=>putK N o.dst x fr λfr=>K nk q fr L):Oper.wpIn (FF r) n P o a w (St w0 Sb B n0 N K) Q:=by
 obtain⟨x,sv,hK,hx,hy⟩:=calm_ok (C:=Cl w0 q S L w) hT hΓ hΔ hc.m.ch (λ_ h=>h) hc.f h;refine wpIn_calm (calm_nd h) (λ_ _ h hb=>Cl.below hc.m.ch h hb) hy hc.m.cl λw' hw'=>?_;obtain⟨fr',hK',hc'⟩:=(hc.mem (hc.m.of_cl hw')).put hK hx;exact⟨S,q,fr',L,nk,hc',hK'⟩
theorem yJ{o:Oper}{op:Op}(e:o.op=op)(h:∀c,op≠.defer c):∀c,o.op≠.defer c:=λc h'=>h c (e.symm.trans h')
theorem row_step{o:Oper}{t key nk:Nat}{cs:List SV}{vs:List Value}{K:Kt}(hc:Cfg w0 Sb B n0 N S q fr L a w)(hd:∀c,o.op≠.defer c)
  (hr:(execOp a.eval o).run P w=.ok (.value (.pointer (some ⟨w.heap.size,0,none⟩))) (w.alloc (.cells vs.toArray t))) (hok:okL S cs vs) (hcs:∀k,hasL k cs=true→hasF k fr=true)
  (h:newK n0 key fr L (.cells t cs) λL=>putK N o.dst (.lp key 0) fr λfr=>K nk q fr L):Oper.wpIn (FF r) n P o a w (St w0 Sb B n0 N K) Q:=by
 obtain⟨h0,h1,h2,h⟩:=xS h;refine zA hd hr ?_
 have hcs':hasL key cs=false:=by
  cases hb:hasL key cs with
  |false=>rfl
  |true=>rw[hcs key hb] at h1;cases h1
 have hm:=hc.m.row (t:=t) h2 hok hcs';obtain⟨fr',hK',hc'⟩:=(hc.new h0 h1 h2 hm).put (v:=.pointer (some ⟨w.heap.size,0,none⟩)) h vk;exact⟨_,q,fr',_,nk,hc',hK'⟩
theorem ya{o:Oper}{s:Sem Value}{v:Value}(he:execOp a.eval o=(do pure (.value (←s))))(h:s.run P w=.ok v w'):(execOp a.eval o).run P w=.ok (.value v) w':=by
 rw[he];simp[h]
theorem alloc_step(hT:zG P E.T){o:Oper}{t key nk:Nat}{K:Kt}(hop:o.op=.alloc t)(hc:Cfg w0 Sb B n0 N S q fr L a w)
  (h:match ty E.T t with
  |⟨.other,_,_,_,_,_⟩=>False
  | ⟨_,_,_,zero,_,_⟩=>fSVL (valL zero) fun z=>newK n0 key fr L (.cells t z) fun L=>putK N o.dst (.lp key 0) fr fun fr=>K nk q fr L):Oper.wpIn (FF r) n P o a w (St w0 Sb B n0 N K) Q:=by
 have h0:(ty E.T t).d≠.other:=by
  intro e
  revert h
  generalize ty E.T t=ti at e;obtain⟨d,_,_,_,_⟩:=ti;cases e;exact λh=>h
 have hr:=run_alloc (P:=P) hT h0 w
 have h':fSVL (valL (ty E.T t).zero) λz=>newK n0 key fr L (.cells t z) λL=>putK N o.dst (.lp key 0) fr λfr=>K nk q fr L:=by
  revert h h0
  generalize ty E.T t=ti;obtain⟨d,_,_,_,_⟩:=ti;cases d<;>intro h h0<;>first|exact h|exact absurd rfl h0
 rw[xl] at h';refine row_step hc (yJ hop wv) ?_ (yv _) (λk hk=>by rw[hasL_valL] at hk;cases hk) h';exact ya wG hr
theorem box_step{o:Oper}{t key nk:Nat}{x:Operand}{K:Kt}(hop:o.op=.box t x)(hc:Cfg w0 Sb B n0 N S q fr L a w)
  (h:boxCells E.T t (opv fr x) λl=>newK n0 key fr L (.cells t l) λL=>putK N o.dst (.lp key 0) fr λfr=>K nk q fr L):Oper.wpIn (FF r) n P o a w (St w0 Sb B n0 N K) Q:=by
 obtain⟨l,h,hok,_,hk,_⟩:=boxCells_ok h (zu hc.f x);refine row_step hc (yJ hop wv) ?_ hok (λk hk'=>opv_has (hk k hk')) h;refine ya (s:=Instr.box t (a.eval x)) wG ?_;rw[run_box]
theorem arr_new{o:Oper}{e sz m key nk:Nat}{xs:List Value}{cap:Nat}{K:Kt}(hc:Cfg w0 Sb B n0 N S q fr L a w)(hd:∀c,o.op≠.defer c){cur:Array Value}{w1:World}
  (hw1:w1=w.alloc (.cells cur e)) (hr:(execOp a.eval o).run P w=.ok (.value (.slice (some ⟨w.heap.size,0,none⟩) m cap)) w1) (hsz:0<sz) (hx:xs.length=m*sz) (hcap:m≤cap) (hm:cap≤maxLen) (hcur:cur.size=cap*sz) (htake:cur.toList.take (m*sz)=xs)
  (h1:∀x∈xs,x.oneCell'=true) (h:newK n0 key fr L (.arr e sz m xs) λL=>putK N o.dst (.own key) fr λfr=>K nk q fr L):Oper.wpIn (FF r) n P o a w (St w0 Sb B n0 N K) Q:=by
 subst hw1;obtain⟨k0,k1,k2,h⟩:=xS h;refine zA hd hr ?_
 have hown:(w.alloc (.cells cur e)).ownsRow 0 e sz (.slice (some ⟨w.heap.size,0,none⟩) m cap) m xs:=
  ⟨hx,.inr ⟨w.heap.size,cap,cur,rfl,Nat.zero_le _,heap_alloc_new w _,hcap,hm,hcur,htake⟩⟩
 have hmem:Mem w0 q (updS S key (yA (some ⟨w.heap.size,0,none⟩) m cap)) ((key,.arr e sz m xs)::L) (w.alloc (.cells cur e)):=by
  refine hc.m.new k2 ((Below.refl _ w).alloc (Nat.le_refl _) _) (xY hown hsz h1 (.inr ⟨_,rfl⟩)) λb hb=>?_;simp[blk,zc,yA] at hb;omega
 obtain⟨fr',hK',hc'⟩:=(hc.new k0 k1 k2 hmem).put (v:=.slice (some ⟨w.heap.size,0,none⟩) m cap) h (by simp[okv,zc,yA]);exact⟨_,q,fr',_,nk,hc',hK'⟩
theorem okL_repl{l:List SV}{vs:List Value}(h:okL S l vs):∀m,okL S (repl m l) (List.replicate m vs).flatten
 |0=>trivial
 |m+1=>by rw[List.replicate_succ,List.flatten_cons];exact zV h (okL_repl h m)
theorem made_flatL(z:List Value)(hz:0<z.length):∀m,(List.range (m*z.length)).map (λi=>z.toArray[i%z.toArray.size]!)=(List.replicate m z).flatten
 |0=>by simp
 |m+1=>by
  rw[List.replicate_succ,List.flatten_cons,←made_flatL z hz m,show(m+1)*z.length=z.length+m*z.length from by rw[Nat.add_mul];omega,List.range_add,List.map_append,List.map_map];congr 1
  ·refine List.ext_getElem wv λi h1 h2=>?_;simp only[List.getElem_map,List.getElem_range,List.size_toArray];rw[Nat.mod_eq_of_lt h2,getElem!_pos z.toArray i (by simpa using h2)];simp
  refine List.map_congr_left λi _=>?_;simp only[Function.comp,List.size_toArray,Nat.add_mod_left]
theorem made_flat(z:List Value)(hz:0<z.length)(m:Nat):(Array.range (m*z.length)).map (λi=>z.toArray[i%z.toArray.size]!)=(List.replicate m z).flatten.toArray:=by
 rw[←made_flatL z hz m];apply Array.ext';simp
theorem foldl_set_size(off:Nat):∀(l:List (Value×Nat)) (cs:Array Value),(l.foldl (λcs x=>cs.setIfInBounds (off+x.2) x.1) cs).size=cs.size
 |[],_=>rfl
 |x::l,cs=>by rw[List.foldl_cons,foldl_set_size off l];simp
theorem fill_size{place:Nat→Option (Nat×Nat)}:∀{ps:List (Nat×Value)}{cs us:Array Value},Instr.fill place cs ps=some us→us.size=cs.size
 |[],cs,us,h=>by simp[Instr.fill] at h;rw[h]
 |(i,v)::r,cs,us,h=>by
  simp only[Instr.fill] at h;split at h
  ·cases h
  split at h
  ·cases h
  rw[fill_size h,←Array.foldl_toList];exact foldl_set_size _ _ _
theorem elemPl_nth{sz e:Nat}:∀(m i j off t:Nat),nth (elemPl sz e m i) j=some (off,t)→off=(i+j)*sz∧t=e
 |0,_,_,_,_,h=>by simp[elemPl,nth_n] at h
 |m+1,i,0,off,t,h=>by simp[elemPl,nth_0] at h;simp[h]
 |m+1,i,j+1,off,t,h=>by
  simp only[elemPl,nth_s] at h;obtain⟨h1,h2⟩:=elemPl_nth m (i+1) j off t h;exact⟨by rw[h1];congr 1;omega,h2⟩
theorem build_step(hT:zG P E.T){o:Oper}{t m key nk:Nat}{ps:Array (Nat×Operand)}{K:Kt}(hop:o.op=.buildSlice t m ps)(hc:Cfg w0 Sb B n0 N S q fr L a w)
  (h:match (ty E.T t).d with
  | .slice e=>(match ty E.T e with
   |⟨.other,_,_,_,_,_⟩=>False
   | ⟨_,sz,_,zero,_,_⟩=>partsK E.T (elemPl sz e m 0) fr ps.toList (repl m (valL zero)) fun cs=>(match toVL cs with
    | some xs=>(match oneVL xs,Nat.ble (m * sz) 16777216 with
     |true,true=>newK n0 key fr L (.arr e sz m xs) λL=>putK N o.dst (.own key) fr λfr=>K nk q fr L
     | _,_=>False)
    | none=>(match hasL key cs,Nat.ble (m * sz) 16777216 with
     |false,true=>newK n0 key fr L (.cells e cs) λL=>putK N o.dst (.ls key m) fr λfr=>K nk q fr L
     | _,_=>False)))
  | _=>False):Oper.wpIn (FF r) n P o a w (St w0 Sb B n0 N K) Q:=by
 split at h;rotate_left
 ·exact h.elim
 rename_i e hd
 have h0:(ty E.T e).d≠.other:=by
  intro e'
  revert h
  generalize ty E.T e=ti at e';obtain⟨d,_,_,_,_⟩:=ti;cases e';exact λh=>h
 have h':partsK E.T (elemPl (ty E.T e).sz e m 0) fr ps.toList (repl m (valL (ty E.T e).zero)) fun cs=>(match toVL cs with
    | some xs=>(match oneVL xs,Nat.ble (m * (ty E.T e).sz) 16777216 with
     |true,true=>newK n0 key fr L (.arr e (ty E.T e).sz m xs) λL=>putK N o.dst (.own key) fr λfr=>K nk q fr L
     | _,_=>False)
    | none=>(match hasL key cs,Nat.ble (m * (ty E.T e).sz) 16777216 with
     |false,true=>newK n0 key fr L (.cells e cs) λL=>putK N o.dst (.ls key m) fr λfr=>K nk q fr L
     | _,_=>False)):=by
  revert h h0
  generalize ty E.T e=ti;obtain⟨d,_,_,_,_⟩:=ti;cases d<;>intro h h0<;>first|exact h|exact absurd rfl h0
 clear h;obtain⟨ht,hsz,i,hi,hisz,_⟩:yz P E.T t (.slice e):=by rw[←hd];exact(hT t wD).d
 obtain⟨i',z,hi',hisz',_,hz,hzc⟩:=(hT e h0).i;rw[hi] at hi';cases hi';have hzl:(ty E.T e).zero.length=(ty E.T e).sz:=(hT e h0).zl
 obtain ⟨l,us,hK,hok,hf⟩:=partsK_ok (T:=E.T) (ρ:=a.eval) hc.f (fun x=>zu hc.f x) (fun i=>some (i * (ty E.T e).sz,(ty E.T e).sz)) (fun i off t h=>by
  obtain⟨h1,h2⟩:=elemPl_nth m 0 i off t h
  rw [h1,h2];simp) ps.toList _ _ _ (okL_repl (yv (S:=S) (ty E.T e).zero) m) h'
 have hrun0:m*(ty E.T e).sz≤16777216→(Instr.buildSlice t m (ps.map λ(q:Nat×Operand)=>(q.1,a.eval q.2))).run P w=.ok (.slice (some ⟨w.heap.size,0,none⟩) m m) (w.alloc (.cells us.toArray e)):=λh2=>by
  have hus:us.length=m*(ty E.T e).sz:=by
   have hl:=zC hok;have:us.toArray.size=(List.replicate m (ty E.T e).zero).flatten.toArray.size:=fill_size hf;simpa[hzl] using this
  have hps:(ps.map λ(q:Nat×Operand)=>(q.1,a.eval q.2)).toList=ps.toList.map λq=>(q.1,a.eval q.2):=by simp
  have hmade:(if m*(ty E.T e).sz=0 then(#[]:Array Value) else z.cells)=(if m*(ty E.T e).sz=0 then(#[]:Array Value) else(ty E.T e).zero.toArray):=by rw[←hzc]
  have hrun:(Instr.buildSlice t m (ps.map λ(q:Nat×Operand)=>(q.1,a.eval q.2))).run P w=.ok (.slice (some ⟨w.heap.size,0,none⟩) m m) (w.alloc (.cells us.toArray e)):=by
   have hlim:¬(2^24<m*i.size):=by rw[hisz];omega
   by_cases hz0:m*i.size=0
   ·have hm0:m=0:=by
     rcases Nat.mul_eq_zero.1 hz0 with h|h
     ·exact h
     omega
    subst hm0;simp only[List.replicate_zero,List.flatten_nil] at hf;have hr0:Array.range 0=#[]:=rfl;simp only[Instr.buildSlice,Sem.run_bind,run_underlying ht,Result.andThen_ok,sizeOf,typeInfo,run_program,hi,Sem.run_pure,Nat.zero_mul];rw[if_neg ws];simp only[Sem.run_bind,Result.andThen_ok,Sem.run_pure,if_true,hisz,Nat.zero_mul,hr0,Array.map_empty];rw[hps,hf];simp[newRow]
   have hm:=made_flat (ty E.T e).zero ws m;rw[hzl] at hm;have hf2:=hf;rw[←hm] at hf2;have hz':z.cells=(ty E.T e).zero.toArray:=by rw[←hzc]
   have hz0':¬m*(ty E.T e).sz=0:=by rw[←hisz];exact hz0
   simp only[Instr.buildSlice,Sem.run_bind,run_underlying ht,Result.andThen_ok,sizeOf,typeInfo,run_program,hi,Sem.run_pure];rw[if_neg ws];simp only[Sem.run_bind,hz0',if_false,zeroValue,typeInfo,run_program,Result.andThen_ok,hi,Sem.run_pure,hz,hisz,hz'];rw[hps,hf2];simp[newRow]
  exact hrun
 split at hK;rotate_left
 ·split at hK;rotate_left
  ·exact hK.elim
  rename_i hcs h2;have h2:=Nat.le_of_ble_eq_true h2;obtain⟨k0,k1,k2,h⟩:=xS hK;refine zA (yJ hop wv) (ya wG (hrun0 h2)) ?_;have hm:=hc.m.row (t:=e) k2 hok hcs;obtain⟨fr',hK',hc'⟩:=(hc.new k0 k1 k2 hm).put (v:=.slice (some ⟨w.heap.size,0,none⟩) m m) h vk;exact⟨_,q,fr',_,nk,hc',hK'⟩
 rename_i xs hxs;have:=toVL_ok l hxs hok;subst this;split at hK;rotate_left
 ·exact hK.elim
 rename_i h1 h2;have h2:=Nat.le_of_ble_eq_true h2;have hrun:=hrun0 h2
 have hus:us.length=m*(ty E.T e).sz:=by
  have hl:=zC hok;have:us.toArray.size=(List.replicate m (ty E.T e).zero).flatten.toArray.size:=fill_size hf;simpa[hzl] using this
 exact arr_new (cur:=us.toArray) (cap:=m) hc (yJ hop (by simp)) rfl (ya (by simp only [execOp,hop]) hrun) hsz hus (Nat.le_refl _) (by
  have:=Nat.le_mul_of_pos_right m hsz;have e:maxLen=9223372036854775807:=by decide
  omega) (by simpa using hus) (by rw [←hus];simp) (oneVL_ok h1) hK
theorem xm{n:Nat}(h:n≤9223372036854775807):n≤maxLen:=by
 have e:maxLen=9223372036854775807:=by decide
 omega
theorem make_step(hT:zG P E.T){o:Oper}{t key nk:Nat}{l c:Operand}{K:Kt}(hop:o.op=.makeSlice t l c)(hc:Cfg w0 Sb B n0 N S q fr L a w)
  (h:makeK E.T t n0 key (opv fr l) (opv fr c) fr L λx L=>putK N o.dst x fr λfr=>K nk q fr L):Oper.wpIn (FF r) n P o a w (St w0 Sb B n0 N K) Q:=by
 have hl:=zu hc.f l;have hcc:=zu hc.f c;unfold makeK at h;split at h;rotate_left
 ·exact h.elim
 rename_i e k m hd el ec;rw[el] at hl;rw[ec] at hcc;have hl:a.eval l=.int .i64 k:=hl;have hcc:a.eval c=.int .i64 m:=hcc;obtain⟨ht,hsz,i,hi,hisz,hiby⟩:yz P E.T t (.slice e):=by rw[←hd];exact(hT t wD).d
 split at h
 ·exact h.elim
 rename_i d sz byt zero fl hne hte;have h0:(ty E.T e).d≠.other:=by rw[hte];exact λe'=>hne e'
 obtain⟨i',z,hi',hisz',_,hz,hzc⟩:=(hT e h0).i;rw[hi] at hi';cases hi'
 have hex:(execOp a.eval o)=(do pure (.value (←Instr.makeSlice t (.int .i64 k) (.int .i64 m)))):=by
  simp only[execOp,hop,hl,hcc]
 rw[hte] at hisz hsz hiby hzc;simp only at hisz hsz hiby hzc;split at h
 ·rename_i zv hsz1 hon;have hsz1:=Nat.eq_of_beq_eq_true hsz1;subst hsz1;obtain⟨⟨g0,g1,g2,g3⟩,h⟩:=h;replace h:=h _ _ rfl rfl;have hr:=run_make (P:=P) w t e i z ht hi hz .i64 .i64 k m g0 g1 (by rw[hiby];rw[Int.mul_comm];omega) g2;have hzz:z.cells=#[zv]:=by apply Array.ext';simpa using hzc
  have hmade:(madeCells z.cells (m.toNat*i.size)).toList=List.replicate m.toNat zv:=by rw[hzz,hisz,Nat.mul_one,toList_madeCells_one]
  have hone:zv.oneCell'=true:=oneVL_ok hon zv wv;refine arr_new (cap:=m.toNat) hc (yJ hop wv) rfl (ya hex hr) Nat.one_pos wv ws (xm ws) vo ?_ (λx hx=>by rw[List.eq_of_mem_replicate hx];exact hone) h;rw[hmade,List.take_replicate];congr 1;omega
 obtain⟨⟨g0,g1,g2,g3⟩,h⟩:=h;subst g0;have hr:=run_make (P:=P) w t e i z ht hi hz .i64 .i64 0 m (Int.le_refl _) g1 (by rw[hiby];rw[Int.mul_comm];omega) g2;exact arr_new (cap:=m.toNat) hc (yJ hop wv) rfl (ya hex hr) hsz wv ws (xm ws) vo wv wv h
theorem xr{w:World}{g o:Nat}{T t sz:Nat}{cur:Array Value}{v:Value}{i:TypeInfo}(hi:P.info? t=some i)(hsz:i.size=sz)(hv:v.cells.toList.length=sz)(hg:w.heap[g]?=some (.cells cur T (0,0)))
  (hb:o+sz≤cur.size) (h1:∀u∈v.cells.toList,u.oneCell'=true) :
  (Instr.storeAt t (.pointer (some ⟨g,o,none⟩)) v).run P w=.ok () (w.setRow g (cur.toList.take o++v.cells.toList++cur.toList.drop (o+sz)).toArray):=by
 have hs:=run_storeCells_at (P:=P) g o T v.cells.toList 0 cur w hg (by simpa[hv] using hb) h1;have hv':v.cells.size=i.size:=by rw[hsz,←hv];simp
 simp only[Instr.storeAt,Instr.sureAddr,Sem.run_bind,Sem.run_pure,Result.andThen_ok,storeVar,sizeOf,typeInfo,run_program,hi,hv'];simpa[hv] using hs
theorem xJ{w:World}{g:Nat}{cs:Array Value}:w.grownBy (w.setRow g cs) (some g):=
 ⟨rfl,rfl,rfl,by simp[World.setRow],λk _ hne=>setRow_other w g k cs (λe=>hne vt)⟩
theorem store_gen(hT:zG P E.T){o:Oper}{t nk:Nat}{x y:Operand}{sy:SV}{K:Kt}(hop:o.op=.store t x y)(hc:Cfg w0 Sb B n0 N S q fr L a w)(hy:okv S sy (a.eval y))
  (h:storeK E.T t (opv fr x) sy L λL=>putK N o.dst (.v undef) fr λfr=>K nk q fr L):Oper.wpIn (FF r) n P o a w (St w0 Sb B n0 N K) Q:=by
 have hx:=zu hc.f x;unfold storeK at h;split at h
 ·exact h.elim
 rename_i ho;have h0:(ty E.T t).d≠.other:=λe=>by simp[isOther,e] at ho
 obtain⟨i,z,hi,hisz,_⟩:=(hT t h0).i;split at h;rotate_left
 ·exact h.elim
 rename_i k off ek;rw[ek] at hx;have hx:a.eval x=.pointer (some ⟨(S k).b,off,none⟩):=hx
 have fin:∀{cs:Array Value}{lb lb':LB},getL L k=some lb→lb≠.dfr→blk S k lb=some (S k).b→zD 0 S k lb' (w.setRow (S k).b cs)→blk S k lb'=some (S k).b →
   (Instr.storeAt t (.pointer (some ⟨(S k).b,off,none⟩)) (a.eval y)).run P w=.ok () (w.setRow (S k).b cs)→(putK N o.dst (.v undef) fr λfr=>K nk q fr (setL L k lb'))→Oper.wpIn (FF r) n P o a w (St w0 Sb B n0 N K) Q:=by
  intro cs lb lb' hk hne hb hch hb' hr hK;refine wpIn_skip' (yJ hop wv) (w':=w.setRow (S k).b cs) ?_ ?_
  ·simp only[execOp,hop,hx,Sem.run_bind,hr,Result.andThen_ok,Sem.run_pure]
  obtain⟨fr',hK',hc'⟩:=(hc.turn (lb':=lb') hk hne (hc.m.turn hk hb xJ hch hb')).put (v:=undef) hK rfl;exact⟨S,q,fr',_,nk,hc',hK'⟩
 split at h
 ·rename_i TT cs hk;obtain⟨l,h,hok,hlen,_,h1⟩:=boxCells_ok h hy;split at h;rotate_left
  ·exact h.elim
  rename_i hb;have hb:=Nat.le_of_ble_eq_true hb;rw[zY] at h;obtain⟨hN,vs,hg,hvs⟩:=hc.m.ch k _ hk;have hll:=zC hvs;have hl2:=zC hok;have hr:=xr (P:=P) (o:=off) hi hisz (by rw[←hl2,hlen]) hg wN h1;refine fin hk wv rfl ?_ rfl hr h;refine⟨hN,_,setRow_heap w _ _ _ TT (0,0) hg,?_⟩;rw[List.append_assoc,List.append_assoc,hlen];exact zV (yG off hvs) (zV hok (xg _ hvs))
 ·rename_i e sz m xs hk;split at h;rotate_left
  ·exact h.elim
  rename_i v hs1 hv;have hs1:=Nat.eq_of_beq_eq_true hs1;have hyv:a.eval y=v:=(toV_ok _ hv hy)
  have hv1:v.oneCell'=true∧(Ob (off<xs.length)∧∀N' zs,N'=m→zs=xs.set off v→fLL (setL L k (.arr e sz N' zs)) λL=>putK N o.dst (.v undef) fr λfr=>K nk q fr L):=by
   cases v<;>first|exact h.elim|exact⟨rfl,h⟩
  obtain⟨hv1,⟨hlt⟩,h⟩:=hv1;replace h:=h _ _ rfl rfl;rw[zY] at h;have hcell:v.cells.toList=[v]:=by cases v<;>first|rfl|cases hv1
  obtain⟨⟨hl,hown⟩,hn,hsz,h1,hA⟩:=hc.m.ch k _ hk;rcases hown with ⟨_,hz0⟩|⟨g,cap,cur,hval,hg0,hg,hcap,hmax,hcur,htake⟩
  ·subst hz0;rw[hl] at hlt;simp at hlt
  injection hval with hval hval2 hval3
  have hAb:(S k).A=some ⟨(S k).b,0,none⟩:=by
   rcases hA with hA|hA
   ·rw[hA] at hval;cases hval
   exact hA
  have hgb:g=(S k).b:=by
   rw[hAb] at hval;injection hval with hval;injection hval with hval _ _;exact hval.symm
  subst hgb;have hle:m*sz≤cap*sz:=Nat.mul_le_mul_right sz hcap;have hr:=xr (P:=P) (o:=off) (v:=a.eval y) hi (hisz.trans hs1) (by rw[hyv,hcell];rfl) hg (by rw[hcur];omega) (by rw[hyv,hcell];simpa using hv1);rw[hyv,hcell] at hr
  have hnew:cur.toList.take off++[v]++cur.toList.drop (off+1)=cur.toList.set off v:=by
   rw[List.set_eq_take_append_cons_drop,if_pos (by simp[hcur];omega)];simp
  rw[hnew] at hr;rw[←hyv] at hr;refine fin hk wv wT ?_ wT hr h;refine⟨⟨?_,.inr ⟨_,cap,_,?_,hg0,setRow_heap w _ _ _ e (0,0) hg,hcap,hmax,?_,?_⟩⟩,hn,hsz,?_,hA⟩
  ·simpa using hl
  ·rw[hAb,hval2,hval3]
  ·simpa using hcur
  ·rw[hyv,List.take_set,htake]
  intro u hu;rcases List.mem_or_eq_of_mem_set hu with hu|rfl
  ·exact h1 u hu
  exact hv1
 exact h.elim
end
section
variable {P:Program}{S S' Sb:Pl}{fr:Fr}{L L':LL}{q q':PH}{w0:W0}{w w':World}{a:Act}{n0 n0' N:Nat}{B:Nat→Prop}{E:Env}
variable {r:Option Nat}{n:Nat}{Q:Exit→Act→World→Prop}
theorem own_loc{e sz k:Nat}{A:Option Addr}{c:Nat}{xs:List Value}(_:w.ownsRow 0 e sz (.slice A k c) k xs):okv (updS S n (yA A k c)) (.own n) (.slice A k c):=by
 simp[okv,zc,yA]
theorem app_go(hT:zG P E.T){o:Oper}{t e sz byt m c key nk:Nat}{s:SV}{A:Option Addr}{ys:List Value}{xo so:Operand}{K:Kt}{zero:List Value}{fl:List Ty}{cm:List Ty}{d:Ty}
  (hc:Cfg w0 Sb B n0 N S q fr L a w) (hd:∀c,o.op≠.defer c) (hdt:(ty E.T t).d=.slice e) (hte:ty E.T e=⟨d,sz,byt,zero,fl,cm⟩) (hdo:d≠.other)
  (hrun:∀{v:Value}{w':World},(Builtin.append_ #[t,t] o.type #[a.eval so,a.eval xo]).run P w=.ok v w'→(execOp a.eval o).run P w=.ok (.value v) w')
  (hx:a.eval xo=.slice A m c) (hsrc:Src w A m sz ys)
  (h:match s with
   |.v (.slice none 0 0)=>Ob (m≤9223372036854775807∧m*byt≤140737488355328∧∀y∈ys,y.oneCell'=true)∧∀N' zs,N'=m→zs=ys→newK n0 key fr L (.arr e sz N' zs) λL=>putK N o.dst (.own key) fr λfr=>K nk q fr L
   | .own k=>(match getL L k with
    | some (.arr e' sz' n xs)=>(match Nat.beq e' e,Nat.beq sz' sz with
     |true,true=>Ob (n+m≤9223372036854775807∧(n+m)*byt≤140737488355328∧∀y∈ys,y.oneCell'=true)∧∀N' zs,N'=n+m→zs=xs++ys→newK n0 key fr L (.arr e sz N' zs) λL=>fLL (remL L k) λL=>putK N o.dst (.own key) fr λfr=>K nk q fr L
     | _,_=>False)
    | _=>False)
   | _=>False) (hs:okv S s (a.eval so)):Oper.wpIn (FF r) n P o a w (St w0 Sb B n0 N K) Q:=by
 obtain⟨ht,hsz,i,hi,hisz,hiby⟩:yz P E.T t (.slice e):=by rw[←hdt];exact(hT t (by rw[hdt];simp)).d
 obtain⟨i',z,hi',hisz',_,hz,hzc⟩:=(hT e vi).i;have hzl:=(hT e vi).zl;rw[hi] at hi';cases hi';rw[hte] at hisz hsz hiby hzc hzl;simp only at hisz hsz hiby hzc hzl;have hzs:z.cells.size=sz:=by rw[←hzl,←hzc];simp
 split at h
 ·have hs:a.eval so=.slice none 0 0:=hs;obtain⟨⟨g1,g2,g3⟩,h⟩:=h;replace h:=h _ _ rfl rfl;obtain⟨v',w',hr,hown,hg,hb⟩:=yX (ty:=o.type) (P:=P) ht hi hz hisz hiby hzs hsz (World.ownsRow_nil w 0 e sz) hsrc g3 (by rw[Nat.zero_add];exact xm g1) (by rw[Nat.zero_add];exact g2) (Nat.zero_le _);rw[Nat.zero_add,List.nil_append] at hown;obtain⟨A',c',rfl,hA'⟩:=own_form hown;rw[←hs,←hx] at hr;obtain⟨k0,k1,k2,h⟩:=xS h;refine zA hd (hrun hr) ?_
  have hmem:Mem w0 q (updS S key (yA A' m c')) ((key,.arr e sz m ys)::L) w':=by
   refine hc.m.new k2 ((Below.refl _ w).grown hg (Nat.le_refl _) (λk e=>by cases e)) (xY hown hsz g3 hA') λb hbb=>?_;rcases hb with hb|hb
   ·rcases hA' with rfl|⟨g,rfl⟩
    ·simp[blk,zc,yA] at hbb
    simp[Value.ownBlock] at hb
   rcases hA' with rfl|⟨g,rfl⟩
   ·simp[blk,zc,yA] at hbb
   simp[blk,zc,yA] at hbb;simp[Value.ownBlock] at hb;omega
  obtain⟨fr',hK',hc'⟩:=(hc.new k0 k1 k2 hmem).put (v:=.slice A' m c') h (own_loc hown);exact⟨_,q,fr',_,nk,hc',hK'⟩
 ·rename_i k;have hs:a.eval so=.slice (S k).A (S k).n (S k).c:=hs;split at h;rotate_left
  ·exact h.elim
  rename_i e' sz' n' xs hk;split at h;rotate_left
  ·exact h.elim
  rename_i he hsz';have he:=Nat.eq_of_beq_eq_true he;have hsz':=Nat.eq_of_beq_eq_true hsz';subst he hsz';obtain⟨⟨g1,g2,g3⟩,h⟩:=h;replace h:=h _ _ rfl rfl;obtain⟨hown0,hn,_,hone,hA⟩:=hc.m.ch k _ hk;obtain⟨v',w',hr,hown,hg,hb⟩:=yX (ty:=o.type) (P:=P) ht hi hz hisz hiby hzs hsz hown0 hsrc g3 (xm g1) g2 (Nat.zero_le _);obtain⟨A',c',rfl,hA'⟩:=own_form hown;rw[←hs,←hx] at hr;obtain⟨k0,k1,k2,h⟩:=xS h;have hne:key≠k:=λe=>by subst e;rw[zm hk (.inl rfl)] at k2;cases k2
  rw[zY] at h
  have hrem:remL ((key,LB.arr e' sz' (n'+m) (xs++ys))::L) k=(key,LB.arr e' sz' (n'+m) (xs++ys))::remL L k:=by
   have hb:Nat.beq key k=false:=by rw[Bool.eq_false_iff];exact λe=>hne (Nat.eq_of_beq_eq_true e)
   simp[remL_c,remL_n,hb]
  rw[hrem] at h;refine zA hd (hrun hr) ?_
  have hmem:=hc.m.app hk k2 hg hown hsz (fun x hx=>by
   rcases List.mem_append.1 hx with hx|hx
   ·exact hone x hx
   exact g3 x hx) hA' hb
  obtain⟨fr',hK',hc'⟩:=(hc.rem k0 k1 k2 hk hmem).put (v:=.slice A' (n'+m) c') h (own_loc hown);exact⟨_,q,fr',_,nk,hc',hK'⟩
 exact h.elim
theorem src_of_vw{N0 k lo sz m e n0:Nat}{ex:Bool}{xs:List Value}{u:Value}(hx:okv S (.vw k lo sz m ex) u)(hch:zD N0 S k (.arr e sz n0 xs) w)(hb:lo+m≤n0):∃A c,u=.slice A m c∧Src w A m sz (vwC xs lo sz m):=by
 obtain⟨A,c,rfl,_,hl,hcell⟩:=wi hx hch hb;refine⟨A,c,rfl,hl,λj v hv=>?_⟩;obtain⟨a,g1,g2,_,_,_,g3⟩:=hcell j v hv;exact⟨a,g1,g2,g3⟩
theorem app_step(hT:zG P E.T){o:Oper}{t key nk:Nat}{so xo:Operand}{K:Kt}(hop:o.op=.call ⟨.builtin .append,#[so,xo],#[t,t]⟩)(hc:Cfg w0 Sb B n0 N S q fr L a w)
  (h:appK E.T q t n0 key (opv fr so) (opv fr xo) fr L λx L=>putK N o.dst x fr λfr=>K nk q fr L):Oper.wpIn (FF r) n P o a w (St w0 Sb B n0 N K) Q:=by
 have hs:=zu hc.f so;have hx:=zu hc.f xo;unfold appK at h;split at h;rotate_left
 ·exact h.elim
 rename_i e hd;split at h
 ·exact h.elim
 rename_i d sz byt zero fl hne hte
 have hrun:∀{v:Value}{w':World},(Builtin.append_ #[t,t] o.type #[a.eval so,a.eval xo]).run P w=.ok v w'→(execOp a.eval o).run P w=.ok (.value v) w':=by
  intro v w' hr;simp only[execOp,hop,resolve,invoke,builtin,Sem.run_bind,Sem.run_pure,Result.andThen_ok,List.map_toArray,List.map_cons,List.map_nil,hr]
 dsimp only at h;split at h
 ·rename_i A m c ex;rw[ex] at hx;have hx:a.eval xo=.slice A m c:=hx;obtain⟨⟨ys,hl,hR⟩,h⟩:=h;exact app_go hT hc (yJ hop wv) hd hte hne hrun hx (src_of_reads hc.m.on hl hR) (h ys hl hR) hs
 ·rename_i j ex;rw[ex] at hx;have hx:a.eval xo=.slice (S j).A (S j).n (S j).c:=hx;split at h;rotate_left
  ·exact h.elim
  rename_i e' sz' m ys hj;split at h;rotate_left
  ·exact h.elim
  rename_i hsz;have hsz:=Nat.eq_of_beq_eq_true hsz;subst hsz;have hch:=hc.m.ch j _ hj;have hn:=hch.2.1;rw[hn] at hx;exact app_go hT hc (yJ hop wv) hd hte hne hrun hx (src_of_own hch) h hs
 ·rename_i j lo sz'' m _ ex;rw[ex] at hx;split at h;rotate_left
  ·exact h.elim
  rename_i e' sz' n1 ys hj;split at h;rotate_left
  ·exact h.elim
  rename_i hsz1 hsz2;have hsz1:=Nat.eq_of_beq_eq_true hsz1;have hsz2:=Nat.eq_of_beq_eq_true hsz2;subst hsz1 hsz2;obtain⟨⟨hb⟩,h⟩:=h;obtain⟨A,c,hx,hsrc⟩:=src_of_vw hx (hc.m.ch j _ hj) hb;exact app_go hT hc (yJ hop wv) hd hte hne hrun hx hsrc h hs
 exact h.elim
theorem apps_step(hT:zG P E.T){o:Oper}{t u key nk:Nat}{so xo:Operand}{K:Kt}(hop:o.op=.call ⟨.builtin .append,#[so,xo],#[t,u]⟩)(hc:Cfg w0 Sb B n0 N S q fr L a w)
  (h:appS E.T t u n0 key (opv fr so) (opv fr xo) fr L λx L=>putK N o.dst x fr λfr=>K nk q fr L):Oper.wpIn (FF r) n P o a w (St w0 Sb B n0 N K) Q:=by
 have hs:=zu hc.f so;have hx:=zu hc.f xo;unfold appS at h;split at h;rotate_left
 ·exact h.elim
 rename_i e c hd hdu ex;rw[ex] at hx;have hx:a.eval xo=.string c:=hx;split at h;rotate_left
 ·exact h.elim
 rename_i hby;obtain⟨b1,b2,b3,b4⟩:=isByte_ok hby;have hd':=yJ hop wv
 have hrun:∀{v:Value}{w':World},(Builtin.append_ #[t,u] o.type #[a.eval so,a.eval xo]).run P w=.ok v w'→(execOp a.eval o).run P w=.ok (.value v) w':=by
  intro v w' hr;simp only[execOp,hop,resolve,invoke,builtin,Sem.run_bind,Sem.run_pure,Result.andThen_ok,List.map_toArray,List.map_cons,List.map_nil,hr]
 obtain⟨ht,hsz,i,hi,hisz,hiby⟩:yz P E.T t (.slice e):=by rw[←hd];exact(hT t wD).d
 have hu:P.underlying u=some .string:=by
  have:=(hT u (by rw[hdu];simp)).d;rw[hdu] at this;exact this
 obtain⟨i',z,hi',hisz',_,hz,hzc⟩:=(hT e (by rw[b1];simp)).i;rw[hi] at hi';cases hi';rw[b3] at hisz;rw[b4] at hiby;have hzs:z.cells.size=1:=by rw[←Array.length_toList,hzc,b2];rfl
 have hone:∀x∈c.data.toList.map bv,x.oneCell'=true:=λx hx=>by
  obtain⟨y,_,rfl⟩:=List.mem_map.1 hx;rfl
 split at h
 ·rename_i es;rw[es] at hs;have hs:a.eval so=.slice none 0 0:=hs;obtain⟨⟨g2⟩,h⟩:=h;replace h:=h _ _ rfl rfl;obtain⟨v',w',hr,hown,hg,hb⟩:=run_append_str (ty:=o.type) (P:=P) ht hu hi hz hzs hisz hiby (World.ownsRow_nil w 0 e 1) c (by unfold maxLen;omega) ws (Nat.zero_le _);rw[Nat.zero_add,List.nil_append] at hown;obtain⟨A',c',rfl,hA'⟩:=own_form hown;rw[←hs,←hx] at hr;obtain⟨k0,k1,k2,h⟩:=xS h;refine zA hd' (hrun hr) ?_
  have hmem:Mem w0 q (updS S key (yA A' c.size c')) ((key,.arr e 1 c.size (c.data.toList.map bv))::L) w':=by
   refine hc.m.new k2 ((Below.refl _ w).grown hg (Nat.le_refl _) (λk e=>by cases e)) (xY hown (Nat.succ_pos 0) hone hA') λb hbb=>?_;rcases hb with hb|hb
   ·rcases hA' with rfl|⟨g,rfl⟩
    ·simp[blk,zc,yA] at hbb
    simp[Value.ownBlock] at hb
   rcases hA' with rfl|⟨g,rfl⟩
   ·simp[blk,zc,yA] at hbb
   simp[blk,zc,yA] at hbb;simp[Value.ownBlock] at hb;omega
  obtain⟨fr',hK',hc'⟩:=(hc.new k0 k1 k2 hmem).put (v:=.slice A' c.size c') h (own_loc hown);exact⟨_,q,fr',_,nk,hc',hK'⟩
 ·rename_i k es;rw[es] at hs;have hs:a.eval so=.slice (S k).A (S k).n (S k).c:=hs;split at h;rotate_left
  ·exact h.elim
  rename_i e' sz' n' xs hk;split at h;rotate_left
  ·exact h.elim
  rename_i he hsz';have he:=Nat.eq_of_beq_eq_true he;have hsz':=Nat.eq_of_beq_eq_true hsz';subst he hsz';obtain⟨⟨g2⟩,h⟩:=h;replace h:=h _ _ rfl rfl;obtain⟨hown0,hn,_,hone0,hA⟩:=hc.m.ch k _ hk;obtain⟨v',w',hr,hown,hg,hb⟩:=run_append_str (ty:=o.type) (P:=P) ht hu hi hz hzs hisz hiby hown0 c (by unfold maxLen;omega) g2 (Nat.zero_le _);obtain⟨A',c',rfl,hA'⟩:=own_form hown;rw[←hs,←hx] at hr;obtain⟨k0,k1,k2,h⟩:=xS h;have hne:key≠k:=λe=>by subst e;rw[zm hk (.inl rfl)] at k2;cases k2
  rw[zY] at h
  have hrem:remL ((key,LB.arr e' 1 (n'+c.size) (xs++c.data.toList.map bv))::L) k=(key,LB.arr e' 1 (n'+c.size) (xs++c.data.toList.map bv))::remL L k:=by
   have hb:Nat.beq key k=false:=by rw[Bool.eq_false_iff];exact λe=>hne (Nat.eq_of_beq_eq_true e)
   simp[remL_c,remL_n,hb]
  rw[hrem] at h;refine zA hd' (hrun hr) ?_
  have hmem:=hc.m.app hk k2 hg hown (Nat.succ_pos 0) (fun x hx=>by
   rcases List.mem_append.1 hx with hx|hx
   ·exact hone0 x hx
   exact hone x hx) hA' hb
  obtain⟨fr',hK',hc'⟩:=(hc.rem k0 k1 k2 hk hmem).put (v:=.slice A' (n'+c.size) c') h (own_loc hown);exact⟨_,q,fr',_,nk,hc',hK'⟩
 exact h.elim
theorem vwC_one{xs:List Value}{lo sz m:Nat}(h:∀y∈xs,y.oneCell'=true):∀y∈vwC xs lo sz m,y.oneCell'=true:=λy hy=>h y (List.mem_of_mem_drop (List.mem_of_mem_take hy))
theorem take_mid{l m:List Value}{lo n:Nat}(h:lo+m.length≤n)(hl:n≤l.length):(l.take lo++m++l.drop (lo+m.length)).take n=(l.take n).take lo++m++(l.take n).drop (lo+m.length):=by
 have e:(l.take lo++m).length=lo+m.length:=by rw[List.length_append,List.length_take];omega
 rw[List.take_append,e,List.take_of_length_le ws,List.take_take,Nat.min_eq_left ws,List.drop_take]
theorem Mem.same{k:Nat}{lb:LB}(h:Mem w0 q S L w)(hk:getL L k=some lb):Mem w0 q S (setL L k lb) w:=by
 have g:∀j,getL (setL L k lb) j=getL L j:=λj=>by
  rw[zK];split
  ·rename_i e;subst e;rw[hk];rfl
  rfl
 exact⟨λj l hj=>h.ch j l (g j▸hj),λj l j' l' hj hj'=>h.ap j l j' l' (g j▸hj) (g j'▸hj'),λj l hj=>h.po j l (g j▸hj),λj l hj=>h.fz j l (g j▸hj),h.on,h.be,h.gw⟩
theorem copy_go{o:Oper}{t t' e e' k lo n0 nn m c c' nk:Nat}{A A':Option Addr}{xs ys:List Value}{dop sop:Operand}{K:Kt}(hc:Cfg w0 Sb B n0' N S q fr L a w)(hd:∀c,o.op≠.defer c)
  (ht:P.underlying t=some (.slice e)) (hsz:(P.info? e).map (·.size)=some 1)
  (hrun:∀{v:Value}{w':World},(Builtin.copy_ #[t,t'] o.type #[a.eval dop,a.eval sop]).run P w=.ok v w'→(execOp a.eval o).run P w=.ok (.value v) w')
  (hk:getL L k=some (.arr e' 1 n0 xs)) (hb:lo+nn≤n0) (hdv:a.eval dop=.slice A nn c) (hA:nn=0∨A=(S k).A.map (·.add lo))
  (hsv:a.eval sop=.slice A' m c') (hsrc:Src w A' m 1 ys) (h1:∀y∈ys,y.oneCell'=true)
  (h:putK N o.dst (.v (.int .i64 ((min m nn:Nat):Int))) fr λfr=>K nk q fr (setL L k (.arr e' 1 n0 (xs.take lo++ys.take (min m nn)++xs.drop (lo+min m nn))))):Oper.wpIn (FF r) n P o a w (St w0 Sb B n0' N K) Q:=by
 obtain⟨⟨hl,hown⟩,hn,hsz1,hone,hAk⟩:=hc.m.ch k _ hk
 have fin:∀{w':World},(Builtin.copy_ #[t,t'] o.type #[.slice A nn c,.slice A' m c']).run P w=.ok (goInt ((min m nn:Nat):Int)) w'→Mem w0 q S (setL L k (.arr e' 1 n0 (xs.take lo++ys.take (min m nn)++xs.drop (lo+min m nn)))) w'→Oper.wpIn (FF r) n P o a w (St w0 Sb B n0' N K) Q:=by
  intro w' hr hm;rw[←hdv,←hsv] at hr;refine zA hd (hrun hr) ?_;obtain⟨fr',hK',hc'⟩:=(hc.turn hk wv hm).put (v:=.int .i64 ((min m nn:Nat):Int)) h rfl;exact⟨S,q,fr',_,nk,hc',hK'⟩
 by_cases hz:min m nn=0
 ·refine fin (w':=w) (by rw[hz];exact run_copy_none (P:=P) w t t' o.type e A A' nn c m c' ht hsz hz) ?_;rw[hz];simp only[List.take_zero,List.append_nil,Nat.add_zero,List.take_append_drop];exact hc.m.same hk
 have hA:=hA.resolve_left ws;rcases hown with ⟨_,hn0⟩|⟨g,cap,cur,hval,hg0,hg,hcap,hmax,hcur,htake⟩
 ·omega
 injection hval with hval hval2 hval3
 have hAb:(S k).A=some ⟨(S k).b,0,none⟩:=by
  rcases hAk with hAk|hAk
  ·rw[hAk] at hval;cases hval
  exact hAk
 have hgb:g=(S k).b:=by
  rw[hAb] at hval;injection hval with hval;injection hval with hval _ _;exact hval.symm
 subst hgb;have hA2:A=some ⟨(S k).b,lo,none⟩:=by rw[hA,hAb];simp[Addr.add_lit]
 obtain⟨hys,hcell⟩:=hsrc;obtain⟨y0,hy0⟩:∃y,ys[0]?=some y:=⟨ys[0]' ws,List.getElem?_eq_getElem ws⟩;obtain⟨a',rfl,hs',_⟩:=hcell 0 y0 hy0;have hlen:(ys.take (min m nn)).length=min m nn:=by rw[List.length_take];omega
 have hr:=run_copy_row (P:=P) w t t' o.type e (S k).b lo nn c a' m c' cur e' (ys.take (min m nn)) ht hsz hg hlen (fun j v hv=>by
  have hj:=(List.getElem?_eq_some_iff.1 hv).1;rw[hlen] at hj;rw[List.getElem?_take_of_lt hj] at hv;obtain⟨a2,e2,_,h3⟩:=hcell j v hv;injection e2 with e2;subst e2;obtain⟨b2,o2,s2⟩:=a';cases hs';rw[Addr.add_lit]
  exact h3) (by rw [hlen,hcur];omega) (fun v hv=>h1 v (List.mem_of_mem_take hv))
 rw[←hA2,hlen] at hr;refine fin hr (hc.m.turn hk wT xJ ?_ wT);refine⟨⟨?_,.inr ⟨_,cap,_,?_,hg0,setRow_heap w _ _ _ e' (0,0) hg,hcap,hmax,?_,?_⟩⟩,hn,hsz1,?_,hAk⟩
 ·rw[List.length_append,List.length_append,List.length_take,List.length_drop,hlen];omega
 ·rw[hAb,hval2,hval3]
 ·simp only[List.size_toArray,List.length_append,List.length_take,List.length_drop,hlen,Array.length_toList];omega
 ·have:=take_mid (l:=cur.toList) (m:=ys.take (min m nn)) (lo:=lo) (n:=n0*1) (by rw[hlen];omega) (by rw[Array.length_toList];omega);rw[hlen,htake] at this;exact this
 intro u hu;rcases List.mem_append.1 hu with hu|hu
 ·rcases List.mem_append.1 hu with hu|hu
  ·exact hone u (List.mem_of_mem_take hu)
  exact h1 u (List.mem_of_mem_take hu)
 exact hone u (List.mem_of_mem_drop hu)
theorem copy_step(hT:zG P E.T){o:Oper}{t t' nk:Nat}{dop sop:Operand}{K:Kt}(hop:o.op=.call ⟨.builtin .copy,#[dop,sop],#[t,t']⟩)(hc:Cfg w0 Sb B n0 N S q fr L a w)
  (h:copyK E.T q t (opv fr dop) (opv fr sop) L λx L=>putK N o.dst x fr λfr=>K nk q fr L):Oper.wpIn (FF r) n P o a w (St w0 Sb B n0 N K) Q:=by
 have hd:=zu hc.f dop;have hs:=zu hc.f sop;unfold copyK at h;split at h;rotate_left
 ·exact h.elim
 rename_i e hte;split at h
 ·exact h.elim
 rename_i hz;have hz:=Nat.eq_of_beq_eq_true hz;obtain⟨ht,_,i,hi,hisz,_⟩:yz P E.T t (.slice e):=by rw[←hte];exact(hT t (by rw[hte];simp)).d
 have hsz:(P.info? e).map (·.size)=some 1:=by rw[hi];simp[hisz,hz]
 have hrun:∀{v:Value}{w':World},(Builtin.copy_ #[t,t'] o.type #[a.eval dop,a.eval sop]).run P w=.ok v w'→(execOp a.eval o).run P w=.ok (.value v) w':=by
  intro v w' hr;simp only[execOp,hop,resolve,invoke,builtin,Sem.run_bind,Sem.run_pure,Result.andThen_ok,List.map_toArray,List.map_cons,List.map_nil,hr]
 have go:∀{m c:Nat}{A:Option Addr}{ys:List Value},a.eval sop=.slice A m c→Src w A m 1 ys→cpTo (opv fr dop) L (λx L=>putK N o.dst x fr λfr=>K nk q fr L) m ys→Oper.wpIn (FF r) n P o a w (St w0 Sb B n0 N K) Q:=by
  intro m c A ys hsv hsrc h;unfold cpTo at h;split at h
  ·rename_i k ek;rw[ek] at hd;have hd:a.eval dop=.slice (S k).A (S k).n (S k).c:=hd;split at h;rotate_left
   ·exact h.elim
   rename_i e' sz n1 xs hk;split at h;rotate_left
   ·exact h.elim
   rename_i h1;have h1:=Nat.eq_of_beq_eq_true h1;subst h1;obtain⟨⟨g1⟩,h⟩:=h;have h:=h _ _ _ rfl rfl rfl;rw[zY] at h;have hn:=(hc.m.ch k _ hk).2.1;rw[hn] at hd;refine copy_go (lo:=0) (nk:=nk) hc (yJ hop wv) ht hsz hrun hk ws hd (.inr ?_) hsv hsrc g1 ?_
   ·cases(S k).A with
    |none=>rfl
    |some ad=>simp[Addr.add]
   simpa using h
  ·rename_i k lo sz' n1 _ ek;rw[ek] at hd;obtain⟨A1,c1,hd,_,hA1,_⟩:=hd;split at h;rotate_left
   ·exact h.elim
   rename_i e' sz n2 xs hk;split at h;rotate_left
   ·exact h.elim
   rename_i h1 h2;have h1:=Nat.eq_of_beq_eq_true h1;have h2:=Nat.eq_of_beq_eq_true h2;subst h1 h2;obtain⟨⟨g0,g1⟩,h⟩:=h;have h:=h _ _ _ rfl rfl rfl;rw[zY] at h;rw[Nat.mul_one] at hA1;exact copy_go hc (yJ hop wv) ht hsz hrun hk g0 hd hA1 hsv hsrc g1 h
  exact h.elim
 split at h
 ·rename_i A m c ex;rw[ex] at hs;have hs:a.eval sop=.slice A m c:=hs;obtain⟨⟨ys,hl,hR⟩,h⟩:=h;exact go hs (src_of_reads hc.m.on hl hR) (h ys hl hR)
 ·rename_i j ex;rw[ex] at hs;have hs:a.eval sop=.slice (S j).A (S j).n (S j).c:=hs;split at h;rotate_left
  ·exact h.elim
  rename_i e' sz' m ys hj;split at h;rotate_left
  ·exact h.elim
  rename_i hsz';have hsz':=Nat.eq_of_beq_eq_true hsz';subst hsz';have hch:=hc.m.ch j _ hj;have hn:=hch.2.1;rw[hn] at hs;exact go hs (src_of_own hch) h
 ·rename_i j lo sz m _ ex;rw[ex] at hs;split at h;rotate_left
  ·exact h.elim
  rename_i e' sz' n1 ys hj;split at h;rotate_left
  ·exact h.elim
  rename_i h1 h2;have h1:=Nat.eq_of_beq_eq_true h1;have h2:=Nat.eq_of_beq_eq_true h2;subst h1 h2;obtain⟨⟨hb⟩,h⟩:=h;obtain⟨A,c,hs,hsrc⟩:=src_of_vw hs (hc.m.ch j _ hj) hb;exact go hs hsrc h
 exact h.elim
theorem own_short{e sz n' m c:Nat}{A:Option Addr}{xs:List Value}(h:w.ownsRow 0 e sz (.slice A n' c) n' xs)(hm:m≤n'):w.ownsRow 0 e sz (.slice A m c) m (xs.take (m*sz)):=by
 have hle:m*sz≤n'*sz:=Nat.mul_le_mul_right _ hm;refine⟨by rw[List.length_take,h.1];omega,?_⟩;rcases h.2 with ⟨e1,e2⟩|⟨g,cap,cur,e1,h1,h2,h3,h4,h5,h6⟩
 ·injection e1 with a1 a2 a3;have:m=0:=by omega
  subst this;exact .inl ⟨by rw[a1,a3],rfl⟩
 injection e1 with a1 a2 a3;refine .inr ⟨g,cap,cur,by rw[a1,a3],h1,h2,by omega,h4,h5,?_⟩;rw[←h6,List.take_take,Nat.min_eq_left hle]
theorem store_step(hT:zG P E.T){o:Oper}{t nk key:Nat}{x y:Operand}{K:Kt}(hop:o.op=.store t x y)(hc:Cfg w0 Sb B n0 N S q fr L a w)
  (h:match opv fr y with
   | .vw k 0 sz m true=>(match getL L k with
    | some (.arr e sz' n xs)=>(match Nat.beq sz' sz with
     |true=>Ob (m≤n)∧∀N' zs,N'=m→zs=xs.take (m*sz)→newK n0 key fr L (.arr e sz' N' zs) λL=>fLL (remL L k) λL=>storeK E.T t (opv fr x) (.own key) L λL=>putK N o.dst (.v undef) fr λfr=>K nk q fr L
     | false=>False)
    | _=>False)
   | z=>storeK E.T t (opv fr x) z L fun L=>putK N o.dst (.v undef) fr fun fr=>K nk q fr L):Oper.wpIn (FF r) n P o a w (St w0 Sb B n0 N K) Q:=by
 have hy:=zu hc.f y;split at h
 ·rename_i k sz m ey;rw[ey] at hy;split at h;rotate_left
  ·exact h.elim
  rename_i e sz' n1 xs hk;split at h;rotate_left
  ·exact h.elim
  rename_i hs;have hs:=Nat.eq_of_beq_eq_true hs;subst hs;obtain⟨⟨hm⟩,h⟩:=h;replace h:=h _ _ rfl rfl;obtain⟨k0,k1,k2,h⟩:=xS h;obtain⟨A,c,hv,_,_,hex⟩:=hy;obtain⟨hA,hcc⟩:=hex rfl rfl;obtain⟨hown,hn,hsz,hone,hAk⟩:=hc.m.ch k _ hk;have hne:key≠k:=λe=>by subst e;rw[zm hk (.inl rfl)] at k2;cases k2
  have hrem:remL ((key,LB.arr e sz' m (xs.take (m*sz')))::L) k=(key,LB.arr e sz' m (xs.take (m*sz')))::remL L k:=by
   have hb:Nat.beq key k=false:=by rw[Bool.eq_false_iff];exact λe=>hne (Nat.eq_of_beq_eq_true e)
   simp[remL_c,hb]
  rw[zY,hrem] at h;have hown2:=own_short (by rw[hn] at hown;exact hown) hm;have hmem:=hc.m.app hk k2 (w':=w) ⟨rfl,rfl,rfl,Nat.le_refl _,λ_ _ _=>rfl⟩ hown2 hsz (λy hy=>hone y (List.mem_of_mem_take hy)) (hAk.imp id λh=>⟨_,h⟩) (.inl (by cases(S k).A<;>rfl));refine store_gen hT hop (hc.rem k0 k1 k2 hk hmem) ?_ h;show a.eval y=.slice (updS S key (yA (S k).A m (S k).c) key).A (updS S key (yA (S k).A m (S k).c) key).n (updS S key (yA (S k).A m (S k).c) key).c;rw[hv,hA,hcc,zc];simp[yA]
 exact store_gen hT hop hc hy h
theorem cell_of_heap{w:World}{b o t:Nat}{cur:Array Value}{fz:Nat×Nat}(h:w.heap[b]?=some (.cells cur t fz)):w.cell? ⟨b,o,none⟩=cur[o]?:=by simp[World.cell?,h]
def xI(q:PH)(b:Nat)(xs:List Value):PH:=λc o=>if c=b then xs[o]? else q c o
theorem sb_step(hT:zG P E.T){o:Oper}{src t e nk:Nat}{x:Operand}{s:ByteArray}{K:Kt}(hop:o.op=.convert src t x)(hc:Cfg w0 Sb B n0 N S q fr L a w)
  (h1:(ty E.T src).d=.str) (h2:(ty E.T t).d=.slice e) (h3:(ty E.T e).d=.int .u8) (hx:opv fr x=.v (.string s))
  (h:sbK q s λq x=>putK N o.dst x fr λfr=>K nk q fr L):Oper.wpIn (FF r) n P o a w (St w0 Sb B n0 N K) Q:=by
 have hxv:=zu hc.f x;rw[hx] at hxv;have hxv:a.eval x=.string s:=hxv;have t1:P.underlying src=some .string:=by have:=(hT src (by rw[h1];simp)).d;rw[h1] at this;exact this
 have t2:P.underlying t=some (.slice e):=by have:=(hT t vJ).d;rw[h2] at this;exact this.1
 have t3:P.underlying e=some (.int .u8):=by have:=(hT e vK).d;rw[h3] at this;exact this
 have hr:=run_bytes_of_string (P:=P) w src t e s t1 t2 t3;obtain⟨_,h⟩:=h;generalize hcap:grownCap w s.size 0 e=cap at hr
 have hbb:Below w.heap.size w (w.drew.alloc (.cells (bytesRow s cap) e ((bytesRow s cap).size,(bytesRow s cap).size+1))):=
  ((Below.refl _ w).drew).alloc (Nat.le_refl _) _
 have hm:=hc.m.below hbb
 have hq0:∀o,q w.heap.size o=none:=λo=>by
  cases hq:q w.heap.size o with
  |none=>rfl
  |some v=>have:=on_lt hc.m.on hq;omega
 have hle:q.le (xI q w.heap.size (s.data.toList.map bv)):=λb o v hv=>by
  unfold xI;split
  ·rename_i e;subst e;rw[hq0] at hv;cases hv
  exact hv
 have hcell:∀o v,(s.data.toList.map bv)[o]?=some v→(w.drew.alloc (.cells (bytesRow s cap) e ((bytesRow s cap).size,(bytesRow s cap).size+1))).cell? ⟨w.heap.size,o,none⟩=some v:=by
  intro o v hv;have hh:(w.drew.alloc (.cells (bytesRow s cap) e ((bytesRow s cap).size,(bytesRow s cap).size+1))).heap[w.heap.size]?=some (.cells (bytesRow s cap) e ((bytesRow s cap).size,(bytesRow s cap).size+1)):=heap_alloc_new w.drew _;rw[cell_of_heap hh,bytesRow,←Array.getElem?_toList];rw[Array.toList_append,Array.toList_map,List.getElem?_append_left (by simpa using(List.getElem?_eq_some_iff.1 hv).1)];exact hv
 refine zA (yJ hop wv) (ya (s:=convert src t (a.eval x)) wG vp) ?_;have hK:=h (xI q w.heap.size (s.data.toList.map bv)) (some ⟨w.heap.size,0,none⟩) cap hle (hcap▸grownCap_ge w s.size 0 e) (λj hj=>by simp[rd,xI]) _ rfl
 have hm':Mem w0 (xI q w.heap.size (s.data.toList.map bv)) S L (w.drew.alloc (.cells (bytesRow s cap) e ((bytesRow s cap).size,(bytesRow s cap).size+1))):=by
  refine⟨hm.ch,hm.ap,λk lb hk b hb o=>?_,hm.fz,λb o v hv=>?_,hm.be,λb o v hv hF=>?_⟩
  ·unfold xI;rw[if_neg]
   ·exact hm.po k lb hk b hb o
   have:=(blk_lt (hc.m.ch k lb hk) hb).2;omega
  ·unfold xI at hv;split at hv
   ·rename_i e;subst e;exact hcell o v hv
   exact hm.on b o v hv
  unfold xI at hv;split at hv
  ·rename_i e;have h1:=w0.lt b hF;have h2:=hc.m.be.size;omega
  exact hm.gw b o v hv hF
 obtain⟨fr',hK',hc'⟩:=(hc.mem hm').put (v:=.slice (some ⟨w.heap.size,0,none⟩) s.size cap) hK rfl;exact⟨S,_,fr',L,nk,hc',hK'⟩
end
section
variable {P:Program}{S S' Sb:Pl}{fr:Fr}{L L':LL}{q q':PH}{w0:W0}{w w':World}{a:Act}{n0 N:Nat}{B:Nat→Prop}{E:Env}
theorem okF_nil{tm:Array Value}:okF S [] tm:=λ_=>trivial
theorem mFr_ok{b:Nat}{ac:Fr}:∀{tm:Fr}{ags:As}{K:As→Prop},AsOk b ags→mFr b tm ac ags K→Got b ags K λags=>∀(S:Pl) t,okF S ac t→okF (sub ags S) tm t
 |[],ags,K,ho,h=>.here ho h λ_ _ _ _ _=>okF_nil
 |(t,x)::r,ags,K,ho,h=>by
  rw[mFr_c] at h;obtain⟨as1,e1,o1,h1,r1⟩:=mSV_ok ho h;obtain⟨as2,e2,o2,h2,r2⟩:=mFr_ok o1 h1;refine⟨as2,e1.trans e2,o2,h2,λags'' e o S tm hv u=>?_⟩;rw[zH];split
  ·rename_i e';subst e';exact r1 ags'' (e2.trans e) o S _ (hv t)
  exact r2 ags'' e o S tm hv u
def Lies(N0:Nat)(S S':Pl)(j k:Nat)(y x:LB):Prop:=blk S' k x=blk S j y∧∀w,zD N0 S j y w→zD N0 S' k x w
theorem mLB_ok{N0 b:Nat}{x y:LB}{ags:As}{K:As→Prop}(ho:AsOk b ags)(h:mLB b x y ags K):Got b ags K λags=>∀(S:Pl) k j,sub ags S k=S j→Lies N0 S (sub ags S) j k y x:=by
 unfold mLB at h;split at h
 ·split at h
  ·rename_i e;have e:=Nat.eq_of_beq_eq_true e;subst e;obtain⟨ags',h1,h2,h3,h4⟩:=mL_ok ho h;refine⟨ags',h1,h2,h3,λags'' e o S k j hs=>⟨by simp[blk,hs],λw hc=>?_⟩⟩;obtain⟨g1,vs,g2,g3⟩:=hc;exact⟨by rw[hs];exact g1,vs,by rw[hs];exact g2,h4 ags'' e o S vs g3⟩
  exact h.elim
 ·split at h
  ·rename_i e1;split at h
   ·rename_i e2;have e1:=Nat.eq_of_beq_eq_true e1;have e2:=Nat.eq_of_beq_eq_true e2;subst e1 e2;obtain⟨⟨rfl,rfl⟩,h⟩:=h;exact .here ho h λags'' o S k j hs=>⟨by simp[blk,hs],λw hc=>by simp only[zD,hs] at hc ⊢;exact hc⟩
   exact h.elim
  exact h.elim
 ·exact .here ho h λags'' o S k j hs=>⟨by simp[blk,hs],λw hc=>by simp only[zD,hs] at hc ⊢;exact hc⟩
 ·exact .here ho h λags'' o S k j hs=>⟨by simp[blk,hs],λw hc=>by simp only[zD,hs] at hc ⊢;exact hc⟩
 ·exact .here ho h λags'' o S k j hs=>⟨by simp[blk,hs],λw hc=>by simp only[zD,hs] at hc ⊢;exact hc⟩
 exact h.elim
theorem mLL_ok{N0 b:Nat}{ac:LL}:∀{tm:LL}{ags:As}{K:As→Prop},AsOk b ags→mLL b tm ac ags K →
  Got b ags K λags=>∀k x,getL tm k=some x→∃j y,asGet ags k=some j∧getL ac j=some y∧∀S:Pl,Lies N0 S (sub ags S) j k y x
 |[],ags,K,ho,h=>.here ho h λ_ _ _ _ hk=>by cases hk
 |(k,x)::r,ags,K,ho,h=>by
  rw[mLL_c] at h
  have fin:∀{as0:As}{j:Nat}{y:LB},AsExt ags as0→AsOk b as0→asGet as0 k=some j→getL ac j=some y→(mLB b x y as0 λags=>mLL b r ac ags K) →
    Got b ags K λags=>∀k' x',getL ((k,x)::r) k'=some x'→∃j y,asGet ags k'=some j∧getL ac j=some y∧∀S:Pl,Lies N0 S (sub ags S) j k' y x':=by
   intro as0 j y e0 o0 hg hy h;obtain⟨as1,e1,o1,h1,r1⟩:=mLB_ok (N0:=N0) o0 h;obtain⟨as2,e2,o2,h2,r2⟩:=mLL_ok o1 h1;refine⟨as2,(e0.trans e1).trans e2,o2,h2,λags'' e o k' x' hk'=>?_⟩;rw[ze] at hk';split at hk'
   ·rename_i ek;subst ek;cases hk';have hg':=e _ _ (e2 _ _ (e1 _ _ hg));exact⟨j,y,hg',hy,λS=>r1 ags'' (e2.trans e) o S k j (sub_get hg')⟩
   exact r2 ags'' e o k' x' hk'
  split at h
  ·rename_i j hj;split at h
   ·rename_i y hy;exact fin (.refl _) ho hj hy h
   exact h.elim
  rename_i hn;split at h
  ·rename_i hb hh;split at h
   ·rename_i y hy;obtain⟨e0,o0⟩:=ho.cons hn hh (λ_=>rfl);exact fin e0 o0 (by rw[yQ,if_pos rfl]) hy h
   exact h.elim
  exact h.elim
theorem yq{k:Nat}{B:LL}:∀{A:LL},getL (appL A B) k=match getL A k with|some x=>some x|none=>getL B k
 |[]=>by simp[appL_n,getL_n]
 |(u,x)::r=>by
  simp only[appL_c,ze,yq (A:=r)];by_cases h:u=k<;>simp[h]
theorem get_appF{B:Fr}{t:Nat}:∀{A:Fr},get (appF A B) t=get A t∨get (appF A B) t=get B t
 |[]=>.inr rfl
 |(u,x)::r=>by
  simp only[appF_c,zH];split
  ·exact .inl rfl
  exact get_appF
theorem okF_appF{A B:Fr}{t:Array Value}(h:okF S A t)(h':okF S B t):okF S (appF A B) t:=λv=>by
 rcases get_appF (A:=A) (B:=B) (t:=v) with e|e<;>rw[e]
 ·exact h v
 exact h' v
theorem okF_keepF{fr:Fr}{t:Array Value}(h:okF S fr t):∀(ks:List Nat),okF S (keepF ks fr) t
 |[]=>okF_nil
 |k::r=>λv=>by
  simp only[keepF_c,zH];split
  ·rename_i e;subst e;exact h k
  exact okF_keepF h r v
theorem yN{ags:As}{k:Nat}:∀{L:LL},(asHas ags k=false→getL (restL ags L) k=getL L k)∧∀x,getL (restL ags L) k=some x→asHas ags k=false
 |[]=>⟨λ_=>rfl,λ_ h=>by cases h⟩
 |(u,y)::r=>by
  obtain⟨h1,h2⟩:=yN (ags:=ags) (k:=k) (L:=r);rw[restL_c];split
  ·rename_i hu;refine⟨λhk=>?_,h2⟩;rw[ze,if_neg (λe=>by subst e;rw[hu] at hk;cases hk)];exact h1 hk
  rename_i hu;refine⟨λhk=>?_,λx hx=>?_⟩
  ·rw[ze,ze,h1 hk]
  rw[ze] at hx;split at hx
  ·rename_i e;subst e;exact hu
  exact h2 x hx
theorem hidFree_ok{ags:As}{k:Nat}:∀{L:LL},hidFree ags L=true→getL L k=some .dfr→asHas ags k=false
 |[],_,hk=>by cases hk
 |(u,y)::r,h,hk=>by
  rw[ze] at hk;split at hk
  ·rename_i e;subst e;cases hk;simp only[hidFree] at h;split at h
   ·cases h
   assumption
  refine hidFree_ok (L:=r) ?_ hk;cases y<;>simp only[hidFree] at h<;>first|exact h|(split at h<;>first|cases h|exact h)
theorem Mem.tell{ags:As}{b:Nat}{tm rest:LL}(ho:AsOk b ags)(h:Mem w0 q S L w)(hL:∀k x,getL tm k=some x→∃j y,asGet ags k=some j∧getL L j=some y∧Lies 0 S (sub ags S) j k y x)
  (hR:∀k x,getL rest k=some x→asHas ags k=false∧∃y,getL L k=some y∧Lies 0 S (sub ags S) k k y x):Mem w0 q (sub ags S) (appL tm rest) w:=by
 have main:∀k x,getL (appL tm rest) k=some x→∃j y,getL L j=some y∧Lies 0 S (sub ags S) j k y x∧((asGet ags k=some j)∨(j=k∧asHas ags k=false)):=by
  intro k x hk;rw[yq] at hk;split at hk
  ·rename_i x' hx;cases hk;obtain⟨j,y,h1,h2,h3⟩:=hL k _ hx;exact⟨j,y,h2,h3,.inl h1⟩
  obtain⟨h1,y,h2,h3⟩:=hR k x hk;exact⟨k,y,h2,h3,.inr ⟨rfl,h1⟩⟩
 refine⟨λk x hk=>?_,λk x k' x' hk hk' hne c hc hc'=>?_,λk x hk c hc o=>?_,λk x hk c hc=>?_,h.on,h.be,h.gw⟩
 ·obtain⟨j,y,h1,h2,_⟩:=main k x hk;exact h2.2 w (h.ch j y h1)
 ·obtain⟨j,y,h1,h2,h3⟩:=main k x hk;obtain⟨j',y',h1',h2',h3'⟩:=main k' x' hk';rw[h2.1] at hc;rw[h2'.1] at hc';refine h.ap j y j' y' h1 h1' (λe=>?_) c hc hc';subst e;rcases h3 with h3|⟨h3,h4⟩<;>rcases h3' with h3'|⟨h3',h4'⟩
  ·exact hne (ho.inj k k' j h3 h3')
  ·subst h3';rw[yZ h3] at h4';cases h4'
  ·subst h3;rw[yZ h3'] at h4;cases h4
  exact hne (h3.symm.trans h3')
 ·obtain⟨j,y,h1,h2,_⟩:=main k x hk;rw[h2.1] at hc;exact h.po j y h1 c hc o
 obtain⟨j,y,h1,h2,_⟩:=main k x hk;rw[h2.1] at hc;exact h.fz j y h1 c hc
end
section
variable {P:Program}{S S' Sb:Pl}{fr:Fr}{L L':LL}{q q':PH}{w0:W0}{w w':World}{a:Act}{n0 N:Nat}{B:Nat→Prop}{E:Env}
variable {r:Option Nat}{n:Nat}{Q:Exit→Act→World→Prop}
theorem rK_eq{ags:As}{nk k:Nat}{K:Nat→Prop}:rK ags nk k K=K (ren ags nk k):=by
 unfold rK ren;split
 ·rename_i j h;simp
 rename_i h;rw[fN_eq]
mutual
theorem rSV_eq{ags:As}{nk:Nat}:∀(x:SV) {K:SV→Prop},rSV ags nk x K=K (yy (ren ags nk) x)
 |.lp k o,K=>by simp only[rSV,yy,rK_eq]
 |.own k,K=>by simp only[rSV,yy,rK_eq]
 |.yl k,K=>by simp only[rSV,yy,rK_eq]
 |.vw k _ _ _ _,K=>by simp only[rSV,yy,rK_eq]
 |.lq k,K=>by simp only[rSV,yy,rK_eq]
 |.ls k _,K=>by simp only[rSV,yy,rK_eq]
 |.mr k,K=>by simp only[rSV,yy,rK_eq]
 |.agg l,K=>by simp only[rSV,yy];rw[rSVL_eq l]
 |.tup l,K=>by simp only[rSV,yy];rw[rSVL_eq l]
 |.fn f l,K=>by simp only[rSV,yy];rw[rSVL_eq l]
 |.v x,K=>by simp only[rSV,yy];rw[yn]
 |.bb b,K=>by simp only[rSV,yy];rw[yn]
 |.b p d,K=>by simp only[rSV,yy];rw[yn]
 |.el A j,K=>by simp only[rSV,yy];rw[yn]
 |.bad,K=>by simp only[rSV,yy];rw[yn]
theorem rSVL_eq{ags:As}{nk:Nat}:∀(x:List SV) {K:List SV→Prop},rSVL ags nk x K=K (renL (ren ags nk) x)
 |[],K=>by simp only[rSVL,renL]
 |x::r,K=>by simp only[rSVL,renL];rw[rSV_eq x,rSVL_eq r]
end
theorem rLB_eq{ags:As}{nk:Nat}(x:LB){K:LB→Prop}:rLB ags nk x K=K (renLB (ren ags nk) x):=by
 cases x with
 |cells T l=>simp only[rLB,renLB,rSVL_eq]
 |row E sz n l=>simp only[rLB,renLB,rSVL_eq]
 |arr E sz n xs=>simp only[rLB,renLB];rw[fLB_eq]
 |dfr=>simp only[rLB,renLB];rw[fLB_eq]
 |mp es c=>simp only[rLB,renLB];rw[fLB_eq]
 |sb E n xs=>simp only[rLB,renLB];rw[fLB_eq]
 |loop st pe=>simp only[rLB,renLB];rw[fLB_eq]
theorem rLL_eq{ags:As}{nk:Nat}{rest:LL}:∀(l:LL) {K:LL→Prop},rLL ags nk l rest K=K (appL (renLL (ren ags nk) l) rest)
 |[],K=>by simp only[rLL,renLL,appL_n]
 |(k,x)::r,K=>by simp only[rLL,renLL,appL_c];rw[rK_eq,rLB_eq,rLL_eq r]
mutual
theorem okv_ren{σ:Nat→Nat}:∀(x:SV) {v:Value},okv S (yy σ x) v↔okv (λk=>S (σ k)) x v
 |.lp _ _,v=>by simp[yy,okv]
 |.own _,v=>by simp[yy,okv]
 |.yl _,v=>by simp[yy,okv]
 |.vw _ _ _ _ _,v=>by simp[yy,okv]
 |.lq _,v=>by simp[yy,okv]
 |.ls _ _,v=>by simp[yy,okv]
 |.mr _,v=>by simp[yy,okv]
 |.agg l,v=>by simp only[yy,okv,okL_ren l]
 |.tup l,v=>by simp only[yy,okv,okL_ren l]
 |.fn f l,v=>by simp only[yy,okv,okL_ren l]
 |.v _,v=>by simp[yy,okv]
 |.bb _,v=>by simp[yy,okv]
 |.b _ _,v=>by simp[yy,okv]
 |.el _ _,v=>by simp[yy,okv]
 |.bad,v=>by simp[yy,okv]
theorem okL_ren{σ:Nat→Nat}:∀(l:List SV) {vs:List Value},okL S (renL σ l) vs↔okL (λk=>S (σ k)) l vs
 |[],[]=>by simp[renL,okL]
 |[],_::_=>by simp[renL,okL]
 |_::_,[]=>by simp[renL,okL]
 |x::r,v::vs=>by simp only[renL,okL,okv_ren x,okL_ren r]
end
theorem chunk_ren{σ:Nat→Nat}{k:Nat}{lb:LB}:zD 0 S (σ k) (renLB σ lb) w↔zD 0 (λk=>S (σ k)) k lb w:=by
 cases lb with
 |cells T l=>simp only[renLB,zD,okL_ren]
 |row E sz n l=>simp only[renLB,zD,okL_ren]
 |arr E sz n xs=>rfl
 |dfr=>rfl
 |mp es c=>rfl
 |sb E n xs=>rfl
 |loop st pe=>rfl
theorem blk_ren{σ:Nat→Nat}{k:Nat}{lb:LB}:blk S (σ k) (renLB σ lb)=blk (λk=>S (σ k)) k lb:=by
 cases lb<;>rfl
theorem getL_ren{σ:Nat→Nat}{j:Nat}{y:LB}:∀{L:LL},getL (renLL σ L) j=some y→∃k x,σ k=j∧y=renLB σ x∧getL L k=some x
 |[],h=>by cases h
 |(u,x)::r,h=>by
  simp only[renLL,ze] at h;split at h
  ·rename_i e;cases h;exact⟨u,x,e,rfl,by rw[ze,if_pos rfl]⟩
  rename_i e;obtain⟨k,x',h1,h2,h3⟩:=getL_ren h;exact⟨k,x',h1,h2,by rw[ze,if_neg (λe'=>e (by rw[e'];exact h1))];exact h3⟩
def yh(q:PH)(w:World)(S:Pl)(L:LL):W0:=⟨w,λb=>b<w.heap.size∧∀k lb,getL L k=some lb→blk S k lb≠some b,λ_ h=>h.1,λb=>b<w.heap.size∧∀k lb,getL L k=some lb→blk S k lb≠some b,λ_ h=>h,q⟩
def CSOk(P:Program)(s:CS):Prop:=
 (∀args w,(callFunc s.f args).run P w=.ok (.enter s.f args) w) ∧
 ∀w q S i vs,s.ok i→RdsOk q (s.rds i)→Mem (yh q w S (s.L i)) q S (s.L i) w→caOk w (yh q w S (s.L i)).F S (s.args i) vs →
  Calls P s.f vs.toArray w λe w'=>∃v S' q' g,e=.returned v∧okv S' (s.resG i g) v∧(∀k,k<s.keys→S' k=S k)∧Mem (yh q w S (s.L i)) q' S' (s.LG i g) w' ∧
   q.le q'∧s.okG i g∧RdsOk q' (s.rdsG i g)∧(s.gr=false→q'=q∧s.resG i g=s.res i∧s.LG i g=s.L' i)
theorem CSOk.plain{P:Program}{s:CS}(h1:∀args w,(callFunc s.f args).run P w=.ok (.enter s.f args) w)
  (h2:∀w q S i vs,s.ok i→RdsOk q (s.rds i)→Mem (yh q w S (s.L i)) q S (s.L i) w→caOk w (yh q w S (s.L i)).F S (s.args i) vs →
   Calls P s.f vs.toArray w fun e w'=>∃v S',e=.returned v∧okv S' (s.res i) v∧(∀k,k<s.keys→S' k=S k)∧Mem (yh q w S (s.L i)) q S' (s.L' i) w')
  (hdef:∃g:s.γ,∀i,s.resG i g=s.res i∧s.LG i g=s.L' i∧s.okG i g∧s.rdsG i g=[]:=by exact⟨(),λ_=>⟨rfl,rfl,trivial,rfl⟩⟩):CSOk P s:=by
 refine⟨h1,λw q S i vs a b c d=>(h2 w q S i vs a b c d).mono ?_⟩;rintro e w' ⟨v,S',rfl,hv,hS,hm⟩;obtain⟨g,hg⟩:=hdef;obtain⟨g1,g2,g3,g4⟩:=hg i;exact⟨v,S',q,g,rfl,by rw[g1];exact hv,hS,by rw[g2];exact hm,λ_ _ _ h=>h,g3,by rw[g4];trivial,λ_=>⟨rfl,g1,g2⟩⟩
def CSsOk(P:Program)(Δ:List CS):Prop:=∀f s,findC Δ f=some s→s.f=f∧(s.calm=true→zp P s)∧(s.calm=false→CSOk P s)
theorem asLt_get{m nk:Nat}:∀{ags:As}{k j:Nat},asLt m nk ags=true→asGet ags k=some j→k<m∧j<nk
 |[],_,_,_,h=>by cases h
 |(u,x)::r,k,j,h,hk=>by
  unfold asLt at h;rw[yQ] at hk;split at h
  ·rename_i h1 h2;split at hk
   ·rename_i e;subst e;cases hk;exact⟨Nat.le_of_ble_eq_true h1,Nat.le_of_ble_eq_true h2⟩
   exact asLt_get h hk
  cases h
theorem callC_ok{s:CS}(hs:CSOk P s){nk:Nat}{args:List SV}{vs:List Value}{K:SV→Nat→PH→LL→Prop}(hvs:okL S args vs)(hm:Mem w0 q S L w)(h:callC s n0 nk q fr L args K):
  n0≤nk∧ltF nk fr=true∧(∀d,getL L d=some .dfr→d<nk)∧Calls P s.f vs.toArray w λe w'=>∃v x S' q' L' nk',e=.returned v∧okv S' x v∧(∀k,k<nk→S' k=S k)∧Mem w0 q' S' L' w'∧(∀d,getL L d=some .dfr→getL L' d=some .dfr)∧K x nk' q' L':=by
 unfold callC at h;split at h;rotate_left
 ·exact h.elim
 rename_i h0 hf hltL;refine⟨Nat.le_of_ble_eq_true h0,hf,λd hd=>zT hltL (zm hd (.inl rfl)),?_⟩;obtain⟨i,⟨hok⟩,⟨hrd⟩,h⟩:=h;obtain⟨as1,ro1,e1,o1,_,h,r1⟩:=mA_ok (S:=S) (w:=w) (AsOk.nil 0) h;obtain⟨as2,e2,o2,h,r2⟩:=mLL_ok (N0:=0) o1 h;split at h;rotate_left
 ·exact h.elim
 rename_i has hro hhid
 have hand:∀k x,getL (s.L i) k=some x→∃j y,asGet as2 k=some j∧getL L j=some y∧Lies 0 S (sub as2 S) j k y x:=λk x hk=>by
  obtain⟨j,y,g1,g2,g3⟩:=r2 as2 (.refl _) o2 k x hk;exact⟨j,y,g1,g2,g3 S⟩
 have hFin:∀b,b<w.heap.size→(∀k x,getL (s.L i) k=some x→blk (sub as2 S) k x≠some b)→(yh q w (sub as2 S) (s.L i)).F b:=λb h1 h2=>⟨h1,h2⟩
 have hnot:∀b,(∀k x,getL (s.L i) k=some x→∃j y,asGet as2 k=some j∧getL L j=some y∧blk S j y≠some b)→∀k x,getL (s.L i) k=some x→blk (sub as2 S) k x≠some b:=λb hb k x hk=>by
  obtain⟨j,y,g1,g2,g3⟩:=hb k x hk;obtain⟨j',y',g1',g2',g4⟩:=hand k x hk;rw[g1] at g1';cases g1';rw[g2] at g2';cases g2';rw[g4.1];exact g3
 have hm1:Mem (yh q w (sub as2 S) (s.L i)) q (sub as2 S) (s.L i) w:=by
  refine⟨λk x hk=>?_,λk x k' x' hk hk' hne b hb hb'=>?_,λk x hk b hb o=>?_,λk x hk b hb hF=>hF.2 k x hk hb,hm.on,Bel.refl (yh q w (sub as2 S) (s.L i)),λ_ _ _ hv _=>hv⟩
  ·obtain⟨j,y,g1,g2,g3⟩:=hand k x hk;exact g3.2 w (hm.ch j y g2)
  ·obtain⟨j,y,g1,g2,g3⟩:=hand k x hk;obtain⟨j',y',g1',g2',g3'⟩:=hand k' x' hk';rw[g3.1] at hb;rw[g3'.1] at hb';exact hm.ap j y j' y' g2 g2' (λe=>hne (o2.inj k k' j g1 (by rw[e];exact g1'))) b hb hb'
  obtain⟨j,y,g1,g2,g3⟩:=hand k x hk;rw[g3.1] at hb;exact hm.po j y g2 b hb o
 have hblk:∀j y b,getL L j=some y→asHas as2 j=false→blk S j y=some b→(yh q w (sub as2 S) (s.L i)).F b:=λj y b hj hja hb=>by
  refine hFin b (blk_lt (hm.ch j y hj) hb).2 (hnot b λk x hk=>?_);obtain⟨j',y',g1,g2,g3⟩:=hand k x hk;exact⟨j',y',g1,g2,λe=>hm.ap j' y' j y g2 hj (λe'=>by subst e';rw[yZ g1] at hja;cases hja) b e hb⟩
 have hq:∀b o v,q b o=some v→(yh q w (sub as2 S) (s.L i)).F b:=λb o v hv=>by
  refine hFin b (on_lt hm.on hv) (hnot b λk x hk=>?_);obtain⟨j',y',g1,g2,g3⟩:=hand k x hk;exact⟨j',y',g1,g2,λe=>by rw[hm.po j' y' g2 b e o] at hv;cases hv⟩
 have hca:=r1 as2 vs e2 o2 hro hvs hm.on hm.ch _ hq hblk;refine(hs.2 w q (sub as2 S) i vs hok hrd hm1 hca).mono ?_;rintro e w' ⟨v,S',q',g,rfl,hv,hS,hm2,hqq,hokg,hrdg,hgr⟩
 have h:K (yy (ren as2 nk) (s.resG i g)) (nk+s.more) q' (appL (renLL (ren as2 nk) (s.LG i g)) (restL as2 L)):=by
  cases hg:s.gr with
  |false=>
   rw[hg] at h;obtain⟨e1,e2,e3⟩:=hgr hg;dsimp only at h;rw[rLL_eq,rSV_eq,fN_eq] at h;rw[e1,e2,e3];exact h
  |true=>
   rw[hg] at h;have h:=h q' g hqq hokg hrdg;rw[rLL_eq,rSV_eq,fN_eq] at h;exact h
 let Sc:Pl:=λj=>if j<nk then S j else S' (j-nk)
 have hσ:(λk=>Sc (ren as2 nk k))=S':=by
  funext k;simp only[Sc,ren];split
  ·rename_i j hj;obtain⟨g1,g2⟩:=asLt_get has hj;rw[if_pos g2,hS k g1,sub_get hj]
  rw[if_neg ws];congr 1;omega
 have hlow:∀k,k<nk→Sc k=S k:=λk hk=>by simp only[Sc];rw[if_pos hk]
 have hrest:∀j y,getL (restL as2 L) j=some y→getL L j=some y∧asHas as2 j=false∧j<nk:=λj y hj=>by
  have g:=yN.2 y hj;have g2:getL L j=some y:=(yN.1 g).symm.trans hj;exact⟨g2,g,zT hltL (zm g2 (.inl rfl))⟩
 have hcong:∀j y,getL L j=some y→(∀u,y.has u=true→Sc u=S u):=λj y hj u hu=>hlow u (zT hltL (zm hj (.inr hu)));refine⟨v,_,Sc,q',_,_,rfl,okv_ren _ |>.2 (by rw[hσ];exact hv),hlow,?_,λd hd=>?_,h⟩
 ·-- memory,behind the call
  have new:∀j y,getL (renLL (ren as2 nk) (s.LG i g)) j=some y→∃k x,ren as2 nk k=j∧y=renLB (ren as2 nk) x∧getL (s.LG i g) k=some x∧blk Sc j y=blk S' k x:=λj y hj=>by
   obtain⟨k,x,g1,g2,g3⟩:=getL_ren hj;refine⟨k,x,g1,g2,g3,?_⟩;rw[←g1,g2,blk_ren,hσ]
  have old:∀j y,getL (restL as2 L) j=some y→∀b,blk Sc j y=some b→blk S j y=some b∧(yh q w (sub as2 S) (s.L i)).F b:=λj y hj b hb=>by
   obtain⟨g1,g2,g3⟩:=hrest j y hj;rw[zX (hlow j g3)] at hb;exact⟨hb,hblk j y b g1 g2 hb⟩
  refine⟨λj y hj=>?_,λj y j' y' hj hj' hne b hb hb'=>?_,λj y hj b hb o=>?_,λj y hj b hb hF=>?_,?_,?_,?_⟩
  ·rw[yq] at hj;split at hj
   ·rename_i y' hy';cases hj;obtain⟨k,x,g1,g2,g3,_⟩:=new j y hy';rw[←g1,g2,chunk_ren,hσ];exact hm2.ch k x g3
   obtain⟨g1,g2,g3⟩:=hrest j y hj;refine yt (hlow j g3) (hcong j y g1) ?_;refine zI (hm.ch j y g1) λb hb=>?_;exact hm2.be.block b (hblk j y b g1 g2 hb)
  ·rw[yq] at hj hj';split at hj<;>split at hj'
   ·rename_i h1 _ y2 h2;cases hj;cases hj';obtain⟨k,x,g1,g2,g3,g4⟩:=new j y h1;obtain⟨k',x',g1',g2',g3',g4'⟩:=new j' y' h2;rw[g4] at hb;rw[g4'] at hb';exact hm2.ap k x k' x' g3 g3' (λe=>hne (by rw[←g1,←g1',e])) b hb hb'
   ·rename_i h1 _ h2;cases hj;obtain⟨k,x,g1,g2,g3,g4⟩:=new j y h1;rw[g4] at hb;exact hm2.fz k x g3 b hb (old j' y' hj' b hb').2
   ·rename_i h1 _ y2 h2;cases hj';obtain⟨k,x,g1,g2,g3,g4⟩:=new j' y' h2;rw[g4] at hb';exact hm2.fz k x g3 b hb' (old j y hj b hb).2
   obtain⟨g1,g2,g3⟩:=hrest j y hj;obtain⟨g1',g2',g3'⟩:=hrest j' y' hj';exact hm.ap j y j' y' g1 g1' hne b (old j y hj b hb).1 (old j' y' hj' b hb').1
  ·rw[yq] at hj;split at hj
   ·rename_i y' hy';cases hj;obtain⟨k,x,g1,g2,g3,g4⟩:=new j y hy';rw[g4] at hb;exact hm2.po k x g3 b hb o
   obtain⟨g1,g2,g3⟩:=hrest j y hj
   cases hq':q' b o with
   |none=>rfl
   |some v'=>
    have:=hm2.gw b o v' hq' (old j y hj b hb).2;have this:q b o=some v':=this;rw[hm.po j y g1 b (old j y hj b hb).1 o] at this;cases this
  ·rw[yq] at hj;split at hj
   ·rename_i y' hy';cases hj;obtain⟨k,x,g1,g2,g3,g4⟩:=new j y hy';rw[g4] at hb;refine hm2.fz k x g3 b hb (hFin b (Nat.lt_of_lt_of_le (w0.lt b hF) hm.be.size) (hnot b λk' x' hk'=>?_));obtain⟨j',y',p1,p2,p3⟩:=hand k' x' hk';exact⟨j',y',p1,p2,λe=>hm.fz j' y' p2 b e hF⟩
   obtain⟨g1,g2,g3⟩:=hrest j y hj;exact hm.fz j y g1 b (old j y hj b hb).1 hF
  ·exact hm2.on
  ·refine⟨hm2.be.os.trans hm.be.os,hm2.be.tape.trans hm.be.tape,hm2.be.output.trans hm.be.output,Nat.le_trans hm.be.size hm2.be.size,λb hF=>?_⟩;refine(hm2.be.block b (hFin b (Nat.lt_of_lt_of_le (w0.lt b hF) hm.be.size) (hnot b λk' x' hk'=>?_))).trans (hm.be.block b hF);obtain⟨j',y',p1,p2,p3⟩:=hand k' x' hk';exact⟨j',y',p1,p2,λe=>hm.fz j' y' p2 b e hF⟩
  intro b o v' hv' hF;refine hm.gw b o v' (hm2.gw b o v' hv' (hFin b (Nat.lt_of_lt_of_le (w0.lt b hF) hm.be.size) (hnot b λk' x' hk'=>?_))) hF;obtain⟨j',y',p1,p2,p3⟩:=hand k' x' hk';exact⟨j',y',p1,p2,λe=>hm.fz j' y' p2 b e hF⟩
 have g:=hidFree_ok hhid hd;have g2:getL (restL as2 L) d=some .dfr:=(yN.1 g).trans hd;rw[yq];split
 ·rename_i x hx;exfalso;obtain⟨k,x',g3,g4,g5⟩:=getL_ren hx;have hdn:=(hrest d _ g2).2.2;unfold ren at g3;split at g3
  ·rename_i j hj;subst g3;rw[yZ hj] at g;cases g
  omega
 exact g2
def GOk(P:Program)(E:Env):Prop:=SpecsOk P E.Γ∧CSsOk P E.Δ
theorem GOk.calm(h:GOk P E):CalmsOk P E.Δ:=λf s hs=>⟨(h.2 f s hs).1,(h.2 f s hs).2.1⟩
theorem Cfg.frame{fr':Fr}(hc:Cfg w0 Sb B n0 N S q fr L a w)(hf:okF S fr' a.tmps):Cfg w0 Sb B n0 N S q fr' L a w:=⟨hc.ag,hc.b,hc.m,hf,hc.n,hc.d⟩
theorem okF_setF{tm:Array Value}{t:Nat}{x:SV}(h:okF S fr tm)(hx:okv S x (tm.getD t undef)):okF S (setF fr t x) tm:=by
 intro u;unfold setF;rw[zH];split
 ·rename_i e;subst e;exact hx
 exact h u
theorem Mem.relabel{k:Nat}{lb lb':LB}(h:Mem w0 q S L w)(hk:getL L k=some lb)(hc:zD 0 S k lb' w)(hb:blk S k lb'=blk S k lb):Mem w0 q S (setL L k lb') w:=by
 have g:∀j l,getL (setL L k lb') j=some l→∃l',getL L j=some l'∧blk S j l=blk S j l'∧zD 0 S j l w:=λj l hj=>by
  rw[zK] at hj;split at hj
  ·rename_i e;subst e;rw[hk] at hj;cases hj;exact⟨lb,hk,hb,hc⟩
  exact⟨l,hj,rfl,h.ch j l hj⟩
 refine⟨λj l hj=>?_,λj l j' l' hj hj' hne b hb1 hb2=>?_,λj l hj b hb1 o=>?_,λj l hj b hb1=>?_,h.on,h.be,h.gw⟩
 ·obtain⟨_,_,_,h3⟩:=g j l hj;exact h3
 ·obtain⟨x,h1,h2,_⟩:=g j l hj;obtain⟨x',h1',h2',_⟩:=g j' l' hj';rw[h2] at hb1;rw[h2'] at hb2;exact h.ap j x j' x' h1 h1' hne b hb1 hb2
 ·obtain⟨x,h1,h2,_⟩:=g j l hj;rw[h2] at hb1;exact h.po j x h1 b hb1 o
 obtain⟨x,h1,h2,_⟩:=g j l hj;rw[h2] at hb1;exact h.fz j x h1 b hb1
theorem nil_new{n0 nk e sz:Nat}{K:LL→Prop}(hc:Cfg w0 Sb B n0 N S q fr L a w)(h:newK n0 nk fr L (.arr e (sz+1) 0 []) K):
  ∃S',Cfg w0 Sb B n0 N S' q fr ((nk,.arr e (sz+1) 0 [])::L) a w∧okv S' (.own nk) (.slice none 0 0)∧(∀k,k≠nk→S' k=S k)∧K ((nk,.arr e (sz+1) 0 [])::L):=by
 obtain⟨h0,h1,h2,hK⟩:=xS h
 have hm:Mem w0 q (updS S nk (yA none 0 0)) ((nk,.arr e (sz+1) 0 [])::L) w:=
  hc.m.new h2 (Below.refl _ w) (xY (World.ownsRow_nil w 0 e (sz+1)) ws (λx hx=>by cases hx) (.inl rfl)) (λb hb=>by simp[blk,zc,yA] at hb)
 exact⟨_,hc.new h0 h1 h2 hm,by simp[okv,zc,yA],λk hk=>zz hk,hK⟩
theorem xu:∀{ts:List (Nat×Nat×Nat×Nat)}{n0 nk:Nat}{S:Pl}{fr:Fr}{L:LL}{K:Nat→Fr→LL→Prop},Cfg w0 Sb B n0 N S q fr L a w→nilF ts n0 nk fr L K →
  ∃S' fr' L' nk',Cfg w0 Sb B n0 N S' q fr' L' a w∧K nk' fr' L'
 |[],n0,nk,S,fr,L,K,hc,h=>⟨S,fr,L,nk,hc,h⟩
 |(t,o,e,sz)::r,n0,nk,S,fr,L,K,hc,h=>by
  unfold nilF at h;split at h
  ·exact h.elim
  rename_i sz;have ht:=hc.f t;split at h
  ·rename_i eg;unfold nilAt at eg;split at eg
   ·cases eg
   rw[eg] at ht;obtain⟨S',hc',hv,_,hK⟩:=nil_new hc h;rw[fN_eq] at hK;have ht:a.tmps.getD t undef=.slice none 0 0:=ht;exact xu (hc'.frame (okF_setF hc'.f (by rw[ht];exact hv))) hK
  ·rename_i k x eg;split at h
   ·rename_i T cs hk;split at h
    ·rename_i hn;obtain⟨S',hc',hv,hS,hK⟩:=nil_new hc h;rw[zY,fN_eq] at hK
     have hkn:k≠nk:=λe'=>by
      subst e';obtain⟨_,_,h2,_⟩:=xS h;rw[zm hk (.inl rfl)] at h2;cases h2
     have hk':getL ((nk,LB.arr e (sz+1) 0 [])::L) k=some (.cells T cs):=by rw[ze,if_neg (λe'=>hkn e'.symm)];exact hk
     obtain⟨g1,vs,g2,g3⟩:=hc'.m.ch k _ hk';obtain⟨u,hu,hu2⟩:=okL_nth g3 hn;have hu2:u=.slice none 0 0:=hu2;subst hu2
     have g4:okL S' (setN cs o (.own nk)) vs:=by
      have:=okL_set o g3 hv
      rwa [List.set_getElem?_self' hu] at this
     exact xu (hc'.turn hk' wv (hc'.m.relabel (lb':=.cells T (setN cs o (.own nk))) hk' ⟨g1,vs,g2,g4⟩ rfl)) hK
    exact xu hc h
   exact xu hc h
  exact xu hc h
where
 List.set_getElem?_self' {α:Type}{l:List α}{i:Nat}{x:α}(h:l[i]?=some x):l.set i x=l:=by
  apply List.ext_getElem?;intro j;rw[List.getElem?_set];split
  ·rename_i e;subst e;split
   ·exact h.symm
   rename_i h2;rw[List.getElem?_eq_none ws] at h;cases h
  rfl
theorem mapR_eq{α β:Type}(f:α→β):∀l:List α,mapR f l=l.map f
 |[]=>rfl
 |x::r=>congrArg (List.cons (f x)) (mapR_eq f r)
theorem okv_fz0{k:Nat}{x:SV}{u:Value}(h:okv S x u):okv S (fz0 k (.slice (S k).A (S k).n (S k).c) x) u:=by
 cases x with
 |own j=>
  show okv S (match Nat.beq j k with|true=>SV.v (.slice (S k).A (S k).n (S k).c)|false=>.own j) u
  cases e:Nat.beq j k with
  |true=>
   have:=Nat.eq_of_beq_eq_true e;subst this;exact h
  |false=>exact h
 |_=>exact h
theorem okL_map{f:SV→SV}(hf:∀x u,okv S x u→okv S (f x) u):∀{cs:List SV}{vs:List Value},okL S cs vs→okL S (cs.map f) vs
 |[],[],_=>trivial
 |_::_,_::_,h=>⟨hf _ _ h.1,okL_map hf h.2⟩
 |[],_::_,h=>h.elim
 |_::_,[],h=>h.elim
theorem okv_fz1{k:Nat}{x:SV}{u:Value}(h:okv S x u):okv S (fz1 k (.slice (S k).A (S k).n (S k).c) x) u:=by
 cases x with
 |agg cs=>
  obtain⟨vs,e,h⟩:=h;refine⟨vs,e,?_⟩;rw[mapR_eq];exact okL_map (λ_ _ h=>okv_fz0 h) h
 |_=>exact okv_fz0 (k:=k) h
theorem okv_fz2{k:Nat}{x:SV}{u:Value}(h:okv S x u):okv S (fz2 k (.slice (S k).A (S k).n (S k).c) x) u:=by
 cases x with
 |tup cs=>
  obtain⟨vs,e,h⟩:=h;refine⟨vs,e,?_⟩;rw[mapR_eq];exact okL_map (λ_ _ h=>okv_fz1 h) h
 |fn f cs=>
  obtain⟨vs,e,h⟩:=h;refine⟨vs,e,?_⟩;rw[mapR_eq];exact okL_map (λ_ _ h=>okv_fz1 h) h
 |_=>exact okv_fz1 (k:=k) h
theorem get_fzF{k:Nat}{v:Value}{t:Nat}:∀{fr:Fr},get (fzF k v fr) t=fz2 k v (get fr t)
 |[]=>rfl
 |(u,x)::r=>by
  show get ((u,fz2 k v x)::fzF k v r) t=_;rw[zH,zH,get_fzF (fr:=r)];split<;>rfl
theorem getL_fzLL{k:Nat}{v:Value}{j:Nat}:∀{L:LL},getL (fzLL k v L) j=(getL L j).map (fzLB k v)
 |[]=>rfl
 |(u,x)::r=>by
  show getL ((u,fzLB k v x)::fzLL k v r) j=_;rw[ze,ze,getL_fzLL (L:=r)];split<;>rfl
theorem blk_fzLB{k j:Nat}{v:Value}{lb:LB}:blk S j (fzLB k v lb)=blk S j lb:=by cases lb<;>rfl
theorem chunk_fzLB{k j:Nat}{lb:LB}(h:zD 0 S j lb w):zD 0 S j (fzLB k (.slice (S k).A (S k).n (S k).c) lb) w:=by
 cases lb with
 |cells T cs=>
  obtain⟨h1,vs,h2,h3⟩:=h;refine⟨h1,vs,h2,?_⟩;rw[mapR_eq];exact okL_map (λ_ _ h=>okv_fz2 h) h3
 |row E sz n cs=>
  obtain⟨xs,h2,h3⟩:=h;refine⟨xs,h2,?_⟩;rw[mapR_eq];exact okL_map (λ_ _ h=>okv_fz2 h) h3
 |_=>exact h
theorem cell_of_cells{w:World}{b o t:Nat}{cur:Array Value}{fz:Nat×Nat}(h:w.heap[b]?=some (.cells cur t fz)):w.cell? ⟨b,o,none⟩=cur[o]?:=by simp[World.cell?,h]
def addPH(q:PH)(b:Nat)(xs:List Value):PH:=λc o=>if c=b then xs[o]? else q c o
theorem frz_ok{k e sz n:Nat}{xs:List Value}(hc:Cfg w0 Sb B n0 N S q fr L a w)(hk:getL L k=some (.arr e sz n xs)):
  ∃q',q.le q'∧n≤(S k).c∧Reads q' (S k).A xs∧Cfg w0 Sb B n0 N S q' (fzF k (.slice (S k).A n (S k).c) fr) (fzLL k (.slice (S k).A n (S k).c) (remL L k)) a w:=by
 have hch:=hc.m.ch k _ hk;obtain⟨⟨h1,h2⟩,h3,h4,h5,h6⟩:=hch;have hm:=hc.m.rem k
 have mk:∀q',(PH.on q' w)→(∀j lb,getL (remL L k) j=some lb→∀b,blk S j lb=some b→∀o,q' b o=none)→(∀b o v,q' b o=some v→w0.F b→w0.q b o=some v)→Cfg w0 Sb B n0 N S q' (fzF k (.slice (S k).A n (S k).c) fr) (fzLL k (.slice (S k).A n (S k).c) (remL L k)) a w:=λq' hon hpo hgw=>by
  rw[←h3]
  have g:∀{j lb},getL (fzLL k (.slice (S k).A (S k).n (S k).c) (remL L k)) j=some lb→∃l0,getL (remL L k) j=some l0∧lb=fzLB k (.slice (S k).A (S k).n (S k).c) l0:=λ{j lb} hj=>by
   rw[getL_fzLL] at hj
   cases hl:getL (remL L k) j with
   |none=>rw[hl] at hj;cases hj
   |some l0=>rw[hl] at hj;exact⟨l0,rfl,by simpa using hj.symm⟩
  refine⟨hc.ag,λd hd hB=>?_,⟨λj lb hj=>?_,λj lb j' lb' hj hj' hne b hb hb'=>?_,λj lb hj b hb=>?_,λj lb hj b hb=>?_,hon,hm.be,hgw⟩,λt=>?_,hc.n,hc.d⟩
  ·have:=hc.b d hd hB;rw[getL_fzLL,zM];by_cases e:k=d
   ·subst e;rw[hk] at this;cases this
   rw[if_neg e,this];rfl
  ·obtain⟨l0,g1,rfl⟩:=g hj;exact chunk_fzLB (hm.ch j l0 g1)
  ·obtain⟨l0,g1,rfl⟩:=g hj;obtain⟨l1,g2,rfl⟩:=g hj';rw[blk_fzLB] at hb hb';exact hm.ap j l0 j' l1 g1 g2 hne b hb hb'
  ·obtain⟨l0,g1,rfl⟩:=g hj;rw[blk_fzLB] at hb;exact hpo j l0 g1 b hb
  ·obtain⟨l0,g1,rfl⟩:=g hj;rw[blk_fzLB] at hb;exact hm.fz j l0 g1 b hb
  rw[get_fzF];exact okv_fz2 (hc.f t)
 rcases h2 with ⟨h2,hn0⟩|⟨g,cap,cur,hv,hg,hh,hle,hmx,hcs,htk⟩
 ·have hx:xs=[]:=by
   apply List.eq_nil_of_length_eq_zero;rw[h1,hn0,Nat.zero_mul]
  refine⟨q,λ_ _ _ h=>h,by omega,?_,mk q hc.m.on hm.po hc.m.gw⟩;rw[hx];exact λj hj=>by simp at hj
 injection hv with hA hn hcp;have hb:blk S k (.arr e sz n xs)=some g:=by simp[blk,hA]
 refine⟨addPH q g xs,λb o v hq=>?_,by omega,λj hj=>?_,mk _ (λb o v hq=>?_) (λj lb hj b hb' o=>?_) (λb o v hv hF=>?_)⟩
 ·unfold addPH;split
  ·rename_i e;subst e;rw[hc.m.po k _ hk b hb o] at hq;cases hq
  exact hq
 ·rw[hA];show addPH q g xs g (0+j)=_;unfold addPH;rw[if_pos rfl,Nat.zero_add]
 ·unfold addPH at hq;split at hq
  ·rename_i e;subst e;rw[cell_of_cells hh,←Array.getElem?_toList];rw[←htk,List.getElem?_take] at hq;split at hq
   ·exact hq
   cases hq
  exact hc.m.on b o v hq
 ·have hne:b≠g:=λe=>by
   subst e;have hj':=hj;rw[zM] at hj';split at hj'
   ·cases hj'
   rename_i ne;exact hc.m.ap k _ j lb hk hj' ne b hb hb'
  unfold addPH;rw[if_neg hne];exact hm.po j lb hj b hb' o
 unfold addPH at hv;split at hv
 ·rename_i e;subst e;exact absurd hF (hc.m.fz k _ hk b hb)
 exact hc.m.gw b o v hv hF
theorem frzKs_ok:∀{ks:List Nat}{q:PH}{fr:Fr}{L:LL}{K:PH→Fr→LL→Prop},Cfg w0 Sb B n0 N S q fr L a w→frzKs ks q fr L K →
  ∃q' fr' L',q.le q'∧Cfg w0 Sb B n0 N S q' fr' L' a w∧K q' fr' L'
 |[],q,fr,L,K,hc,h=>⟨q,fr,L,λ_ _ _ h=>h,hc,h⟩
 |k::r,q,fr,L,K,hc,h=>by
  replace h:(match getL L k with
   |some (.arr _ _ n xs)=>∀q' A c,q.le q'→n≤c→Reads q' A xs→fFr (fzF k (.slice A n c) fr) λfr=>fLL (fzLL k (.slice A n c) (remL L k)) λL=>frzKs r q' fr L K
   | _=>frzKs r q fr L K):=h
  split at h
  ·rename_i e sz n xs hk;obtain⟨q1,h1,h2,h3,h4⟩:=frz_ok hc hk;have h:=h q1 (S k).A (S k).c h1 h2 h3;rw[fFr_eq,zY] at h;obtain⟨q2,fr2,L2,g1,g2,g3⟩:=frzKs_ok h4 h;exact⟨q2,fr2,L2,λb o v hq=>g1 b o v (h1 b o v hq),g2,g3⟩
  exact frzKs_ok hc h
theorem Mem.mark{b:Nat}(h:Mem w0 q S L w)(hL:∀k lb,getL L k=some lb→blk S k lb≠some b)(hF:¬w0.F b)(hg:w.grownBy w' (some b))(hcell:∀o,w'.cell? ⟨b,o,none⟩=w.cell? ⟨b,o,none⟩):Mem w0 q S L w':=by
 have same:∀c,c<w.heap.size→c≠b→w'.heap[c]?=w.heap[c]?:=λc hc hne=>hg.block c hc (λe=>hne vI);refine⟨λj l hj=>?_,h.ap,h.po,h.fz,λc o v hv=>?_,h.be.grown hg (λj e=>by cases e;exact hF),h.gw⟩
 ·refine zI (h.ch j l hj) λc hcj=>same c (blk_lt (h.ch j l hj) hcj).2 λe'=>?_;subst e';exact hL j l hj hcj
 have h1:=h.on c o v hv;by_cases e:c=b
 ·subst e;rw[hcell];exact h1
 exact(World.cell?_of_block (w:=w) (same c (on_lt h.on hv) e)).trans h1
theorem grownBy_freeze(w:World)(b o:Nat)(hb:b<w.heap.size):w.grownBy (w.freeze ⟨b,o,none⟩ 1) (some b):=by
 unfold World.freeze;rw[if_neg ww];refine⟨rfl,rfl,rfl,by simp,λk hk hne=>?_⟩;have:b≠k:=λe=>hne vt;simp[Array.getElem?_modify,this]
theorem cell_freeze(w:World)(b o j:Nat):(w.freeze ⟨b,o,none⟩ 1).cell? ⟨b,j,none⟩=w.cell? ⟨b,j,none⟩:=by
 unfold World.freeze World.cell?;rw[if_neg ww];simp only[Array.getElem?_modify,if_true]
 cases e:w.heap[b]? with
 |none=>rfl
 |some x=>cases x<;>rfl
theorem fz_step(hT:zG P E.T){o:Oper}{src t e e' sz m k nk:Nat}{x:Operand}{xs:List Value}{K:Kt}(hop:o.op=.convert src t x)(hc:Cfg w0 Sb B n0 N S q fr L a w)
  (h0:src=t) (h2:(ty E.T t).d=.slice e) (h3:(ty E.T e).d=.int .u8) (hx:opv fr x=.own k) (hk:getL L k=some (.arr e' sz m xs)) (hn:0<m)
  (h:∀q' A c,q.le q'→m≤c→Reads q' A xs→fFr (fzF k (.slice A m c) fr) λfr=>fLL (fzLL k (.slice A m c) (remL L k)) λL=>putK N o.dst (.v (.slice A m c)) fr λfr=>K nk q' fr L):Oper.wpIn (FF r) n P o a w (St w0 Sb B n0 N K) Q:=by
 subst h0;have hxv:=zu hc.f x;rw[hx] at hxv;have hxv:a.eval x=.slice (S k).A (S k).n (S k).c:=hxv;have t2:P.underlying src=some (.slice e):=by have:=(hT src vJ).d;rw[h2] at this;exact this.1
 have t3:P.underlying e=some (.int .u8):=by have:=(hT e vK).d;rw[h3] at this;exact this
 obtain⟨q',hle,hcap,hR,hc'⟩:=frz_ok hc hk;obtain⟨⟨h1,hv2⟩,h4,h5,h6,h7⟩:=hc.m.ch k _ hk;rcases hv2 with ⟨_,hn0⟩|⟨g,cap,cur,hv,hg,hh,_⟩
 ·omega
 injection hv with hA _ _;have hb:blk S k (.arr e' sz m xs)=some g:=by simp[blk,hA]
 have hlt:g<w.heap.size:=(Array.getElem?_eq_some_iff.1 hh).1;have hsh:w.shape? g=some (e',cur.size):=by simp[World.shape?,hh]
 have hr:(convert src src (.slice (S k).A (S k).n (S k).c)).run P w=.ok (.slice (S k).A (S k).n (S k).c) (w.freeze ⟨g,cur.size,none⟩ 1):=by
  rw[hA];simp[convert,run_underlying t2,run_underlying t3,markStringish,hsh]
 have hK:=h q' (S k).A (S k).c hle hcap hR;rw[fFr_eq,zY] at hK;have hF:¬w0.F g:=hc.m.fz k _ hk g hb
 have hsep:∀j lb,getL (fzLL k (.slice (S k).A m (S k).c) (remL L k)) j=some lb→blk S j lb≠some g:=λj lb hj e1=>by
  rw[getL_fzLL,zM] at hj;by_cases ej:k=j
  ·rw[if_pos ej] at hj;cases hj
  rw[if_neg ej] at hj
  cases hl:getL L j with
  |none=>rw[hl] at hj;cases hj
  |some l0=>
   rw[hl] at hj;have hj:fzLB k (.slice (S k).A m (S k).c) l0=lb:=by simpa using hj
   subst hj;rw[blk_fzLB] at e1;exact hc.m.ap k _ j l0 hk hl ej g hb e1
 have hm:=hc'.m.mark hsep hF (grownBy_freeze w g cur.size hlt) (cell_freeze w g cur.size);refine zA (yJ hop wv) (ya (s:=convert src src (a.eval x)) wG vp) ?_;obtain⟨fr',hK',hc2⟩:=(hc'.mem hm).put (v:=.slice (S k).A (S k).n (S k).c) hK (by show _=_;rw[h4]);exact⟨S,_,fr',_,nk,hc2,hK'⟩
theorem inl_step{inl:Inl}{Y:Ye}(hI:yE P inl)(hY:YOk P Sb Y n0){o:Oper}{f nk:Nat}{args:List SV}{vs:List Value}{K:Kt}(hd:∀c,o.op≠.defer c)(hc:Cfg w0 Sb B n0 N S q fr L a w)
  (hvs:okL S args vs) (hex:∀{w'},(callFunc f vs.toArray).run P w=.ok (.enter f vs.toArray) w'→(execOp a.eval o).run P w=.ok (.enter f vs.toArray) w')
  (h:match Nat.ble n0 nk,ltF nk fr,dLt nk L with
   |true,true,true=>inl Y f args nk q L λr nk q L=>putK N o.dst r fr λfr=>K nk q fr L
   | _,_,_=>False):Oper.wpIn (FF r) n P o a w (St w0 Sb B n0 N K) Q:=by
 split at h;rotate_left
 ·exact h.elim
 rename_i h0 hf hdl;have h0:=Nat.le_of_ble_eq_true h0;obtain⟨hcf,hcalls⟩:=hI w0 Y f args nk q L _ vs w S r (n-1) h ((hY.congr (λk hk=>hc.ag k hk)).more h0) hvs hc.m;refine wpIn_enter hd (hex (hcf _ _)) hcalls λe w' he=>?_;obtain⟨v,x,S',q',L',nk',rfl,hx,hs,hm,hk,hK⟩:=he;refine⟨v,rfl,?_⟩;obtain⟨fr',hK',hc'⟩:=(hc.back h0 hf (λd=>wn hdl) hs hm hk).put hK hx;exact⟨S',q',fr',L',nk',hc',hK'⟩
theorem yl_step{Y:Ye}(hY:YOk P Sb Y n0){o:Oper}{k nk:Nat}{args:List SV}{vs:List Value}{K:Kt}(hd:∀c,o.op≠.defer c)(hc:Cfg w0 Sb B n0 N S q fr L a w)
  (hvs:okL S args vs) (hex:∀{x},(Instr.yield (S k).b vs.toArray).run P w=.ok x w→(execOp a.eval o).run P w=.ok x w)
  (h:match Nat.ble n0 nk,ltF nk fr,dLt nk L,yGet Y k with
   |true,true,true,some h=>h args nk q L λr nk q L=>putK N o.dst r fr λfr=>K nk q fr L
   | _,_,_,_=>False):Oper.wpIn (FF r) n P o a w (St w0 Sb B n0 N K) Q:=by
 split at h;rotate_left
 ·exact h.elim
 rename_i hd' h0 hf hdl hyk;have h0:=Nat.le_of_ble_eq_true h0;obtain⟨hkn,hh⟩:=hY k _ hyk;obtain⟨fn,tmps,assign,body,hr,hround⟩:=hh w0 args nk q L _ vs w S r (n-1) ws (λj hj=>hc.ag j ws) h hvs hc.m;rw[←hc.ag k ws] at hr hround;refine wpIn_round hd (hex hr) hround λe w' he=>?_;obtain⟨b,S',q',L',nk',rfl,hs,hm,hk,hK⟩:=he;refine⟨_,rfl,?_⟩;obtain⟨fr',hK',hc'⟩:=(hc.back h0 hf (λd=>wn hdl) hs hm hk).put (v:=.bool b) hK rfl;exact⟨S',q',fr',L',nk',hc',hK'⟩
theorem effK_ok{inl:Inl}{Y:Ye}(hT:zG P E.T)(hΓ:GOk P E)(hI:yE P inl)(hY:YOk P Sb Y n0){o:Oper}{key nk:Nat}{wr:Bool}{K:Kt}(hc:Cfg w0 Sb B n0 N S q fr L a w)
  (h:effK E inl Y wr n0 N key o.dst o.op nk q fr L K):Oper.wpIn (FF r) n P o a w (St w0 Sb B n0 N K) Q:=by
 obtain⟨dst,op,oty,pos,after,guard⟩:=o;cases op
 case alloc t=>simp only[effK] at h;exact alloc_step hT rfl hc h
 case box t x=>
  simp only[effK] at h;split at h
  ·exact h.elim
  exact box_step rfl hc h
 case buildSlice t m ps=>
  simp only[effK] at h;obtain⟨q,fr,L,_,hc,h⟩:=frzKs_ok hc h;exact build_step hT rfl hc h
 case makeSlice t l c=>simp only[effK] at h;exact make_step hT rfl hc h
 case store t x y=>
  simp only[effK] at h;obtain⟨q,fr,L,_,hc,h⟩:=frzKs_ok hc h;exact store_step hT rfl hc h
 case convert src t x=>
  simp only[effK] at h;split at h
  ·rename_i e s h1 h2 hx;split at h
   ·rename_i h3;exact sb_step hT rfl hc h1 h2 h3 hx h
   exact h.elim
  ·rename_i e0 e k h1 h2 hx;split at h
   ·rename_i h0 h3 hk;exact fz_step hT rfl hc (Nat.eq_of_beq_eq_true h0) h2 h3 hx hk h.1.out h.2
   exact h.elim
  exact yH hT hΓ.1 hΓ.calm hc h
 case call c=>
  obtain⟨callee,xs,ts⟩:=c;have hxs:=opvs_ok hc.f xs.toList;have hmap:xs.map a.eval=(xs.toList.map a.eval).toArray:=by obtain⟨l⟩:=xs;simp
  simp only[effK] at h
  cases callee with
  |invoke r m=>exact yH hT hΓ.1 hΓ.calm hc h
  |builtin b=>
   cases b
   case append=>
    simp only at h;split at h;rotate_left
    ·exact h.elim
    rename_i s x t t' e1 e2;split at h;rotate_left
    ·obtain⟨xs⟩:=xs;obtain⟨ts⟩:=ts;simp only at e1 e2;subst e2
     match xs,e1 with
     |[so,xo],e1=>
      simp only[opvs] at e1;injection e1 with e1 e2;injection e2 with e2 _;subst e1 e2;exact apps_step hT rfl hc h
     |[],e1=>simp[opvs] at e1
     |[_],e1=>simp[opvs] at e1
     |_::_::_::_,e1=>simp[opvs] at e1
    rename_i htt;have htt:=Nat.eq_of_beq_eq_true htt;subst htt;obtain⟨xs⟩:=xs;obtain⟨ts⟩:=ts;simp only at e1 e2;subst e2
    match xs,e1 with
    |[so,xo],e1=>
     simp only[opvs] at e1;injection e1 with e1 e2;injection e2 with e2 _;subst e1 e2;exact app_step hT rfl hc h
    |[],e1=>simp[opvs] at e1
    |[_],e1=>simp[opvs] at e1
    |_::_::_::_,e1=>simp[opvs] at e1
   case copy=>
    simp only at h;split at h;rotate_left
    ·exact h.elim
    rename_i s x t t' e1 e2;obtain⟨xs⟩:=xs;obtain⟨ts⟩:=ts;simp only at e1 e2;subst e2
    match xs,e1 with
    |[so,xo],e1=>
     simp only[opvs] at e1;injection e1 with e1 e2;injection e2 with e2 _;subst e1 e2;exact copy_step hT rfl hc h
    |[],e1=>simp[opvs] at e1
    |[_],e1=>simp[opvs] at e1
    |_::_::_::_,e1=>simp[opvs] at e1
   all_goals exact yH (wr:=wr) (nk:=nk) (K:=K) (q:=q) (fr:=fr) (L:=L) hT hΓ.1 hΓ.calm hc h
  |value x=>
   cases x with
   |const v=>exact yH hT hΓ.1 hΓ.calm hc h
   |global g=>exact yH hT hΓ.1 hΓ.calm hc h
   |func f=>
    simp only at h;split at h
    ·exact yH hT hΓ.1 hΓ.calm hc h
    split at h
    ·rename_i s hs;split at h
     ·exact yH hT hΓ.1 hΓ.calm hc h
     rename_i hnc;obtain⟨hsf,_,hcs⟩:=hΓ.2 f s hs;have hcs:=hcs hnc;subst hsf;obtain⟨S1,fr1,L1,nk1,hc,h⟩:=xu hc h;have hxs:=opvs_ok hc.f xs.toList;obtain⟨h0,hf,hdl,hcall⟩:=callC_ok (w:=w) (w0:=w0) (S:=S1) hcs hxs hc.m h
     have he:(execOp a.eval { dst:=dst,op:=Op.call { callee:=Callee.value (Operand.func s.f),args:=xs,argTypes:=ts },type:=oty,pos:=pos,after:=after,guard:=guard }).run P w=.ok (.enter s.f (xs.toList.map a.eval).toArray) w:=by
      simp only[execOp,resolve,Act.eval,Deferred.ofValue,invoke,hmap,Sem.run_bind,Sem.run_pure,Result.andThen_ok];simpa using hcs.1 _ w
     refine wpIn_enter wv he (yw hcall) λe w' he=>?_;obtain⟨v,x,S',q',L',nk',rfl,hx,hs,hm,hk,hK⟩:=he;refine⟨v,rfl,?_⟩;obtain⟨fr',hK',hc'⟩:=(hc.back h0 hf hdl hs hm (λd _ hd=>hk d hd)).put hK hx;exact⟨S',q',fr',L',nk',hc',hK'⟩
    refine inl_step hI hY wv hc hxs ?_ h;intro w' he;have:(callFunc f ((xs.toList.map a.eval).toArray ++ #[])).run P w=.ok (.enter f (xs.toList.map a.eval).toArray) w':=by simpa using he
    simp only[execOp,resolve,Act.eval,Deferred.ofValue,invoke,hmap,Sem.run_bind,Sem.run_pure,Result.andThen_ok];simpa using he
   |tmp t=>
    have hft:=hc.f t;simp only at h;split at h
    ·rename_i f cs e;rw[e] at hft;obtain⟨cvs,hfv,hcs⟩:=hft;refine inl_step hI hY wv hc (zV hxs hcs) ?_ h;intro w' he;have hev:a.eval (.tmp t)=.func (.func f) #[] cvs.toArray:=hfv;simp only[execOp,resolve,hev,Deferred.ofValue,invoke,hmap,Sem.run_bind,Sem.run_pure,Result.andThen_ok];simpa using he
    ·rename_i k e;rw[e] at hft;have hev:a.eval (.tmp t)=.func (.yield (S k).b) #[] #[]:=hft;refine yl_step hY wv hc hxs ?_ h;intro x hr;simp only[execOp,resolve,hev,Deferred.ofValue,invoke,hmap,Sem.run_bind,Sem.run_pure,Result.andThen_ok];simpa using hr
    exact h.elim
 all_goals exact yH (wr:=wr) (nk:=nk) (K:=K) (q:=q) (fr:=fr) (L:=L) hT hΓ.1 hΓ.calm hc h
end
section
variable {P:Program}{S S' Sb:Pl}{fr:Fr}{L L':LL}{q q':PH}{w0:W0}{w w':World}{a:Act}{n0 N:Nat}{B:Nat→Prop}{E:Env}
variable {r:Option Nat}{n:Nat}
theorem dstOf_get{all:List Oper}{j t:Nat}(h:dstOf all j=some t):(all[j]?).bind (·.dst)=some t:=by
 unfold dstOf at h
 have e:∀(l:List Oper) (j:Nat),nth l j=l[j]?:=by
  intro l
  induction l with
  |nil=>intro j;simp[nth_n]
  |cons x l ih=>intro j;cases j with
   |zero=>rfl
   |succ j=>simpa[nth_s] using ih j
 rw[e] at h;split at h
 ·rename_i o ho;rw[ho];exact h
 cases h
theorem xU{all:List Oper}{j t:Nat}{tm:Array Value}(h:dstOf all j=some t){b:Bool}(hv:tm.getD t undef=.bool b):yielded all.toArray tm j=some b:=by
 have h1:=dstOf_get h
 have h2:((all.toArray)[j]?.bind (·.dst)).bind (tm[·]?)=some (.bool b):=by
  rw[List.getElem?_toArray,h1];simp only[Option.bind_some];by_cases ht:t<tm.size
  ·simp[Array.getD,ht] at hv;simp[ht,hv]
  simp[Array.getD,ht,undef] at hv
 unfold yielded;rw[h2]
theorem yielded_none{all:List Oper}{j t:Nat}{tm:Array Value}(h:dstOf all j=some t)(hv:∀b,tm.getD t undef≠.bool b):yielded all.toArray tm j=none:=by
 have h1:=dstOf_get h;unfold yielded;rw[List.getElem?_toArray,h1];simp only[Option.bind_some];by_cases ht:t<tm.size
 ·have:=hv;simp only[Array.getD,ht,dif_pos] at this;split
  ·rename_i b hb;simp[ht] at hb;exact absurd hb (this b)
  rfl
 simp[ht]
theorem guard_ok{all:List Oper}{j t:Nat}{go:Bool→Fr→Prop}{sk:Prop}(hd:dstOf all j=some t)(hf:okF S fr a.tmps)
  (h:match get fr t with
    |.bb b=>go b fr
    |.b p _=>(p→go true (setF fr t (.bb true)))∧(¬p→go false (setF fr t (.bb false)))
    |.v (.tuple _)=>sk
    | _=>False) :
  (∃b fr',okF S fr' a.tmps∧go b fr'∧yielded all.toArray a.tmps j=some b)∨(sk∧yielded all.toArray a.tmps j=none):=by
 have ht:=hf t;split at h
 ·rename_i b e;rw[e] at ht;exact .inl ⟨b,fr,hf,h,xU hd ht⟩
 ·rename_i p d e;rw[e] at ht;by_cases hp:p
  ·have hv:a.tmps.getD t undef=.bool true:=by rw[ht];simp[hp]
   exact .inl ⟨true,_,okF_setF (x:=.bb true) hf hv,h.1 hp,xU hd hv⟩
  have hv:a.tmps.getD t undef=.bool false:=by rw[ht];simp[hp]
  exact .inl ⟨false,_,okF_setF (x:=.bb false) hf hv,h.2 hp,xU hd hv⟩
 ·rename_i x e;rw[e] at ht;have ht:a.tmps.getD t undef=.tuple x:=ht;exact .inr ⟨h,yielded_none hd (λb=>by rw[ht];simp)⟩
 exact h.elim
theorem vcOps_ok{inl:Inl}{Y:Ye}(hT:zG P E.T)(hΓ:GOk P E)(hI:yE P inl)(hY:YOk P Sb Y n0){wr:Bool}{all:List Oper}{K:Kt}{Q:Exit→Act→World→Prop}(hQ:∀a w,St w0 Sb B n0 N K a w→Q .normal a w):
  ∀(l:List Oper) {key nk:Nat}{S:Pl}{q:PH}{fr:Fr}{L:LL}{a:Act}{w:World},Cfg w0 Sb B n0 N S q fr L a w→vcOps E inl Y wr n0 N all l key nk q fr L K→wpListIn (FF r) n P all.toArray Q l a w
 |[],key,nk,S,q,fr,L,a,w,hc,h=>hQ a w ⟨S,q,fr,L,nk,hc,h⟩
 |o::l,key,nk,S,q,fr,L,a,w,hc,h=>by
  obtain⟨dst,op,oty,pos,after,guard⟩:=o
  have run:∀{fr:Fr},Cfg w0 Sb B n0 N S q fr L a w→(effK E inl Y wr n0 N key dst op nk q fr L λnk q fr L=>vcOps E inl Y wr n0 N all l (key+1) nk q fr L K) →
    Oper.wpIn (FF r) n P ⟨dst,op,oty,pos,after,guard⟩ a w (wpListIn (FF r) n P all.toArray Q l) Q:=λhc h=>
   Oper.wpIn_mono (λa w ⟨S,q,fr,L,nk,hc,h⟩=>vcOps_ok hT hΓ hI hY hQ l hc h) (effK_ok (o:=⟨dst,op,oty,pos,after,guard⟩) hT hΓ hI hY hc h)
  have skip:∀{fr:Fr},Cfg w0 Sb B n0 N S q fr L a w→(putK N dst (.v undef) fr λfr=>vcOps E inl Y wr n0 N all l (key+1) nk q fr L K)→wpListIn (FF r) n P all.toArray Q l (a.put dst undef) w:=λhc h=>by
   obtain⟨fr',hK,hc'⟩:=hc.put (v:=undef) h rfl;exact vcOps_ok hT hΓ hI hY hQ l hc' hK
  cases guard with
  |none=>
   simp only[vcOps_none,vcOps_some] at h;simp only[wpListIn,Region.wanted,if_true];exact run hc h
  |some g=>
   obtain⟨j,want⟩:=g;simp only[vcOps_none,vcOps_some] at h;split at h
   ·exact h.elim
   rename_i t ht
   rcases guard_ok (a:=a) (S:=S) (go:=fun b fr=>(match (generalizing:=false) b,want with
     |true,true=>effK E inl Y wr n0 N key dst op nk q fr L λnk q fr L=>vcOps E inl Y wr n0 N all l (key+1) nk q fr L K
     |false,false=>effK E inl Y wr n0 N key dst op nk q fr L λnk q fr L=>vcOps E inl Y wr n0 N all l (key+1) nk q fr L K
     | _,_=>putK N dst (.v undef) fr fun fr=>vcOps E inl Y wr n0 N all l (key+1) nk q fr L K)) ht hc.f h with ⟨b,fr',hf',hgo,hy⟩ | ⟨hsk,hy⟩
   ·simp only[wpListIn,Region.wanted,hy];have hc':=hc.frame hf';cases b<;>cases want
    ·simp;exact run hc' hgo
    ·simp;exact⟨λ_ _=>trivial,skip hc' hgo⟩
    ·simp;exact⟨λ_ _=>trivial,skip hc' hgo⟩
    simp;exact run hc' hgo
   simp only[wpListIn,Region.wanted,hy];simp;exact⟨λ_ _=>trivial,skip hc hsk⟩
theorem quiet_of_yl{C:World→Prop}(hCc:∀w w',C w→Below w.heap.size w w'→C w'){o:Oper}{x:Value}(h:Yl P C a.eval o x){K:Act→Prop}(hK:K (a.put o.dst x)):o.quiet P a C K:=by
 refine⟨x,λw hw=>?_,hK⟩;have h1:=h w hw;unfold Oper.quietAt
 revert h1
 generalize (execOp a.eval o).run P w=res;intro h1
 cases res with
 |halt x w'=>exact h1
 |ok nx w'=>
  cases nx<;>simp only[Oper.quietUpon] at h1 ⊢
  case value u=>exact h1
  case skip=>exact h1
  case enter f args=>exact⟨h1.1,h1.2.mono λe w'' ⟨he,hb⟩=>⟨he,hCc _ _ hw hb⟩⟩
theorem calmOnly_cons{o:Oper}{l:List Oper}(h:calmOnly E.T E.Γ E.Δ (o::l)=true):calmOnly E.T E.Γ E.Δ l=true:=by
 obtain⟨dst,op,oty,pos,after,guard⟩:=o;cases op
 case convert src t x=>
  simp only[calmOnly] at h;split at h
  ·cases h
  ·cases h
  exact h
 case call c=>
  obtain⟨callee,xs,ts⟩:=c
  cases callee with
  |invoke r m=>simp[calmOnly] at h
  |builtin b=>cases b<;>first|(simp[calmOnly] at h;done)|simpa[calmOnly] using h
  |value x=>
   cases x with
   |func f=>
    simp only[calmOnly] at h;split at h
    ·exact h
    split at h
    ·split at h
     ·exact h
     cases h
    cases h
   |const v=>simp[calmOnly] at h
   |global g=>simp[calmOnly] at h
   |tmp t=>simp[calmOnly] at h
 all_goals first|(simp[calmOnly] at h;done)|simpa[calmOnly] using h
theorem effK_calm{inl:Inl}{Y:Ye}{o:Oper}{l:List Oper}{wr:Bool}{key nk:Nat}{K:Kt}(hcalm:calmOnly E.T E.Γ E.Δ (o::l)=true)(h:effK E inl Y wr n0 N key o.dst o.op nk q fr L K):
  calmK E.T E.Γ E.Δ wr q o.op fr L λx=>putK N o.dst x fr λfr=>K nk q fr L:=by
 obtain⟨dst,op,oty,pos,after,guard⟩:=o;cases op
 case convert src t x=>
  simp only[calmOnly] at hcalm;simp only[effK] at h;split at hcalm
  ·cases hcalm
  ·cases hcalm
  rename_i hn hn';split at h
  ·rename_i h1 h2 _;exact(hn _ h1 h2).elim
  ·rename_i h1 h2 _;exact(hn' _ _ h1 h2).elim
  exact h
 case call c=>
  obtain⟨callee,xs,ts⟩:=c
  cases callee with
  |invoke r m=>simp[calmOnly] at hcalm
  |builtin b=>cases b<;>first|(simp[calmOnly] at hcalm;done)|exact h
  |value x=>
   cases x with
   |func f=>
    simp only[calmOnly] at hcalm;simp only[effK] at h;split at hcalm
    ·rename_i s hs;rw[hs] at h;exact h
    rename_i hs;rw[hs] at h;split at hcalm
    ·rename_i s hs';rw[hs'] at h;simp only at h;split at hcalm
     ·rename_i hc;rw[hc] at h;exact h
     cases hcalm
    cases hcalm
   |const v=>simp[calmOnly] at hcalm
   |global g=>simp[calmOnly] at hcalm
   |tmp t=>simp[calmOnly] at hcalm
 all_goals first|(simp[calmOnly] at hcalm;done)|exact h
theorem vcOps_quiet{inl:Inl}{Y:Ye}(hT:zG P E.T)(hΓ:GOk P E){wr:Bool}{all:List Oper}{K:Kt}(hm:Mem w0 q S L w){D:List Deferred}{nk:Nat}:
  ∀(l:List Oper) {key:Nat}{fr:Fr}{a:Act},calmOnly E.T E.Γ E.Δ l=true→okF S fr a.tmps→a.tmps.size=N→a.defers=D→vcOps E inl Y wr n0 N all l key nk q fr L K →
   wpQuiet P all.toArray (Cl w0 q S L w) (λa=>∃fr,okF S fr a.tmps∧a.tmps.size=N∧a.defers=D∧K nk q fr L) l a
 |[],key,fr,a,_,hf,hn,hd,h=>⟨fr,hf,hn,hd,h⟩
 |o::l,key,fr,a,hcalm,hf,hn,hd,h=>by
  obtain⟨dst,op,oty,pos,after,guard⟩:=o
  have put:∀{fr:Fr}{x:SV}{v:Value}{K':Fr→Prop},okF S fr a.tmps→putK N dst x fr K'→okv S x v→∃fr',K' fr'∧okF S fr' (a.put dst v).tmps∧(a.put dst v).tmps.size=N∧(a.put dst v).defers=D:=by
   intro fr x v K' hf hp hx;unfold putK at hp;split at hp
   ·exact⟨fr,hp,hf,hn,hd⟩
   rename_i d;split at hp
   ·rename_i hd';have hd':d<N:=Nat.le_of_ble_eq_true hd';exact⟨_,hp,okF_put hf hx (by rw[hn];exact hd'),by simp[Act.put,hn],hd⟩
   exact hp.elim
  have run:∀{fr:Fr},okF S fr a.tmps→(effK E inl Y wr n0 N key dst op nk q fr L λnk q fr L=>vcOps E inl Y wr n0 N all l (key+1) nk q fr L K) →
    Oper.quiet P ⟨dst,op,oty,pos,after,guard⟩ a (Cl w0 q S L w) (wpQuiet P all.toArray (Cl w0 q S L w) (λa=>∃fr,okF S fr a.tmps∧a.tmps.size=N∧a.defers=D∧K nk q fr L) l):=by
   intro fr hf h;have h:=effK_calm hcalm h;obtain⟨x,sv,hK,hx,hy⟩:=calm_ok (C:=Cl w0 q S L w) hT hΓ.1 hΓ.calm hm.ch (λ_ h=>h) hf h;obtain⟨fr',hK',hf',hn',hd'⟩:=put hf hK hx;exact quiet_of_yl (λ_ _ h hb=>Cl.below hm.ch h hb) hy (vcOps_quiet hT hΓ hm l (calmOnly_cons hcalm) hf' hn' hd' hK')
  have skip:∀{fr:Fr},okF S fr a.tmps→(putK N dst (.v undef) fr λfr=>vcOps E inl Y wr n0 N all l (key+1) nk q fr L K) →
    wpQuiet P all.toArray (Cl w0 q S L w) (λa=>∃fr,okF S fr a.tmps∧a.tmps.size=N∧a.defers=D∧K nk q fr L) l (a.put dst undef):=by
   intro fr hf h;obtain⟨fr',hK',hf',hn',hd'⟩:=put (v:=undef) hf h rfl;exact vcOps_quiet hT hΓ hm l (calmOnly_cons hcalm) hf' hn' hd' hK'
  cases guard with
  |none=>
   simp only[vcOps_none,vcOps_some] at h;simp only[wpQuiet,Region.wanted,if_true];exact run hf h
  |some g=>
   obtain⟨j,want⟩:=g;simp only[vcOps_none,vcOps_some] at h;split at h
   ·exact h.elim
   rename_i t ht
   rcases guard_ok (a:=a) (S:=S) (go:=fun b fr=>(match (generalizing:=false) b,want with
     |true,true=>effK E inl Y wr n0 N key dst op nk q fr L λnk q fr L=>vcOps E inl Y wr n0 N all l (key+1) nk q fr L K
     |false,false=>effK E inl Y wr n0 N key dst op nk q fr L λnk q fr L=>vcOps E inl Y wr n0 N all l (key+1) nk q fr L K
     | _,_=>putK N dst (.v undef) fr fun fr=>vcOps E inl Y wr n0 N all l (key+1) nk q fr L K)) ht hf h with ⟨b,fr',hf',hgo,hy⟩ | ⟨hsk,hy⟩
   ·simp only[wpQuiet,Region.wanted,hy];cases b<;>cases want
    ·simp;exact run hf' hgo
    ·simp;exact skip hf' hgo
    ·simp;exact skip hf' hgo
    simp;exact run hf' hgo
   simp only[wpQuiet,Region.wanted,hy];simp;exact skip hf hsk
theorem wpIn_of_quiet{C:World→Prop}{o:Oper}{K:Act→Prop}{K':Act→World→Prop}{Q:Exit→Act→World→Prop}(hw:C w)(h:∀a w',C w'→K a→K' a w')(hh:o.quiet P a C K):o.wpIn (FF r) n P a w K' Q:=by
 obtain⟨v,h1,h2⟩:=hh
 have hd:∀c,o.op≠.defer c:=by
  intro c e;have h3:=h1 w hw;unfold Oper.quietAt at h3;simp only[execOp,e,Sem.run_bind] at h3;generalize (resolve a.eval c o.type).run P w=res at h3;cases res<;>simp[Oper.quietUpon,Result.andThen] at h3
 exact wpIn_quiet hd h1 hw λw' hw'=>h _ _ hw' h2
theorem wpOpIn_of_qOp{ops:Array Oper}{C:World→Prop}{i:Nat}{K:Act→Prop}{K':Act→World→Prop}{Q:Exit→Act→World→Prop}(hC:C w)(h:∀a w',C w'→K a→K' a w')(hh:qOp P ops C i K a):wpOpIn (FF r) n P ops Q i K' a w:=by
 unfold qOp at hh;unfold wpOpIn;split
 ·rename_i ho;simp only[ho] at hh;exact h _ _ hC hh
 rename_i o ho;simp only[ho] at hh;split
 ·rename_i hw;simp only[hw,if_true] at hh;exact wpIn_of_quiet hC h hh
 rename_i hw;simp only[hw] at hh;exact⟨λ_ _=>trivial,h _ _ hC hh⟩
theorem wpAnyIn_of_quiet{ops:Array Oper}{md:Region.Mode}{C:World→Prop}{K:Act→Prop}{Q:Exit→Act→World→Prop}(hQ:∀a w,C w→K a→Q .normal a w):∀(fuel:Nat) (listed:Array Bool) (a:Act) (w:World),C w →
  wpAnyQ P md ops C K fuel listed a→wpAnyIn (FF r) n P md ops Q fuel listed a w
 |0,_,_,_,hw,h=>⟨h.1,hQ _ _ hw h.2⟩
 |fuel+1,_,_,_,hw,h=>⟨λh0=>hQ _ _ hw (h.1 h0),λi hi=>wpOpIn_of_qOp hw (λa' w' hw'=>wpAnyIn_of_quiet hQ fuel _ a' w' hw') (h.2 i hi)⟩
theorem draw_ok{inl:Inl}{Y:Ye}(hmix:P.follows .mixedOrders=true)(hT:zG P E.T)(hΓ:GOk P E){wr:Bool}{ops:Array Oper}{K:Kt}{Q:Exit→Act→World→Prop}(hQ:∀a w,St w0 Sb B n0 N K a w→Q .normal a w){id key nk:Nat}
  (hc:Cfg w0 Sb B n0 N S q fr L a w) (hB:Region.lexB .any ops=true) (hcalm:calmOnly E.T E.Γ E.Δ ops.toList=true) (h:vcOps E inl Y wr n0 N ops.toList ops.toList key nk q fr L K):(Code.region id ops true).wpIn (FF r) n P Q a w:=by
 have h1:=vcOps_quiet (P:=P) (a:=a) (D:=a.defers) hT hΓ hc.m ops.toList hcalm hc.f hc.n rfl h;simp only[Region.lexB,Bool.and_eq_true] at hB;refine wpIn_region_any hmix (wpAnyIn_of_quiet (C:=Cl w0 q S L w) (K:=λa'=>∃fr,okF S fr a'.tmps∧a'.tmps.size=N∧a'.defers=a.defers∧K nk q fr L) (λa' w' hw' ⟨fr',hf',hn',hd',hK⟩=>hQ _ _ ⟨S,q,fr',L,nk,?_,hK⟩) _ _ _ _ ?_ ?_)
 ·exact⟨λ_ _ _ _ _=>rfl,λb o v hv=>hc.m.on b o v hv,hc.m.be.drew⟩
 ·have:=wpAnyQ_lex (C:=Cl w0 q S L w) (md:=.any) hB.1 ops.toList 0 (Array.replicate ops.size false) a wv (by simpa using hB.2) h1;simpa using this
 exact⟨hc.ag,hc.b,hc.m.of_cl hw',hf',hn',by rw[hd'];exact hc.d⟩
def toX:Ex→Exit
 |.norm=>.normal
 |.ret=>.ret
 |.exit n=>.exit n
 |.goto n=>.goto n
def QE(w0:W0)(Sb:Pl)(B:Nat→Prop)(n0 N:Nat)(K:Ke)(e:Exit)(a:Act)(w:World):Prop:=∃x,e=toX x∧∃w1,Ext w0 w1∧St w1 Sb B n0 N (K x) a w
theorem QE.ext{w0 w1:W0}{Sb:Pl}{B:Nat→Prop}{n0 N:Nat}{K:Ke}{e:Exit}{a:Act}{w:World}(h:Ext w0 w1)(hq:QE w1 Sb B n0 N K e a w):QE w0 Sb B n0 N K e a w:=by
 obtain⟨x,hx,w2,h2,hs⟩:=hq;exact⟨x,hx,w2,h.trans h2,hs⟩
theorem least{ι:Type}{p:ι→Prop}(μ:ι→Nat):(∃i,p i)→∃i,p i∧∀j,p j→μ i≤μ j:=by
 rintro⟨i,hi⟩
 have:∀n,∀i,p i→μ i=n→∃i,p i∧∀j,p j→μ i≤μ j:=by
  intro n
  induction n using Nat.strongRecOn with
  |_ n ih=>
   intro i hi hn;by_cases h:∃j,p j∧μ j<μ i
   ·obtain⟨j,hj,hlt⟩:=h;exact ih (μ j) ws j hj rfl
   exact⟨i,hi,λj hj=>Nat.le_of_not_lt λhlt=>h ⟨j,hj,hlt⟩⟩
 exact this _ i hi rfl
open Classical in
theorem wpIn_loopG{ι:Type}{c:Code}{F:Fence}{Q:Exit→Act→World→Prop}(H:ι→Act→World→Prop)(μ:ι→Nat){i0:ι}(h0:H i0 a w)
  (round:∀i a w,H i a w→c.wpIn F n P (Exit.then (λa' w'=>∃j,H j a' w'∧μ j<μ i) Q) a w):(Code.loop c).wpIn F n P Q a w:=by
 let m:Act→World→Nat:=λa w=>if h:∃i,H i a w then μ (Classical.choose (least μ h)) else 0
 have hm:∀a w,(h:∃i,H i a w)→∃i,H i a w∧μ i=m a w:=λa w h=>by
  have:=Classical.choose_spec (least (p:=λi=>H i a w) μ h);exact⟨_,this.1,by simp only[m,dif_pos h]⟩
 have hle:∀a w i,H i a w→m a w≤μ i:=λa w i hi=>by
  have h:∃i,H i a w:=⟨i,hi⟩;have:=Classical.choose_spec (least (p:=λi=>H i a w) μ h);simp only[m,dif_pos h];exact this.2 i hi
 refine wpIn_loop (λa w=>∃i,H i a w) m ⟨i0,h0⟩ λa w h=>?_;obtain⟨i,hi,e⟩:=hm a w h;refine Code.wpIn_mono ?_ (round i a w hi);intro x a' w' hx;cases x<;>simp only[Exit.then] at hx ⊢<;>try exact hx
 obtain⟨j,hj,hlt⟩:=hx;exact⟨⟨j,hj⟩,by have:=hle a' w' j hj;omega⟩
theorem hasKey_get{k:Nat}:∀{L:LL},hasKey k L=true→∃y,getL L k=some y
 |[],h=>by cases h
 |(u,y)::r,h=>by
  unfold hasKey at h;rw[getL_c];split at h
  ·rename_i e;first|exact⟨_,rfl⟩|(rw[e];exact⟨_,rfl⟩)
  rename_i e;first|exact hasKey_get h|(rw[e];exact hasKey_get h)
theorem dfrIn_ok{rest:LL}{k:Nat}:∀{L:LL},dfrIn rest L=true→getL L k=some .dfr→∃y,getL rest k=some y
 |[],_,hk=>by cases hk
 |(u,y)::r,h,hk=>by
  rw[ze] at hk;split at hk
  ·rename_i e;subst e;cases hk;simp only[dfrIn] at h;split at h
   ·rename_i hu;exact hasKey_get hu
   cases h
  refine dfrIn_ok (L:=r) ?_ hk;cases y<;>simp only[dfrIn] at h<;>first|exact h|(split at h<;>first|cases h|exact h)
theorem mLB_dfr{b:Nat}{x:LB}{ags:As}{K:As→Prop}(h:mLB b x .dfr ags K):x=.dfr:=by
 cases x<;>simp only[mLB] at h;rfl
theorem lies_lt{N0 b k:Nat}{ags ags':As}{y x:LB}(ho:AsOk b ags)(ho':AsOk b ags')(hk:k<b)(hx:∀j,x.has j=true→j<b)(h:Lies N0 S (sub ags' S) k k y x):Lies N0 S (sub ags S) k k y x:=by
 have e:∀j,j<b→sub ags S j=sub ags' S j:=λj hj=>by rw[x6 ho hj,x6 ho' hj]
 exact⟨(zX (e k hk)).trans h.1,λw hw=>yt (e k hk) (λj hj=>e j (hx j hj)) (h.2 w hw)⟩
theorem sameL_ok{N0 b:Nat}{ac:LL}{ags:As}{K:Prop}:∀{tm:LL},sameL b tm ac ags K→ltLL b tm=true →
  K∧∀k x,getL tm k=some x→asHas ags k=false∧k<b∧∃y,getL ac k=some y∧(y=.dfr→x=.dfr)∧∀(ags:As) (S:Pl),AsOk b ags→Lies N0 S (sub ags S) k k y x
 |[],h,_=>⟨h,λ_ _ hk=>by cases hk⟩
 |(k,x)::r,h,hl=>by
  rw[sameL_c] at h;split at h
  ·exact h.elim
  rename_i hk;split at h;rotate_left
  ·exact h.elim
  rename_i y hy;have hd:y=.dfr→x=.dfr:=λe=>by subst e;exact mLB_dfr h
  obtain⟨as1,e1,o1,h1,r1⟩:=mLB_ok (N0:=N0) (AsOk.nil b) h;have hl0:=hl;rw[ltLL_c] at hl;split at hl;rotate_left
  ·cases hl
  rename_i hu;have hu:k<b:=Nat.le_of_ble_eq_true hu
  have hlr:ltLL b r=true:=by
   cases x with
   |cells T cs=>
    simp only at hl;split at hl
    ·exact hl
    cases hl
   |row _ _ _ cs=>
    simp only at hl;split at hl
    ·exact hl
    cases hl
   |arr _ _ _ _=>exact hl
   |dfr=>exact hl
   |mp _ _=>exact hl
   |sb _ _ _=>exact hl
   |loop _ _=>exact hl
  obtain⟨hK,hr⟩:=sameL_ok h1 hlr;refine⟨hK,λk' x' hk'=>?_⟩;have hlt:∀j,hasLL j ((k,x)::r)=true→j<b:=λj hj=>zT hl0 hj;rw[ze] at hk';split at hk'
  ·rename_i e;subst e;cases hk';refine⟨hk,hu,y,hy,hd,λas2 S o2=>lies_lt o2 o1 hu (λj hj=>hlt j ?_) (r1 as1 (.refl _) o1 S k k (x6 o1 hu))⟩;exact zm (L:=(k,x)::r) (j:=k) (lb:=x) (by rw[ze,if_pos rfl]) (.inr hj)
  exact hr k' x' hk'
theorem Cfg.tell{ags:As}{nk:Nat}{tm rest:LL}{fr2:Fr}(hc:Cfg w0 Sb B n0 N S q fr L a w)(h0:n0≤nk)(ho:AsOk nk ags)
  (hL:∀k x,getL tm k=some x→∃j y,asGet ags k=some j∧getL L j=some y∧Lies 0 S (sub ags S) j k y x)
  (hR:∀k x,getL rest k=some x→asHas ags k=false∧∃y,getL L k=some y∧Lies 0 S (sub ags S) k k y x)
  (hF:okF (sub ags S) fr2 a.tmps) (hD:∀d,getL L d=some .dfr→d<nk∧getL rest d=some .dfr):Cfg w0 Sb B n0 N (sub ags S) q fr2 (appL tm rest) a w:=by
 have hd:∀d,getL L d=some .dfr→d<nk∧getL (appL tm rest) d=some .dfr:=λd hd=>by
  obtain⟨h1,h2⟩:=hD d hd;refine⟨h1,?_⟩;rw[yq];split
  ·rename_i x hx;obtain⟨j,y,hj,_⟩:=hL d x hx;have:=ho.abs d j hj h1;subst this;have:=(hR j _ h2).1;rw[yZ hj] at this;cases this
  exact h2
 exact⟨λk hk=>(x6 ho ws).trans (hc.ag k hk),λd hd' hB=>(hd d (hc.b d hd' hB)).2,hc.m.tell ho hL hR,hF,hc.n,hc.d⟩
theorem reads_vw{q:PH}{A:Option Addr}{xs:List Value}{lo sz m:Nat}(h:Reads q A xs):Reads q (A.map (·.add (lo*sz))) (vwC xs lo sz m):=by
 intro j hj;unfold vwC at hj ⊢;rw[List.length_take,List.length_drop] at hj;rw[List.getElem?_take_of_lt ws,List.getElem?_drop];have:=h (lo*sz+j) ws;rw[←this];rcases A with _|⟨b,o,s⟩
 ·rfl
 cases s with
 |none=>simp[rd,Addr.add_lit,Nat.add_assoc]
 |some s=>
  have hx:xs[lo*sz+j]?=none:=by rw[←this];rfl
  rw[List.getElem?_eq_none_iff] at hx;omega
theorem frzF_ok:∀{ts:List (Nat×Nat)}{q:PH}{fr:Fr}{L:LL}{K:PH→Fr→LL→Prop},Cfg w0 Sb B n0 N S q fr L a w→frzF ts q fr L K →
  ∃q' fr' L',q.le q'∧Cfg w0 Sb B n0 N S q' fr' L' a w∧K q' fr' L'
 |[],q,fr,L,K,hc,h=>⟨q,fr,L,λ_ _ _ h=>h,hc,h⟩
 |(t,o)::r,q,fr,L,K,hc,h=>by
  replace h:(match nilAt fr t with
    | .vw k lo sz m _=>(match getL L k with
     | some (.arr _ sz' n xs)=>(match Nat.beq sz' sz with
      |true=>Ob (lo+m≤n)∧∀q' A c A0 c0 m',q.le q'→n≤c0→Reads q' A0 xs→m'=m→m'≤c→Reads q' A (vwC xs lo sz m)→fFr (setF (fzF k (.slice A0 n c0) fr) t (.v (.slice A m' c))) λfr=>fLL (fzLL k (.slice A0 n c0) (remL L k)) λL=>frzF r q' fr L K
      | false=>False)
     | _=>False)
    |_=>match frzAt fr L t o with
    |none=>frzF r q fr L K
    | some k=>(match getL L k with
     |some (.arr _ _ n xs)=>∀q' A c,q.le q'→n≤c→Reads q' A xs→fFr (fzF k (.slice A n c) fr) λfr=>fLL (fzLL k (.slice A n c) (remL L k)) λL=>frzF r q' fr L K
     | _=>frzF r q fr L K)):=h
  split at h
  ·rename_i k lo sz m ex ev
   have ht:okv S (.vw k lo sz m ex) (a.tmps.getD t undef):=by
    have:=hc.f t;unfold nilAt at ev;split at ev
    ·cases ev
    rwa [ev] at this
   split at h;rotate_left
   ·exact h.elim
   rename_i e sz' n xs hk;split at h;rotate_left
   ·exact h.elim
   rename_i hs;have hs:=Nat.eq_of_beq_eq_true hs;subst hs;obtain⟨⟨hb⟩,h⟩:=h;obtain⟨q1,h1,h2,h3,h4⟩:=frz_ok hc hk;obtain⟨A,c,hv,hmc,hA,_⟩:=ht
   have hR:Reads q1 A (vwC xs lo sz' m):=by
    rcases hA with rfl|rfl
    ·exact λj hj=>by simp[vwC] at hj
    exact reads_vw h3
   have h:=h q1 A c (S k).A (S k).c m h1 h2 h3 rfl hmc hR;rw[fFr_eq,zY] at h;obtain⟨q2,fr2,L2,g1,g2,g3⟩:=frzF_ok (h4.frame (okF_setF h4.f vg)) h;exact⟨q2,fr2,L2,λb o v hq=>g1 b o v (h1 b o v hq),g2,g3⟩
  split at h
  ·exact frzF_ok hc h
  rename_i k hfr;split at h
  ·rename_i e sz n xs hk;obtain⟨q1,h1,h2,h3,h4⟩:=frz_ok hc hk;have h:=h q1 (S k).A (S k).c h1 h2 h3;rw[fFr_eq,zY] at h;obtain⟨q2,fr2,L2,g1,g2,g3⟩:=frzF_ok h4 h;exact⟨q2,fr2,L2,λb o v hq=>g1 b o v (h1 b o v hq),g2,g3⟩
  exact frzF_ok hc h
theorem leK_refl(gr:Bool)(q:PH):leK gr q q:=by cases gr;rfl;exact λ_ _ _ h=>h
theorem tell_ok{nk:Nat}{tm rest:LL}{tf kf:Fr}(h0:n0≤nk)(hkf:ltF nk kf=true)(hrest:ltLL nk rest=true)(hc:Cfg w0 Sb B n0 N S q fr L a w)
  (h:mFr nk tf fr [] λags=>mLL nk tm L ags λags=>mFr nk kf fr ags λags=>sameL nk rest L ags (dfrIn rest L=true)):∃S',Cfg w0 Sb B n0 N S' q (appF tf kf) (appL tm rest) a w:=by
 obtain⟨as3,e3,o3,hK,r3⟩:=mFr_ok (AsOk.nil nk) h;obtain⟨as4,e4,o4,hK,r4⟩:=mLL_ok (N0:=0) o3 hK;obtain⟨as5,e5,o5,hK,r5⟩:=mFr_ok o4 hK;obtain⟨hdf,r6⟩:=sameL_ok (N0:=0) hK hrest;refine⟨sub as5 S,hc.tell h0 o5 (λk x hk=>?_) (λk x hk=>?_) (okF_appF (r3 as5 (e4.trans e5) o5 S _ hc.f) (r5 as5 (.refl _) o5 S _ hc.f)) (λd hd=>?_)⟩
 ·obtain⟨u,y,g1,g2,g3⟩:=r4 as5 e5 o5 k x hk;exact⟨u,y,g1,g2,g3 S⟩
 ·obtain⟨g1,g2,y,g3,_,g4⟩:=r6 k x hk;exact⟨g1,y,g3,g4 as5 S o5⟩
 obtain⟨y,hy⟩:=dfrIn_ok hdf hd;obtain⟨g1,g2,y',g3,g4,_⟩:=r6 d y hy;rw[hd] at g3;cases g3;exact⟨g2,by rw[hy,g4 rfl]⟩
theorem loop_ok{I:Inv}{nk:Nat}{body:Nat→PH→Fr→LL→Ke→Prop}{K:Ke}{c:Code}
  (hbody:∀{w0 nk q fr L K S a w},Cfg w0 Sb B n0 N S q fr L a w→body nk q fr L K→c.wpIn (FF r) n P (QE w0 Sb B n0 N K) a w)
  (hc:Cfg w0 Sb B n0 N S q fr L a w) (h:loopK I n0 nk q fr L body K):(Code.loop c).wpIn (FF r) n P (QE w0 Sb B n0 N K) a w:=by
 unfold loopK at h;split at h
 ·exact h.elim
 obtain⟨S,fr,L,nk,hc,h⟩:=xu hc h;obtain⟨q,fr,L,_,hc,h⟩:=frzF_ok hc h;rw[fFr_eq] at h;split at h;rotate_left
 ·exact h.elim
 rename_i h0 hkf;have h0:=Nat.le_of_ble_eq_true h0;obtain⟨i0,⟨hi0⟩,hrd0,h⟩:=h;obtain⟨as1,e1,o1,h,r1⟩:=mFr_ok (AsOk.nil nk) h;obtain⟨as2,e2,o2,h,r2⟩:=mLL_ok (N0:=0) o1 h;rw[zY] at h;split at h;rotate_left
 ·exact h.elim
 rename_i hrest hhid;have hlt:∀j,hasLL j (restL as2 L)=true→j<nk:=λj hj=>zT hrest hj;have hk0:okF S (keepF I.keep fr) a.tmps:=okF_keepF hc.f I.keep
 have head0:Cfg w0 Sb B n0 N (sub as2 S) q (appF (I.fr nk i0) (keepF I.keep fr)) (appL (I.L nk i0) (restL as2 L)) a w:=by
  refine hc.tell h0 o2 (λk x hk=>?_) (λk x hk=>?_) (okF_appF (r1 as2 e2 o2 S _ hc.f) (xW (λk hk=>x6 o2 (ltF_has hkf hk)) hk0)) (λd hd=>?_)
  ·obtain⟨j,y,g1,g2,g3⟩:=r2 as2 (.refl _) o2 k x hk;exact⟨j,y,g1,g2,g3 S⟩
  ·have g:=yN.2 x hk;have g2:getL L k=some x:=(yN.1 g).symm.trans hk;have hkn:k<nk:=hlt k (zm hk (.inl rfl));refine⟨g,x,g2,zX (x6 o2 hkn),λw hw=>yt (x6 o2 hkn) (λj hj=>x6 o2 (hlt j (zm hk (.inr hj)))) hw⟩
  have g:=hidFree_ok hhid hd;have g2:getL (restL as2 L) d=some .dfr:=(yN.1 g).trans hd;exact⟨hlt d (zm g2 (.inl rfl)),g2⟩
 have hround:∀q1,leK I.gr q q1→loopRound I n0 nk q (keepF I.keep fr) (restL as2 L) body K q1:=by
  intro q1 hq1
  revert h hq1
  generalize I.gr=g
  cases g with
  |false=>intro h hq1;have hq1:q=q1:=hq1;subst hq1;exact h
  |true=>intro h hq1;exact h q1 hq1
 clear h;refine wpIn_loopG (ι:=I.ι) (λi a w=>I.ok i∧∃w1 q1 S,Ext w0 w1∧leK I.gr q q1∧I.rd q1 i∧Cfg w1 Sb B n0 N S q1 (appF (I.fr nk i) (keepF I.keep fr)) (appL (I.L nk i) (restL as2 L)) a w) I.μ (i0:=i0) ⟨hi0,w0,q,_,.refl _,leK_refl _ _,hrd0.out,head0⟩ ?_;rintro i a w ⟨hi,w1,q1,S,hx1,hq1,hrd,hc⟩;have h:=hround q1 hq1 i hi hrd;split at h;rotate_left
 ·exact h.elim
 rw[fFr_eq,zY,fN_eq] at h;refine Code.wpIn_mono ?_ (hbody hc h);rintro e a' w' ⟨x,rfl,w2,hx2,hst⟩
 cases x with
 |ret=>exact⟨.ret,rfl,w2,hx1.trans hx2,hst⟩
 |exit m=>exact⟨.exit m,rfl,w2,hx1.trans hx2,hst⟩
 |goto m=>exact⟨.goto m,rfl,w2,hx1.trans hx2,hst⟩
 |norm=>
  obtain⟨S',q',fr',L',nk',hc',hK⟩:=hst;obtain⟨S',fr',L',nk',hc',hK⟩:=xu hc' hK;obtain⟨q',fr',L',_,hc',hK⟩:=frzF_ok hc' hK;obtain⟨j,⟨hj,hlt'⟩,hrd',⟨hle⟩,hK⟩:=hK;obtain⟨S2,hc2⟩:=tell_ok h0 hkf hrest hc' hK;refine⟨j,⟨hj,w2,q',S2,hx1.trans hx2,hle,hrd'.out,hc2⟩,hlt'⟩
theorem cut_ok{I:Cut}{va:Ke→Prop}{vb:Nat→PH→Fr→LL→Prop}{K:Ke}{x y:Code}
  (hx:∀{K S a w},Cfg w0 Sb B n0 N S q fr L a w→va K→x.wpIn (FF r) n P (QE w0 Sb B n0 N K) a w)
  (hy:∀{w0 nk q fr L S a w},Cfg w0 Sb B n0 N S q fr L a w→vb nk q fr L→y.wpIn (FF r) n P (QE w0 Sb B n0 N K) a w)
  (hc:Cfg w0 Sb B n0 N S q fr L a w) (h:cutK I n0 q fr va vb K):(Code.seq x y).wpIn (FF r) n P (QE w0 Sb B n0 N K) a w:=by
 unfold cutK at h;rw[fFr_eq,zY,fN_eq] at h;split at h;rotate_left
 ·exact h.elim
 rename_i h0 hkf hrest;have h0:=Nat.le_of_ble_eq_true h0;obtain⟨h1,h2⟩:=h
 have hnext:∀q1,leK I.gr q q1→cutNext I I.base (keepF I.keep fr) I.rest vb q1:=by
  intro q1 hq1
  revert h2 hq1
  generalize I.gr=g
  cases g with
  |false=>intro h hq1;have hq1:q=q1:=hq1;subst hq1;exact h
  |true=>intro h hq1;exact h q1 hq1
 refine wpIn_seq (Code.wpIn_mono ?_ (hx hc h1));rintro e a' w' ⟨z,rfl,w2,hx2,hst⟩
 cases z with
 |ret=>exact⟨.ret,rfl,w2,hx2,hst⟩
 |exit m=>exact⟨.exit m,rfl,w2,hx2,hst⟩
 |goto m=>exact⟨.goto m,rfl,w2,hx2,hst⟩
 |norm=>
  obtain⟨S',q',fr',L',nk',hc',hK⟩:=hst;obtain⟨S',fr',L',nk',hc',hK⟩:=xu hc' hK;obtain⟨q',fr',L',_,hc',hK⟩:=frzF_ok hc' hK;obtain⟨j,⟨hj⟩,⟨hle⟩,hK⟩:=hK;obtain⟨S2,hc2⟩:=tell_ok h0 hkf hrest hc' hK;have h:=hnext q' hle j hj;split at h;rotate_left
  ·exact h.elim
  rw[fN_eq,fFr_eq,zY] at h;exact Code.wpIn_mono (λ_ _ _ hq=>hq.ext hx2) (hy hc2 h)
theorem Mem.turnRec{k:Nat}{st:LoopState}{pe:Option Ex}(st':LoopState)(pe':Option Ex)(hm:Mem w0 q S L w)(hk:getL L k=some (.loop st pe)):
  Mem w0 q S (setL L k (.loop st' pe')) (w.putObj (S k).b (.loop { (S k).r with state:=st',pending:=pe'.bind jumpOf })):=by
 obtain⟨hN,hb⟩:=hm.ch k _ hk;have hlt:=(Array.getElem?_eq_some_iff.1 hb).1;exact hm.turn hk rfl (grownBy_putObj' w _ _) ⟨hN,World.putObj_heap_same hlt⟩ rfl
theorem Mem.recHeap{k:Nat}{st:LoopState}{pe:Option Ex}(hm:Mem w0 q S L w)(hk:getL L k=some (.loop st pe)):w.heap[(S k).b]?=some (.loop { (S k).r with state:=st,pending:=pe.bind jumpOf }):=(hm.ch k _ hk).2
theorem putsF_ok{K:Fr→Prop}:∀{ps:List Nat}{xs:List SV}{vs:List Value}{fr:Fr}{tm:Array Value},putsF ps xs N fr K→okF S fr tm→tm.size=N→okL S xs vs →
  ps.length=vs.length∧∃fr1,K fr1∧okF S fr1 ((ps.zip vs).foldl (λt (p:Nat×Value)=>t.setIfInBounds p.1 p.2) tm)∧((ps.zip vs).foldl (λt (p:Nat×Value)=>t.setIfInBounds p.1 p.2) tm).size=N
 |[],[],[],fr,tm,h,hf,hn,_=>⟨rfl,fr,h,hf,hn⟩
 |[],[],_::_,_,_,_,_,_,hv=>by cases hv
 |p::ps,x::xs,v::vs,fr,tm,h,hf,hn,hv=>by
  simp only[putsF] at h;split at h
  ·rename_i hp;have hp:p<N:=Nat.le_of_ble_eq_true hp;obtain⟨h1,fr1,h2,h3,h4⟩:=putsF_ok (tm:=tm.setIfInBounds p v) h (okF_put hf hv.1 (by rw[hn];exact hp)) (by simp[hn]) hv.2;exact⟨by simp[h1],fr1,h2,h3,h4⟩
  exact h.elim
 |p::ps,x::xs,[],_,_,_,_,_,hv=>by cases hv
 |[],_::_,_,_,_,h,_,_,_=>by simp[putsF] at h
 |_::_,[],_,_,_,h,_,_,_=>by simp[putsF] at h
def CodeOk(P:Program)(N:Nat)(Y:Ye)(ro:Option Nat)(c:Code)(v:Nat→Nat→PH→Fr→LL→Ke→Prop):Prop:=
 ∀{w0:W0}{n0 nk:Nat}{Sb S:Pl}{B:Nat→Prop}{q:PH}{fr:Fr}{L:LL}{K:Ke}{a:Act}{w:World}{r:Option Nat}{n:Nat},
  r=ro.map (λl=>(Sb l).b)→(∀l,ro=some l→l<n0)→YOk P Sb Y n0→Cfg w0 Sb B n0 N S q fr L a w→v n0 nk q fr L K→c.wpIn (FF r) n P (QE w0 Sb B n0 N K) a w
theorem hd_ok{va vb:Nat→Nat→PH→Fr→LL→Ke→Prop}{nk:Nat}{ps:Array Nat}{Y:Ye}{assign body:Code}{tmps:Array Value}(hA:CodeOk P N Y (some nk) assign va)(hB:CodeOk P N Y (some nk) body vb)
  (hY:YOk P S Y nk) (hf:okF S fr tmps) (hn:tmps.size=N) (hlt:ltF nk fr=true) (h1:(S nk).r.tmps=tmps) (h2:(S nk).r.params=ps) (h3:(S nk).r.assign=assign) (h4:(S nk).r.body=body) :
  HdOk P S nk (roundK va vb N nk ps.toList fr):=by
 intro w0 args nk1 q L K vs w S1 r n hk1 hS h hvs hm;unfold roundK at h;split at h;rotate_left
 ·exact h.elim
 rename_i hL;have hSk:S1 nk=S nk:=hS nk ws;have hh:=hm.recHeap hL;have hf1:okF S1 fr tmps:=xW (λk hk=>hS k (by have:=ltF_has hlt hk;omega)) hf;obtain⟨hlen,fr1,h,hf2,hn2⟩:=putsF_ok h hf1 hn hvs;have hy:=run_yield (P:=P) (args:=vs.toArray) hh (by rw[hSk];simp only[h2];simpa using hlen.symm);rw[hSk] at hy
 have hfold:(((S nk).r.params.zip vs.toArray).foldl (λtmps (x:Nat×Value)=>tmps.setIfInBounds x.1 x.2) (S nk).r.tmps)=(ps.toList.zip vs).foldl (λt (p:Nat×Value)=>t.setIfInBounds p.1 p.2) tmps:=by
  rw[h1,h2,←Array.foldl_toList,Array.toList_zip]
 refine⟨_,_,_,_,hy,?_⟩;rw[hSk] at hh;refine roundIn_of_wpIn (F:=FF r) trivial ?_;show Code.wpIn (FF (some (S nk).b)) n P _ _ _ _;have hY1:YOk P S1 Y nk1:=(hY.congr (λk hk=>hS k ws)).more ws
 have hc:Cfg w0 S1 (λd=>getL L d=some .dfr) nk1 N S1 q fr1 L { tmps:=(ps.toList.zip vs).foldl (λt (p:Nat×Value)=>t.setIfInBounds p.1 p.2) tmps,defers:=[] } w:=
  ⟨λ_ _=>rfl,λ_ _ h=>h,hm,hf2,hn2,.nil _⟩
 have hAx:=hA (n:=n) (r:=some (S nk).b) (by rw[←hSk];rfl) (λl e=>by cases e;omega) hY1 hc h;rw[←h3] at hAx;have e0:({ tmps:=(((S nk).r.params.zip vs.toArray).foldl (λtmps (x:Nat×Value)=>tmps.setIfInBounds x.1 x.2) (S nk).r.tmps),defers:=[] }:Act)={ tmps:=(ps.toList.zip vs).foldl (λt (p:Nat×Value)=>t.setIfInBounds p.1 p.2) tmps,defers:=[] }:=by rw[hfold]
 rw[←e0] at hAx;refine Code.wpIn_mono ?_ hAx;rintro e a1 w1 ⟨x,rfl,wa,hxa,S2,q2,fr2,L2,nk2,hc2,hK⟩
 cases x with
 |ret=>exact hK.elim
 |exit m=>exact hK.elim
 |goto m=>exact hK.elim
 |norm=>
  simp only[thenE] at hK;split at hK;rotate_left
  ·exact hK.elim
  rename_i hL2;rw[zY] at hK;have hS2:S2 nk=S nk:=(hc2.ag nk ws).trans hSk;have hh2:=hc2.m.recHeap hL2;rw[hS2] at hh2;have hm2:=hc2.m.turnRec .busy none hL2;rw[hS2] at hm2;refine⟨_,run_beginRound hh2 rfl,?_⟩;have hc3:=hc2.turn hL2 wv hm2;have hBx:=hB (n:=n) (r:=some (S nk).b) (by rw[←hSk];rfl) (λl e=>by cases e;omega) hY1 hc3 hK;rw[←h4] at hBx;refine Code.wpIn_mono ?_ hBx;rintro e a3 w3 ⟨x,rfl,wb,hxb,S3,q3,fr3,L3,nk3,hc4,hK⟩;split at hK;rotate_left
  ·exact hK.elim
  rename_i hL3;have hS3:S3 nk=S nk:=(hc4.ag nk ws).trans hSk;have hh3:=hc4.m.recHeap hL3;rw[hS3] at hh3
  have fin:∀{jump:Option Code}{st:LoopState}{pe:Option Ex},pe.bind jumpOf=jump→(if jump.isNone then LoopState.ready else .done)=st→K (.bb jump.isNone) nk3 q3 (setL L3 nk (.loop st pe)) →
    ∃v w',(Instr.endRound (S nk).b jump).run P w3=.ok v w'∧∃b S4 q4 L4 nk4,Ending.returned v=.returned (.bool b)∧(∀j,j<nk1→S4 j=S1 j)∧Mem w0 q4 S4 L4 w' ∧
     (∀d,d<nk1→getL L d=some .dfr→getL L4 d=some .dfr)∧K (.bb b) nk4 q4 L4:=by
   intro jump st pe hpe hst hK;refine⟨_,_,run_endRound jump hh3,jump.isNone,S3,q3,_,nk3,rfl,hc4.ag,?_,λd hd hdL=>?_,hK⟩
   ·have:=hc4.m.turnRec st pe hL3;rw[hS3,hpe] at this;rw[hst];exact(hxa.trans hxb).mem this
   have hg:=hc4.b d hd hdL;rw[zK,if_neg (λe=>by subst e;rw[hL3] at hg;cases hg)];exact hg
  cases x<;>simp only[zY] at hK
  ·exact fin (jump:=none) (pe:=none) rfl rfl hK
  ·exact fin (jump:=some .ret) (pe:=some .ret) rfl rfl hK
  ·rename_i m;exact fin (jump:=some (.exit m)) (pe:=some (.exit m)) rfl rfl hK
  rename_i m;exact fin (jump:=some (.goto m)) (pe:=some (.goto m)) rfl rfl hK
theorem remL_setL{k:Nat}{x:LB}:∀{L:LL},remL (setL L k x) k=remL L k
 |[]=>rfl
 |(u,y)::r=>by
  by_cases h:Nat.beq u k=true
  ·simp[setL_c,remL_c,h]
  have h:Nat.beq u k=false:=by rw[Bool.eq_false_iff];exact h
  simp[setL_c,remL_c,h,remL_setL (L:=r)]
theorem range_ok{inl:Inl}(hI:yE P inl){g:Operand}{ps:Array Nat}{assign body:Code}{it:Nat}{cs:List SV}{Y:Ye}{va vb:Nat→Nat→PH→Fr→LL→Ke→Prop}{nk:Nat}{K:Ke}{L1:LL}
    (hA:CodeOk P N Y (some nk) assign va) (hB:CodeOk P N Y (some nk) body vb) (hg:opv fr g=.fn it cs)
    (hc:Cfg w0 Sb B n0 N S q fr L a w) (h0:n0≤nk) (hlt:ltF nk fr=true) (hY:YOk P Sb Y n0) (hltL:ltLL nk L=true)
    (enter:∀fn,∃(S':Pl) (mark:List Deferred) (w1:World) (Ds:List Nat),(Instr.enterLoop fn a.tmps ps assign body r).run P w=.ok ((S' nk).b,mark) w1∧(∀k,k<nk→S' k=S k)∧Mem w0 q S' L1 w1 ∧
      (S' nk).r.tmps=a.tmps∧(S' nk).r.params=ps∧(S' nk).r.assign=assign∧(S' nk).r.body=body∧(∀d,getL L d=some .dfr→getL L1 d=some .dfr)∧(mark=Ds.map (fun d=>markOf (S' d).b)∧Ds.Nodup)∧∀d∈Ds,d=nk+1∧getL L1 d=some .dfr)
    (h:inl ((nk,roundK va vb N nk ps.toList fr)::Y) it (.yl nk::cs) (nk+2) q L1 (doneK nk fr K)):(Code.rangeFunc g ps assign body).wpIn (FF r) n P (QE w0 Sb B n0 N K) a w:=by
  refine wpIn_rangeFunc λfn _=>?_;obtain⟨S',mark,w1,Ds,hen,hS,hm,e1,e2,e3,e4,hdf,hmark,hDs⟩:=enter fn;have hgv:=zu hc.f g;rw[hg] at hgv;obtain⟨cvs,hgv,hcs⟩:=hgv;have hltc:∀k,hasL k cs=true→k<nk:=λk hk=>ltF_has hlt (opv_has (x:=g) (by rw[hg];simpa[SV.has] using hk))
  have hY':YOk P S' ((nk,roundK va vb N nk ps.toList fr)::Y) (nk+2):=by
    have hYS:YOk P S' Y n0:=hY.congr λk hk=>(hS k ws).trans (hc.ag k hk);intro k hd hk;simp only[yGet] at hk;split at hk
    · rename_i e
      have e:=Nat.eq_of_beq_eq_true e;subst e;cases hk;exact⟨Nat.le_refl _,hd_ok hA hB (hYS.more h0) (xW (λk hk=>hS k (ltF_has hlt hk)) hc.f) hc.n hlt e1 e2 e3 e4⟩
    · exact(hYS.more ws) k hd hk
  obtain⟨hcf,hcalls⟩:=hI w0 _ it (.yl nk::cs) (nk+2) q L1 _ (.func (.yield (S' nk).b) #[] #[]::cvs) w1 S' r (n-1) h hY' ⟨rfl,yc cs (λk hk=>hS k (hltc k hk)) hcs⟩ hm;refine⟨(S' nk).b,mark,w1,{ target:=.fn (.func it) cvs.toArray,args:=#[.func (.yield (S' nk).b) #[] #[]] },w1,it,(.func (.yield (S' nk).b) #[] #[]::cvs).toArray,w1,hen,?_,λ_ _=>trivial,?_,λhx=>(by cases hx),?_⟩
  · have:(resolve a.eval (rangeCall g (S' nk).b) 0)=Deferred.ofValue (a.eval g) #[.func (.yield (S' nk).b) #[] #[]]:=by
      simp only[resolve,rangeCall,List.map_toArray,List.map_cons,List.map_nil];rfl
    rw[this,hgv];simp[Deferred.ofValue]
  · have:=hcf (.func (.yield (S' nk).b) #[] #[]::cvs).toArray w1
    simpa[invoke] using this
  refine hcalls.mono ?_;rintro e w3 ⟨v,x,S2,q2,L2,nk2,rfl,_,hS2,hm2,hd2,hK⟩;have hSn:S2 nk=S' nk:=hS2 nk ws
  have fin:∀{st:LoopState}{pe:Option Ex}{x:Ex}(c:Option Code),getL L2 nk=some (.loop st pe)→st≠.busy→pe.bind jumpOf=c→(K x nk2 q2 fr (remL (remL L2 nk) (nk+1))) →
      (match c with
       |none=>x=.norm
       | some c=>∀{a:Act} {w:World} {Q:Exit→Act→World→Prop},Q (toX x) a w→c.wpIn (FF r) n P Q a w)→rangePost (FF r) n P (S' nk).b (QE w0 Sb B n0 N K) { a with defers:=mark++a.defers } (.returned v) w3:=by
    intro st pe x c hL hst hpe hK hx;have hh:=hm2.recHeap hL;rw[hSn] at hh;have hm3:=(hm2.turnRec .exhausted pe hL).rem nk;rw[hSn,remL_setL] at hm3;refine⟨_,_,run_endLoop hh hst,?_⟩
    have hst:∃w1,Ext w0 w1∧St w1 Sb B n0 N (K x) { a with defers:=mark++a.defers } (w3.putObj (S' nk).b (.loop { (S' nk).r with state:=.exhausted,pending:=pe.bind jumpOf })):=by
      generalize w3.putObj (S' nk).b (.loop { (S' nk).r with state:=.exhausted,pending:=pe.bind jumpOf })=w5 at hm3 ⊢;obtain⟨Hs,g1,g2,g3⟩:=hc.d
      have hrem:∀d,getL L2 d=some .dfr→getL (remL L2 nk) d=some .dfr:=λd hd=>by
        rw[zM,if_neg (λe=>by subst e;rw[hL] at hd;cases hd)];exact hd
      have hrem2:∀d,d≠nk+1→getL L2 d=some .dfr→getL (remL (remL L2 nk) (nk+1)) d=some .dfr:=λd hne hd=>by
        rw[zM,if_neg (λe=>hne e.symm)];exact hrem d hd
      have hlt2:∀d,getL L d=some .dfr→d<nk:=λd hd=>zT hltL (zm hd (.inl rfl))
      have hDm:∀d∈Ds,getL (remL L2 nk) d=some .dfr:=λd hd=>by
        obtain⟨k1,k2⟩:=hDs d hd;exact hrem d (hd2 d ws k2)
      let w1:W0:=⟨w5,fun b=>w0.F b∨∃d∈Ds,b=(S2 d).b,fun b hb=>by
        rcases hb with hb|⟨d,hd,rfl⟩
        · exact Nat.lt_of_lt_of_le (w0.lt b hb) hm3.be.size
        · exact (Array.getElem?_eq_some_iff.1 (hm3.ch d _ (hDm d hd)).2).1,w0.F0,fun b hb=>.inl (w0.sub b hb),q2⟩
      have hx1:Ext w0 w1:=⟨rfl,λb hb=>.inl hb,hm3.be,hm3.gw⟩
      have hm4:Mem w1 q2 S2 (remL (remL L2 nk) (nk+1)) w5:=by
        have hm4:=hm3.rem (nk+1);refine⟨hm4.ch,hm4.ap,hm4.po,λk lb hk b hb hF=>?_,hm4.on,.refl w1,λ_ _ _ hv _=>hv⟩;rcases hF with hF|⟨d,hd,rfl⟩
        · exact hm4.fz k lb hk b hb hF
        · have k1:=(hDs d hd).1
          rw[zM] at hk;split at hk
          · cases hk
          · rename_i hne
            exact hm3.ap d _ k lb (hDm d hd) hk (λe=>hne ws) _ rfl hb
      refine ⟨w1,hx1,S2,q2,fr,_,nk2,⟨fun k hk=>((hS2 k (by omega)).trans (hS k (by omega))).trans (hc.ag k hk),fun d hd hB=>?_,hm4,
        xW (fun k hk=>by have:=ltF_has hlt hk;exact (hS2 k (by omega)).trans (hS k this)) hc.f,hc.n,Ds.map (fun d=>(S2 d).b)++Hs,?_,?_,fun b hb=>?_⟩,hK⟩
      · have:=hc.b d hd hB
        have:=hlt2 d this;exact hrem2 d ws (hd2 d ws (hdf d (hc.b d hd hB)))
      · have m1:Ds.map (λd=>markOf (S' d).b)=(Ds.map (λd=>(S2 d).b)).map markOf:=by
          rw[List.map_map];exact List.map_congr_left λd hd=>by rw[Function.comp,hS2 d (by have:=(hDs d hd).1;omega)]
        rw[List.map_append,hmark.1,m1,←g1]
      · refine List.nodup_append.2 ⟨?_,g2,λx hx y hy e=>?_⟩
        · have:∀l:List Nat,l.Nodup→(∀d∈l,d=nk+1)→(l.map (λd=>(S2 d).b)).Nodup:=λl hn hl=>by
            match l,hn,hl with
            |[],_,_=>exact .nil
            |[x],_,_=>simp
            |x::y::r,hn,hl=>
              have h1:=hl x wv;have h2:=hl y wv;simp[h1,h2] at hn
          exact this Ds hmark.2 λd hd=>(hDs d hd).1
        · obtain⟨d,hd,rfl⟩:=List.mem_map.1 hx
          subst e;exact hm3.fz d _ (hDm d hd) _ rfl (g3 _ hy).1
      · rcases List.mem_append.1 hb with hb|hb
        · obtain⟨d,hd,rfl⟩:=List.mem_map.1 hb
          refine⟨.inr ⟨d,hd,rfl⟩,λhF0=>hm3.fz d _ (hDm d hd) _ rfl (w0.sub _ hF0),(hm3.ch d _ (hDm d hd)).2⟩
        · obtain⟨k1,k2,k3⟩:=g3 b hb
          exact⟨.inl k1,k2,(hm3.be.block b k1).trans k3⟩
    subst hpe;dsimp only;split
    · rename_i e
      rw[e] at hx;have hx:x=.norm:=hx;subst hx;exact⟨.norm,rfl,hst⟩
    · rename_i c e
      rw[e] at hx;exact hx ⟨x,rfl,hst⟩
  unfold doneK at hK;split at hK
  · rename_i hL;rw[zY] at hK;exact fin (x:=.norm) none hL wv rfl hK rfl
  · rename_i hL;rw[zY] at hK;exact fin (x:=.ret) (some .ret) hL wv rfl hK λh=>wpIn_ret h
  · rename_i m hL;rw[zY] at hK;exact fin (x:=.exit m) (some (.exit m)) hL wv rfl hK λh=>wpIn_exit h
  · rename_i m hL;rw[zY] at hK;exact fin (x:=.goto m) (some (.goto m)) hL wv rfl hK λh=>wpIn_goto h
  · exact hK.elim
theorem w8{nk k:Nat}(h:ltLL nk L=true)(hk:nk≤k):hasLL k L=false:=by
 cases hb:hasLL k L with
 |false=>rfl
 |true=>have:=zT h hb;omega
theorem Mem.newRec{nk:Nat}(hm:Mem w0 q S L w)(hL:hasLL nk L=false)(rec:Loop)(h1:rec.state=.ready)(h2:rec.pending=none):Mem w0 q (updS S nk ⟨w.heap.size,none,0,0,rec⟩) ((nk,.loop .ready none)::L) (w.alloc (.loop rec)):=by
 refine hm.new hL ((Below.refl _ w).alloc (Nat.le_refl _) _) ⟨?_,?_⟩ ?_
 ·rw[zc];exact Nat.zero_le _
 ·rw[zc,heap_alloc_new w _];obtain⟨st,pe,_,_,_,_,_,_⟩:=rec;cases h1;cases h2;rfl
 intro b hb;simp only[blk,zc,Option.some.injEq] at hb;omega
theorem Mem.newDfr{k:Nat}(hm:Mem w0 q S L w)(hL:hasLL k L=false):Mem w0 q (updS S k ⟨w.heap.size,none,0,0,default⟩) ((k,.dfr)::L) (w.alloc (.deferred (some []))):=by
 refine hm.new hL ((Below.refl _ w).alloc (Nat.le_refl _) _) ⟨?_,?_⟩ ?_
 ·rw[zc];exact Nat.zero_le _
 ·rw[zc,heap_alloc_new w _]
 intro b hb;simp only[blk,zc,Option.some.injEq] at hb;omega
end
section
structure Tau where
 S:Pl
 q:PH
 L:LL
 nk:Nat
 w:World
section
variable {P:Program}{ops:Array Oper}{w0:W0}{r:Option Nat}{n N n0:Nat}{Sb:Pl}{B:Nat→Prop}{Q:Exit→Act→World→Prop}
abbrev Fits(w0:W0)(τ:Tau)(w:World):Prop:=Cl w0 τ.q τ.S τ.L τ.w w
structure TauOk (w0:W0) (N n0:Nat) (Sb:Pl) (B:Nat→Prop) (τ:Tau) (a:Act):Prop where
 m:Mem w0 τ.q τ.S τ.L τ.w
 d:MarksOk w0 a.defers
 n:a.tmps.size=N
 ag:∀k,k<n0→τ.S k=Sb k
 le:n0≤τ.nk
 b:∀d,d<n0→B d→getL τ.L d=some .dfr
theorem TauOk.put{τ:Tau}{a:Act}(h:TauOk w0 N n0 Sb B τ a)(d:Option Tmp)(v:Value):TauOk w0 N n0 Sb B τ (a.put d v):=
 ⟨h.m,by cases d<;>exact h.d,by rw[←h.n];cases d<;>simp[Act.put],h.ag,h.le,h.b⟩
def ClosedL(ops:Array Oper)(listed:Array Bool):Prop:=∀j o,listed.getD j false=true→ops[j]?=some o→∀e∈o.after,Region.binds .any e=true→listed.getD e.on false=true
def Dp(ops:Array Oper)(c i:Nat):Prop:=∀listed,ClosedL ops listed→i∈Region.ready .any ops listed→listed.getD c false=true
structure Later (ops:Array Oper) (Φ:List (Nat×List Nat)) (i:Nat) (τ τ':Tau):Prop where
 S:∀k,k<τ.nk→τ'.S k=τ.S k
 q:τ.q.le τ'.q
 nk:τ.nk≤τ'.nk
 keep:∀c F,(c,F)∈Φ→¬Dp ops c i→∀k∈F,∀lb,getL τ.L k=some lb→getL τ'.L k=some lb∧∀b,blk τ.S k lb=some b→τ'.w.heap[b]?=τ.w.heap[b]?
theorem Later.refl{Φ:List (Nat×List Nat)}{i:Nat}(τ:Tau):Later ops Φ i τ τ:=⟨λ_ _=>rfl,λ_ _ _ h=>h,Nat.le_refl _,λ_ _ _ _ _ _ _ h=>⟨h,λ_ _=>rfl⟩⟩
def stepD(P:Program)(ops:Array Oper)(w0:W0)(r:Option Nat)(n N n0:Nat)(Sb:Pl)(B:Nat→Prop)(Q:Exit→Act→World→Prop)(Φ:List (Nat×List Nat))(τ:Tau)(i:Nat)(next:Tau→Act→Prop)(a:Act):Prop:=
 match ops[i]? with
 |none=>next τ a
 |some o=>if Region.wanted o (yielded ops a.tmps)=true then ∀w,Fits w0 τ w→o.wpIn (FF r) n P a w (λa' w'=>∃τ',Later ops Φ i τ τ'∧TauOk w0 N n0 Sb B τ' a'∧Fits w0 τ' w'∧next τ' a') Q else next τ (a.put o.dst undef)
def wpD(P:Program)(ops:Array Oper)(w0:W0)(r:Option Nat)(n N n0:Nat)(Sb:Pl)(B:Nat→Prop)(Q:Exit→Act→World→Prop)(Kf:Tau→Act→Prop):Nat→List (Nat×List Nat)→Tau→Array Bool→Act→Prop
 |0,_,τ,listed,a=>Region.ready .any ops listed=[]∧Kf τ a
 |fuel+1,Φ,τ,listed,a=>(Region.ready .any ops listed=[]→Kf τ a)∧∀i∈Region.ready .any ops listed,stepD P ops w0 r n N n0 Sb B Q Φ τ i (λτ' a'=>wpD P ops w0 r n N n0 Sb B Q Kf fuel Φ τ' (listed.setIfInBounds i true) a') a
variable {Kf:Tau→Act→Prop}
theorem stepD_mono{Φ Φ':List (Nat×List Nat)}{τ:Tau}{i:Nat}{next next':Tau→Act→Prop}{a:Act}(hΦ:∀x,x∈Φ'→x∈Φ)(h:stepD P ops w0 r n N n0 Sb B Q Φ τ i next a)
  (hn:∀τ' a',next τ' a'→next' τ' a'):stepD P ops w0 r n N n0 Sb B Q Φ' τ i next' a:=by
 unfold stepD at *;split
 ·rename_i ho;simp only[ho] at h;exact hn _ _ h
 rename_i o ho;simp only[ho] at h;split
 ·rename_i hw;rw[if_pos hw] at h;intro w hf;exact Oper.wpIn_mono (λa' w' ⟨τ',h1,h2,h3,h4⟩=>⟨τ',⟨h1.S,h1.q,h1.nk,λc F hc=>h1.keep c F (hΦ _ hc)⟩,h2,h3,hn _ _ h4⟩) (h w hf)
 rename_i hw;rw[if_neg hw] at h;exact hn _ _ h
theorem wpD_weak{Φ Φ':List (Nat×List Nat)}(hΦ:∀x,x∈Φ'→x∈Φ):∀{fuel:Nat}{τ:Tau}{listed:Array Bool}{a:Act},wpD P ops w0 r n N n0 Sb B Q Kf fuel Φ τ listed a→wpD P ops w0 r n N n0 Sb B Q Kf fuel Φ' τ listed a
 |0,_,_,_,h=>h
 |fuel+1,τ,listed,a,h=>⟨h.1,λi hi=>stepD_mono hΦ (h.2 i hi) λ_ _ h'=>wpD_weak hΦ h'⟩
theorem wpIn_shift{o:Oper}{a:Act}{d:Option Tmp}{v:Value}{w:World}{next:Act→World→Prop}(hnd:∀c,o.op≠.defer c)(he:execOp (a.put d v).eval o=execOp a.eval o)(hdd:∀t,d=some t→o.dst≠some t)
  (hQp:∀ch a a' w,Q (.panic ch) a w→Q (.panic ch) a' w) (h:o.wpIn (FF r) n P (a.put d v) w next Q):o.wpIn (FF r) n P a w (λa' w'=>(∃u df,a'=({ a with defers:=df }:Act).put o.dst u)∧next (a'.put d v) w') Q:=by
 refine⟨λ_ _=>trivial,?_⟩;have h2:=h.2;rw[Oper.semAt_eq _ _ _ hnd] at h2 ⊢;rw[he] at h2;have cm:∀u,(a.put d v).put o.dst u=(a.put o.dst u).put d v:=λu=>Act.put_comm a v u hdd
 have hdf:∀x:Deferred,({ a.put d v with defers:=x::(a.put d v).defers }:Act).put o.dst undef=(({ a with defers:=x::a.defers }:Act).put o.dst undef).put d v:=λx=>by
  rw[←Act.put_comm _ v undef hdd];cases d<;>rfl
 revert h2
 generalize (execOp a.eval o).run P w=res;intro h2
 cases res with
 |halt x w'=>cases x<;>simp only[Oper.uponIn] at h2 ⊢<;>first|exact hQp _ _ _ _ h2|exact h2
 |ok nx w'=>
  cases nx<;>simp only[Oper.uponIn] at h2 ⊢
  case value u=>rw[cm] at h2;exact⟨⟨u,a.defers,rfl⟩,h2⟩
  case skip=>rw[cm] at h2;exact⟨⟨undef,a.defers,rfl⟩,h2⟩
  case defer x=>rw[hdf] at h2;exact⟨⟨undef,_,rfl⟩,h2⟩
  case enter f args=>
   refine⟨h2.1,h2.2.mono λe w'' he=>?_⟩
   cases e with
   |returned u=>simp only at he ⊢;rw[cm] at he;exact⟨⟨u,a.defers,rfl⟩,he⟩
   |panicked ch=>exact hQp _ _ _ _ he
   |outgrown=>exact he
  case row rw' args=>
   refine⟨h2.1,h2.2.mono λu w'' he=>?_⟩;rw[cm] at he;exact⟨⟨u,a.defers,rfl⟩,he⟩
  case round l f tm ags bo=>
   refine⟨h2.1,h2.2.mono λe w'' he=>?_⟩
   cases e with
   |returned u=>simp only at he ⊢;rw[cm] at he;exact⟨⟨u,a.defers,rfl⟩,he⟩
   |panicked ch=>exact hQp _ _ _ _ he
   |outgrown=>exact he
  all_goals exact h2
theorem wpIn_at{o:Oper}{a:Act}{x:Value}{w:World}{next:Act→World→Prop}(hnd:∀c,o.op≠.defer c)(hq:Oper.quietUpon P (λw'=>Below w.heap.size w w') w x ((execOp a.eval o).run P w))
  (h:∀w',Below w.heap.size w w'→next (a.put o.dst x) w'):o.wpIn (FF r) n P a w next Q:=by
 refine⟨λ_ _=>trivial,?_⟩;rw[Oper.semAt_eq _ _ _ hnd]
 revert hq
 generalize (execOp a.eval o).run P w=res;intro hy
 cases res with
 |halt x w'=>simp only[Oper.quietUpon] at hy
 |ok nx w'=>
  cases nx<;>simp only[Oper.quietUpon] at hy<;>simp only[Oper.uponIn]
  case value u=>obtain⟨rfl,rfl⟩:=hy;exact h _ (.refl _ _)
  case skip=>obtain⟨rfl,rfl⟩:=hy;exact h _ (.refl _ _)
  case enter f args=>
   obtain⟨rfl,hc⟩:=hy;exact⟨λh=>wL,(yw hc).mono λe w'' ⟨he,hw''⟩=>by subst he;exact h _ hw''⟩
def YD(P:Program)(ops:Array Oper)(w0:W0)(F:List Nat)(o:Oper)(v:Value)(τ:Tau)(a:Act):Prop:=
 (∀k∈F,k<τ.nk)∧((Region.wanted o (yielded ops a.tmps)=true∧∀w,Cl w0 τ.q τ.S (yL F τ.L) τ.w w→Oper.quietUpon P (λw'=>Below w.heap.size w w') w v ((execOp a.eval o).run P w))∨(Region.wanted o (yielded ops a.tmps)=false∧v=undef))
theorem Mem.less{q:PH}{L L':LL}{S:Pl}{w:World}(h:Mem w0 q S L w)(hL:∀k x,getL L' k=some x→getL L k=some x):Mem w0 q S L' w:=
 ⟨λk x hk=>h.ch k x (hL k x hk),λk x k' x' hk hk'=>h.ap k x k' x' (hL k x hk) (hL k' x' hk'),λk x hk=>h.po k x (hL k x hk),λk x hk=>h.fz k x (hL k x hk),h.on,h.be,h.gw⟩
theorem yx{k:Nat}{L:LL}:∀{F:List Nat},getL (yL F L) k=if k∈F then getL L k else none
 |[]=>rfl
 |j::F=>by
  have ih:=yx (k:=k) (L:=L) (F:=F);have e:yL (j::F) L=match getL L j with|some x=>(j,x)::yL F L|none=>yL F L:=rfl
  rw[e];by_cases hj:j=k
  ·subst hj
   cases hl:getL L j with
   |none=>simp only[ih,hl];simp
   |some x=>simp only[ze];simp
  have hk:(k∈j::F)↔k∈F:=by simp[Ne.symm hj]
  cases hl:getL L j with
  |none=>simp only[ih,hk]
  |some x=>simp only[ze,if_neg hj,ih,hk]
theorem YD.later{Φ:List (Nat×List Nat)}{F:List Nat}{i j:Nat}{o:Oper}{v:Value}{τ τ':Tau}{a:Act}(h:YD P ops w0 F o v τ a)(hi:(i,F)∈Φ)(hl:Later ops Φ j τ τ')(hd:¬Dp ops i j):YD P ops w0 F o v τ' a:=by
 refine⟨λk hk=>Nat.lt_of_lt_of_le (h.1 k hk) hl.nk,h.2.imp (λ⟨h1,h2⟩=>⟨h1,λw hw=>h2 w ⟨λk lb hk b hb=>?_,λb o v hv=>hw.on b o v (hl.q b o v hv),hw.be⟩⟩) id⟩;rw[yx] at hk;split at hk;rotate_left
 ·cases hk
 rename_i hkF;obtain⟨k1,k2⟩:=hl.keep i F hi hd k hkF lb hk;have hs:=hl.S k (h.1 k hkF);have hb':blk τ'.S k lb=some b:=by rw[zX hs];exact hb
 rw[hw.ch k lb (by rw[yx,if_pos hkF,k1]) b hb',k2 b hb]
theorem x4{listed:Array Bool}{i:Nat}(h:ClosedL ops listed)(hi:i∈Region.ready .any ops listed):ClosedL ops (listed.setIfInBounds i true):=by
 obtain⟨h0,oi,ho,hall⟩:=mem_ready.1 hi;intro j o hj hoj e he hb;by_cases hji:j=i
 ·subst hji;rw[ho] at hoj;cases hoj;exact getD_set_true (hall e he hb)
 rw[getD_set_ne false (Ne.symm hji)] at hj;exact getD_set_true (h j o hj hoj e he hb)
theorem wpD_first{F:List Nat}{i:Nat}{oi:Oper}{v:Value}(hnd:∀(j:Nat) (o:Oper) c,ops[j]?=some o→o.op≠.defer c)(hQp:∀ch a a' w,Q (.panic ch) a w→Q (.panic ch) a' w)(hi:ops[i]?=some oi)(hsel:∀(j:Nat) (o:Oper) cs b,ops[j]?=some o→o.op≠.select cs b):
  ∀(fuel:Nat) (Φ:List (Nat×List Nat)) (τ:Tau) (listed:Array Bool) (a:Act),ClosedL ops listed→TauOk w0 N n0 Sb B τ a →
   (∀j oj,ops[j]?=some oj→j≠i→listed.getD j true=false→(∀e∈oj.after,Region.binds .any e=true→e.on≠i)→oi.apart ops oj=true) →
   i∈Region.ready .any ops listed→YD P ops w0 F oi v τ a →
   wpD P ops w0 r n N n0 Sb B Q Kf fuel ((i,F)::Φ) τ (listed.setIfInBounds i true) (a.put oi.dst v)→wpD P ops w0 r n N n0 Sb B Q Kf (fuel+1) Φ τ listed a:=by
 have now:∀{fuel:Nat}{Φ:List (Nat×List Nat)}{τ:Tau}{listed:Array Bool}{a:Act},TauOk w0 N n0 Sb B τ a→YD P ops w0 F oi v τ a→wpD P ops w0 r n N n0 Sb B Q Kf fuel ((i,F)::Φ) τ (listed.setIfInBounds i true) (a.put oi.dst v) →
   stepD P ops w0 r n N n0 Sb B Q Φ τ i (λτ' a'=>wpD P ops w0 r n N n0 Sb B Q Kf fuel Φ τ' (listed.setIfInBounds i true) a') a:=λ{fuel Φ τ listed a} ht hy H=>by
  have H':=wpD_weak (Φ':=Φ) (λx hx=>List.mem_cons_of_mem _ hx) H;unfold stepD;simp only[hi];rcases hy.2 with ⟨hw,hv⟩|⟨hw,rfl⟩
  ·rw[if_pos hw];intro w hf
   have hch:∀k lb,getL (yL F τ.L) k=some lb→∀b,blk τ.S k lb=some b→w.heap[b]?=τ.w.heap[b]?:=λk lb hk b hb=>by
    rw[yx] at hk;split at hk
    ·exact hf.ch k lb hk b hb
    cases hk
   have hcl:Cl w0 τ.q τ.S (yL F τ.L) τ.w w:=⟨hch,hf.on,hf.be⟩;exact wpIn_at (hnd i oi · hi) (hv w hcl) λw' hb=>⟨τ,.refl τ,ht.put _ _,Cl.below ht.m.ch hf hb,H'⟩
  rw[if_neg (by rw[hw];simp)];exact H'
 intro fuel
 induction fuel with
 |zero=>
  intro Φ τ listed a hcl ht _ hr hy H;refine⟨λh=>(by rw[h] at hr;cases hr),λj hj=>?_⟩;by_cases hji:j=i
  ·subst hji;exact now ht hy H
  have:=ready_mono hj hji;rw[H.1] at this;cases this
 |succ fuel ih=>
  intro Φ τ listed a hcl ht hfree hr hy H;refine⟨λh=>(by rw[h] at hr;cases hr),λj hj=>?_⟩;by_cases hji:j=i
  ·subst hji;exact now ht hy H
  have h1:=H.2 j (ready_mono hj hji);obtain⟨hjun,oj,hoj,hall⟩:=mem_ready.1 hj;have hiun:=(mem_ready.1 hr).1
  have hiF:listed.getD i false=false:=by
   rcases Nat.lt_or_ge i listed.size with h'|h'
   ·simp[h'] at hiun ⊢;exact hiun
   simp[Array.getElem?_eq_none h'] at hiun
  have hnot:∀e∈oj.after,Region.binds .any e=true→e.on≠i:=λe he hb heq=>by
   have h1:=hall e he hb;rw[heq,hiF] at h1;cases h1
  have hnd':¬Dp ops i j:=λh=>by have:=h listed hcl hj;rw[hiF] at this;cases this
  obtain⟨a1,a2,a3⟩:=Oper.apart_spec (hfree j oj hoj hji hjun hnot)
  have hfree':∀k ok,ops[k]?=some ok→k≠i→(listed.setIfInBounds j true).getD k true=false →
    (∀e∈ok.after,Region.binds .any e=true→e.on≠i)→oi.apart ops ok=true:=λk ok hk hki hun hno=>by
   refine hfree k ok hk hki ?_ hno;by_cases hjk:j=k
   ·subst hjk;exact hjun
   rw[getD_set_ne true hjk] at hun;exact hun
  have keepY:∀u,YD P ops w0 F oi v τ (a.put oj.dst u):=λu=>by
   refine⟨hy.1,?_⟩;rw[execOp_put oi (hsel i oi · · hi) a oj.dst u a3,wanted_put oi a oj.dst u a3];exact hy.2
  have goal:∀τ' a',TauOk w0 N n0 Sb B τ' a'→YD P ops w0 F oi v τ' a'→wpD P ops w0 r n N n0 Sb B Q Kf fuel ((i,F)::Φ) τ' ((listed.setIfInBounds i true).setIfInBounds j true) (a'.put oi.dst v) →
    wpD P ops w0 r n N n0 Sb B Q Kf (fuel+1) Φ τ' (listed.setIfInBounds j true) a':=λτ' a' t1 t2 t3=>by
   refine ih Φ τ' _ a' (x4 hcl hj) t1 hfree' (ready_mono hr (Ne.symm hji)) t2 ?_;rw[Array.setIfInBounds_comm _ _ hji];exact t3
  unfold stepD at h1 ⊢;simp only[hoj] at h1 ⊢;rw[wanted_put oj a oi.dst v a1] at h1;split
  ·rename_i hw;rw[if_pos hw] at h1;intro w hf;refine Oper.wpIn_mono ?_ (wpIn_shift (hnd j oj · hoj) (execOp_put oj (hsel j oj · · hoj) a oi.dst v a1) a2 hQp (h1 w hf));rintro a' w' ⟨⟨u,df,rfl⟩,τ',l1,l2,l3,l4⟩;have e1:∀x,(({ a with defers:=df }:Act).put oj.dst u).eval x=(a.put oj.dst u).eval x:=λx=>by cases oj.dst<;>rfl
   have e2:(({ a with defers:=df }:Act).put oj.dst u).tmps=(a.put oj.dst u).tmps:=by cases oj.dst<;>rfl
   have hok:TauOk w0 N n0 Sb B τ' (({ a with defers:=df }:Act).put oj.dst u):=⟨l2.m,by have:=l2.d;cases hd:oi.dst<;>rw[hd] at this<;>exact this,by have:=l2.n;cases hd:oi.dst<;>rw[hd] at this<;>simpa[Act.put] using this,l2.ag,l2.le,l2.b⟩;refine⟨τ',⟨l1.S,l1.q,l1.nk,λc F hc=>l1.keep c F (List.mem_cons_of_mem _ hc)⟩,hok,l3,goal τ' _ hok ?_ l4⟩;have hy':=(keepY u).later (List.mem_cons_self) l1 hnd';refine⟨hy'.1,?_⟩;rw[show(({ a with defers:=df }:Act).put oj.dst u).eval=(a.put oj.dst u).eval from funext e1,e2];exact hy'.2
  rename_i hw;rw[if_neg hw] at h1;refine goal τ _ (ht.put _ _) (keepY _) ?_;rw[←Act.put_comm a v undef a2];exact h1
theorem xG(hQ:∀τ a w,Fits w0 τ w→TauOk w0 N n0 Sb B τ a→Kf τ a→Q .normal a w):∀(fuel:Nat) (Φ:List (Nat×List Nat)) (τ:Tau) (listed:Array Bool) (a:Act) (w:World),Fits w0 τ w→TauOk w0 N n0 Sb B τ a →
  wpD P ops w0 r n N n0 Sb B Q Kf fuel Φ τ listed a→wpAnyIn (FF r) n P .any ops Q fuel listed a w
 |0,Φ,τ,listed,a,w,hf,ht,h=>⟨h.1,hQ τ a w hf ht h.2⟩
 |fuel+1,Φ,τ,listed,a,w,hf,ht,h=>by
  refine⟨λh0=>hQ τ a w hf ht (h.1 h0),λi hi=>?_⟩;have h1:=h.2 i hi;unfold stepD at h1;unfold wpOpIn;split
  ·rename_i ho;simp only[ho] at h1;exact xG hQ fuel Φ τ _ a w hf ht h1
  rename_i o ho;simp only[ho] at h1;split
  ·rename_i hw;rw[if_pos hw] at h1;exact Oper.wpIn_mono (λa' w' ⟨τ',_,h2,h3,h4⟩=>xG hQ fuel Φ τ' _ a' w' h3 h2 h4) (h1 w hf)
  rename_i hw;rw[if_neg hw] at h1;exact⟨λ_ _=>trivial,xG hQ fuel Φ τ _ _ w hf (ht.put _ _) h1⟩
theorem memN_iff{k:Nat}:∀{l:List Nat},memN k l=true↔k∈l
 |[]=>by simp[memN]
 |x::r=>by
  have e:memN k (x::r)=match Nat.beq x k with|true=>true|false=>memN k r:=rfl
  rw[e]
  cases hx:Nat.beq x k with
  |true=>have:=Nat.eq_of_beq_eq_true hx;subst this;simp
  |false=>
   have:x≠k:=λe=>by subst e;simp at hx
   simp only[memN_iff (l:=r)];simp[Ne.symm this]
theorem xe{k:Nat}:∀{a b:List Nat},k∈catN a b↔k∈a∨k∈b
 |[],b=>by simp[catN]
 |x::r,b=>by
  have e:catN (x::r) b=x::catN r b:=rfl;rw[e,List.mem_cons,xe,List.mem_cons,or_assoc]
theorem mem_protK{ds:List Nat}{c k:Nat}{F:List Nat}:∀{Φ:List (Nat×List Nat)},(c,F)∈Φ→c ∉ ds→k∈F→k∈protK Φ ds
 |[],h,_,_=>by cases h
 |(c',F')::r,h,hc,hk=>by
  have e:protK ((c',F')::r) ds=match memN c' ds with|true=>protK r ds|false=>catN F' (protK r ds):=rfl
  rw[e];rcases List.mem_cons.1 h with h|h
  ·cases h
   have:memN c ds=false:=by
    cases hm:memN c ds with
    |false=>rfl
    |true=>exact absurd (memN_iff.1 hm) hc
   rw[this];exact xe.2 (.inl hk)
  have:=mem_protK h hc hk
  cases memN c' ds with
  |true=>exact this
  |false=>exact xe.2 (.inr this)
theorem getL_lessL{k:Nat}{ks:List Nat}:∀{L:LL},getL (lessL ks L) k=if k∈ks then none else getL L k
 |[]=>by simp[lessL,getL_n]
 |(u,x)::r=>by
  have ih:=getL_lessL (k:=k) (ks:=ks) (L:=r);have e:lessL ks ((u,x)::r)=match memN u ks with|true=>lessL ks r|false=>(u,x)::lessL ks r:=rfl
  rw[e,ze]
  cases hm:memN u ks with
  |true=>
   have hu:=memN_iff.1 hm;simp only[ih];by_cases e:u=k
   ·subst e;rw[if_pos hu,if_pos hu]
   rw[if_neg e]
  |false=>
   have hu:u ∉ ks:=λh=>by rw[memN_iff.2 h] at hm;cases hm
   simp only[ze,ih];by_cases e:u=k
   ·subst e;rw[if_pos rfl,if_neg hu,if_pos rfl]
   rw[if_neg e,if_neg e]
theorem depsB_ok{i:Nat}:∀{ds acc:List Nat},depsB ops acc ds=true→(∀d∈acc,d=i∨Dp ops d i)→∀c∈ds,Dp ops c i
 |[],_,_,_,c,hc=>by cases hc
 |x::r,acc,h,ha,c,hc=>by
  simp only[depsB,Bool.and_eq_true,List.any_eq_true] at h;obtain⟨⟨d,hd,h1⟩,h2⟩:=h
  have hx:Dp ops x i:=λlisted hcl hi=>by
   cases ho:ops[d]? with
   |none=>rw[ho] at h1;simp at h1
   |some o=>
    rw[ho] at h1;simp only[List.any_eq_true,Bool.and_eq_true,beq_iff_eq] at h1;obtain⟨e,he,hb,hon⟩:=h1;rcases ha d hd with rfl|hdp
    ·obtain⟨_,o',ho',hall⟩:=mem_ready.1 hi;rw[ho] at ho';cases ho';have:=hall e vz hb
     rwa [hon] at this
    have:=hcl d o (hdp listed hcl hi) ho e vz hb
    rwa [hon] at this
  rcases List.mem_cons.1 hc with rfl|hc
  ·exact hx
  exact depsB_ok h2 (fun d hd=>by
   rcases List.mem_cons.1 hd with rfl|hd
   ·exact .inr hx
   exact ha d hd) c hc
theorem guardK_ok{o:Oper}{S:Pl}{fr:Fr}{a:Act}{run skip:Fr→Prop}(hf:okF S fr a.tmps)(h:guardK ops.toList o.guard fr run skip):
  (∃fr',okF S fr' a.tmps∧run fr'∧Region.wanted o (yielded ops a.tmps)=true)∨(∃fr',okF S fr' a.tmps∧skip fr'∧Region.wanted o (yielded ops a.tmps)=false):=by
 have ea:ops.toList.toArray=ops:=by simp
 unfold guardK at h;unfold Region.wanted;split at h
 ·rename_i hg;rw[hg];exact .inl ⟨fr,hf,h,rfl⟩
 rename_i j want hg;rw[hg];split at h
 ·exact h.elim
 rename_i t ht;have htv:=hf t;have yb:∀b,a.tmps.getD t undef=.bool b→yielded ops a.tmps j=some b:=λb hb=>by have:=xU (all:=ops.toList) ht hb;rwa [ea] at this
 split at h
 ·rename_i b e;rw[e] at htv;have y:=yb b htv;dsimp only;rw[y];cases b<;>cases want<;>simp only at h
  ·exact .inl ⟨fr,hf,h,rfl⟩
  ·exact .inr ⟨fr,hf,h,rfl⟩
  ·exact .inr ⟨fr,hf,h,rfl⟩
  exact .inl ⟨fr,hf,h,rfl⟩
 ·rename_i p d e;rw[e] at htv;by_cases hp:p
  ·have hv:a.tmps.getD t undef=.bool true:=by rw[htv];simp[hp]
   have y:=yb true hv;have hf':=okF_setF (x:=.bb true) hf hv;dsimp only;rw[y];cases want<;>simp only at h
   ·exact .inr ⟨_,hf',h.1 hp,rfl⟩
   exact .inl ⟨_,hf',h.1 hp,rfl⟩
  have hv:a.tmps.getD t undef=.bool false:=by rw[htv];simp[hp]
  have y:=yb false hv;have hf':=okF_setF (x:=.bb false) hf hv;dsimp only;rw[y];cases want<;>simp only at h
  ·exact .inl ⟨_,hf',h.2 hp,rfl⟩
  exact .inr ⟨_,hf',h.2 hp,rfl⟩
 ·rename_i x e;rw[e] at htv;have htv:a.tmps.getD t undef=.tuple x:=htv;have y:=yielded_none (all:=ops.toList) ht (λb=>by rw[htv];simp);rw[ea] at y;dsimp only;rw[y];exact .inr ⟨fr,hf,h,rfl⟩
 exact h.elim
mutual
theorem keysV_has : ∀ (x : SV) {k : Nat}, k ∈ xD x → x.has k = true
  | .v _, k, h => by simp [xD] at h
  | .bb _, k, h => by simp [xD] at h
  | .b _ _, k, h => by simp [xD] at h
  | .bad, k, h => by simp [xD] at h
  | .el _ _, k, h => by simp [xD] at h
  | .lp j o, k, h => by have : k = j := by simpa [xD] using h
                        subst this; simp [SV.has]
  | .own j, k, h => by have : k = j := by simpa [xD] using h
                       subst this; simp [SV.has]
  | .yl j, k, h => by have : k = j := by simpa [xD] using h
                      subst this; simp [SV.has]
  | .ls j n, k, h => by have : k = j := by simpa [xD] using h
                        subst this; simp [SV.has]
  | .mr j, k, h => by have : k = j := by simpa [xD] using h
                      subst this; simp [SV.has]
  | .lq j, k, h => by have : k = j := by simpa [xD] using h
                      subst this; simp [SV.has]
  | .vw j _ _ _ _, k, h => by
    have : k = j := by simpa [xD] using h
    subst this
    simp [SV.has]
  | .agg l, k, h => by
    have := keysL_has l (k := k) h
    simpa [SV.has] using this
  | .tup l, k, h => by
    have := keysL_has l (k := k) h
    simpa [SV.has] using this
  | .fn f l, k, h => by
    have := keysL_has l (k := k) h
    simpa [SV.has] using this
theorem keysL_has:∀(l:List SV) {k:Nat},k∈xD (.agg l)→hasL k l=true
 |[],k,h=>by simp[xD] at h
 |x::r,k,h=>by
  have e:xD (.agg (x::r))=catN (xD x) (xD (.agg r)):=rfl;rw[e] at h;unfold hasL;rcases xe.1 h with h|h
  ·rw[keysV_has x h]
  split
  ·rfl
  exact keysL_has r h
end
theorem keysFr_has:∀{fr:Fr}{k:Nat},k∈xM fr→hasF k fr=true
 |[],k,h=>by simp[xM] at h
 |(u,x)::r,k,h=>by
  have e:xM ((u,x)::r)=catN (xD x) (xM r):=rfl;rw[e] at h;rw[hasF_c];rcases xe.1 h with h|h
  ·rw[keysV_has x h]
  split
  ·rfl
  exact keysFr_has h
theorem foot_in{op:Op}{fr:Fr}{k:Nat}(h:k∈footOf op fr):k∈xM fr:=by
 unfold footOf at h;split at h<;>first|exact h|cases h
theorem keysC_has:∀{cs:List SV}{k:Nat},k∈keysC cs→hasL k cs=true
 |[],k,h=>by simp[keysC] at h
 |x::r,k,h=>by
  have e:keysC (x::r)=catN (xD x) (keysC r):=rfl;rw[e] at h;unfold hasL;rcases xe.1 h with h|h
  ·rw[keysV_has x h]
  split
  ·rfl
  exact keysC_has h
theorem keysLs_has{L:LL}{k:Nat}:∀{F:List Nat},k∈keysLs F L→hasLL k L=true
 |[],h=>by simp[keysLs] at h
 |j::F,h=>by
  have e:keysLs (j::F) L=match getL L j with|some x=>catN (keysB x) (keysLs F L)|none=>keysLs F L:=rfl
  rw[e] at h
  cases hl:getL L j with
  |none=>rw[hl] at h;exact keysLs_has h
  |some x=>
   rw[hl] at h;rcases xe.1 h with h|h
   ·cases x with
    |cells T cs=>exact zm hl (.inr (keysC_has (cs:=cs) h))
    |row E sz n cs=>exact zm hl (.inr (keysC_has (cs:=cs) h))
    |_=>simp[keysB] at h
   exact keysLs_has h
theorem footD_in{op:Op}{fr:Fr}{L:LL}{k:Nat}(h:k∈footD op fr L):k∈xM fr∨hasLL k L=true:=by
 unfold footD at h;split at h
 ·rcases xe.1 h with h|h
  ·exact .inl h
  rcases xe.1 h with h|h
  ·exact .inr (keysLs_has h)
  exact .inr (keysLs_has h)
 exact .inl (foot_in h)
variable {E:Env}{inl:Inl}{Y:Ye}{wr:Bool}{K:Kt}
theorem eff_stepD (hT : zG P E.T) (hΓ : GOk P E) (hI : yE P inl) (hY : YOk P Sb Y n0) {Φ : List (Nat × List Nat)} {ds : List Nat} {i : Nat} {o : Oper} {τ : Tau} {fr : Fr} {a : Act} {w : World} {Kx : Kt}
    (hds : ∀ c ∈ ds, Dp ops c i) (ht : TauOk w0 N n0 Sb B τ a) (hf : okF τ.S fr a.tmps) (hltL : ltLL τ.nk τ.L = true) (hw : Fits w0 τ w)
    (h : effK E inl Y wr τ.nk N τ.nk o.dst o.op (τ.nk + 1) τ.q fr (lessL (protK Φ ds) τ.L) fun nk2 q2 fr2 L2 => match Nat.ble τ.nk nk2 with
            | true => Ob (τ.q.le q2) ∧ Kx nk2 q2 fr2 (appL (yL (protK Φ ds) τ.L) L2)
            | false => False) :
    o.wpIn (FF r) n P a w (fun a' w' => ∃ τ', Later ops Φ i τ τ' ∧ TauOk w0 N n0 Sb B τ' a' ∧ Fits w0 τ' w' ∧ ∃ fr', okF τ'.S fr' a'.tmps ∧ Kx τ'.nk τ'.q fr' τ'.L) Q := by
  have hm := ht.m.of_cl hw
  let Pk := protK Φ ds
  have hlt0 : ∀ b, (w0.F b ∨ ∃ k lb, getL (yL Pk τ.L) k = some lb ∧ blk τ.S k lb = some b) → b < w.heap.size := fun b hb => by
    rcases hb with hb | ⟨k, lb, hk, hb⟩
    · exact Nat.lt_of_lt_of_le (w0.lt b hb) hm.be.size
    · rw [yx] at hk
      split at hk
      · exact (blk_lt (hm.ch k lb hk) hb).2
      · cases hk
  let w1 : W0 := ⟨w, fun b => w0.F b ∨ ∃ k lb, getL (yL Pk τ.L) k = some lb ∧ blk τ.S k lb = some b, hlt0, fun b => w0.F0 b ∨ ∃ k lb, getL (yL Pk τ.L) k = some lb ∧ blk τ.S k lb = some b, fun b hb => Or.imp (w0.sub b) id hb, τ.q⟩
  have foot : ∀ {k lb}, getL (yL Pk τ.L) k = some lb → k ∈ Pk ∧ getL τ.L k = some lb := fun {k lb} hk => by
    rw [yx] at hk
    split at hk
    · exact ⟨by assumption, hk⟩
    · cases hk
  have less : ∀ {k lb}, getL (lessL Pk τ.L) k = some lb → k ∉ Pk ∧ getL τ.L k = some lb := fun {k lb} hk => by
    rw [getL_lessL] at hk
    split at hk
    · cases hk
    · exact ⟨by assumption, hk⟩
  have hm1 : Mem w1 τ.q τ.S (lessL Pk τ.L) w := by
    have hl := hm.less (L' := lessL Pk τ.L) fun k x hk => (less hk).2
    refine ⟨hl.ch, hl.ap, hl.po, fun k lb hk b hb hF => ?_, hl.on, .refl w1, fun _ _ _ hv _ => hv⟩
    rcases hF with hF | ⟨k', lb', hk', hb'⟩
    · exact hl.fz k lb hk b hb hF
    · obtain ⟨p1, p2⟩ := foot hk'
      obtain ⟨l1, l2⟩ := less hk
      exact hm.ap k lb k' lb' l2 p2 (fun e => l1 (e ▸ p1)) b hb hb'
  have hd1 : MarksOk w1 a.defers := by
    obtain ⟨Hs, e, hn, hH⟩ := ht.d
    refine ⟨Hs, e, hn, fun b hb => ?_⟩
    obtain ⟨k1, k2, k3⟩ := hH b hb
    refine ⟨.inl k1, fun hF0 => ?_, (hm.be.block b k1).trans k3⟩
    rcases hF0 with hF0 | ⟨k, lb, hk, hb⟩
    · exact k2 hF0
    · exact hm.fz k lb (foot hk).2 b hb k1
  have hc : Cfg w1 τ.S (fun d => getL (lessL Pk τ.L) d = some .dfr) τ.nk N τ.S τ.q fr (lessL Pk τ.L) a w := ⟨fun _ _ => rfl, fun _ _ h => h, hm1, hf, ht.n, hd1⟩
  have hY1 : YOk P τ.S Y τ.nk := (hY.congr fun k hk => ht.ag k hk).more ht.le
  refine Oper.wpIn_mono ?_ (effK_ok (r := r) (n := n) (Q := Q) hT hΓ hI hY1 hc h)
  rintro a' w' ⟨S', q', fr', L', nk', hc', hK⟩
  split at hK
  rotate_left
  · exact hK.elim
  rename_i hle
  have hle := Nat.le_of_ble_eq_true hle
  obtain ⟨⟨hq⟩, hK⟩ := hK
  have hag : ∀ k, k < τ.nk → S' k = τ.S k := hc'.ag
  have hlt : ∀ k, hasLL k τ.L = true → k < τ.nk := fun k hk => zT hltL hk
  have hkt : ∀ {k lb}, getL τ.L k = some lb → k < τ.nk := fun hk => hlt _ (zm hk (.inl rfl))
  have hbl : ∀ {k lb}, getL τ.L k = some lb → blk S' k lb = blk τ.S k lb := fun hk => zX (hag _ (hkt hk))
  have hheap : ∀ {k lb b}, getL (yL Pk τ.L) k = some lb → blk τ.S k lb = some b → w'.heap[b]? = w.heap[b]? := fun hk hb => hc'.m.be.block _ (.inr ⟨_, _, hk, hb⟩)
  have ga : ∀ {k lb}, getL (appL (yL Pk τ.L) L') k = some lb → getL (yL Pk τ.L) k = some lb ∨ (getL (yL Pk τ.L) k = none ∧ getL L' k = some lb) := fun {k lb} hk => by
    rw [yq] at hk
    split at hk
    · rename_i x hx; exact .inl (hx.trans hk)
    · rename_i hx; exact .inr ⟨hx, hk⟩
  have chP : ∀ {k lb}, getL (yL Pk τ.L) k = some lb → zD 0 S' k lb w' := fun {k lb} hk => by
    have h1 := hm.ch k lb (foot hk).2
    have h2 : zD 0 τ.S k lb w' := zI h1 fun b hb => hheap hk hb
    exact yt (hag k (hkt (foot hk).2)) (fun j hj => hag j (hlt j (zm (foot hk).2 (.inr hj)))) h2
  have fz' : ∀ {k lb}, getL L' k = some lb → ∀ b, blk S' k lb = some b → ¬ w1.F b := fun hk b hb => hc'.m.fz _ _ hk b hb
  have hbel : Bel w0 w' := ⟨hc'.m.be.os.trans hm.be.os, hc'.m.be.tape.trans hm.be.tape, hc'.m.be.output.trans hm.be.output, Nat.le_trans hm.be.size hc'.m.be.size, fun b hF => (hc'.m.be.block b (.inl hF)).trans (hm.be.block b hF)⟩
  have hmem : Mem w0 q' S' (appL (yL Pk τ.L) L') w' := by
    refine ⟨fun k lb hk => ?_, fun k lb k' lb' hk hk' hne b hb hb' => ?_, fun k lb hk b hb o => ?_, fun k lb hk b hb hF => ?_, hc'.m.on, hbel, fun b o v hv hF => hm.gw b o v (hc'.m.gw b o v hv (.inl hF)) hF⟩
    · rcases ga hk with h1 | ⟨_, h1⟩
      · exact chP h1
      · exact hc'.m.ch k lb h1
    · rcases ga hk with h1 | ⟨_, h1⟩ <;> rcases ga hk' with h2 | ⟨_, h2⟩
      · rw [hbl (foot h1).2] at hb
        rw [hbl (foot h2).2] at hb'
        exact hm.ap k lb k' lb' (foot h1).2 (foot h2).2 hne b hb hb'
      · rw [hbl (foot h1).2] at hb
        exact fz' h2 b hb' (.inr ⟨k, lb, h1, hb⟩)
      · rw [hbl (foot h2).2] at hb'
        exact fz' h1 b hb (.inr ⟨k', lb', h2, hb'⟩)
      · exact hc'.m.ap k lb k' lb' h1 h2 hne b hb hb'
    · rcases ga hk with h1 | ⟨_, h1⟩
      · rw [hbl (foot h1).2] at hb
        cases hq' : q' b o with
      | none => rfl
      | some v =>
        have : τ.q b o = some v := hc'.m.gw b o v hq' (.inr ⟨k, lb, h1, hb⟩)
        rw [hm.po k lb (foot h1).2 b hb o] at this
        cases this
      · exact hc'.m.po k lb h1 b hb o
    · rcases ga hk with h1 | ⟨_, h1⟩
      · rw [hbl (foot h1).2] at hb
        exact hm.fz k lb (foot h1).2 b hb hF
      · exact fz' h1 b hb (.inl hF)
  refine ⟨⟨S', q', appL (yL Pk τ.L) L', nk', w'⟩, ⟨hag, hq, hle, fun c F hc hnd k hk lb hlb => ?_⟩, ⟨hmem, ?_, hc'.n, fun k hk => (hag k (Nat.lt_of_lt_of_le hk ht.le)).trans (ht.ag k hk), Nat.le_trans ht.le hle, fun d hd hB => ?_⟩, hmem.cl, fr', hc'.f, hK⟩
  · have hkp : k ∈ Pk := mem_protK hc (fun hcd => hnd (hds c hcd)) hk
    have e : getL (yL Pk τ.L) k = getL τ.L k := by rw [yx, if_pos hkp]
    refine ⟨?_, fun b hb => ?_⟩
    · show getL (appL (yL Pk τ.L) L') k = _
      rw [yq, e, hlb]
    · rw [hheap (e.trans hlb) hb]
      exact hw.ch k lb hlb b hb
  · obtain ⟨Hs, e, hn, hH⟩ := hc'.d
    refine ⟨Hs, e, hn, fun b hb => ?_⟩
    obtain ⟨k1, k2, k3⟩ := hH b hb
    have k1' : w0.F b := by
      rcases k1 with k1 | k1
      · exact k1
      · exact absurd (.inr k1) k2
    exact ⟨k1', fun hF0 => k2 (.inl hF0), (hm.be.block b k1').symm.trans k3⟩
  · show getL (appL (yL Pk τ.L) L') d = _
    have hdL := ht.b d hd hB
    rw [yq]
    split
    · rename_i x hx; rw [(foot hx).2] at hdL; exact hdL
    · rename_i hx
      refine hc'.b d (Nat.lt_of_lt_of_le hd ht.le) ?_
      rw [getL_lessL]
      split
      · rename_i hp; rw [yx, if_pos hp, hdL] at hx; cases hx
      · exact hdL
theorem vcP_eff{q:PH}{ltf:Nat→Fr→Bool}{ltl:Nat→LL→Bool}{cf:CalmF}{ef:EffF}{all:List Oper}{i:Nat}{ds:List Nat}{nx alt:Pn}{Φ:List (Nat×List Nat)}{nk:Nat}{fr:Fr}{L:LL}{K:Kt}:vcP ltf ltl cf ef N all (.eff i ds nx alt) Φ nk q fr L K =
  ((match nth all i with
   |none=>False
   |some ⟨dst,op,_,_,_,guard⟩=>guardK all guard fr
    (fun fr=>match ltf nk fr,ltl nk L with
     |true,true=>fN (nk+1) λnk1=>ef nk nk dst op nk1 q fr (lessL (protK Φ ds) L) λnk2 q2 fr2 L2=>match Nat.ble nk nk2 with
      |true=>Ob (q.le q2)∧vcP ltf ltl cf ef N all nx Φ nk2 q2 fr2 (appL (yL (protK Φ ds) L) L2) K
      |false=>False
     | _,_=>False)
    (fun fr=>putK N dst (.v undef) fr fun fr=>vcP ltf ltl cf ef N all nx Φ nk q fr L K))∧vcP ltf ltl cf ef N all alt Φ nk q fr L K):=rfl
theorem vcP_wpD(hT:zG P E.T)(hΓ:GOk P E)(hI:yE P inl)(hY:YOk P Sb Y n0)(hnd:∀(j:Nat) (o:Oper) c,ops[j]?=some o→o.op≠.defer c)(hs:Region.noSelect ops=true)(hQp:∀ch a a' w,Q (.panic ch) a w→Q (.panic ch) a' w):
  ∀(p:Pn) {fuel:Nat}{top:Bool}{Φ:List (Nat×List Nat)}{τ:Tau}{fr:Fr}{listed:Array Bool}{a:Act},planB ops top p listed=true→p.depth≤fuel→ClosedL ops listed→TauOk w0 N n0 Sb B τ a→okF τ.S fr a.tmps →
   vcP ltF ltLL (λop fr L q K=>calmK E.T E.Γ E.Δ wr q op fr L K) (λn0 key dst op nk q fr L K=>effK E inl Y wr n0 N key dst op nk q fr L K) N ops.toList p Φ τ.nk τ.q fr τ.L K →
   (top=true→wpD P ops w0 r n N n0 Sb B Q (λτ a=>∃fr,okF τ.S fr a.tmps∧K τ.nk τ.q fr τ.L) fuel Φ τ listed a) ∧
   ∀i∈p.heads,∃f,fuel=f+1∧stepD P ops w0 r n N n0 Sb B Q Φ τ i (λτ' a'=>wpD P ops w0 r n N n0 Sb B Q (λτ a=>∃fr,okF τ.S fr a.tmps∧K τ.nk τ.q fr τ.L) f Φ τ' (listed.setIfInBounds i true) a') a
 |.done,fuel,top,Φ,τ,fr,listed,a,hp,_,_,_,hf,h=>by
  simp only[planB,Bool.and_eq_true,List.isEmpty_iff] at hp;refine⟨λ_=>?_,λi hi=>by cases hi⟩
  cases fuel with
  |zero=>exact⟨hp.2,fr,hf,h⟩
  |succ f=>exact⟨λ_=>⟨fr,hf,h⟩,λi hi=>by rw[hp.2] at hi;cases hi⟩
 |.no,fuel,top,Φ,τ,fr,listed,a,hp,_,_,_,_,_=>by
  simp only[planB] at hp;exact⟨λht=>(by rw[ht] at hp;cases hp),λi hi=>by cases hi⟩
 |.calm i nx,fuel,top,Φ,τ,fr,listed,a,hp,hdp,hcl,ht,hf,h=>by
  simp only[planB,Bool.and_eq_true,List.contains_iff_mem] at hp;obtain⟨⟨⟨_,hi⟩,hfree⟩,hp⟩:=hp;refine⟨λ_=>?_,λi hi=>by cases hi⟩
  cases fuel with
  |zero=>exact absurd hdp (by simp[Pn.depth])
  |succ f=>
  have hdp':nx.depth≤f:=by simpa[Pn.depth] using hdp
  replace h:(match nth ops.toList i with
   |none=>False
   |some ⟨dst,op,_,_,_,guard⟩=>guardK ops.toList guard fr
    (fun fr=>fFr (keepF (uses op) fr) fun fo=>match ltF τ.nk fo,ltLL τ.nk τ.L with
     |true,true=>calmK E.T E.Γ E.Δ wr τ.q op fo (yL (footD op fo τ.L) τ.L) λx=>putK N dst x fr λfr=>vcP ltF ltLL (λop fr L q K=>calmK E.T E.Γ E.Δ wr q op fr L K) (λn0 key dst op nk q fr L K=>effK E inl Y wr n0 N key dst op nk q fr L K) N ops.toList nx ((i,footD op fo τ.L)::Φ) τ.nk τ.q fr τ.L K
     | _,_=>False)
    (fun fr=>putK N dst (.v undef) fr fun fr=>vcP ltF ltLL (fun op fr L q K=>calmK E.T E.Γ E.Δ wr q op fr L K) (fun n0 key dst op nk q fr L K=>effK E inl Y wr n0 N key dst op nk q fr L K) N ops.toList nx ((i,[])::Φ) τ.nk τ.q fr τ.L K)):=h
  rw[xp,Array.getElem?_toList] at h;split at h
  ·exact h.elim
  rename_i dst op oty pos after guard hoi
  have put:∀{fr:Fr}{x:SV}{v:Value}{K':Fr→Prop},okF τ.S fr a.tmps→putK N dst x fr K'→okv τ.S x v→∃fr',K' fr'∧okF τ.S fr' (a.put dst v).tmps:=by
   intro fr x v K' hf hp hx;unfold putK at hp;split at hp
   ·exact⟨fr,hp,hf⟩
   rename_i d;split at hp
   ·rename_i hd';have hd':d<N:=Nat.le_of_ble_eq_true hd';exact⟨_,hp,okF_put hf hx (by rw[ht.n];exact hd')⟩
   exact hp.elim
  have fin:∀{F:List Nat}{v:Value},YD P ops w0 F ⟨dst,op,oty,pos,after,guard⟩ v τ a→(∃fr',vcP ltF ltLL (λop fr L q K=>calmK E.T E.Γ E.Δ wr q op fr L K) (λn0 key dst op nk q fr L K=>effK E inl Y wr n0 N key dst op nk q fr L K) N ops.toList nx ((i,F)::Φ) τ.nk τ.q fr' τ.L K∧okF τ.S fr' (a.put dst v).tmps) →
    wpD P ops w0 r n N n0 Sb B Q (λτ a=>∃fr,okF τ.S fr a.tmps∧K τ.nk τ.q fr τ.L) (f+1) Φ τ listed a:=by
   rintro F v hy ⟨fr',h',hf'⟩;refine wpD_first hnd hQp hoi (Region.noSelect_spec hs) f Φ τ listed a hcl ht (Region.free_spec hoi hfree) hi hy ?_;exact(vcP_wpD hT hΓ hI hY hnd hs hQp nx hp hdp' (x4 hcl hi) (ht.put _ _) hf' h').1 rfl
  rcases guardK_ok (o:=⟨dst,op,oty,pos,after,guard⟩) hf h with ⟨fr1,hf1,h1,hw⟩|⟨fr1,hf1,h1,hw⟩
  ·rw[fFr_eq] at h1;split at h1
   ·rename_i hlt hltL
    have hm':Mem w0 τ.q τ.S (yL (footD op (keepF (uses op) fr1) τ.L) τ.L) τ.w:=ht.m.less λk x hk=>by
     rw[yx] at hk;split at hk
     ·exact hk
     cases hk
    obtain⟨x,sv,hK,hx,hy⟩:=calm_ok (o:=⟨dst,op,oty,pos,after,guard⟩) (C:=Cl w0 τ.q τ.S (yL (footD op (keepF (uses op) fr1) τ.L) τ.L) τ.w) hT hΓ.1 hΓ.calm hm'.ch (λ_ h=>h) (okF_keepF hf1 _) h1;exact fin ⟨λk hk=>(footD_in hk).elim (λh=>ltF_has hlt (keysFr_has h)) (λh=>zT hltL h),.inl ⟨hw,hy⟩⟩ (put hf1 hK hx)
   exact h1.elim
  exact fin (F:=[]) ⟨λk hk=>vH,.inr ⟨hw,rfl⟩⟩ (put (v:=undef) hf1 h1 rfl)
 |.eff i ds nx alt,fuel,top,Φ,τ,fr,listed,a,hp,hdp,hcl,ht,hf,h=>by
  simp only[planB,Bool.and_eq_true,Bool.or_eq_true,Bool.not_eq_true',List.contains_iff_mem,List.all_eq_true] at hp;obtain⟨⟨⟨⟨htop,hi⟩,hds⟩,hp1⟩,hp2⟩:=hp;have hdp1:nx.depth+1≤fuel:=Nat.le_trans (Nat.le_max_left _ _) hdp;have hdp2:alt.depth≤fuel:=Nat.le_trans (Nat.le_max_right _ _) hdp;rw[vcP_eff] at h;obtain⟨h,halt⟩:=h
  cases fuel with
  |zero=>exact absurd hdp1 ws
  |succ f=>
  have hdp1':nx.depth≤f:=by omega
  have altH:=(vcP_wpD hT hΓ hI hY hnd hs hQp alt hp2 hdp2 hcl ht hf halt).2
  have me:stepD P ops w0 r n N n0 Sb B Q Φ τ i (λτ' a'=>wpD P ops w0 r n N n0 Sb B Q (λτ a=>∃fr,okF τ.S fr a.tmps∧K τ.nk τ.q fr τ.L) f Φ τ' (listed.setIfInBounds i true) a') a:=by
   rw[xp,Array.getElem?_toList] at h;split at h
   ·exact h.elim
   rename_i dst op oty pos after guard hoi;unfold stepD;simp only[hoi];rcases guardK_ok (o:=⟨dst,op,oty,pos,after,guard⟩) hf h with ⟨fr1,hf1,h1,hw⟩|⟨fr1,hf1,h1,hw⟩
   ·rw[if_pos hw];intro w hfit;split at h1
    ·rename_i _ hl2;rw[fN_eq] at h1
     refine Oper.wpIn_mono ?_ (eff_stepD (o:=⟨dst,op,oty,pos,after,guard⟩) (Φ:=Φ) (ds:=ds) (i:=i) (r:=r) (n:=n) (Q:=Q)
      (Kx:=λnk2 q2 fr2 L2=>vcP ltF ltLL (λop fr L q K=>calmK E.T E.Γ E.Δ wr q op fr L K) (λn0 key dst op nk q fr L K=>effK E inl Y wr n0 N key dst op nk q fr L K) N ops.toList nx Φ nk2 q2 fr2 L2 K)
      hT hΓ hI hY (depsB_ok hds fun d hd=>.inl (by simpa using hd)) ht hf1 hl2 hfit h1)
     rintro a' w' ⟨τ',l1,l2,l3,fr',hf',hK⟩;exact⟨τ',l1,l2,l3,(vcP_wpD hT hΓ hI hY hnd hs hQp nx hp1 hdp1' (x4 hcl hi) l2 hf' hK).1 rfl⟩
    exact h1.elim
   rw[if_neg (by rw[hw];simp)];unfold putK at h1
   have fin:∀fr',okF τ.S fr' (a.put dst undef).tmps→vcP ltF ltLL (λop fr L q K=>calmK E.T E.Γ E.Δ wr q op fr L K) (λn0 key dst op nk q fr L K=>effK E inl Y wr n0 N key dst op nk q fr L K) N ops.toList nx Φ τ.nk τ.q fr' τ.L K →
     wpD P ops w0 r n N n0 Sb B Q (λτ a=>∃fr,okF τ.S fr a.tmps∧K τ.nk τ.q fr τ.L) f Φ τ (listed.setIfInBounds i true) (a.put dst undef):=λfr' hf' h'=>
    (vcP_wpD hT hΓ hI hY hnd hs hQp nx hp1 hdp1' (x4 hcl hi) (ht.put _ _) hf' h').1 rfl
   split at h1
   ·exact fin _ hf1 h1
   rename_i d;split at h1
   ·rename_i hd';have hd':d<N:=Nat.le_of_ble_eq_true hd';exact fin _ (okF_put (x:=.v undef) (v:=undef) hf1 rfl (by rw[ht.n];exact hd')) h1
   exact h1.elim
  refine⟨λhtp=>⟨λh0=>(by rw[h0] at hi;cases hi),λj hj=>?_⟩,λj hj=>?_⟩
  ·rcases htop with h'|h'
   ·rw[htp] at h';cases h'
   rcases List.mem_cons.1 (h' j hj) with rfl|hj'
   ·exact me
   obtain⟨f',e,hst⟩:=altH j hj';cases e;exact hst
  rcases List.mem_cons.1 hj with rfl|hj'
  ·exact⟨f,rfl,me⟩
  exact altH j hj'
theorem plan_ok{q:PH}{p:Pn}{S:Pl}{fr:Fr}{L:LL}{a:Act}{w:World}{nk id:Nat}(hmix:P.follows .mixedOrders=true)(hT:zG P E.T)(hΓ:GOk P E)(hI:yE P inl)(hY:YOk P Sb Y n0)(hQp:∀ch a a' w,Q (.panic ch) a w→Q (.panic ch) a' w)
  (hQ:∀a w,St w0 Sb B n0 N K a w→Q .normal a w) (hc:Cfg w0 Sb B n0 N S q fr L a w) (hle:n0≤nk) (hp:planOk ops p=true)
  (h:vcP ltF ltLL (λop fr L q K=>calmK E.T E.Γ E.Δ wr q op fr L K) (λn0 key dst op nk q fr L K=>effK E inl Y wr n0 N key dst op nk q fr L K) N ops.toList p [] nk q fr L K):(Code.region id ops true).wpIn (FF r) n P Q a w:=by
 simp only[planOk,Bool.and_eq_true] at hp;obtain⟨⟨⟨hnd,hs⟩,hd⟩,hp⟩:=hp
 have hnd':∀(j:Nat) (o:Oper) c,ops[j]?=some o→o.op≠.defer c:=λj o c ho he=>by
  simp only[noDefer,List.all_eq_true] at hnd;have:=hnd o (by rw[←Array.getElem?_toList] at ho;exact List.mem_of_getElem? ho);rw[he] at this;cases this
 have hcl:ClosedL ops (Array.replicate ops.size false):=λj o hj=>by
  rw[Array.getD_eq_getD_getElem?,Array.getElem?_replicate] at hj;split at hj<;>cases hj
 have ht:TauOk w0 N n0 Sb B ⟨S,q,L,nk,w⟩ a:=⟨hc.m,hc.d,hc.n,hc.ag,hle,hc.b⟩;refine wpIn_region_any hmix (xG (Kf:=λτ a=>∃fr,okF τ.S fr a.tmps∧K τ.nk τ.q fr τ.L) (λτ a w hf ht ⟨fr,hfr,hK⟩=>hQ _ _ ⟨τ.S,τ.q,fr,τ.L,τ.nk,⟨ht.ag,ht.b,ht.m.of_cl hf,hfr,ht.n,ht.d⟩,hK⟩) ops.size [] ⟨S,q,L,nk,w⟩ _ a _ ?_ ht ?_)
 ·exact⟨λ_ _ _ _ _=>rfl,λb o v hv=>hc.m.on b o v hv,hc.m.be.drew⟩
 exact(vcP_wpD hT hΓ hI hY hnd' hs hQp p hp (Nat.le_of_ble_eq_true hd) hcl ht hc.f h).1 rfl
end
end
section
variable {P:Program}{S S' Sb:Pl}{fr:Fr}{L L':LL}{q q':PH}{w0:W0}{w w':World}{a:Act}{n0 N:Nat}{B:Nat→Prop}{E:Env}
variable {r:Option Nat}{n:Nat}
section
variable (E:Env) (inl:Inl) (f:Nat) (wr:Bool) (n0 N:Nat) (Y:Ye) (ro:Option Nat) (nk:Nat) (q:PH) (fr:Fr) (L:LL) (K:Ke)
theorem vcC_region(id:Nat)(ops:Array Oper)(draw:Bool):vcC E inl f wr n0 N (.region id ops draw) Y ro nk q fr L K=((match draw with
  |false=>fN (nk+ops.toList.length) λnk'=>vcOps E inl Y wr n0 N ops.toList ops.toList nk nk' q fr L (K .norm)
  | true=>Ob (Region.lexB .any ops=true)∧(match calmOnly E.T E.Γ E.Δ ops.toList with
   |true=>fN (nk+ops.toList.length) λnk'=>vcOps E inl Y wr n0 N ops.toList ops.toList nk nk' q fr L (K .norm)
   | false=>(match Nat.ble n0 nk with
    |true=>∃pl:Pn,Ob (planOk ops pl=true)∧vcP ltF ltLL (λop fr L q K=>calmK E.T E.Γ E.Δ wr q op fr L K) (λn0 key dst op nk q fr L K=>effK E inl Y wr n0 N key dst op nk q fr L K) N ops.toList pl [] nk q fr L (K .norm)
    | false=>False)))):=rfl
theorem vcC_seq(a b:Code):vcC E inl f wr n0 N (.seq a b) Y ro nk q fr L K=((match firstReg b with
  |none=>vcC E inl f wr n0 N a Y ro nk q fr L (thenE (λnk q fr L=>vcC E inl f wr n0 N b Y ro nk q fr L K) K)
  | some id=>(match E.cut f id with
   |false=>vcC E inl f wr n0 N a Y ro nk q fr L (thenE (λnk q fr L=>vcC E inl f wr n0 N b Y ro nk q fr L K) K)
   | true=>∃I:Cut,cutK I n0 q fr (fun K=>vcC E inl f wr n0 N a Y ro nk q fr L K) (fun nk q fr L=>vcC E inl f wr n0 N b Y ro nk q fr L K) K))):=rfl
theorem vcC_cond(c:Operand)(x y:Code):vcC E inl f wr n0 N (.cond c x y) Y ro nk q fr L K=((match opv fr c with
  |.bb true=>vcC E inl f wr n0 N x Y ro nk q fr L K
  |.bb false=>vcC E inl f wr n0 N y Y ro nk q fr L K
  |.b p _=>(p→vcC E inl f wr n0 N x Y ro nk q fr L K)∧(¬p→vcC E inl f wr n0 N y Y ro nk q fr L K)
  | _=>False)):=rfl
theorem vcC_block(id:Nat)(c:Code):vcC E inl f wr n0 N (.block id c) Y ro nk q fr L K=(vcC E inl f wr n0 N c Y ro nk q fr L (blkE id K)):=rfl
theorem vcC_loop(body:Code):vcC E inl f wr n0 N (.loop body) Y ro nk q fr L K=((match firstReg body with
  |none=>False
  | some id=>(match E.inv f id nk with
   |none=>∃I:Inv,loopK I n0 nk q fr L (λnk q fr L K=>vcC E inl f wr n0 N body Y ro nk q fr L K) K
   | some I=>loopK I n0 nk q fr L (fun nk q fr L K=>vcC E inl f wr n0 N body Y ro nk q fr L K) K))):=rfl
theorem vcC_rangeFunc(g:Operand)(ps:Array Nat)(assign body:Code):vcC E inl f wr n0 N (.rangeFunc g ps assign body) Y ro nk q fr L K=((match Nat.ble n0 nk,ltF nk fr,ltLL nk L with
  |true,true,true=>
   (match opv fr g with
   |.fn it cs=>
    (match ro with
    |none=>inl ((nk,roundK (λn0 nk' q fr L K=>vcC E inl f wr n0 N assign Y (some nk) nk' q fr L K) (λn0 nk' q fr L K=>vcC E inl f wr n0 N body Y (some nk) nk' q fr L K) N nk ps.toList fr)::Y)
      it (.yl nk::cs) (nk+2) q ((nk,.loop .ready none)::(nk+1,.dfr)::L) (doneK nk fr K)
    | some l0=>(match getL L l0 with
     |some (.loop _ _)=>inl ((nk,roundK (λn0 nk' q fr L K=>vcC E inl f wr n0 N assign Y (some nk) nk' q fr L K) (λn0 nk' q fr L K=>vcC E inl f wr n0 N body Y (some nk) nk' q fr L K) N nk ps.toList fr)::Y)
      it (.yl nk::cs) (nk+2) q ((nk,.loop .ready none)::L) (doneK nk fr K)
     | _=>False))
   | _=>False)
  | _,_,_=>False)):=rfl
theorem vcC_scope(c:Code):vcC E inl f wr n0 N (.scope c) Y ro nk q fr L K=(vcC E inl f wr n0 N c Y ro nk q fr L (scopeE K)):=rfl
theorem vcC_refuse(s:String):vcC E inl f wr n0 N (.refuse s) Y ro nk q fr L K=False:=rfl
end
theorem yO{b:Frame}{k:List Item}{cs:List Frame}{c:Code}:step P (lone (b.atR a (.code (.scope c)::k)) cs w)=.next (lone (b.atR a (.code c :: .inScope c::k)) cs w):=
 step_lone_go (by simp[stepG,stepG.exec,Frame.atR])
theorem stepR_inScope{b:Frame}{k:List Item}{cs:List Frame}{c:Code}:step P (lone (b.atR a (.inScope c::k)) cs w)=.next (lone (b.atR a k) cs w):=
 step_lone_go (by simp[stepG,stepG.exec,Frame.atR])
theorem wpIn_scope{F:Fence}{Q:Exit→Act→World→Prop}{c:Code}(h:c.wpIn F n P (Exit.noGoto Q) a w):(Code.scope c).wpIn F n P Q a w:=by
 intro b k cs hro hb hr;have h0:(lone (b.atR a (.code (.scope c)::k)) cs w).fenced P F:=fenced_calm hb hr rfl;obtain⟨e,a₁,w₁,hq,harr⟩:=h b (.inScope c::k) cs hro hb hr
 cases e with
 |normal=>exact⟨.normal,a₁,w₁,hq,.head h0 yO (StepsIn.trans harr (.one (fenced_calm hb hr rfl) stepR_inScope))⟩
 |exit id=>
  have hx:exitTo id (.inScope c::k)=exitTo id k:=by simp[exitTo]
  exact ⟨.exit id,a₁,w₁,hq,fun k' hk=>.head h0 yO (harr.1 k' (by rw [hx];exact hk)),
   fun hr' hk=>let ⟨k₁,h1,h2⟩:=harr.2 hr' (by rw [hx];exact hk);⟨k₁,h1,.head h0 yO h2⟩⟩
 |goto l=>exact hq.elim
 |ret=>exact⟨_,a₁,w₁,hq,.of_steps (.one h0 yO) harr⟩
 |panic ch=>exact⟨_,a₁,w₁,hq,.of_steps (.one h0 yO) harr⟩
 |outgrown=>exact⟨_,a₁,w₁,hq,.of_steps (.one h0 yO) harr⟩
def yp(P:Program)(E:Env)(inl:Inl)(f:Nat)(wr:Bool)(N:Nat)(c:Code):Prop:=∀(Y:Ye) (ro:Option Nat),CodeOk P N Y ro c (λn0 nk q fr L K=>vcC E inl f wr n0 N c Y ro nk q fr L K)
theorem cs_skip{inl:Inl}(hmix:P.follows .mixedOrders=true)(hT:zG P E.T)(hΓ:GOk P E)(hI:yE P inl){f:Nat}{wr:Bool}  : yp P E inl f wr N (.skip ):=λY ro=>
 λ{w0 n0 nk Sb S B q fr L K a w r n} hr hro hY hc h=>wpIn_skip ⟨.norm,rfl,w0,.refl _,S,q,fr,L,nk,hc,h⟩
theorem cs_label{inl:Inl}(hmix:P.follows .mixedOrders=true)(hT:zG P E.T)(hΓ:GOk P E)(hI:yE P inl){f:Nat}{wr:Bool}{l:Nat}:yp P E inl f wr N (.label l):=λY ro=>
 λ{w0 n0 nk Sb S B q fr L K a w r n} hr hro hY hc h=>wpIn_label ⟨.norm,rfl,w0,.refl _,S,q,fr,L,nk,hc,h⟩
theorem cs_exit{inl:Inl}(hmix:P.follows .mixedOrders=true)(hT:zG P E.T)(hΓ:GOk P E)(hI:yE P inl){f:Nat}{wr:Bool}{l:Nat}:yp P E inl f wr N (.exit l):=λY ro=>
 λ{w0 n0 nk Sb S B q fr L K a w r n} hr hro hY hc h=>wpIn_exit ⟨.exit l,rfl,w0,.refl _,S,q,fr,L,nk,hc,h⟩
theorem cs_goto{inl:Inl}(hmix:P.follows .mixedOrders=true)(hT:zG P E.T)(hΓ:GOk P E)(hI:yE P inl){f:Nat}{wr:Bool}{l:Nat}:yp P E inl f wr N (.goto l):=λY ro=>
 λ{w0 n0 nk Sb S B q fr L K a w r n} hr hro hY hc h=>wpIn_goto ⟨.goto l,rfl,w0,.refl _,S,q,fr,L,nk,hc,h⟩
theorem cs_ret{inl:Inl}(hmix:P.follows .mixedOrders=true)(hT:zG P E.T)(hΓ:GOk P E)(hI:yE P inl){f:Nat}{wr:Bool}  : yp P E inl f wr N (.ret ):=λY ro=>
 λ{w0 n0 nk Sb S B q fr L K a w r n} hr hro hY hc h=>wpIn_ret ⟨.ret,rfl,w0,.refl _,S,q,fr,L,nk,hc,h⟩
theorem cs_scope{inl:Inl}(hmix:P.follows .mixedOrders=true)(hT:zG P E.T)(hΓ:GOk P E)(hI:yE P inl){f:Nat}{wr:Bool}{c:Code}(hx:yp P E inl f wr N c):yp P E inl f wr N (.scope c):=λY ro=>
 λ{w0 n0 nk Sb S B q fr L K a w r n} hr hro hY hc h=>by
  replace h:=Eq.mp (vcC_scope _ _ _ _ _ _ _ _ _ _ _ _ _ _) h;try dsimp only at h
  refine wpIn_scope (Code.wpIn_mono ?_ (hx Y ro hr hro hY hc h));rintro e a' w' ⟨z,rfl,w1,hx1,hst⟩
  cases z with
  |norm=>exact⟨.norm,rfl,w1,hx1,hst⟩
  |ret=>exact⟨.ret,rfl,w1,hx1,hst⟩
  |exit m=>exact⟨.exit m,rfl,w1,hx1,hst⟩
  |goto m=>
   obtain⟨S',q',fr',L',nk',hc',hK⟩:=hst;exact hK.elim
theorem cs_refuse{inl:Inl}(hmix:P.follows .mixedOrders=true)(hT:zG P E.T)(hΓ:GOk P E)(hI:yE P inl){f:Nat}{wr:Bool}{s:String}:yp P E inl f wr N (.refuse s):=λY ro=>
 λ_ _ _ _ h=>by replace h:=Eq.mp (vcC_refuse _ _ _ _ _ _ _ _ _ _ _ _ _ _) h;exact h.elim
theorem cs_region{inl:Inl}(hmix:P.follows .mixedOrders=true)(hT:zG P E.T)(hΓ:GOk P E)(hI:yE P inl){f:Nat}{wr:Bool}{id:Nat}{ops:Array Oper}{draw:Bool}:yp P E inl f wr N (.region id ops draw):=λY ro=>
 λ{w0 n0 nk Sb S B q fr L K a w r n} hr hro hY hc h=>by
  have hQ:∀a w,St w0 Sb B n0 N (K .norm) a w→QE w0 Sb B n0 N K .normal a w:=λa w h=>⟨.norm,rfl,w0,.refl _,h⟩
  cases draw with
  |false=>
   replace h:=Eq.mp (vcC_region _ _ _ _ _ _ _ _ _ _ _ _ _ _ _ _) h;try dsimp only at h
   rw[fN_eq] at h;refine wpIn_region_list ?_;have:=vcOps_ok (r:=r) (n:=n) hT hΓ hI hY hQ ops.toList hc h;simpa using this
  |true=>
   replace h:=Eq.mp (vcC_region _ _ _ _ _ _ _ _ _ _ _ _ _ _ _ _) h;try dsimp only at h
   obtain⟨⟨hB⟩,h⟩:=h;split at h
   ·rename_i hcalm;rw[fN_eq] at h;exact draw_ok hmix hT hΓ hQ hc hB hcalm h
   split at h
   ·rename_i hle;obtain⟨pl,⟨hpl⟩,h⟩:=h;exact plan_ok hmix hT hΓ hI hY (λch a a' w hh=>by obtain⟨x,hx,_⟩:=hh;cases x<;>cases hx) hQ hc (Nat.le_of_ble_eq_true hle) hpl h
   exact h.elim
theorem cs_seq{inl:Inl}(hmix:P.follows .mixedOrders=true)(hT:zG P E.T)(hΓ:GOk P E)(hI:yE P inl){f:Nat}{wr:Bool}{x y:Code}(hx:yp P E inl f wr N x)(hy:yp P E inl f wr N y):yp P E inl f wr N (.seq x y):=λY ro=>
 λ{w0 n0 nk Sb S B q fr L K a w r n} hr hro hY hc h=>by
  replace h:=Eq.mp (vcC_seq _ _ _ _ _ _ _ _ _ _ _ _ _ _ _) h;try dsimp only at h
  have plain:(vcC E inl f wr n0 N x Y ro nk q fr L (thenE (λnk q fr L=>vcC E inl f wr n0 N y Y ro nk q fr L K) K))→(Code.seq x y).wpIn (FF r) n P (QE w0 Sb B n0 N K) a w:=λh=>by
   refine wpIn_seq (Code.wpIn_mono ?_ (hx Y ro hr hro hY hc h));rintro e a' w' ⟨z,rfl,w1,hx1,hst⟩
   cases z with
   |norm=>
    obtain⟨S',q',fr',L',nk',hc',hK⟩:=hst;exact Code.wpIn_mono (λ_ _ _ hq=>hq.ext hx1) (hy Y ro hr hro hY hc' hK)
   |ret=>exact⟨.ret,rfl,w1,hx1,hst⟩
   |exit m=>exact⟨.exit m,rfl,w1,hx1,hst⟩
   |goto m=>exact⟨.goto m,rfl,w1,hx1,hst⟩
  split at h
  ·exact plain h
  split at h
  ·exact plain h
  obtain⟨I,h⟩:=h;exact cut_ok (λhc h=>hx Y ro hr hro hY hc h) (λhc h=>hy Y ro hr hro hY hc h) hc h
theorem cs_cond{inl:Inl}(hmix:P.follows .mixedOrders=true)(hT:zG P E.T)(hΓ:GOk P E)(hI:yE P inl){f:Nat}{wr:Bool}{g:Operand}{x y:Code}(hx:yp P E inl f wr N x)(hy:yp P E inl f wr N y):yp P E inl f wr N (.cond g x y):=λY ro=>
 λ{w0 n0 nk Sb S B q fr L K a w r n} hr hro hY hc h=>by
  have hg:=zu hc.f g;replace h:=Eq.mp (vcC_cond _ _ _ _ _ _ _ _ _ _ _ _ _ _ _ _) h;try dsimp only at h
  split at h
  ·rename_i e;rw[e] at hg;exact wpIn_cond_true hg (hx Y ro hr hro hY hc h)
  ·rename_i e;rw[e] at hg;exact wpIn_cond_false hg (hy Y ro hr hro hY hc h)
  ·rename_i p d e;rw[e] at hg;by_cases hp:p
   ·exact wpIn_cond_true (by rw[hg];simp[hp]) (hx Y ro hr hro hY hc (h.1 hp))
   exact wpIn_cond_false (by rw[hg];simp[hp]) (hy Y ro hr hro hY hc (h.2 hp))
  exact h.elim
theorem cs_block{inl:Inl}(hmix:P.follows .mixedOrders=true)(hT:zG P E.T)(hΓ:GOk P E)(hI:yE P inl){f:Nat}{wr:Bool}{id:Nat}{x:Code}(hx:yp P E inl f wr N x):yp P E inl f wr N (.block id x):=λY ro=>
 λ{w0 n0 nk Sb S B q fr L K a w r n} hr hro hY hc h=>by
  replace h:=Eq.mp (vcC_block _ _ _ _ _ _ _ _ _ _ _ _ _ _ _) h;try dsimp only at h
  refine wpIn_block (Code.wpIn_mono ?_ (hx Y ro hr hro hY hc h));rintro e a' w' ⟨z,rfl,w1,hx1,hst⟩
  cases z with
  |norm=>exact⟨.norm,rfl,w1,hx1,hst⟩
  |ret=>exact⟨.ret,rfl,w1,hx1,hst⟩
  |goto m=>exact⟨.goto m,rfl,w1,hx1,hst⟩
  |exit m=>
   simp only[Exit.inBlock,toX];obtain⟨S',q',fr',L',nk',hc',hK⟩:=hst;have hb:blkE id K (.exit m)=(match Nat.beq m id with|true=>K .norm|false=>K (.exit m)):=rfl;rw[hb] at hK
   cases e:Nat.beq m id with
   |true=>
    rw[e] at hK;rw[if_pos (Nat.eq_of_beq_eq_true e)];exact⟨.norm,rfl,w1,hx1,S',q',fr',L',nk',hc',hK⟩
   |false=>
    rw[e] at hK;rw[if_neg (λe'=>by subst e';simp at e)];exact⟨.exit m,rfl,w1,hx1,S',q',fr',L',nk',hc',hK⟩
theorem cs_loop{inl:Inl}(hmix:P.follows .mixedOrders=true)(hT:zG P E.T)(hΓ:GOk P E)(hI:yE P inl){f:Nat}{wr:Bool}{x:Code}(hx:yp P E inl f wr N x):yp P E inl f wr N (.loop x):=λY ro=>
 λ{w0 n0 nk Sb S B q fr L K a w r n} hr hro hY hc h=>by
  replace h:=Eq.mp (vcC_loop _ _ _ _ _ _ _ _ _ _ _ _ _ _) h;try dsimp only at h
  split at h
  ·exact h.elim
  split at h
  ·obtain⟨I,h⟩:=h;exact loop_ok (λhc h=>hx Y ro hr hro hY hc h) hc h
  exact loop_ok (λhc h=>hx Y ro hr hro hY hc h) hc h
theorem cs_rangeFunc{inl:Inl}(hmix:P.follows .mixedOrders=true)(hT:zG P E.T)(hΓ:GOk P E)(hI:yE P inl){f:Nat}{wr:Bool}{g:Operand}{ps:Array Nat}{assign body:Code}(hassign:yp P E inl f wr N assign)(hbody:yp P E inl f wr N body):yp P E inl f wr N (.rangeFunc g ps assign body):=λY ro=>
 λ{w0 n0 nk Sb S B q fr L K a w r n} hr hro hY hc h=>by
  replace h:=Eq.mp (vcC_rangeFunc _ _ _ _ _ _ _ _ _ _ _ _ _ _ _ _ _) h;try dsimp only at h
  split at h;rotate_left
  ·exact h.elim
  rename_i h0 hlt hltL;have h0:=Nat.le_of_ble_eq_true h0;split at h;rotate_left
  ·exact h.elim
  rename_i it cs hg;have hA:=@hassign Y (some nk);have hB:=@hbody Y (some nk);split at h
  ·have hr:r=none:=hr;subst hr;refine range_ok hI hA hB hg hc h0 hlt hY hltL (λfn=>?_) h;have hm1:=hc.m.newDfr (k:=nk+1) (w8 hltL ws)
   have hm2:=hm1.newRec (nk:=nk) (by
    rw[hasLL_c];have:Nat.beq (nk+1) nk=false:=by rw[Bool.eq_false_iff];intro e;have:=Nat.eq_of_beq_eq_true e;omega
    simp only[this,LB.has]
    exact w8 hltL (Nat.le_refl _)) { state:=.ready,pending:=none,fn:=fn,tmps:=a.tmps,params:=ps,assign:=assign,body:=body,defers:=w.heap.size } rfl rfl
   have hb:(w.alloc (.deferred (some []))).heap.size=w.heap.size+1:=World.size_alloc _ _;rw[hb] at hm2;refine⟨_,[{ target:=.collected w.heap.size,args:=#[] }],_,[nk+1],(run_enterLoop_outer fn a.tmps ps assign body).trans ?_,λk hk=>?_,hm2,?_,?_,?_,?_,λd hd=>?_,?_,λd hd=>?_⟩
   ·rw[zc]
   ·rw[zz ws,zz ws]
   ·rw[zc]
   ·rw[zc]
   ·rw[zc]
   ·rw[zc]
   ·have:=zT hltL (zm hd (.inl rfl));rw[ze,if_neg ws,ze,if_neg ws];exact hd
   ·exact⟨by simp[markOf,zz,zc],by simp⟩
   have:d=nk+1:=by simpa using hd
   subst this;exact⟨rfl,by rw[ze,if_neg ws,ze,if_pos rfl]⟩
  rename_i l0;have hr:r=some (Sb l0).b:=hr;subst hr;have hl0:=hro l0 rfl;split at h;rotate_left
  ·exact h.elim
  rename_i st pe hL0;refine range_ok hI hA hB hg hc h0 hlt hY hltL (λfn=>?_) h;have hh:=hc.m.recHeap hL0;rw[hc.ag l0 hl0] at hh;have hm2:=hc.m.newRec (nk:=nk) (w8 hltL (Nat.le_refl _)) { state:=.ready,pending:=none,fn:=fn,tmps:=a.tmps,params:=ps,assign:=assign,body:=body,defers:=(Sb l0).r.defers } rfl rfl;refine⟨_,[],_,[],(run_enterLoop_inner hh fn a.tmps ps assign body).trans ?_,λk hk=>?_,hm2,?_,?_,?_,?_,λd hd=>?_,⟨rfl,.nil⟩,λd hd=>by cases hd⟩
  ·rw[zc]
  ·rw[zz ws]
  ·rw[zc]
  ·rw[zc]
  ·rw[zc]
  ·rw[zc]
  have:=zT hltL (zm hd (.inl rfl));rw[ze,if_neg ws];exact hd
theorem vcC_ok{inl:Inl}(hmix:P.follows .mixedOrders=true)(hT:zG P E.T)(hΓ:GOk P E)(hI:yE P inl)(f:Nat)(wr:Bool)(c:Code):yp P E inl f wr N c:=by
 induction c with
 |skip   => exact cs_skip hmix hT hΓ hI
 |label l  => exact cs_label hmix hT hΓ hI
 |exit l  => exact cs_exit hmix hT hΓ hI
 |goto l  => exact cs_goto hmix hT hΓ hI
 |ret   => exact cs_ret hmix hT hΓ hI
 |scope c ih=>exact cs_scope hmix hT hΓ hI ih
 |refuse s  => exact cs_refuse hmix hT hΓ hI
 |region id ops draw  => exact cs_region hmix hT hΓ hI
 |seq x y ihx ihy=>exact cs_seq hmix hT hΓ hI ihx ihy
 |cond g x y ihx ihy=>exact cs_cond hmix hT hΓ hI ihx ihy
 |block id x ihx=>exact cs_block hmix hT hΓ hI ihx
 |loop x ihx=>exact cs_loop hmix hT hΓ hI ihx
 |rangeFunc g ps assign body ihassign ihbody=>exact cs_rangeFunc hmix hT hΓ hI ihassign ihbody
end
section
variable {P:Program}{S S' Sb:Pl}{fr:Fr}{L L':LL}{q q':PH}{w0:W0}{w w':World}{a:Act}{n0 N:Nat}{B:Nat→Prop}{E:Env}
variable {r:Option Nat}{n:Nat}
theorem Mem.lose{k b:Nat}{lb:LB}(h:Mem w0 q S L w)(hk:getL L k=some lb)(hb:blk S k lb=some b)(hg:w.grownBy w' (some b)):Mem w0 q S (remL L k) w':=by
 have same:∀c,c<w.heap.size→c≠b→w'.heap[c]?=w.heap[c]?:=λc hc hne=>hg.block c hc (λe=>hne vI)
 have g:∀{j lb},getL (remL L k) j=some lb→getL L j=some lb∧j≠k:=λ{j lb} hj=>by
  rw[zM] at hj;split at hj
  ·cases hj
  rename_i e;exact⟨hj,λe'=>e e'.symm⟩
 refine⟨λj l hj=>?_,λk1 l1 k2 l2 hk1 hk2 hne' c hb1 hb2=>h.ap k1 l1 k2 l2 (g hk1).1 (g hk2).1 hne' c hb1 hb2,λj l hj c hcj o=>h.po j l (g hj).1 c hcj o,λj l hj c hcj=>h.fz j l (g hj).1 c hcj,λc o v hv=>?_,?_,h.gw⟩
 ·refine zI (h.ch j l (g hj).1) λc hcj=>same c (blk_lt (h.ch j l (g hj).1) hcj).2 λe'=>?_;subst e';exact h.ap k lb j l hk (g hj).1 (λe=>(g hj).2 e.symm) c hb hcj
 ·have h1:=h.on c o v hv;have hne:c≠b:=λe=>by subst e;rw[h.po k lb hk c hb o] at hv;cases hv
  exact(World.cell?_of_block (w:=w) (same c (on_lt h.on hv) hne)).trans h1
 exact h.be.grown hg (λj e=>by cases e;exact h.fz k lb hk b hb)
theorem Mem.other{b:Nat}(h:Mem w0 q S L w)(hL:∀k lb,getL L k=some lb→blk S k lb≠some b)(hq:∀o,q b o=none)(hF:¬w0.F b)(hg:w.grownBy w' (some b)):Mem w0 q S L w':=by
 have same:∀c,c<w.heap.size→c≠b→w'.heap[c]?=w.heap[c]?:=λc hc hne=>hg.block c hc (λe=>hne vI);refine⟨λj l hj=>?_,h.ap,h.po,h.fz,λc o v hv=>?_,h.be.grown hg (λj e=>by cases e;exact hF),h.gw⟩
 ·refine zI (h.ch j l hj) λc hcj=>same c (blk_lt (h.ch j l hj) hcj).2 λe'=>?_;subst e';exact hL j l hj hcj
 have h1:=h.on c o v hv;have hne:c≠b:=λe=>by subst e;rw[hq o] at hv;cases hv
 exact(World.cell?_of_block (w:=w) (same c (on_lt h.on hv) hne)).trans h1
theorem leave_marks{fn:Func}{tmps:Array Value}{R:Ending→World→Prop}:∀(Hs:List Nat) {w:World},Mem w0 q S L w→Hs.Nodup →
  (∀b∈Hs,w.heap[b]?=some (.deferred (some []))∧¬w0.F b∧∀k lb,getL L k=some lb→blk S k lb≠some b) →
  (∀w',Mem w0 q S L w'→∃v,(results fn tmps).run P w'=.ok v w'∧R (.returned v) w') →
  LeavesInM (FF r) n P fn tmps R (Hs.map markOf) .returning w
 |[],w,hm,_,_,h=>h w hm
 |b::Hs,w,hm,hn,hD,h=>by
  obtain⟨hb,hF,hL⟩:=hD b wv;refine⟨by simp,.inl ⟨b,_,rfl,run_takeDeferred hb,?_⟩⟩
  have hq:∀o,q b o=none:=λo=>by
   cases e:q b o with
   |none=>rfl
   |some v=>
    have:=hm.on b o v e;simp[World.cell?,hb] at this
  have hg:=grownBy_putObj' w b (.deferred none);have hm':=hm.other hL hq hF hg;refine leave_marks Hs hm' (List.nodup_cons.1 hn).2 (λc hc=>?_) h;obtain⟨hc1,hc2,hc3⟩:=hD c (by simp[hc]);refine⟨?_,hc2,hc3⟩;rw[hg.block c (Array.getElem?_eq_some_iff.1 hc1).1 (λe=>by injection e with e;subst e;exact(List.nodup_cons.1 hn).1 hc)];exact hc1
theorem getL_dropA{b k:Nat}{L0:LL}:∀{L:LL},(getL (dropA b L0 L) k=getL L k∨(getL (dropA b L0 L) k=none))∧(b≤k→getL L0 k=some .dfr→getL (dropA b L0 L) k=none)∧((k<b∨getL L0 k≠some .dfr)→getL (dropA b L0 L) k=getL L k)
 |[]=>⟨.inl rfl,λ_ _=>rfl,λ_=>rfl⟩
 |(u,x)::r=>by
  obtain⟨h1,h2,h3⟩:=getL_dropA (b:=b) (k:=k) (L0:=L0) (L:=r);unfold dropA;split
  ·rename_i hb;have hb:=Nat.le_of_ble_eq_true hb;split
   ·rename_i hu;by_cases e:u=k
    ·subst e;exact⟨.inr (h2 hb hu),h2,λh=>by rcases h with h|h;omega;exact absurd hu h⟩
    rw[ze,if_neg e];exact⟨h1,h2,h3⟩
   rename_i hu;by_cases e:u=k
   ·subst e;refine⟨.inl (by rw[ze,ze];simp),λ_ h=>(hu h).elim,λ_=>by rw[ze,ze];simp⟩
   rw[ze,ze,if_neg e,if_neg e];exact⟨h1,h2,h3⟩
  rename_i hb;by_cases e:u=k
  ·subst e;refine⟨.inl (by rw[ze,ze];simp),λh=>?_,λ_=>by rw[ze,ze];simp⟩;rw[Nat.ble_eq_true_of_le h] at hb;cases hb
  rw[ze,ze,if_neg e,if_neg e];exact⟨h1,h2,h3⟩
def resOne(tmps:Array Value):ResultVar→Sem Value
 |.tmp t=>pure (tmps.getD t undef)
 |.cell a t=>do loadVar t (←asAddr (tmps.getD a undef))
theorem resK_ok(hT:zG P E.T){tmps:Array Value}(hf:okF S fr tmps)(hm:Mem w0 q S L w):∀(rs:List ResultVar) {K:List SV→Prop},resK E.T q rs fr L K →
  ∃l vs,K l∧okL S l vs∧(rs.mapM (resOne tmps)).run P w=.ok vs w
 |[],K,h=>⟨[],[],h,trivial,by simp⟩
 |.tmp t::r,K,h=>by
  simp only[resK] at h;rw[yn] at h;obtain⟨l,vs,h1,h2,h3⟩:=resK_ok hT hf hm r h;refine⟨_,tmps.getD t undef::vs,h1,⟨hf t,h2⟩,?_⟩;simp[List.mapM_cons,resOne,h3]
 |.cell t ty::r,K,h=>by
  simp only[resK] at h;obtain⟨v,sv,h,hv,hr⟩:=loadK_ok (C:=λw'=>w'=w) (w1:=w) hT hm.ch (λw' e=>by rw[e];exact hm.cl) h (hf t);obtain⟨l,vs,h1,h2,h3⟩:=resK_ok hT hf hm r h;refine⟨_,v::vs,h1,⟨hv,h2⟩,?_⟩;have hr:=hr w rfl
  have hone:(resOne tmps (.cell t ty)).run P w=.ok v w:=by
   simp only[resOne]
   revert hr
   generalize tmps.getD t undef=u;intro hr;cases u<;>simp[Instr.loadAt,Instr.sureAddr] at hr;rename_i A;cases A<;>simp[Instr.loadAt,Instr.sureAddr] at hr;simpa[asAddr] using hr
  simp[List.mapM_cons,hone,h3]
theorem results_ok(hT:zG P E.T){fn:Func}{tmps:Array Value}(hf:okF S fr tmps)(hm:Mem w0 q S L w){K:List SV→Prop}(h:resK E.T q fn.results.toList fr L K):
  ∃l v,K l∧okv S (oneOr l) v∧(results fn tmps).run P w=.ok v w:=by
 obtain⟨l,vs,h1,h2,h3⟩:=resK_ok hT hf hm _ h
 have hr:(results fn tmps).run P w=.ok (if h:vs.toArray.size=1 then vs.toArray[0] else .tuple vs.toArray) w:=by
  have e:results fn tmps=(do
   let vs ←fn.results.mapM (resOne tmps)
   pure (if h:vs.size=1 then vs[0] else .tuple vs)):=by
   unfold results;congr 1
  rw[e,Array.mapM_eq_mapM_toList];simp[h3]
 refine⟨l,_,h1,?_,hr⟩;have hl:=zC h2
 match l,vs,h2,hl with
 |[x],[v],h2,_=>exact h2.1
 |[],[],h2,_=>exact⟨[],rfl,trivial⟩
 |x::y::l,v::u::vs,h2,_=>exact⟨v::u::vs,rfl,h2⟩
theorem get_argF{i t:Nat}:∀{args:List SV}{vs:List Value},okL S args vs→okv S (get (argF args i) t) (if i≤t then vs.getD (t-i) undef else undef)
 |[],[],_=>trivial
 |x::args,v::vs,h=>by
  simp only[argF,zH];split
  ·rename_i e;subst e;simpa using h.1
  rename_i e;have:=get_argF (i:=i+1) (t:=t) h.2;by_cases hi:i≤t
  ·rw[if_pos hi];rw[if_pos ws] at this;obtain⟨d,rfl⟩:∃d,t=i+1+d:=⟨t-i-1,by omega⟩;have e2:i+1+d-i=d+1:=by omega
   have e3:i+1+d-(i+1)=d:=by omega
   rw[e3] at this;rw[e2];simpa using this
  rw[if_neg hi];rw[if_neg ws] at this;exact this
 |[],_::_,h=>by cases h
 |_::_,[],h=>by cases h
theorem okF_args{args:List SV}{vs:List Value}(h:okL S args vs)(m:Nat):okF S (argF args 0) (vs.toArray++Array.replicate m undef):=by
 intro t;have h1:=get_argF (i:=0) (t:=t) h;simp only[Nat.zero_le,if_true,Nat.sub_zero] at h1
 have e:(vs.toArray++Array.replicate m undef).getD t undef=vs.getD t undef:=by
  rw[Array.getD_eq_getD_getElem?,Array.getElem?_append];by_cases ht:t<vs.length
  ·simp[ht]
  simp[ht];by_cases h2:t-vs.length<m<;>simp[h2]
 rw[e];exact h1
def FTOk(P : Program)(FT : Tr Func): Prop := ∀ f fn, FT.get f = some fn → P.funcs[f]? = some fn ∧ (fn.name == "runtime.NumGoroutine") = false
theorem vcN_ok(hmix:P.follows .mixedOrders=true)(hT:zG P E.T)(hΓ:GOk P E)(hF:FTOk P E.FT):∀d,yE P (vcN E d)
 |0=>λ_ _ _ _ _ _ _ _ _ _ _ _ _ h=>h.elim
 |d+1=>λw0 Y f args nk q L K vs w S r n h hY hvs hm=>by
  simp only[vcN] at h;split at h
  ·exact h.elim
  rename_i fn hfn;split at h
  ·exact h.elim
  rename_i c hc;split at h
  ·exact h.elim
  rename_i hN;have hN:=Nat.le_of_ble_eq_true hN;rw[fFr_eq] at h;obtain⟨hP,hname⟩:=hF f fn hfn;refine⟨λargs w=>?_,?_⟩
  ·have hname' : ¬ fn.name = "runtime.NumGoroutine" := by simpa using hname
   simp[callFunc,hP,hname',hc]
  have hlen:=zC hvs;show CallsIn (FF none) n P f vs.toArray w _;refine callsIn_of_wp_marks hP hc trivial ?_
  let wb:W0:={ w0 with F0:=w0.F,sub:=λ_ h=>h }
  have hmb:Mem wb q S L w:=⟨hm.ch,hm.ap,hm.po,hm.fz,hm.on,⟨hm.be.os,hm.be.tape,hm.be.output,hm.be.size,hm.be.block⟩,hm.gw⟩
  have hcfg:Cfg wb S (λd=>getL L d=some .dfr) nk fn.ntmps S q (argF args 0) L { tmps:=vs.toArray++Array.replicate (fn.ntmps-vs.toArray.size) undef,defers:=[] } w:=
   ⟨λ_ _=>rfl,λ_ _ h=>h,hmb,okF_args hvs _,by simp;omega,.nil _⟩
  have hcode:=vcC_ok (N:=fn.ntmps) hmix hT hΓ (vcN_ok hmix hT hΓ hF d) f (E.wr f) c Y none (n:=n) (r:=none) rfl (λ_ h=>by cases h) hY hcfg h;refine Code.wpIn_mono ?_ hcode;rintro e a' w' ⟨x,rfl,w1,hx1,S',q',fr',L',nk',hc',hK⟩;obtain⟨Hs,hd1,hd2,hd3⟩:=hc'.d
  have hmw:Mem w0 q' S' L' w':=by
   have:=hx1.mem hc'.m;exact⟨this.ch,this.ap,this.po,this.fz,this.on,⟨this.be.os,this.be.tape,this.be.output,this.be.size,this.be.block⟩,this.gw⟩
  have fin:(fLL (dropD nk L') λL=>resK E.T q' fn.results.toList fr' L λl=>fSV (oneOr l) λr=>K r nk' q' L) →
    LeavesInM (FF none) n P fn a'.tmps (λe w'=>∃v x S' q' L' nk',e=.returned v∧okv S' x v∧(∀k,k<nk→S' k=S k)∧Mem w0 q' S' L' w'∧(∀d,d<nk→getL L d=some .dfr→getL L' d=some .dfr)∧K x nk' q' L') a'.defers .returning w':=by
   intro hK;rw[zY] at hK;rw[hd1];refine leave_marks Hs hmw hd2 (λb hb=>?_) λw2 hm2=>?_
   ·obtain⟨k1,k2,k3⟩:=hd3 b hb;refine⟨(hc'.m.be.block b k1).trans k3,λhF=>k2 ?_,λk lb hk e=>hc'.m.fz k lb hk b e k1⟩;rw[hx1.F0];exact hF
   have hm3:Mem w0 q' S' (dropD nk L') w2:=hm2.less λk x hk=>by
    obtain⟨g1,g2,g3⟩:=getL_dropA (b:=nk) (k:=k) (L0:=L') (L:=L');unfold dropD at hk;rcases g1 with g1|g1
    ·rw[←g1];exact hk
    rw[g1] at hk;cases hk
   obtain⟨l,v,hK,hv,hr⟩:=results_ok hT hc'.f hm3 hK;rw[yn] at hK;refine⟨v,hr,v,oneOr l,S',q',dropD nk L',nk',rfl,hv,hc'.ag,hm3,λd hd hdL=>?_,hK⟩;unfold dropD;rw[(getL_dropA (b:=nk) (k:=d) (L0:=L') (L:=L')).2.2 (.inl hd)];exact hc'.b d hd hdL
  cases x with
  |norm=>exact fin hK
  |ret=>exact fin hK
  |exit m=>exact hK.elim
  |goto m=>exact hK.elim
end
end Go.Eng
section
namespace Go.Eng
open Go Go.RowKit
noncomputable section
def vEq:Value→Value→Bool
 |.bool a,.bool b=>a==b
 |.int k a,.int k' b=>decide (k=k')&&decide (a=b)
 |.float k a,.float k' b=>fkc k k'&&decide (a=b)
 |.string a,.string b=>decide (a.data.toList=b.data.toList)
 |.pointer none,.pointer none=>true
 |.slice none a b,.slice none c d=>decide (a=c)&&decide (b=d)
 |.nilFunc,.nilFunc=>true
 |.nilIface,.nilIface=>true
 |.map none,.map none=>true
 |_,_=>false
theorem vEq_eq:∀{a b:Value},vEq a b=true→a=b:=by
 intro a b h;unfold vEq at h;split at h<;>simp_all
 ·exact fkc_eq h.1
 rename_i a b;cases a;cases b
 simp_all
def vEqL:List Value→List Value→Bool
 |[],[]=>true
 |a::r,b::s=>match vEq a b with|true=>vEqL r s|false=>false
 |_,_=>false
theorem vEqL_eq:∀{a b:List Value},vEqL a b=true→a=b
 |[],[],_=>rfl
 |a::r,b::s,h=>by
  unfold vEqL at h;split at h
  ·rename_i h1;rw[vEq_eq h1,vEqL_eq h]
  cases h
 |[],_::_,h=>by cases h
 |_::_,[],h=>by cases h
def sizeB(P:Program)(T:Tab)(e:Nat):Bool:=
 match P.info? e with
 |some i=>Nat.blt 0 (ty T e).sz&&Nat.beq i.size (ty T e).sz&&Nat.beq i.bytes (ty T e).byt
 |none=>false
def descB(P:Program)(T:Tab)(t:Nat):Ty→Bool
 |.int k=>match P.underlying t with|some (.int k')=>decide (k'=k)|_=>false
 |.bool=>match P.underlying t with|some .bool=>true|_=>false
 |.str=>match P.underlying t with|some .string=>true|_=>false
 |.flt k=>match P.underlying t with|some (.float k')=>fkc k' k|_=>false
 |.ptr e=>match P.underlying t with|some (.pointer e')=>Nat.beq e' e|_=>false
 |.slice e=>match P.underlying t with|some (.slice e')=>Nat.beq e' e&&sizeB P T e|_=>false
 |.struct fs=>match P.underlying t with|some (.struct F)=>decide (F.toList.map (λf=>(f.offset,f.type))=fs)&&fs.all (λx=>sizeB P T x.2)|_=>false
 |.arr n e=>match P.underlying t with|some (.array n' e')=>Nat.beq n' n&&Nat.beq e' e&&sizeB P T e|_=>false
 |.func=>match P.underlying t with|some (.func _ _ _)=>true|_=>false
 |.map k e=>match P.underlying t with|some (.map k' e')=>Nat.beq k' k&&Nat.beq e' e|_=>false
 |.other=>true
def kindB(P:Program)(t:Nat):Ty→Bool
 |.int _=>(match P.underlying t with|some (.int _)=>true|_=>false)
 |.str=>(match P.underlying t with|some .string=>true|_=>false)
 |.bool=>(match P.underlying t with|some .bool=>true|_=>false)
 |_=>false
def cmpFB(P:Program):Nat→List Field→Nat→List Ty→Option (List Ty)
 |_,[],_,c=>some c
 |0,_::_,_,_=>none
 | n + 1, f :: fs, j, c => match Nat.beq f.offset j && decide (f.name ≠ "_") with
  |false=>none
  |true=>match P.underlying f.type with
   | some (.struct F)=>(match P.stoodInHeld f.type,P.info? f.type with
    | false,some i=>(match cmpFB P n F.toList 0 c with
     | some c'=>(match Nat.beq (i.size+c'.length) c.length with
      |true=>cmpFB P n fs (j+i.size) c'
      | false=>none)
     | none=>none)
    | _,_=>none)
   | _=>(match c with
    | t::c'=>(match kindB P f.type t with
     |true=>cmpFB P n fs (j+1) c'
     | false=>none)
    | []=>none)
def cmpB(P:Program)(t:Nat)(c:List Ty):Bool:=
 (match P.underlying t with|some (.struct _)=>true|_=>false)&&!P.stoodInHeld t&&!P.eqGuardType P.depth t &&
  match cmpFB P 64 (P.fieldsOf t).toList 0 c with|some []=>true|_=>false
def tokB(P:Program)(T:Tab)(t:Nat)(ti:TI):Bool:=
 descB P T t ti.d && (match P.info? t with
  |some i=>(match i.zero with|some z=>Nat.beq i.size ti.sz&&Nat.beq i.bytes ti.byt&&vEqL z.cells.toList ti.zero|none=>false)
  | none=>false) && Nat.beq ti.flat.length ti.sz && Nat.blt 0 ti.sz && Nat.beq ti.zero.length ti.sz && (match ti.d with | .struct _=>true | .arr _ _=>true | _=>Nat.beq ti.sz 1) && (match ti.cmp with | []=>true | d::c=>cmpB P t (d::c))
def tabB(P:Program)(T:Tab):Bool:=T.all λt ti=>tokB P T t ti
theorem Tr.all_get{α:Type}{f:Nat→α→Bool}:∀{T:Tr α},T.all f=true→∀{t:Nat}{x:α},T.get t=some x→f t x=true
 |.nil,_,_,_,h=>by cases h
 |.node l k v r,h,t,x,hg=>by
  unfold Tr.all at h;rw[Tr.get_c] at hg;split at h;rotate_left
  ·cases h
  rename_i h1;split at h;rotate_left
  ·cases h
  rename_i h2;split at hg
  ·rename_i e;have:=Nat.eq_of_beq_eq_true e;subst this;cases hg;exact h1
  split at hg
  ·exact Tr.all_get h2 hg
  exact Tr.all_get h hg
theorem sizeOk_of{P:Program}{T:Tab}{e:Nat}(h:sizeB P T e=true):sizeOk P T e:=by
 unfold sizeB at h;split at h
 ·rename_i i hi;simp only[Bool.and_eq_true] at h;exact⟨Nat.le_of_ble_eq_true h.1.1,i,hi,Nat.eq_of_beq_eq_true h.1.2,Nat.eq_of_beq_eq_true h.2⟩
 cases h
theorem descOk_of{P:Program}{T:Tab}{t:Nat}{d:Ty}(h:descB P T t d=true):yz P T t d:=by
 cases d<;>simp only[descB] at h<;>simp only[yz]
 case int k=>split at h<;>simp_all
 case bool=>split at h<;>simp_all
 case str=>split at h<;>simp_all
 case flt k=>split at h;rename_i k' e;rw[e,fkc_eq h];cases h
 case ptr e=>split at h<;>simp_all
 case slice e=>
  split at h
  ·rename_i e' he;simp only[Bool.and_eq_true] at h;have:=Nat.eq_of_beq_eq_true h.1;subst this;exact⟨he,sizeOk_of h.2⟩
  cases h
 case struct fs=>
  split at h
  ·rename_i F he;simp only[Bool.and_eq_true,decide_eq_true_eq,List.all_eq_true] at h;exact⟨F,he,h.1,λx hx=>sizeOk_of (h.2 x hx)⟩
  cases h
 case arr n e=>
  split at h
  ·rename_i n' e' he;simp only[Bool.and_eq_true] at h;have h1:=Nat.eq_of_beq_eq_true h.1.1;have h2:=Nat.eq_of_beq_eq_true h.1.2;subst h1;subst h2;exact⟨he,sizeOk_of h.2⟩
  cases h
 case func=>
  split at h
  ·rename_i a b c he;exact⟨a,b,c,he⟩
  cases h
 case map k e=>
  split at h
  ·rename_i k' e' he;simp only[Bool.and_eq_true] at h;rw[he,Nat.eq_of_beq_eq_true h.1,Nat.eq_of_beq_eq_true h.2]
  cases h
theorem kindOk_of{P:Program}{t:Nat}{d:Ty}(h:kindB P t d=true):kindOk P t d:=by
 cases d<;>simp only[kindB] at h<;>simp only[kindOk]<;>first|(cases h;done)|(split at h<;>simp_all)
theorem cmpFB_ok{P:Program}:∀{n:Nat}{fs:List Field}{j:Nat}{c r:List Ty},cmpFB P n fs j c=some r→∃c1,c=c1++r∧CmpF P n fs j c1
 |n,[],j,c,r,h=>by
  unfold cmpFB at h;cases h;exact⟨[],rfl,.nil⟩
 |0,_::_,_,_,_,h=>by unfold cmpFB at h;cases h
 |n+1,f::fs,j,c,r,h=>by
  unfold cmpFB at h;split at h
  ·cases h
  rename_i hb;simp only[Bool.and_eq_true,decide_eq_true_eq] at hb;obtain⟨h1,h2⟩:=hb;have h1:=Nat.eq_of_beq_eq_true h1;split at h
  ·rename_i F hF;split at h
   ·rename_i i hs hi;split at h
    ·rename_i c' hc';split at h
     ·rename_i hz;have hz:=Nat.eq_of_beq_eq_true hz;obtain⟨c1,rfl,k1⟩:=cmpFB_ok hc';obtain⟨c2,rfl,k2⟩:=cmpFB_ok h;have hf:P.fieldsOf f.type=F:=by simp[Program.fieldsOf,hF]
      simp only[List.length_append] at hz;exact⟨c1++c2,by simp,.sub h1 h2 (by rw[hf];exact hF) hs hi ws (by rw[hf];exact k1) (by rw[show c1.length=i.size by omega];exact k2)⟩
     cases h
    cases h
   cases h
  cases c with
  |nil=>cases h
  |cons t c'=>
   dsimp only at h;split at h
   ·rename_i hk;obtain⟨c2,rfl,k2⟩:=cmpFB_ok h;exact⟨t::c2,rfl,.word h1 h2 (kindOk_of hk) k2⟩
   cases h
theorem cmpOk_of{P:Program}{t:Nat}{c:List Ty}(h:cmpB P t c=true):CmpOk P t c:=by
 simp only[cmpB,Bool.and_eq_true,Bool.not_eq_true'] at h;obtain⟨⟨⟨h1,h2⟩,h3⟩,h4⟩:=h;refine⟨?_,h2,h3,?_⟩
 ·split at h1
  ·rename_i F hF;rw[hF];simp[Program.fieldsOf,hF]
  cases h1
 split at h4
 ·rename_i e;obtain⟨c1,rfl,k⟩:=cmpFB_ok e;simpa using k
 cases h4
theorem tOk_of{P:Program}{T:Tab}{t:Nat}{ti:TI}(h:tokB P T t ti=true):TOk P T t ti:=by
 unfold tokB at h;simp only[Bool.and_eq_true] at h;obtain⟨⟨⟨⟨⟨⟨h1,h2⟩,h3⟩,h4⟩,h6⟩,h5⟩,h7⟩:=h;refine⟨descOk_of h1,?_,Nat.eq_of_beq_eq_true h3,Nat.le_of_ble_eq_true h4,Nat.eq_of_beq_eq_true h6,λn1 n2=>?_,λhc=>?_⟩
 rotate_right
 ·split at h7
  ·rename_i e;exact absurd e hc
  rename_i d c e;rw[e];exact cmpOk_of h7
 ·split at h2
  ·rename_i i hi;split at h2
   ·rename_i z hz;simp only[Bool.and_eq_true] at h2;exact⟨i,z,hi,Nat.eq_of_beq_eq_true h2.1.1,Nat.eq_of_beq_eq_true h2.1.2,hz,vEqL_eq h2.2⟩
   cases h2
  cases h2
 split at h5
 ·rename_i fs e;exact absurd e (n1 fs)
 ·rename_i n e he;exact absurd he (n2 n e)
 exact Nat.eq_of_beq_eq_true h5
theorem tabOk_of{P:Program}{T:Tab}(h:tabB P T=true):zG P T:=by
 intro t h0;unfold ty at h0 ⊢
 cases hg:T.get t with
 |none=>rw[hg] at h0;exact absurd rfl h0
 |some x=>exact tOk_of (Tr.all_get h hg)
end
end Go.Eng
end
namespace Go.Eng
open Go Go.RowKit
section
variable {P:Program}{w:World}{E:Env}
def phOf(w:World):PH:=λb o=>w.cell? ⟨b,o,none⟩
theorem phOf_on(w:World):PH.on (phOf w) w:=λ_ _ _ h=>h
theorem Mem.start(w:World)(S:Pl):Mem (.all w) (phOf w) S [] w:=⟨λ_ _ h=>wL,λ_ _ _ _ h=>wL,λ_ _ h=>wL,λ_ _ h=>wL,phOf_on w,Bel.refl (.all w),λ_ _ _ hv _=>hv⟩
structure EnvOk (P:Program) (E:Env):Prop where
 mix:P.follows .mixedOrders=true
 T:zG P E.T
 Γ:SpecsOk P E.Γ
 Δ:CSsOk P E.Δ
 FT:FTOk P E.FT
theorem top(hE:EnvOk P E)(d:Nat){f:Nat}{args:List SV}{vs:List Value}{K:SV→Prop}(hvs:okL S0 args vs)
  (h:vcN E d [] f args 0 (phOf w) [] (λr _ _ _=>K r)):Calls P f vs.toArray w λe w'=>(∃v r S,e=.returned v∧okv S r v∧K r)∧Below w.heap.size w w':=by
 have:=vcN_ok hE.mix hE.T ⟨hE.Γ,hE.Δ⟩ hE.FT d (.all w) [] f args 0 (phOf w) [] _ vs w S0 none 0 h (λk hd hk=>by simp[yGet] at hk) hvs (Mem.start w S0);have h2:=this.2;have h3:CallsIn Fence.wide 0 P f vs.toArray w _:=h2;refine(callsIn_wide.1 h3).mono ?_;rintro e w' ⟨v,x,S',q',L',nk',rfl,hx,_,hm,_,hK⟩;exact⟨⟨v,x,S',rfl,hx,hK⟩,hm.be.below⟩
def Yes:SV→Prop
 |.bb b=>Ob (b=true)
 |.b p _=>Ob p
 |.v (.bool b)=>Ob (b=true)
 |_=>False
theorem Yes.ok{S:Pl}{x:SV}{v:Value}(h:Yes x)(hx:okv S x v):v=.bool true:=by
 unfold Yes at h;split at h
 ·obtain⟨rfl⟩:=h;exact hx
 ·obtain⟨h⟩:=h;have hx:v=.bool (@decide _ _):=hx;rw[hx];simp[h]
 ·obtain⟨rfl⟩:=h;exact hx
 exact h.elim
theorem law(hE:EnvOk P E)(d:Nat){f:Nat}{args:List SV}{vs:List Value}(hvs:okL S0 args vs)(h:vcN E d [] f args 0 (phOf w) [] (λr _ _ _=>Yes r)):
  Calls P f vs.toArray w λe w'=>e=.returned (.bool true)∧Below w.heap.size w w':=by
 refine(top hE d hvs h).mono ?_;rintro e w' ⟨⟨v,r,S,rfl,hx,hK⟩,hb⟩;exact⟨by rw[hK.ok hx],hb⟩
def Is(val:SV)(r:SV):Prop:=mSV 0 val r [] λ_=>True
theorem okv_S0:∀(x:SV) {S:Pl}{v:Value},closed x=true→okv S x v→v=den S0 x:=by
 intro x S v hc hx;have:=w7 (S:=S) x hc;exact okv_one x hc hx
where
 okv_one:∀(x:SV) {S:Pl}{v:Value},closed x=true→okv S x v→v=den S0 x
  |.v _,_,_,_,h=>h
  |.bb _,_,_,_,h=>h
  |.b _ _,_,_,_,h=>h
  |.agg cs,_,_,hc,h=>by
   obtain⟨vs,rfl,h⟩:=h;rw[okl_one cs vr h];simp[den]
  |.tup cs,_,_,hc,h=>by
   obtain⟨vs,rfl,h⟩:=h;rw[okl_one cs vr h];simp[den]
  |.fn f cs,_,_,hc,h=>by
   obtain⟨vs,rfl,h⟩:=h;rw[okl_one cs vr h];simp[den]
  |.lp _ _,_,_,hc,_=>by simp[closed] at hc
  |.own _,_,_,hc,_=>by simp[closed] at hc
  |.el _ _,_,_,hc,_=>by simp[closed] at hc
  |.yl _,_,_,hc,_=>by simp[closed] at hc
  |.vw _ _ _ _ _,_,_,hc,_=>by simp[closed] at hc
  |.lq _,_,_,hc,_=>by simp[closed] at hc
  |.ls _ _,_,_,hc,_=>by simp[closed] at hc
  |.mr _,_,_,hc,_=>by simp[closed] at hc
  |.bad,_,_,hc,_=>by simp[closed] at hc
 okl_one:∀(l:List SV) {S:Pl}{vs:List Value},closedL l=true→okL S l vs→vs=denL S0 l
  |[],_,[],_,_=>rfl
  |x::r,_,v::vs,hc,h=>by
   unfold closedL at hc;split at hc
   ·rename_i hx;rw[okv_one x hx h.1,okl_one r hc h.2];rfl
   cases hc
  |[],_,_::_,_,h=>by cases h
  |_::_,_,[],_,h=>by cases h
theorem appL_nil:∀(l:LL),appL l []=l
 |[]=>rfl
 |x::r=>by simp only[appL_c,appL_nil r]
theorem rd_mono{q q':PH}(h:q.le q'){A:Option Addr}{j:Nat}{v:Value}(hr:rd q A j=some v):rd q' A j=some v:=by
 unfold rd at *;split at hr
 ·exact h _ _ _ hr
 cases hr
theorem Reads.mono{q q':PH}(h:q.le q'){A:Option Addr}{xs:List Value}(hr:Reads q A xs):Reads q' A xs:=λj hj=>by
 have h1:=hr j hj;rw[List.getElem?_eq_getElem hj] at h1 ⊢;exact rd_mono h h1
theorem RdsOk.mono{q q':PH}(h:q.le q'):∀{l:List (Option Addr×List Value)},RdsOk q l→RdsOk q' l
 |[],_=>trivial
 |(_,_)::_,hr=>⟨Reads.mono h hr.1,RdsOk.mono h hr.2⟩
def caArgs(q:PH):List CA→List SV→Prop
 |[],[]=>True
 |.w x::r,y::s=>y=x∧caArgs q r s
 |.sl sz n xs::r,y::s=>(∃A c,y=.v (.slice A n c)∧n≤c∧xs.length=n*sz∧Reads q A xs)∧caArgs q r s
 |.pt cs::r,y::s=>(∃a us,y=.v (.pointer (some a))∧a.spot=none∧us.length=cs.length∧Reads q (some a) us∧pcArgs q cs us)∧caArgs q r s
 |_,_=>False
theorem reads_in{F:Nat→Prop}{q:PH}(hq:∀b o,F b→q b o=w.cell? ⟨b,o,none⟩){A:Option Addr}{xs:List Value}(hr:∀j u,xs[j]?=some u→∃a,A=some a∧a.spot=none∧F a.block∧w.cell? ⟨a.block,a.off+j,none⟩=some u):Reads q A xs:=λj hj=>by
 obtain⟨a,rfl,hs,hF,hc⟩:=hr j xs[j] (by simp[hj]);obtain⟨b,o,s⟩:=a;cases hs;simp only[rd,hq _ _ hF];rw[hc];simp[hj]
theorem pcArgs_of{F:Nat→Prop}{q:PH}(hq:∀b o,F b→q b o=w.cell? ⟨b,o,none⟩):∀{cs:List PC}{us:List Value},pcOk w F cs us→pcArgs q cs us
 |[],[],_=>trivial
 |[],_::_,h=>h.elim
 |.w _::_,[],h=>h.elim
 |.row _ _ _::_,[],h=>h.elim
 |.w _::_,_::_,h=>⟨h.1,pcArgs_of hq h.2⟩
 |.row _ _ _::_,_::_,h=>by
  obtain⟨⟨A,c,e,h1,h2,h3⟩,h⟩:=h;exact⟨⟨A,c,e,h1,h2,reads_in hq h3⟩,pcArgs_of hq h⟩
theorem caArgs_of{F:Nat→Prop}{S:Pl}{q:PH}(hq:∀b o,F b→q b o=w.cell? ⟨b,o,none⟩):∀{tm:List CA}{vs:List Value},caOk w F S tm vs→∃args,caArgs q tm args∧okL S args vs
 |[],[],_=>⟨[],trivial,trivial⟩
 |[],_::_,h=>by cases h
 |.w _::_,[],h=>by cases h
 |.sl _ _ _::_,[],h=>by cases h
 |.pt _::_,[],h=>by cases h
 |.w x::r,v::vs,h=>by
  obtain⟨args,h1,h2⟩:=caArgs_of hq h.2;exact⟨x::args,⟨rfl,h1⟩,h.1,h2⟩
 |.sl sz n xs::r,v::vs,h=>by
  obtain⟨args,h1,h2⟩:=caArgs_of hq h.2;obtain⟨A,c,rfl,hnc,hl,hr⟩:=h.1;refine⟨.v (.slice A n c)::args,⟨⟨A,c,rfl,hnc,hl,λj hj=>?_⟩,h1⟩,rfl,h2⟩;obtain⟨a,rfl,hs,hF,hc⟩:=hr j xs[j] (by simp[hj]);obtain⟨b,o,s⟩:=a;cases hs;simp only[rd,hq _ _ hF];rw[hc];simp[hj]
 |.pt cs::r,v::vs,h=>by
  obtain⟨args,h1,h2⟩:=caArgs_of hq h.2;obtain⟨a,us,rfl,hs,hl,hr,hp⟩:=h.1;refine⟨.v (.pointer (some a))::args,⟨⟨a,us,rfl,hs,hl,reads_in hq λj u hu=>?_,pcArgs_of hq hp⟩,h1⟩,rfl,h2⟩;obtain⟨g1,g2⟩:=hr j u hu;exact⟨a,rfl,hs,g1,g2⟩
def wAll:List CA→Bool
 |[]=>true
 |.w _::r=>wAll r
 |_::_=>false
theorem caArgs_w{F:Nat→Prop}{S:Pl}{q:PH}:∀{tm:List CA}{vs:List Value},wAll tm=true→caOk w F S tm vs→∃args,caArgs q tm args∧okL S args vs
 |[],[],_,_=>⟨[],trivial,trivial⟩
 |[],_::_,_,h=>by cases h
 |.w _::_,[],_,h=>by cases h
 |.w x::r,v::vs,hw,h=>by
  obtain⟨args,h1,h2⟩:=caArgs_w (q:=q) (by simpa[wAll] using hw) h.2;exact⟨x::args,⟨rfl,h1⟩,h.1,h2⟩
 |.sl _ _ _::_,_,hw,_=>by simp[wAll] at hw
 |.pt _::_,_,hw,_=>by simp[wAll] at hw
def resM(s:CS)(i:s.ι)(r:SV)(nk:Nat)(L:LL):Prop:=
 match s.res i,r with
 | .tup ts,.tup cs=>(match Nat.beq ts.length cs.length with
  |true=>nilF s.rn s.keys nk (argF cs 0) L λ_ fr L=>mFr s.keys (argF ts 0) fr [] λags=>mLL s.keys (s.L' i) L ags λ_=>True
  | false=>False)
 |t,r=>nilF s.rn s.keys nk [(0,r)] L λ_ fr L=>mFr s.keys [(0,t)] fr [] λags=>mLL s.keys (s.L' i) L ags λ_=>True
theorem resM_fin{s:CS}{i:s.ι}{S:Pl}{q:PH}{w0:W0}{w:World}{fr tf:Fr}{L:LL}{vs:List Value}{nk:Nat}(hm:Mem w0 q S L w)(hf:okF S fr vs.toArray)
  (h:nilF s.rn s.keys nk fr L λ_ fr L=>mFr s.keys tf fr [] λags=>mLL s.keys (s.L' i) L ags λ_=>True):∃S',okF S' tf vs.toArray∧(∀k,k<s.keys→S' k=S k)∧Mem w0 q S' (s.L' i) w:=by
 have hc:Cfg w0 S (λ_=>False) s.keys vs.length S q fr L { tmps:=vs.toArray,defers:=[] } w:=⟨λ_ _=>rfl,λ_ _ h=>h.elim,hm,hf,by simp,.nil _⟩;obtain⟨S1,fr1,L1,nk1,hc1,h⟩:=xu hc h;obtain⟨as1,e1,o1,h,r1⟩:=mFr_ok (AsOk.nil s.keys) h;obtain⟨as2,e2,o2,_,r2⟩:=mLL_ok (N0:=0) o1 h
 have hm2:=hc1.m.tell (rest:=[]) o2 (fun k x hk=>by
  obtain⟨j,y,g1,g2,g3⟩:=r2 as2 (.refl _) o2 k x hk
  exact ⟨j,y,g1,g2,g3 S1⟩) (fun k x hk=>by cases hk)
 rw[appL_nil] at hm2;exact⟨sub as2 S1,r1 as2 e2 o2 S1 _ hc1.f,λk hk=>(x6 o2 hk).trans (hc1.ag k hk),hm2⟩
theorem okL_of_argF{S:Pl}:∀{ts:List SV}{vs:List Value}{i:Nat},ts.length=vs.length→(∀t,i≤t→okv S (get (argF ts i) t) (vs.getD (t-i) undef))→okL S ts vs
 |[],[],_,_,_=>trivial
 |[],_::_,_,h,_=>by simp at h
 |_::_,[],_,h,_=>by simp at h
 |x::r,v::vs,i,hl,h=>by
  refine⟨?_,okL_of_argF (i:=i+1) vA λt ht=>?_⟩
  ·have:=h i (Nat.le_refl _);simpa[argF,zH] using this
  have:=h t ws;rw[show t-i=(t-(i+1))+1 from by omega] at this;simp only[argF,zH] at this;rw[if_neg ws] at this;simpa using this
theorem resM_ok{s:CS}{i:s.ι}{S:Pl}{q:PH}{w0:W0}{w:World}{r:SV}{v:Value}{L:LL}{nk:Nat}(hm:Mem w0 q S L w)(hr:okv S r v)(h:resM s i r nk L):
  ∃S',okv S' (s.res i) v∧(∀k,k<s.keys→S' k=S k)∧Mem w0 q S' (s.L' i) w:=by
 unfold resM at h;split at h
 ·rename_i ts cs e;split at h;rotate_left
  ·exact h.elim
  rename_i hl;have hl:=Nat.eq_of_beq_eq_true hl;obtain⟨vs,rfl,hvs⟩:=hr;have hf:okF S (argF cs 0) vs.toArray:=by have:=okF_args hvs 0;simpa using this
  obtain⟨S',h1,h2,h3⟩:=resM_fin hm hf h;refine⟨S',?_,h2,h3⟩;rw[e];refine⟨vs,rfl,okL_of_argF (i:=0) (hl.trans (zC hvs)) λt _=>?_⟩;have:=h1 t;simpa using this
 rename_i r _ _ _
 have hf:okF S [(0,r)] #[v]:=λt=>by
  rw[zH];split
  ·rename_i e;subst e;simpa using hr
  trivial
 obtain⟨S',h1,h2,h3⟩:=resM_fin (vs:=[v]) hm hf h;refine⟨S',?_,h2,h3⟩;have:=h1 0;simpa[zH] using this
def resMG(s:CS)(i:s.ι)(r:SV)(nk:Nat)(q:PH)(L:LL):Prop:=
 match r with
 |.tup cs=>frzF s.fzr q (argF cs 0) L λq fr L=>nilF s.rn s.keys nk fr L λ_ fr L=>∃g,Ob (s.okG i g)∧Ob (RdsOk q (s.rdsG i g)) ∧
  (match s.resG i g with
  | .tup ts=>(match Nat.beq ts.length cs.length with
   |true=>mFr s.keys (argF ts 0) fr [] λags=>mLL s.keys (s.LG i g) L ags λ_=>True
   | false=>False)
  | _=>False)
 |r=>frzF s.fzr q [(0,r)] L λq fr L=>nilF s.rn s.keys nk fr L λ_ fr L=>∃g,Ob (s.okG i g)∧Ob (RdsOk q (s.rdsG i g))∧mFr s.keys [(0,s.resG i g)] fr [] λags=>mLL s.keys (s.LG i g) L ags λ_=>True
theorem resMG_fin{s:CS}{S:Pl}{q:PH}{w0:W0}{w:World}{fr:Fr}{L:LL}{vs:List Value}{nk:Nat}{T:Fr→LL→PH→Prop}(hm:Mem w0 q S L w)(hf:okF S fr vs.toArray)
  (h:frzF s.fzr q fr L λq fr L=>nilF s.rn s.keys nk fr L λ_ fr L=>T fr L q) :
  ∃S1 q1 fr1 L1,(∀k,k<s.keys→S1 k=S k)∧q.le q1∧Mem w0 q1 S1 L1 w∧okF S1 fr1 vs.toArray∧T fr1 L1 q1:=by
 have hc:Cfg w0 S (λ_=>False) s.keys vs.length S q fr L { tmps:=vs.toArray,defers:=[] } w:=⟨λ_ _=>rfl,λ_ _ h=>h.elim,hm,hf,by simp,.nil _⟩;obtain⟨q1,fr0,L0,hq,hc0,h⟩:=frzF_ok hc h;obtain⟨S1,fr1,L1,nk1,hc1,h⟩:=xu hc0 h;exact⟨S1,q1,fr1,L1,hc1.ag,hq,hc1.m,hc1.f,h⟩
theorem tell_fin{S:Pl}{q:PH}{w0:W0}{w:World}{fr tf:Fr}{tl L:LL}{vs:List Value}{nk:Nat}(hm:Mem w0 q S L w)(hf:okF S fr vs.toArray)
  (h:mFr nk tf fr [] λags=>mLL nk tl L ags λ_=>True):∃S',okF S' tf vs.toArray∧(∀k,k<nk→S' k=S k)∧Mem w0 q S' tl w:=by
 obtain⟨as1,e1,o1,h,r1⟩:=mFr_ok (AsOk.nil nk) h;obtain⟨as2,e2,o2,_,r2⟩:=mLL_ok (N0:=0) o1 h
 have hm2:=hm.tell (rest:=[]) o2 (fun k x hk=>by
  obtain⟨j,y,g1,g2,g3⟩:=r2 as2 (.refl _) o2 k x hk
  exact ⟨j,y,g1,g2,g3 S⟩) (fun k x hk=>by cases hk)
 rw[appL_nil] at hm2;exact⟨sub as2 S,r1 as2 e2 o2 S _ hf,λk hk=>x6 o2 hk,hm2⟩
theorem resMG_ok{s:CS}{i:s.ι}{S:Pl}{q:PH}{w0:W0}{w:World}{r:SV}{v:Value}{L:LL}{nk:Nat}(hm:Mem w0 q S L w)(hr:okv S r v)(h:resMG s i r nk q L):
  ∃S' q' g,okv S' (s.resG i g) v∧(∀k,k<s.keys→S' k=S k)∧Mem w0 q' S' (s.LG i g) w∧q.le q'∧s.okG i g∧RdsOk q' (s.rdsG i g):=by
 unfold resMG at h;split at h
 ·rename_i cs;obtain⟨vs,rfl,hvs⟩:=hr;have hf:okF S (argF cs 0) vs.toArray:=by have:=okF_args hvs 0;simpa using this
  obtain⟨S1,q1,fr1,L1,hS1,hq,hm1,hf1,g,⟨h1⟩,⟨h2⟩,h⟩:=resMG_fin hm hf h;split at h;rotate_left
  ·exact h.elim
  rename_i ts e;split at h;rotate_left
  ·exact h.elim
  rename_i hl;have hl:=Nat.eq_of_beq_eq_true hl;obtain⟨S',k1,k2,k3⟩:=tell_fin hm1 hf1 h;refine⟨S',q1,g,?_,λk hk=>(k2 k hk).trans (hS1 k hk),k3,hq,h1,h2⟩;rw[e];refine⟨vs,rfl,okL_of_argF (i:=0) (hl.trans (zC hvs)) λt _=>?_⟩;have:=k1 t;simpa using this
 have hf:okF S [(0,r)] #[v]:=λt=>by
  rw[zH];split
  ·rename_i e;subst e;simpa using hr
  trivial
 obtain⟨S1,q1,fr1,L1,hS1,hq,hm1,hf1,g,⟨h1⟩,⟨h2⟩,h⟩:=resMG_fin (vs:=[v]) hm hf h;obtain⟨S',k1,k2,k3⟩:=tell_fin hm1 hf1 h;refine⟨S',q1,g,?_,λk hk=>(k2 k hk).trans (hS1 k hk),k3,hq,h1,h2⟩;have:=k1 0;simpa[zH] using this
open Classical in
theorem cspec{s : CS}{fn : Func}(hP : P.funcs[s.f]? = some fn)(hname : (fn.name == "runtime.NumGoroutine") = false)(hb : fn.body.isSome = true)
  (h:∀i,s.ok i→∀q,RdsOk q (s.rds i)→∀args,caArgs q (s.args i) args→∃E d,EnvOk P E ∧
   vcN E d [] s.f args s.keys q (s.L i) (fun r nk _ L'=>resM s i r nk L'))
  (hdef:∃g:s.γ,∀i,s.resG i g=s.res i∧s.LG i g=s.L' i∧s.okG i g∧s.rdsG i g=[]:=by exact⟨(),λ_=>⟨rfl,rfl,trivial,rfl⟩⟩):CSOk P s:=by
 refine⟨λargs w=>?_,λw q S i vs hok hrd hm hca=>?_⟩
 ·have hname' : ¬ fn.name = "runtime.NumGoroutine" := by simpa using hname
  obtain⟨c,hc⟩:=Option.isSome_iff_exists.1 hb;simp[callFunc,hP,hname',hc]
 have hqF:∀b o v,q b o=some v→(yh q w S (s.L i)).F b:=λb o v hv=>
  ⟨on_lt hm.on hv,λk x hk e=>by rw[hm.po k x hk b e o] at hv;cases hv⟩
 let qc:PH:=λb o=>if (yh q w S (s.L i)).F b then w.cell? ⟨b,o,none⟩ else none
 have hle:q.le qc:=λb o v hv=>by
  simp only[qc];rw[if_pos (hqF b o v hv)];exact hm.on b o v hv
 have hmc:Mem (yh qc w S (s.L i)) qc S (s.L i) w:=by
  refine⟨hm.ch,hm.ap,λk x hk b hb o=>?_,hm.fz,λb o v hv=>?_,⟨hm.be.os,hm.be.tape,hm.be.output,hm.be.size,hm.be.block⟩,λ_ _ _ hv _=>hv⟩
  ·simp only[qc];rw[if_neg (hm.fz k x hk b hb)]
  simp only[qc] at hv;split at hv
  ·exact hv
  cases hv
 obtain⟨args,hargs,hvs⟩:=caArgs_of (q:=qc) (λb o hF=>by simp only[qc];rw[if_pos hF]) hca;obtain⟨E,d,hE,hvc⟩:=h i hok qc (hrd.mono hle) args hargs;have:=vcN_ok hE.mix hE.T ⟨hE.Γ,hE.Δ⟩ hE.FT d (yh qc w S (s.L i)) [] s.f args s.keys qc (s.L i) _ vs w S none 0 hvc (λk hd hk=>by simp[yGet] at hk) hvs hmc;have h2:=this.2;have h3:CallsIn Fence.wide 0 P s.f vs.toArray w _:=h2;refine(callsIn_wide.1 h3).mono ?_;rintro e w' ⟨v,x,S',q',L',nk',rfl,hx,hS,hm',_,hK⟩;obtain⟨S2,hx2,hS2,hm2⟩:=resM_ok hm' hx hK;obtain⟨g,hg⟩:=hdef;obtain⟨g1,g2,g3,g4⟩:=hg i;refine⟨v,S2,q,g,rfl,by rw[g1];exact hx2,λk hk=>(hS2 k hk).trans (hS k hk),?_,λ_ _ _ h=>h,g3,by rw[g4];trivial,λ_=>⟨rfl,g1,g2⟩⟩;rw[g2];refine⟨hm2.ch,hm2.ap,λk x hk b hb o=>?_,hm2.fz,λb o v hv=>?_,⟨hm2.be.os,hm2.be.tape,hm2.be.output,hm2.be.size,hm2.be.block⟩,λ_ _ _ hv _=>hv⟩
 ·cases hq:q b o with
  |none=>rfl
  |some v=>exact(hm2.fz k x hk b hb (hqF b o v hq)).elim
 have:=hm2.be.block b (hqF b o v hv);exact(World.cell?_of_block (w:=w) this).trans (hm.on b o v hv)
theorem cspecG{s : CS}{fn : Func}(hP : P.funcs[s.f]? = some fn)(hname : (fn.name == "runtime.NumGoroutine") = false)(hb : fn.body.isSome = true)(hgr : s.gr = true)(hw : ∀ i, wAll (s.args i) = true)
  (h:∀i,s.ok i→∀q,RdsOk q (s.rds i)→∀args,caArgs q (s.args i) args→∃E d,EnvOk P E ∧
   vcN E d [] s.f args s.keys q (s.L i) (fun r nk q L'=>resMG s i r nk q L')):CSOk P s:=by
 refine⟨λargs w=>?_,λw q S i vs hok hrd hm hca=>?_⟩
 ·have hname' : ¬ fn.name = "runtime.NumGoroutine" := by simpa using hname
  obtain⟨c,hc⟩:=Option.isSome_iff_exists.1 hb;simp[callFunc,hP,hname',hc]
 obtain⟨args,hargs,hvs⟩:=caArgs_w (q:=q) (hw i) hca;obtain⟨E,d,hE,hvc⟩:=h i hok q hrd args hargs;have:=vcN_ok hE.mix hE.T ⟨hE.Γ,hE.Δ⟩ hE.FT d (yh q w S (s.L i)) [] s.f args s.keys q (s.L i) _ vs w S none 0 hvc (λk hd hk=>by simp[yGet] at hk) hvs hm;have h2:=this.2;have h3:CallsIn Fence.wide 0 P s.f vs.toArray w _:=h2;refine(callsIn_wide.1 h3).mono ?_;rintro e w' ⟨v,x,S',q',L',nk',rfl,hx,hS,hm',_,hK⟩;obtain⟨S2,q2,g,hx2,hS2,hm2,hq2,g1,g2⟩:=resMG_ok hm' hx hK
 have hqF:∀b o v,q b o=some v→(yh q w S (s.L i)).F b:=λb o v hv=>
  ⟨on_lt hm.on hv,λk x hk e=>by rw[hm.po k x hk b e o] at hv;cases hv⟩
 have hqon:PH.on q w':=λb o v hv=>by
  have:=hm2.be.block b (hqF b o v hv);exact(World.cell?_of_block (w:=w) this).trans (hm.on b o v hv)
 let qu:PH:=λb o=>match q2 b o with|some v=>some v|none=>q b o
 have hq2u:q2.le qu:=λb o v hv=>by simp only[qu];rw[hv]
 have hqu:q.le qu:=λb o v hv=>by
  simp only[qu]
  cases h2:q2 b o with
  |none=>exact hv
  |some v2=>rw[←(hm2.on b o v2 h2),hqon b o v hv]
 have huni:∀b o v,qu b o=some v→q2 b o=some v∨q b o=some v:=λb o v hv=>by
  simp only[qu] at hv
  cases h2:q2 b o with
  |none=>rw[h2] at hv;exact .inr hv
  |some v2=>rw[h2] at hv;exact .inl hv
 refine⟨v,S2,qu,g,rfl,hx2,λk hk=>(hS2 k hk).trans (hS k hk),⟨hm2.ch,hm2.ap,λk x hk b hb o=>?_,hm2.fz,λb o v hv=>?_,hm2.be,λb o v hv hF=>?_⟩,hqu,g1,g2.mono hq2u,λh0=>by rw[hgr] at h0;cases h0⟩
 ·cases hv:qu b o with
  |none=>rfl
  |some v=>
   rcases huni b o v hv with h|h
   ·rw[hm2.po k x hk b hb o] at h;cases h
   exact(hm2.fz k x hk b hb (hqF b o v h)).elim
 ·rcases huni b o v hv with h|h
  ·exact hm2.on b o v h
  exact hqon b o v h
 rcases huni b o v hv with h|h
 ·exact hm2.gw b o v h hF
 exact h
theorem calmspec{s : CS}{fn : Func}(hP : P.funcs[s.f]? = some fn)(hname : (fn.name == "runtime.NumGoroutine") = false)(hb : fn.body.isSome = true)
  (h:∀i,s.ok i→∀q,RdsOk q (s.rds i)→∀args,caArgs q (s.args i) args→∃E d,EnvOk P E∧closed (s.res i)=true∧(∀x∈args,closed x=true)∧vcN E d [] s.f args 0 q [] (λr _ _ _=>Is (s.res i) r)):zp P s:=by
 refine⟨λargs w=>?_,λw q S i vs hok hrd hon hca=>?_⟩
 ·have hname' : ¬ fn.name = "runtime.NumGoroutine" := by simpa using hname
  obtain⟨c,hc⟩:=Option.isSome_iff_exists.1 hb;simp[callFunc,hP,hname',hc]
 have hle:q.le (phOf w):=λb o v hv=>hon b o v hv;obtain⟨args,hargs,hvs⟩:=caArgs_of (q:=phOf w) (λb o _=>rfl) hca;obtain⟨E,d,hE,hcl,hca',hvc⟩:=h i hok (phOf w) (hrd.mono hle) args hargs
 have hvs':okL S0 args vs:=by
  clear hargs hvc hca
  induction args generalizing vs with
  |nil=>cases vs with|nil=>trivial|cons _ _=>cases hvs
  |cons x r ih=>
   cases vs with
   |nil=>cases hvs
   |cons v vs=>
    refine⟨?_,ih vs hvs.2 (λy hy=>hca' y (by simp[hy]))⟩;have:=okv_S0 x (hca' x wv) hvs.1;rw[this];exact w7 x (hca' x wv)
 refine(top hE d hvs' hvc).mono ?_;rintro e w' ⟨⟨v,r,S,rfl,hx,hK⟩,hb⟩;obtain⟨ags',_,_,_,hR⟩:=mSV_ok (AsOk.nil 0) hK;have:=hR ags' (.refl _) (by assumption) S v hx;exact⟨by rw[okv_S0 _ hcl this],hb⟩
theorem zj:CSsOk P []:=λ_ _ h=>by simp[findC] at h
theorem z8{s:CS}{Δ:List CS}(h:(s.calm=true→zp P s)∧(s.calm=false→CSOk P s))(hΔ:CSsOk P Δ):CSsOk P (s::Δ):=λf t ht=>by
 unfold findC at ht;split at ht
 ·rename_i e;cases ht;exact⟨Nat.eq_of_beq_eq_true e,h⟩
 exact hΔ f t ht
theorem specs_nil:SpecsOk P []:=λ_ _ h=>by simp[findS] at h
theorem Reads.drop{q:PH}{A:Option Addr}{xs:List Value}{l:Nat}(h:Reads q A xs):Reads q (A.map (·.add l)) (xs.drop l):=by
 intro j hj;rw[List.length_drop] at hj;have:=h (l+j) ws;rw[List.getElem?_drop,←this];rcases A with _|⟨b,o,s⟩
 ·rfl
 have hx:∃v,rd q (some ⟨b,o,s⟩) (l+j)=some v:=⟨xs[l+j]' ws,by rw[this];simp⟩
 cases s with
 |none=>
  simp only[Option.map_some,Addr.add_lit,rd];congr 1;omega
 |some s=>obtain⟨v,hv⟩:=hx;simp[rd] at hv
theorem Reads.take{q:PH}{A:Option Addr}{xs:List Value}(h:Reads q A xs)(n:Nat):Reads q A (xs.take n):=by
 intro j hj;rw[List.length_take] at hj;rw[h j ws,List.getElem?_take_of_lt ws]
theorem Reads.nil{q:PH}{A:Option Addr}:Reads q A []:=λ_ h=>by simp at h
theorem Reads.cut{q:PH}{A:Option Addr}{xs:List Value}{c l n:Nat}(h:Reads q A xs)(hn:n≤c-l):Reads q (if c=l then A else A.map (·.add l)) ((xs.drop l).take n):=by
 split
 ·have:n=0:=by omega
  subst this;rw[List.take_zero];exact .nil
 exact h.drop.take n
theorem Reads.uniq{q:PH}{A:Option Addr}{xs ys:List Value}(h:Reads q A xs)(h':Reads q A ys)(hl:xs.length=ys.length):xs=ys:=by
 apply List.ext_getElem?;intro j;by_cases hj:j<xs.length
 ·rw[←h j hj,←h' j ws]
 rw[List.getElem?_eq_none ws,List.getElem?_eq_none ws]
theorem rs_both{q:PH}{A:Option Addr}{xs:List Value}{n sz:Nat}{K:List Value→Prop}(hR:Reads q A xs)(hn:xs.length=n*sz)(h:K xs):
  Ob (∃ys,ys.length=n*sz∧Reads q A ys)∧∀ys,ys.length=n*sz→Reads q A ys→K ys:=
 ⟨⟨xs,hn,hR⟩,λys hy hr=>by rw[hr.uniq hR (hy.trans hn.symm)];exact h⟩
theorem rd_nn{q:PH}{A:Option Addr}{xs:List Value}(hR:Reads q A xs)(h:0<xs.length):A≠none:=by
 intro e;subst e;have:=hR 0 h;rw[List.getElem?_eq_getElem h] at this;cases this
end
end Go.Eng
