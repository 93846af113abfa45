/- Texts that the law leans on. -/
import Derived.Test.YticmemgehllacaaGreatDoorSR5
import Derived.Test.YticmemgehllacaaGreatDoorSR3
import Derived.Test.YticmemgehllacaaGreatDoorSR4
import Derived.WalkKit
import Derived.WalkSpells
import Derived.WalkLawsBesides
import Derived.Laws.Externs
import Derived.Lib.Builder
import Derived.Lib.UnsafeStr
import Derived.Shelf.RegionOpenPlain
import Derived.Lib.Walk
import Derived.Lib.Bytealg
set_option linter.unusedVariables false
set_option linter.unusedSimpArgs false
section
namespace Go.Eng
open Go Go.RowKit
namespace Exe
noncomputable section
variable {P:Program}{S S' Sb:Pl}{fr fr':Fr}{L L':LL}{q q':PH}{w0:W0}{w w':World}{a a':Act}{n0 N:Nat}{B:Nat→Prop}{E:Env}
variable {r:Option Nat}{n:Nat}{Q:Exit→Act→World→Prop}{M M':Mm}{nk:Nat}{y:SV}
def xsb(T:Tab)(t nk:Nat)(x:SV)(M:Mm):Option (SV×Mm):=
 match (ty T t).d,x with
 | .slice e,.v (.string s)=>(match (ty T e).d,Nat.ble s.size 140737488355328,xput M nk (some (.sb e s.size (s.data.toList.map bv))) with
  |.int .u8,true,some M'=>some (.own nk,M')
  | _,_,_=>none)
 |_,_=>none
theorem hB_sb{m e k:Nat}{xs:List Value}:hB m (.sb e k xs):=λj hj=>by simp[LB.has] at hj
theorem xsb_step(hT:zG P E.T){o:Oper}{src t:Nat}{x:Operand}(hop:o.op=.convert src t x)(h1:(ty E.T src).d=.str)(hc:Cfg w0 S B nk N S q fr L a w)(hR:Rep M L)(hf:hF nk fr)(hl:hL nk L)
  (h:xsb E.T t nk (opv fr x) M=some (y,M')) (hp:putX N o.dst y fr=some fr'):Oper.wpIn (FF r) n P o a w (St w0 S B nk N (XK (nk+1) fr' M')) Q:=by
 have hxv:=zu hc.f x;unfold xsb at h;split at h;rotate_left
 ·cases h
 rename_i e s h2 hx;split at h;rotate_left
 ·cases h
 rename_i M1 h3 hsz hM;cases h;rw[hx] at hxv;have hxv:a.eval x=.string s:=hxv;have t1:P.underlying src=some .string:=by have:=(hT src (by rw[h1];simp)).d;rw[h1] at this;exact this
 have t2:P.underlying t=some (.slice e):=by have:=(hT t vJ).d;rw[h2] at this;exact this.1
 have t3:P.underlying e=some (.int .u8):=by have:=(hT e vK).d;rw[h3] at this;exact this
 have hr:=run_bytes_of_string (P:=P) w src t e s t1 t2 t3;have hge:=grownCap_ge w s.size 0 e;generalize hcap:grownCap w s.size 0 e=cap at hr hge
 have hbb:Below w.heap.size w (w.drew.alloc (.cells (bytesRow s cap) e ((bytesRow s cap).size,(bytesRow s cap).size+1))):=
  ((Below.refl _ w).drew).alloc (Nat.le_refl _) _
 refine zA (yJ hop wv) (ya (s:=convert src t (a.eval x)) wG vp) ?_;have hh:(w.drew.alloc (.cells (bytesRow s cap) e ((bytesRow s cap).size,(bytesRow s cap).size+1))).heap[w.heap.size]?=some (.cells (bytesRow s cap) e ((bytesRow s cap).size,(bytesRow s cap).size+1)):=heap_alloc_new w.drew _
 have hm:Mem w0 q (updS S nk ⟨w.heap.size,some ⟨w.heap.size,0,none⟩,s.size,cap,default⟩) ((nk,.sb e s.size (s.data.toList.map bv))::L) (w.drew.alloc (.cells (bytesRow s cap) e ((bytesRow s cap).size,(bytesRow s cap).size+1))):=by
  refine hc.m.new (noL hl) hbb ?_ λb hb=>?_
  ·simp only[zD,zc];have hsl:(s.data.toList.map bv).length=s.size:=by rw[List.length_map,Array.length_toList];rfl
   refine⟨Nat.zero_le _,trivial,trivial,hge,hsl,_,_,hh,?_⟩;rw[bytesRow,Array.toList_append,Array.toList_map];have e1:List.map (λc:UInt8=>Value.int .u8 c.toNat) s.data.toList=s.data.toList.map bv:=rfl;rw[e1,List.take_append_of_le_length (Nat.le_of_eq hsl.symm),List.take_of_length_le (Nat.le_of_eq hsl)]
  simp only[blk,zc,Option.some.injEq] at hb;omega
 obtain⟨fr1,hK',hc'⟩:=(hc.new (Nat.le_refl _) (noF hf) (noL hl) hm).put (v:=.slice (some ⟨w.heap.size,0,none⟩) s.size cap) (K:=λfr=>fr=fr') (zL hp rfl) vk;subst hK';exact⟨_,q,_,_,0,hc',rfl,hR.new hM,y8 hp (hf.mono (Nat.le_succ nk)) (hV_own (Nat.lt_succ_self nk)),(hl.mono (Nat.le_succ nk)).new (Nat.lt_succ_self nk) hB_sb⟩
theorem via_sb(hE:EnvOk P E){o:Oper}(hc:Cfg w0 S B nk N S q fr L a w)(hR:Rep M L)(hf:hF nk fr)(hl:hL nk L){k e m:Nat}{xs:List Value}(hk:getL L k=some (.sb e m xs)){fr2:Fr}(hf2:okF S fr2 a.tmps){sv:SV}
  (hcalm:∀q',Reads q' (some ⟨(S k).b,0,none⟩) xs→calmK E.T E.Γ E.Δ true q' o.op fr2 (remL L k) (λz=>z=sv)) (hy:∀x,okv S sv x→okv S y x) (hyv:hV nk y) (hp:putX N o.dst y fr=some fr') :
  Oper.wpIn (FF r) n P o a w (St w0 S B nk N (XK nk fr' M)) Q:=by
 obtain⟨_,hA,hn,hnc,hxl,cur,fz,hh,htk⟩:=hc.m.ch k _ hk;have hblk:blk S k (.sb e m xs)=some (S k).b:=rfl
 let qp:PH:=xI q (S k).b xs
 have hq0:∀o,q (S k).b o=none:=λo=>hc.m.po k _ hk _ hblk o
 have hcell:∀o v,xs[o]?=some v→w.cell? ⟨(S k).b,o,none⟩=some v:=by
  intro o v hv;rw[cell_of_heap hh,←Array.getElem?_toList];rw[←htk,List.getElem?_take] at hv;split at hv
  ·exact hv
  cases hv
 have hmr:Mem w0 qp S (remL L k) w:=by
  have h0:=hc.m.rem k;refine⟨h0.ch,h0.ap,λj lb hj b hb o=>?_,h0.fz,λb o v hv=>?_,h0.be,λb o v hv hF=>?_⟩
  ·simp only[qp,xI];rw[zM] at hj;split at hj
   ·cases hj
   rename_i hkj;rw[if_neg]
   ·exact hc.m.po j lb hj b hb o
   intro e;subst e;exact hc.m.ap k _ j lb hk hj hkj _ hblk hb
  ·simp only[qp,xI] at hv;split at hv
   ·rename_i e;subst e;exact hcell o v hv
   exact hc.m.on b o v hv
  simp only[qp,xI] at hv;split at hv
  ·rename_i e;subst e;exact(hc.m.fz k _ hk _ hblk hF).elim
  exact hc.m.gw b o v hv hF
 have hreads:Reads qp (some ⟨(S k).b,0,none⟩) xs:=λj hj=>by simp[rd,qp,xI]
 let C:World→Prop:=λw'=>Cl w0 qp S (remL L k) w w'∧w'.heap[(S k).b]?=w.heap[(S k).b]?
 obtain⟨x,z,hz,hx,hyl⟩:=calm_ok (C:=C) hE.T hE.Γ (λf s hs=>⟨(hE.Δ f s hs).1,(hE.Δ f s hs).2.1⟩) hmr.ch (λ_ h=>h.1) hf2 (hcalm qp hreads);subst hz;have hlt:(S k).b<w.heap.size:=(Array.getElem?_eq_some_iff.1 hh).1
 have hCc:∀w1 w2,C w1→Below w1.heap.size w1 w2→C w2:=λw1 w2 h1 hb=>by
  have hl1:(S k).b<w1.heap.size:=by
   have:=h1.2;rw[hh] at this;exact(Array.getElem?_eq_some_iff.1 this).1
  exact⟨Cl.below hmr.ch h1.1 hb,(hb.block _ hl1).trans h1.2⟩
 refine wpIn_calm (calm_nd (hcalm qp hreads)) hCc hyl ⟨hmr.cl,rfl⟩ λw' hw'=>?_
 have hcl:Cl w0 q S L w w':=by
  refine⟨λj lb hj b hb=>?_,λb o v hv=>?_,hw'.1.be⟩
  ·by_cases e:k=j
   ·subst e;rw[hk] at hj;cases hj;cases hb;exact hw'.2
   exact hw'.1.ch j lb (by rw[zM,if_neg e];exact hj) b hb
  refine hw'.1.on b o v ?_;simp only[qp,xI];split
  ·rename_i e;subst e;rw[hq0] at hv;cases hv
  exact hv
 obtain⟨fr1,hK',hc'⟩:=(hc.mem (hc.m.of_cl hcl)).put (K:=λfr=>fr=fr') (zL hp rfl) (hy x hx);subst hK';exact⟨S,q,_,L,0,hc',rfl,hR,y8 hp hf hyv,hl⟩
theorem via_val(hE:EnvOk P E){o:Oper}(hc:Cfg w0 S B nk N S q fr L a w)(hR:Rep M L)(hf:hF nk fr)(hl:hL nk L){fr2:Fr}(hf2:okF S fr2 a.tmps){sv:SV}
  (hcalm:calmK E.T E.Γ E.Δ true q o.op fr2 L (λz=>z=sv)) (hy:∀x,okv S sv x→okv S y x) (hyv:hV nk y) (hp:putX N o.dst y fr=some fr') :
  Oper.wpIn (FF r) n P o a w (St w0 S B nk N (XK nk fr' M)) Q:=by
 obtain⟨x,z,hz,hx,hyl⟩:=calm_ok (C:=λw'=>Cl w0 q S L w w') hE.T hE.Γ (λf s hs=>⟨(hE.Δ f s hs).1,(hE.Δ f s hs).2.1⟩) hc.m.ch (λ_ h=>h) hf2 hcalm;subst hz;refine wpIn_calm (calm_nd hcalm) (λw1 w2 h1 hb=>Cl.below hc.m.ch h1 hb) hyl hc.m.cl λw' hw'=>?_;obtain⟨fr1,hK',hc'⟩:=(hc.mem (hc.m.of_cl hw')).put (K:=λfr=>fr=fr') (zL hp rfl) (hy x hx);subst hK';exact⟨S,q,_,L,0,hc',rfl,hR,y8 hp hf hyv,hl⟩
def xfz(T:Tab)(t:Nat)(x:SV)(M:Mm):Option (SV×Mm):=
 match (ty T t).d,x with
 | .slice e,.own k=>(match (ty T e).d,M.get k with
  | .int .u8,some (.row e' sz n cs)=>(match Nat.beq sz 1,Nat.blt 0 n,rowVL cs with
   |true,true,some xs=>(match xput M k (some (.sb e' n xs)) with|some M'=>some (.own k,M')|none=>none)
   | _,_,_=>none)
  | _,_=>none)
 |_,_=>none
theorem xfz_step(hT:zG P E.T){o:Oper}{src t:Nat}{x:Operand}(hop:o.op=.convert src t x)(h0:src=t)(hc:Cfg w0 S B nk N S q fr L a w)(hR:Rep M L)(hf:hF nk fr)(hl:hL nk L)
  (h:xfz E.T t (opv fr x) M=some (y,M')) (hp:putX N o.dst y fr=some fr'):hV nk y∧Oper.wpIn (FF r) n P o a w (St w0 S B nk N (XK nk fr' M')) Q:=by
 subst h0;have hxv:=zu hc.f x;unfold xfz at h;split at h;rotate_left
 ·cases h
 rename_i e k h2 hx;split at h;rotate_left
 ·cases h
 rename_i e' sz m cs h3 hk;split at h;rotate_left
 ·cases h
 rename_i xs h4 h5 h6;split at h;rotate_left
 ·cases h
 rename_i M1 hM;cases h;have h4:=Nat.eq_of_beq_eq_true h4;subst h4;have h5:0<m:=Nat.le_of_ble_eq_true h5;rw[←hR k] at hk;rw[hx] at hxv;have hxv:a.eval x=.slice (S k).A (S k).n (S k).c:=hxv;have t2:P.underlying src=some (.slice e):=by have:=(hT src vJ).d;rw[h2] at this;exact this.1
 have t3:P.underlying e=some (.int .u8):=by have:=(hT e vK).d;rw[h3] at this;exact this
 have hkn:hV nk (.own k):=hV_own (hl.key hk);obtain⟨us,⟨⟨g1,hown⟩,g3,_,g5,g6⟩,hok⟩:=hc.m.ch k _ hk;have hus:=xH h6 hok;subst hus;rcases hown with ⟨_,hn0⟩|⟨g,cap,cur,hv,hg,hh,hcap,hcm,hcs,htake⟩
 ·omega
 injection hv with hA e2 e3
 have hb0:(S k).A=some ⟨(S k).b,0,none⟩:=by
  rcases g6 with g6|g6
  ·rw[g6] at hA;cases hA
  exact g6
 have hgb:g=(S k).b:=by
  rw[hb0] at hA;injection hA with hA;injection hA with hA _ _;exact hA.symm
 subst hgb;have hlt:(S k).b<w.heap.size:=(Array.getElem?_eq_some_iff.1 hh).1;have hsh:w.shape? (S k).b=some (e',cur.size):=by simp[World.shape?,hh]
 have hr:(convert src src (.slice (S k).A (S k).n (S k).c)).run P w=.ok (.slice (S k).A (S k).n (S k).c) (w.freeze ⟨(S k).b,cur.size,none⟩ 1):=by
  rw[hb0];simp[convert,run_underlying t2,run_underlying t3,markStringish,hsh]
 have hh2:∃fz,(w.freeze ⟨(S k).b,cur.size,none⟩ 1).heap[(S k).b]?=some (.cells cur e' fz):=by
  unfold World.freeze;rw[if_neg ww];simp only[Array.getElem?_modify,if_true,hh];exact⟨_,rfl⟩
 have hm:Mem w0 q S (setL L k (.sb e' m us)) (w.freeze ⟨(S k).b,cur.size,none⟩ 1):=by
  refine hc.m.turn hk (b:=(S k).b) (by simp[blk,hb0]) (grownBy_freeze w _ _ hlt) ?_ rfl;obtain⟨fz,hh2⟩:=hh2;exact⟨Nat.zero_le _,hb0,g3,by omega,by simpa using g1,cur,fz,hh2,by simpa using htake⟩
 refine⟨hkn,zA (yJ hop wv) (ya (s:=convert src src (a.eval x)) wG vp) ?_⟩;obtain⟨fr1,hK',hc'⟩:=(hc.turn hk wv hm).put (v:=.slice (S k).A (S k).n (S k).c) (K:=λfr=>fr=fr') (zL hp rfl) vm;subst hK';exact⟨S,q,_,_,0,hc',rfl,hR.set hk hM,y8 hp hf hkn,hl.set hB_sb⟩
def xne(op:BinOp):Option SV:=match op with|.eql=>some (.bb false)|.neq=>some (.bb true)|_=>none
def isNilS(x:SV):Bool:=match x with|.v (.slice none _ _)=>true|_=>false
def xnil(op:BinOp)(d:Ty)(x y:SV)(M:Mg):Option SV:=
 match xne op with
 |none=>none
 | some r=>(match d,isNilS y,x with
  | .slice _,true,.own k=>(match M k with
   |some (.row _ _ n _)=>(match Nat.beq n 0 with|false=>some r|true=>none)
   |some (.sb _ _ _)=>some r
   | _=>none)
  | .slice _,true,.vw k _ _ m _=>(match M k,Nat.beq m 0 with
   |some (.row _ _ n _),false=>(match Nat.beq n 0 with|false=>some r|true=>none)
   |some (.sb _ _ _),false=>some r
   | _,_=>none)
  | _,_,_=>none)
def xsl(op:BinOp)(a b:ByteArray):Option Bool:=
 match op with
 |.lss=>some (Op.bytesLess a.data.toList b.data.toList)
 |.geq=>some (!Op.bytesLess a.data.toList b.data.toList)
 |_=>none
theorem xsl_step{o:Oper}{op:BinOp}{t t2:Nat}{x u:Operand}{c d:ByteArray}{b:Bool}(hop:o.op=.binOp op t x u t2)(hc:Cfg w0 S B nk N S q fr L a w)(hR:Rep M L)(hf:hF nk fr)(hl:hL nk L)
  (hx:opv fr x=.v (.string c)) (hu:opv fr u=.v (.string d)) (h:xsl op c d=some b) (hp:putX N o.dst (.b (b=true) (instDecidableEqBool b true)) fr=some fr'):Oper.wpIn (FF r) n P o a w (St w0 S B nk N (XK nk fr' M)) Q:=by
 have ex:=zu hc.f x;have eu:=zu hc.f u;rw[hx] at ex;rw[hu] at eu;have ex:a.eval x=.string c:=ex;have eu:a.eval u=.string d:=eu
 have hr:(binOp op t (.string c) (.string d)).run P w=.ok (.bool b) w:=by
  unfold xsl at h
  split at h<;>first
   |cases h
   |skip
  all_goals simp only[binOp,Op.stringOp,ByteArray.toList_eq];rfl
 have hrun:(execOp a.eval o).run P w=.ok (.value (.bool b)) w:=by
  refine ya (s:=do eqGuard op t x u (a.eval x) (a.eval u);binOp op t (a.eval x) (a.eval u)) wG ?_;rw[ex,eu];exact bin_run (eqGuard_at_string ..) hr
 refine zA (yJ hop wv) hrun ?_;obtain⟨fr1,hK',hc'⟩:=hc.put (v:=.bool b) (K:=λfr=>fr=fr') (zL hp rfl) (by cases b<;>rfl);subst hK';exact⟨S,q,_,L,0,hc',rfl,hR,y8 hp hf (λk hk=>by simp[SV.has] at hk),hl⟩
def xbinR(op:BinOp)(d:Ty)(x y:SV)(s:Option SV)(M:Mg):Option SV:=
 match x,y with
 |.v (.string a),.v (.string b)=>(match xsl op a b with|some b=>some (.b (b=true) (instDecidableEqBool b true))|none=>none)
 |_,_=>(match s with|some x=>xnil op d x y M|none=>none)
def tmpV(fr:Fr)(x:Operand):Option SV:=match x with|.tmp s=>some (get fr s)|_=>none
def bytesV(xs:List Value):Option SV:=match xbytes xs with|some bs=>some (.v (.string ⟨bs.toArray⟩))|none=>none
def allInt(l:List Value):Bool:=List.rec (motive:=λ_=>Bool) true (λx _ ih=>match x with|.int _ _=>ih|_=>false) l
theorem allInt_ok:∀{l:List Value},allInt l=true→∀x∈l,x.oneCell'=true
  |[],_,x,hx=>by cases hx
  |y::r,h,x,hx=>by
    cases y<;>first
      | (rcases List.mem_cons.1 hx with rfl | hx
         · rfl
         · exact allInt_ok (l:=r) h x hx)
      |cases h
def wq(T:Tab)(t nk:Nat)(M:Mm):Option (SV×Mm):=
 match (ty T t).d with
 | .arr n e=>(match (ty T e).d,Nat.beq (ty T t).zero.length n,Nat.blt 0 n,Nat.ble n 140737488355328,allInt (ty T t).zero with
  |.int .u8,true,true,true,true=>(match xput M nk (some (.row t 1 n (valL (ty T t).zero))) with|some M'=>some (.lp nk 0,M')|none=>none)
  | _,_,_,_,_=>xalloc T t nk M)
 |_=>xalloc T t nk M
theorem xallocB_step(hT:zG P E.T){o:Oper}{t:Nat}(hop:o.op=.alloc t)(hc:Cfg w0 S B nk N S q fr L a w)(hR:Rep M L)(hf:hF nk fr)(hl:hL nk L)
  (h:wq E.T t nk M=some (y,M')) (hp:putX N o.dst y fr=some fr'):Oper.wpIn (FF r) n P o a w (St w0 S B nk N (XK (nk+1) fr' M')) Q:=by
 unfold wq at h;split at h;rotate_left
 ·exact xalloc_step hT hop hc hR hf hl h hp
 rename_i m e hd;split at h;rotate_left
 ·exact xalloc_step hT hop hc hR hf hl h hp
 rename_i h1 h2 h3 h4 h5;split at h;rotate_left
 ·cases h
 rename_i M1 hM;cases h;have h2:=Nat.eq_of_beq_eq_true h2;have h3:0<m:=Nat.le_of_ble_eq_true h3;have h4:=Nat.le_of_ble_eq_true h4;have h0:(ty E.T t).d≠.other:=by rw[hd];simp
 refine zA (yJ hop wv) (ya (s:=Instr.alloc t true (.tuple #[])) wG (run_alloc hT h0 w)) ?_;have hh:(w.alloc (.cells (ty E.T t).zero.toArray t)).heap[w.heap.size]?=some (.cells (ty E.T t).zero.toArray t (0,0)):=heap_alloc_new w _
 have hm:Mem w0 q (updS S nk ⟨w.heap.size,some ⟨w.heap.size,0,none⟩,m,m,default⟩) ((nk,.row t 1 m (valL (ty E.T t).zero))::L) (w.alloc (.cells (ty E.T t).zero.toArray t)):=by
  refine hc.m.new (noL hl) ((Below.refl _ w).alloc (Nat.le_refl _) _) ?_ λb hb=>?_
  ·simp only[zD,zc];refine⟨(ty E.T t).zero,⟨⟨by rw[h2,Nat.mul_one],.inr ⟨w.heap.size,m,_,rfl,Nat.zero_le _,hh,Nat.le_refl _,?_,by simp[h2],?_⟩⟩,by first|trivial|rfl,by omega,allInt_ok h5,by simp⟩,yv _⟩
   ·simp only[maxLen];omega
   rw[Nat.mul_one,List.take_of_length_le];simp[h2]
  simp only[blk,zc,Option.map_some,Option.some.injEq] at hb;omega
 obtain⟨fr1,hK',hc'⟩:=(hc.new (Nat.le_refl _) (noF hf) (noL hl) hm).put (v:=.pointer (some ⟨w.heap.size,0,none⟩)) (K:=λfr=>fr=fr') (zL hp rfl) vk;subst hK';exact⟨_,q,_,_,0,hc',rfl,hR.new hM,y8 hp (hf.mono (Nat.le_succ nk)) (hV_lp (Nat.lt_succ_self nk)),(hl.mono (Nat.le_succ nk)).new (Nat.lt_succ_self nk) (hB.row (.valL _))⟩
def xarS(M:Mg)(k l n:Nat):Option SV:=
 match M k with
 |some (.row _ sz m _)=>(match Nat.beq sz 1,Nat.beq m n with|true,true=>some (.vw k l 1 (n-l) false)|_,_=>none)
 |_=>none
def xrd(T:Tab)(op:Op)(fr:Fr)(M:Mg):Option SV:=
 match op with
 | .call ⟨.builtin .len,xs,ts⟩=>(match xs.toList,ts.toList with
  | [.tmp s],[t]=>(match (ty T t).d,get fr s with
   |.slice _,.own k=>(match M k with|some (.sb _ n _)=>some (.v (.int .i64 n))|_=>none)
   | _,_=>none)
  | _,_=>none)
 |.binOp op t u x _=>xbinR op (ty T t).d (opv fr u) (opv fr x) (tmpV fr u) M
 | .indexAddr t (.tmp s) x=>(match (ty T t).d,get fr s,opv fr x with
  | .slice e,.own k,.v (.int _ i)=>(match M k with
   |some (.sb _ n _)=>(match Nat.beq (ty T e).sz 1,inI i n with|true,true=>some (.lp k i.toNat)|_,_=>none)
   | _=>none)
  | .slice e,.vw k lo sz m _,.v (.int _ i)=>(match M k with
   |some (.sb _ n _)=>(match Nat.beq (ty T e).sz 1,Nat.beq sz 1,inI i m with|true,true,true=>some (.lp k (lo+i.toNat))|_,_,_=>none)
   | _=>none)
  | _,_,_=>none)
 | .slice t (.tmp s) lo hi none=>(match (ty T t).d,get fr s with
  | .arr n e,.lp k 0=>(match hi,M k with
   | none,some (.row _ _ _ _)=>(match Nat.beq (ty T e).sz 1,xbnd (optv fr lo) 0,Nat.blt 0 n with
    |true,some l,true=>(match in3 0 l n with|true=>xarS M k l.toNat n|false=>none)
    | _,_,_=>none)
   | _,_=>none)
  | .slice e,.own k=>(match M k with
   | some (.sb _ n _)=>(match Nat.beq (ty T e).sz 1,xbnd (optv fr lo) 0,xbnd (optv fr hi) n with
    |true,some l,some h=>(match in3 l h n with|true=>some (.vw k l.toNat 1 (h.toNat-l.toNat) false)|false=>none)
    | _,_,_=>none)
   | _=>none)
  | _,_=>none)
 | .load t (.tmp s)=>(match get fr s with
  | .lp k o=>(match M k with
   | some (.sb _ n xs)=>(match (ty T t).d,(ty T t).flat,nth xs o with
    |.int _,[.int k2],some (.int k3 v)=>(match Nat.beq (kc k2) (kc k3) with|true=>some (.v (.int k3 v))|false=>none)
    | _,_,_=>none)
   | _=>none)
  | _=>none)
 | .convert src dst (.tmp s)=>(match (ty T src).d,(ty T dst).d,get fr s with
  | .slice e,.str,.own k=>(match (ty T e).d,M k with
   |.int .u8,some (.sb _ n xs)=>bytesV xs
   | _,_=>none)
  | .slice e,.str,.vw k lo sz m _=>(match (ty T e).d,M k with
   |.int .u8,some (.sb _ n xs)=>(match Nat.beq sz 1,Nat.ble (lo+m) n with|true,true=>bytesV (vwC xs lo 1 m)|_,_=>none)
   | _,_=>none)
  | _,_,_=>none)
 |.build t ps=>(match (ty T t).d,ps.toList with|.arr _ _,[]=>some (.agg (valL (ty T t).zero))|_,_=>none)
 |_=>none
theorem kc_inj:∀{a b:IntKind},kc a=kc b→a=b:=by intro a b;cases a<;>cases b<;>first|(intro _;rfl)|(intro h;simp[kc] at h)
theorem okF_at{S:Pl}{tm:Array Value}{s:Nat}(h:okF S fr tm):okF S ((s,.v (tm.getD s undef))::fr) tm:=λt=>by
 rw[zH];split
 ·rename_i e;subst e;rfl
 exact h t
theorem opv_at{s:Nat}{v:SV}:opv ((s,v)::fr) (.tmp s)=v:=by simp[opv,zH]
theorem opv_off{s k:Nat}{v:SV}{x:Operand}{k':IntKind}{i:Int}(hs:get fr s=.own k)(h:opv fr x=.v (.int k' i)):opv ((s,v)::fr) x=.v (.int k' i):=by
 cases x with
 |tmp t=>
  simp only[opv,zH] at h ⊢;split
  ·rename_i e;subst e;rw[hs] at h;cases h
  exact h
 |const u=>cases u<;>exact h
 |global g=>exact h
 |func f=>exact h
theorem opv_offV{s:Nat}{v:SV}{x:Operand}{u:Value}(hs:∀u',get fr s≠.v u')(h:opv fr x=.v u):opv ((s,v)::fr) x=.v u:=by
 cases x with
 |tmp t=>
  simp only[opv,zH] at h ⊢;split
  ·rename_i e;subst e;exact(hs _ h).elim
  exact h
 |const u=>cases u<;>exact h
 |global g=>exact h
 |func f=>exact h
theorem nil_step(hE:EnvOk P E){o:Oper}(hc:Cfg w0 S B nk N S q fr L a w)(hR:Rep M L)(hf:hF nk fr)(hl:hL nk L){op:BinOp}{t t2 s e m c:Nat}{x:Operand}{A:Option Addr}
  (hop:o.op=.binOp op t (.tmp s) x t2) (hs:∀u',get fr s≠.v u') (hd:(ty E.T t).d=.slice e) (hx:isNilS (opv fr x)=true) (hv:a.tmps.getD s undef=.slice A m c) (hA:A≠none) (h:xne op=some y) (hp:putX N o.dst y fr=some fr') :
  Oper.wpIn (FF r) n P o a w (St w0 S B nk N (XK nk fr' M)) Q:=by
 unfold isNilS at hx;split at hx;rotate_left
 ·cases hx
 rename_i n1 c1 hx1;have hx1:=opv_offV (s:=s) (v:=.v (a.tmps.getD s undef)) hs hx1;unfold xne at h;split at h
 ·cases h;refine via_val hE hc hR hf hl (okF_at (s:=s) hc.f) (sv:=.b (A=none) (decNone A)) ?_ (λx hx=>?_) (λk hk=>by simp[SV.has] at hk) hp
  ·rw[hop];dsimp only[calmK];rw[hx1,opv_at,hv,hd];rfl
  have hx:x=.bool (@decide (A=none) (decNone A)):=hx;show x=.bool false;rw[hx,@decide_eq_false _ (decNone A) hA]
 ·cases h;refine via_val hE hc hR hf hl (okF_at (s:=s) hc.f) (sv:=.b (¬A=none) (@instDecidableNot _ (decNone A))) ?_ (λx hx=>?_) (λk hk=>by simp[SV.has] at hk) hp
  ·rw[hop];dsimp only[calmK];rw[hx1,opv_at,hv,hd];rfl
  have hx:x=.bool (@decide (¬A=none) (@instDecidableNot _ (decNone A))):=hx;show x=.bool true;rw[hx,@decide_eq_true _ (@instDecidableNot _ (decNone A)) hA]
 cases h
theorem xbnd_off{s k:Nat}{v:SV}{x:Option Operand}{d i:Int}(hs:get fr s=.own k)(h:xbnd (optv fr x) d=some i):xbnd (optv ((s,v)::fr) x) d=some i:=by
 cases x with
 |none=>exact h
 |some x=>
  unfold optv at h ⊢;unfold xbnd at h;split at h
  ·rename_i e;cases e
  ·rename_i k' i' e;cases h;have e:=Option.some.inj e;show xbnd (some (opv ((s,v)::fr) x)) d=some _;rw[opv_off hs e];rfl
  cases h
theorem opv_off'{s k lo sz m:Nat}{ex:Bool}{v:SV}{x:Operand}{k':IntKind}{i:Int}(hs:get fr s=.vw k lo sz m ex)(h:opv fr x=.v (.int k' i)):opv ((s,v)::fr) x=.v (.int k' i):=by
 cases x with
 |tmp t=>
  simp only[opv,zH] at h ⊢;split
  ·rename_i e;subst e;rw[hs] at h;cases h
  exact h
 |const u=>cases u<;>exact h
 |global g=>exact h
 |func f=>exact h
theorem bytesV_ok{xs:List Value}(h:bytesV xs=some y):∃bs,xbytes xs=some bs∧y=.v (.string ⟨bs.toArray⟩):=by
 unfold bytesV at h;split at h
 ·rename_i bs hb;cases h;exact⟨bs,hb,rfl⟩
 cases h
theorem nth_eq{α}:∀(l:List α) (i:Nat),nth l i=l[i]?
 |[],i=>by cases i<;>rfl
 |x::r,0=>rfl
 |x::r,i+1=>by rw[List.getElem?_cons_succ];exact nth_eq r i
theorem xbz_step(hE:EnvOk P E){o:Oper}{t n' e:Nat}{ps:Array (Nat×Operand)}(hop:o.op=.build t ps)(hd:(ty E.T t).d=.arr n' e)(hps:ps.toList=[])(hc:Cfg w0 S B nk N S q fr L a w)(hR:Rep M L)(hf:hF nk fr)(hl:hL nk L)
  (hy:hV nk (.agg (valL (ty E.T t).zero))) (hp:putX N o.dst (.agg (valL (ty E.T t).zero)) fr=some fr'):Oper.wpIn (FF r) n P o a w (St w0 S B nk N (XK nk fr' M)) Q:=by
 have ht:=hE.T t wD;obtain⟨hu,hs⟩:yz P E.T t (.arr n' e):=by rw[←hd];exact ht.d
 obtain⟨i,z,hi,_,_,hz,hzc⟩:=ht.i;obtain⟨_,i2,hi2,_⟩:=hs;have hps':ps=#[]:=by apply Array.ext';simpa using hps
 have hz':z.cells=(ty E.T t).zero.toArray:=by rw[←hzc]
 have hrun:(execOp a.eval o).run P w=.ok (.value (.agg (ty E.T t).zero.toArray)) w:=by
  refine ya (s:=Instr.build t (ps.map λ(i,x)=>(i,a.eval x))) wG ?_;subst hps';simp only[Instr.build,Sem.run_bind,zeroValue,typeInfo,run_program,Result.andThen_ok,hi,Sem.run_pure,hz,run_underlying hu,Go.sizeOf,hi2];simp[Instr.fill,hz']
 refine zA (yJ hop wv) hrun ?_;obtain⟨fr1,hK',hc'⟩:=hc.put (v:=.agg (ty E.T t).zero.toArray) (K:=λfr=>fr=fr') (zL hp rfl) ⟨_,rfl,yv _⟩;subst hK';exact⟨S,q,_,L,0,hc',rfl,hR,y8 hp hf hy,hl⟩
theorem xrd_step(hE:EnvOk P E){o:Oper}(hc:Cfg w0 S B nk N S q fr L a w)(hR:Rep M L)(hf:hF nk fr)(hl:hL nk L)
  (h:xrd E.T o.op fr M.get=some y) (hy:hV nk y) (hp:putX N o.dst y fr=some fr'):Oper.wpIn (FF r) n P o a w (St w0 S B nk N (XK nk fr' M)) Q:=by
 have ownv:∀{s k:Nat},get fr s=.own k→a.tmps.getD s undef=.slice (S k).A (S k).n (S k).c:=λ{s k} e=>by
  have:=hc.f s;rw[e] at this;exact this
 have sbv:∀{s k e m:Nat}{xs:List Value},get fr s=.own k→getL L k=some (.sb e m xs)→a.tmps.getD s undef=.slice (some ⟨(S k).b,0,none⟩) m (S k).c∧m≤(S k).c∧xs.length=m:=λ{s k e m xs} e1 hk=>by
  obtain⟨_,hA,hn,hnc,hxl,_⟩:=hc.m.ch k _ hk;rw[ownv e1,hA,hn];exact⟨rfl,hnc,hxl⟩
 have sbw:∀{s k e m lo sz m':Nat}{ex:Bool}{xs:List Value},get fr s=.vw k lo sz m' ex→getL L k=some (.sb e m xs)→∃A c,a.tmps.getD s undef=.slice A m' c∧m'≤c∧(m'≠0→A=some ⟨(S k).b,lo*sz,none⟩):=λ{s k e m lo sz m' ex xs} e1 hk=>by
  obtain⟨_,hA,_⟩:=hc.m.ch k _ hk;have:=hc.f s;rw[e1] at this;obtain⟨A,c,h1,h2,h3,_⟩:=this;refine⟨A,c,h1,h2,λhne=>?_⟩;rcases h3 with h3|h3
  ·exact absurd h3 hne
  rw[h3,hA];show some (Addr.add _ _)=_;rw[Addr.add_lit,Nat.zero_add]
 generalize hop:o.op=op at h;unfold xrd at h;split at h
 ·rename_i xs ts;split at h;rotate_left
  ·cases h
  rename_i s t e1 e2;split at h;rotate_left
  ·cases h
  rename_i e k hd hs;split at h;rotate_left
  ·cases h
  rename_i e' m' ys hk;cases h;rw[←hR k] at hk;obtain⟨hv,hnc,hxl⟩:=sbv hs hk;refine via_sb hE hc hR hf hl hk (okF_at (s:=s) hc.f) (sv:=.v (.int .i64 m')) (λq' _=>?_) (λx hx=>hx) hy hp;rw[hop];simp only[calmK,callK,e1,e2,opvs,opv_at,builtK,hd,hv,lenK]
 ·rename_i op t u0 x t2;unfold xbinR at h;split at h
  ·rename_i c d hx hu;split at h
   ·rename_i b hb;cases h;exact xsl_step hop hc hR hf hl hx hu hb hp
   cases h
  split at h;rotate_left
  ·cases h
  rename_i z hz;unfold tmpV at hz;split at hz;rotate_left
  ·cases hz
  rename_i s hno;cases hz
  have row:∀{k e sz n:Nat}{cs:List SV},getL L k=some (.row e sz n cs)→(S k).n=n∧(n≠0→(S k).A≠none):=λ{k e sz n cs} hk=>by
   obtain⟨xs,⟨⟨_,h⟩,hn,_⟩,_⟩:=hc.m.ch k _ hk;refine⟨hn,λhne=>?_⟩;rcases h with ⟨_,h⟩|⟨g,cap,cur,h,_⟩
   ·exact absurd h hne
   intro e;rw[e] at h;cases h
  unfold xnil at h;split at h
  ·cases h
  rename_i r0 hne0;split at h
  ·rename_i e k hd hx hs;split at h
   ·rename_i e2 sz m cs hk;split at h
    ·rename_i hm;have hm:m≠0:=λe=>by rw[e] at hm;cases hm
     rw[←hR k] at hk;exact nil_step hE hc hR hf hl hop (λu e=>by rw[hs] at e;cases e) hd hx (ownv hs) ((row hk).2 hm) (hne0.trans h) hp
    cases h
   ·rename_i e2 m xs hk;rw[←hR k] at hk;exact nil_step hE hc hR hf hl hop (λu e=>by rw[hs] at e;cases e) hd hx (ownv hs) (by rw[(hc.m.ch k _ hk).2.1];simp) (hne0.trans h) hp
   cases h
  ·rename_i e k lo sz0 m0 ex hd hx hs
   have vw:(S k).A≠none→m0≠0→∃A c,a.tmps.getD s undef=.slice A m0 c∧A≠none:=λh1 h2=>by
    have:=hc.f s;rw[hs] at this;obtain⟨A,c,e1,_,e2,_⟩:=this;refine⟨A,c,e1,?_⟩;rcases e2 with e2|e2
    ·exact absurd e2 h2
    rw[e2];intro e
    cases hA:(S k).A with
    |none=>exact h1 hA
    |some a0=>rw[hA] at e;cases e
   split at h
   ·rename_i e2 sz m cs hk hm;have hm:m0≠0:=λe=>by rw[e] at hm;cases hm
    split at h
    ·rename_i hm2;have hm2:m≠0:=λe=>by rw[e] at hm2;cases hm2
     rw[←hR k] at hk;obtain⟨A,c,h1,h2⟩:=vw ((row hk).2 hm2) hm;exact nil_step hE hc hR hf hl hop (λu e=>by rw[hs] at e;cases e) hd hx h1 h2 (hne0.trans h) hp
    cases h
   ·rename_i e2 m xs hk hm;have hm:m0≠0:=λe=>by rw[e] at hm;cases hm
    rw[←hR k] at hk;obtain⟨A,c,h1,h2⟩:=vw (by rw[(hc.m.ch k _ hk).2.1];simp) hm;exact nil_step hE hc hR hf hl hop (λu e=>by rw[hs] at e;cases e) hd hx h1 h2 (hne0.trans h) hp
   cases h
  cases h
 ·rename_i t s x;split at h
  ·rename_i e k ik i hd hs hi;split at h;rotate_left
   ·cases h
   rename_i e' m' ys hk;split at h;rotate_left
   ·cases h
   rename_i hz hin;cases h;have hz:=Nat.eq_of_beq_eq_true hz;have hin:=inI_ok hin;rw[←hR k] at hk;obtain⟨hv,hnc,hxl⟩:=sbv hs hk;refine via_sb hE hc hR hf hl hk (okF_at (s:=s) hc.f) (sv:=.el (some ⟨(S k).b,0,none⟩) i.toNat) (λq' _=>?_) (λx hx=>?_) hy hp
   ·rw[hop];dsimp only[calmK];rw[opv_at,opv_off hs hi,hv];unfold idxK;rw[hd];refine⟨⟨hin.1,hin.2,by simp⟩,?_⟩;rw[elK_eq,hz];simp only[Nat.mul_one]
   obtain⟨a0,ha,hx⟩:=hx;cases ha;subst hx;show Value.pointer (some (Addr.add _ _))=_;rw[Addr.add_lit,Nat.zero_add]
  ·rename_i e k lo sz m ex ik i hd hs hi;split at h;rotate_left
   ·cases h
   rename_i e' m' ys hk;split at h;rotate_left
   ·cases h
   rename_i hz hz2 hin;cases h;have hz:=Nat.eq_of_beq_eq_true hz;have hz2:=Nat.eq_of_beq_eq_true hz2;subst hz2;have hin:=inI_ok hin;rw[←hR k] at hk;obtain⟨A,c,hv,hnc,hA⟩:=sbw hs hk;have hA:=hA ws;subst hA;refine via_sb hE hc hR hf hl hk (okF_at (s:=s) hc.f) (sv:=.el (some ⟨(S k).b,lo,none⟩) i.toNat) (λq' _=>?_) (λx hx=>?_) hy hp
   ·rw[hop];dsimp only[calmK];rw[opv_at,opv_off' hs hi,hv];unfold idxK;rw[hd];refine⟨⟨hin.1,hin.2,by simp⟩,?_⟩;rw[elK_eq,hz];simp only[Nat.mul_one]
   obtain⟨a0,ha,hx⟩:=hx;cases ha;subst hx;show Value.pointer (some (Addr.add _ _))=_;rw[Addr.add_lit]
  cases h
 ·rename_i t s lo hi;split at h
  ·rename_i m e k hd hs;split at h;rotate_left
   ·cases h
   rename_i e2 sz m2 cs hk;split at h;rotate_left
   ·cases h
   rename_i l hz h1 hpos;split at h;rotate_left
   ·cases h
   rename_i h3;unfold xarS at h;rw[hk] at h;dsimp only at h;split at h;rotate_left
   ·cases h
   rename_i hs1 hm1;cases h;have hs1:=Nat.eq_of_beq_eq_true hs1;have hm1:=Nat.eq_of_beq_eq_true hm1;subst hs1 hm1;have hz:=Nat.eq_of_beq_eq_true hz;have hpos:0<m2:=Nat.le_of_ble_eq_true hpos;have h3:=wc h3;rw[←hR k] at hk;obtain⟨xs,⟨⟨_,hown⟩,hn,_,_,hA⟩,_⟩:=hc.m.ch k _ hk
   have hA:(S k).A=some ⟨(S k).b,0,none⟩:=by
    rcases hA with hA|hA
    ·rw[hA] at hown;rcases hown with ⟨_,h⟩|⟨g,cap,cur,h,_⟩
     ·omega
     cases h
    exact hA
   have hv:a.tmps.getD s undef=.pointer (some ⟨(S k).b,0,none⟩):=by
    have:=hc.f s;rw[hs] at this;exact this
   obtain⟨ht,_,j,hj,hsz,_⟩:yz P E.T t (.arr m2 e):=by rw[←hd];exact(hE.T t wD).d
   have hlo:(lo=none∧l=0)∨∃u k',lo=some u∧a.eval u=.int k' l:=by
    cases lo with
    |none=>cases h1;exact .inl ⟨rfl,rfl⟩
    |some u=>
     right;unfold xbnd optv at h1;dsimp only at h1;split at h1
     ·rename_i e;cases e
     ·rename_i k' i' e;cases h1;have e:=Option.some.inj e;have:=zu hc.f u;rw[e] at this;exact⟨u,k',rfl,this⟩
     cases h1
   have hrun:(execOp a.eval o).run P w=.ok (.value (.slice (some (if m2=l.toNat then⟨(S k).b,0,none⟩ else Addr.add ⟨(S k).b,0,none⟩ (l.toNat*1))) (m2-l.toNat) (m2-l.toNat))) w:=by
    have b1:=λk' code=>run_bnd (P:=P) k' l m2 code h3.2.1 h3.2.2 w;refine ya (s:=Instr.sliceAt t (a.eval (.tmp s)) (lo.map a.eval) none none) (by simp only[execOp,hop];rfl) ?_;have hv':a.eval (.tmp s)=.pointer (some ⟨(S k).b,0,none⟩):=hv;rw[hv'];rcases hlo with ⟨rfl,rfl⟩|⟨u,k',rfl,hu⟩
    ·simp[Instr.sliceAt,Instr.sliceBounds,run_underlying ht,Instr.sureAddr,sizeOf,typeInfo,hj,hsz,hz]
    simp[Instr.sliceAt,Instr.sliceBounds,run_underlying ht,Instr.sureAddr,sizeOf,typeInfo,hj,hsz,hz,hu,b1]
   refine zA (yJ hop wv) hrun ?_
   obtain ⟨fr1,hK',hc'⟩:=hc.put (v:=.slice (some (if m2=l.toNat then ⟨(S k).b,0,none⟩ else Addr.add ⟨(S k).b,0,none⟩ (l.toNat * 1))) (m2-l.toNat) (m2-l.toNat)) (K:=fun fr=>fr=fr') (zL hp rfl) ⟨_,_,rfl,Nat.le_refl _,(by
    by_cases e0:m2-l.toNat=0
    ·exact .inl e0
    right;rw[if_neg ws,hA]
    rfl),fun e=>by cases e⟩
   subst hK';exact⟨S,q,_,L,0,hc',rfl,hR,y8 hp hf hy,hl⟩
  rotate_left
  ·cases h
  rename_i e k hd hs;split at h;rotate_left
  ·cases h
  rename_i e' m' ys hk;split at h;rotate_left
  ·cases h
  rename_i l hh hz h1 h2;split at h;rotate_left
  ·cases h
  rename_i h3;cases h;have hz:=Nat.eq_of_beq_eq_true hz;have h3:=wc h3;rw[←hR k] at hk;obtain⟨hv,hnc,hxl⟩:=sbv hs hk;refine via_sb hE hc hR hf hl hk (okF_at (s:=s) hc.f) (sv:=.v (.slice (if (S k).c=l.toNat then some ⟨(S k).b,0,none⟩ else(some ⟨(S k).b,0,none⟩:Option Addr).map (·.add l.toNat)) (hh.toNat-l.toNat) ((S k).c-l.toNat))) (λq' _=>?_) (λx hx=>?_) hy hp
  ·rw[hop];dsimp only[calmK,sliceOpK,optv];rw[opv_at,hv];unfold slcK;rw[hd];dsimp only;refine yP (xbnd_off hs h1) (yP (xbnd_off hs h2) ⟨⟨h3.1,h3.2.1,by omega⟩,?_⟩);rw[elK_eq,hz,Nat.mul_one];intro m hm;rw[hm]
  have hx:x=.slice _ _ _:=hx;refine⟨_,_,hx,by omega,?_,λe=>by cases e⟩;by_cases e:hh.toNat-l.toNat=0
  ·exact .inl e
  right;have hA:(S k).A=some ⟨(S k).b,0,none⟩:=(hc.m.ch k _ hk).2.1;rw[if_neg ws,hA,Nat.mul_one]
 ·rename_i t s;split at h;rotate_left
  ·cases h
  rename_i k j hs;split at h;rotate_left
  ·cases h
  rename_i e' m' ys hk;split at h;rotate_left
  ·cases h
  rename_i k1 k2 k3 v h1 h2 h3;split at h;rotate_left
  ·cases h
  rename_i hkc;cases h;have hkc:=kc_inj (Nat.eq_of_beq_eq_true hkc);subst hkc;rw[←hR k] at hk;rw[nth_eq] at h3
  have hpv:a.tmps.getD s undef=.pointer (some ⟨(S k).b,j,none⟩):=by
   have:=hc.f s;rw[hs] at this;exact this
  refine via_sb hE hc hR hf hl hk (okF_at (s:=s) hc.f) (sv:=.v (.int k2 v)) (λq' hq'=>?_) (λx hx=>hx) hy hp
  have hcl:rd q' (some ⟨(S k).b,j,none⟩) 0=some (.int k2 v):=by
   have hj:j<ys.length:=by
    rcases Nat.lt_or_ge j ys.length with h|h
    ·exact h
    rw[List.getElem?_eq_none h] at h3;cases h3
   rw[←h3,←hq' j hj];simp[rd]
  rw[hop];show loadK _ _ _ _ _ _;rw[opv_at,hpv];unfold loadK;generalize hty:ty E.T t=tt at h1 h2;rcases tt with ⟨d,sz,x1,x2,fl,x3⟩;dsimp only at h1 h2;subst h1 h2;dsimp only[loadK1,ldK];refine⟨⟨v,hcl⟩,λx hx=>?_⟩;rw[hcl] at hx;cases hx;rfl
 ·rename_i src dst s;split at h;rotate_left
  ·rename_i e k lo sz m ex h1 h2 hs;split at h;rotate_left
   ·cases h
   rename_i e' m' ys h3 hk;split at h;rotate_left
   ·cases h
   rename_i hz hle;have hz:=Nat.eq_of_beq_eq_true hz;subst hz;have hle:=Nat.le_of_ble_eq_true hle;obtain⟨bs,hbs,hyv⟩:=bytesV_ok h;rw[←hR k] at hk;obtain⟨A,c,hv,hnc,hA⟩:=sbw hs hk;have hxl:ys.length=m':=(hc.m.ch k _ hk).2.2.2.2.1;have hlen:(vwC ys lo 1 m).length=m:=by simp only[vwC,List.length_take,List.length_drop];omega
   refine via_sb hE hc hR hf hl hk (okF_at (s:=s) hc.f) (sv:=y) (λq' hq'=>?_) (λx hx=>hx) hy hp
   have hq2:Reads q' A (vwC ys lo 1 m):=by
    by_cases e:m=0
    ·intro j hj;omega
    rw[hA e];have:=reads_vw (lo:=lo) (sz:=1) (m:=m) hq'
    rw [show (some (⟨(S k).b,0,none⟩:Addr)).map (·.add (lo * 1))=some ⟨(S k).b,lo * 1,none⟩ from by
     show some (Addr.add _ _)=_
     rw [Addr.add_lit,Nat.zero_add]] at this
    exact this
   rw[hop];dsimp only[calmK];rw[opv_at,hv];unfold convK;rw[h1,h2];dsimp only;rw[h3];dsimp only[sliceK];refine⟨⟨_,by rw[hlen,Nat.mul_one],hq2⟩,λzs hz hrz=>?_⟩;have:zs=vwC ys lo 1 m:=hrz.uniq hq2 (by rw[hz,hlen,Nat.mul_one]);subst this;exact sl_bytes (K:=λz=>z=y) hbs hyv.symm
  ·cases h
  rename_i e k h1 h2 hs;split at h;rotate_left
  ·cases h
  rename_i e' m' ys h3 hk;obtain⟨bs,hbs,hyv⟩:=bytesV_ok h;rw[←hR k] at hk;obtain⟨hv,hnc,hxl⟩:=sbv hs hk;refine via_sb hE hc hR hf hl hk (okF_at (s:=s) hc.f) (sv:=y) (λq' hq'=>?_) (λx hx=>hx) hy hp;rw[hop];dsimp only[calmK];rw[opv_at,hv];unfold convK;rw[h1,h2];dsimp only;rw[h3];dsimp only[sliceK];refine⟨⟨ys,by rw[hxl,Nat.mul_one],hq'⟩,λzs hz hrz=>?_⟩;have:zs=ys:=hrz.uniq hq' (by rw[hz,hxl,Nat.mul_one]);subst this;exact sl_bytes (K:=λz=>z=y) hbs hyv.symm
 ·rename_i t ps;split at h
  ·rename_i n' e hd hps;cases h;exact xbz_step hE hop hd hps hc hR hf hl hy hp
  cases h
 cases h
def zy(T:Tab)(op:Op)(fr:Fr)(M:Mg):Option SV:=match ym T op fr M with|some y=>some y|none=>xrd T op fr M
theorem xcalm2_step(hE:EnvOk P E){o:Oper}(hc:Cfg w0 S B nk N S q fr L a w)(hR:Rep M L)(hf:hF nk fr)(hl:hL nk L)
  (h:zy E.T o.op fr M.get=some y) (hy:hV nk y) (hp:putX N o.dst y fr=some fr'):Oper.wpIn (FF r) n P o a w (St w0 S B nk N (XK nk fr' M)) Q:=by
 unfold zy at h;split at h
 ·rename_i z hz;cases h;exact xcalm_step hE hc hR hf hl hz hy hp
 exact xrd_step hE hc hR hf hl h hy hp
end
end Exe
end Go.Eng
end
section
namespace Go.Eng
open Go Go.RowKit
namespace Exe
noncomputable section
abbrev XH:=List SV→Nat→Mm→Option (SV×Nat×Mm)
abbrev Yx:=List (Nat×XH)
def yxGet(Y:Yx)(k:Nat):Option XH:=List.rec (motive:=λ_=>Option XH) none (λp _ ih=>match p with|(j,h)=>match Nat.beq j k with|true=>some h|false=>ih) Y
theorem yxGet_c{j k:Nat}{h:XH}{r:Yx}:yxGet ((j,h)::r) k=match Nat.beq j k with|true=>some h|false=>yxGet r k:=rfl
abbrev XI:=Yx→Nat→XH
structure XE where
 E:Env
 Z:Zt
 ext:Tr (List SV→Option SV)
 prim:Tr XH
def nb(x:SV):SV:=match x with|.b p d=>(match @decide p d with|true=>.bb true|false=>.bb false)|x=>x
def we(nk:Nat)(x:Option (SV×Mm)):Option (SV×Nat×Mm):=match x with|some (y,M')=>some (y,nk+1,M')|none=>none
def liftU(nk:Nat)(x:Option Mm):Option (SV×Nat×Mm):=match x with|some M'=>some (.v undef,nk,M')|none=>none
def xck(nk:Nat)(x:Option (SV×Nat×Mm)):Option (SV×Nat×Mm):=
 match x with
 |some (y,nk',M')=>(match Nat.ble nk nk',R.ltK nk' y with|true,true=>some (y,nk',M')|_,_=>none)
 |none=>none
def ye(nk:Nat)(M:Mm)(x:Option SV):Option (SV×Nat×Mm):=match x with|some y=>(match R.ltK nk y with|true=>some (nb y,nk,M)|false=>none)|none=>none
def xcall2(X:XE)(xi:XI)(Y:Yx)(nk:Nat)(fr:Fr)(M:Mm)(f:Nat)(xs:List SV):Option (SV×Nat×Mm):=
 match X.ext.get f with
 |some g=>ye nk M (g xs)
 |none=>xck nk (xi Y f xs nk M)
def xapp2(X:XE)(nk:Nat)(fr:Fr)(M:Mm)(xs:List Operand)(ts:List Nat):Option (SV×Nat×Mm):=
 match xs,ts with
 | [s,x],[t,t']=>(match Nat.beq t t' with
  |true=>we nk (xappM X.E.T t nk (opv fr s) (opv fr x) M)
  | false=>we nk (xappSM X.E.T t t' nk (opv fr s) (opv fr x) M))
 |_,_=>none
def xcopy2(X:XE)(nk:Nat)(fr:Fr)(M:Mm)(xs:List Operand)(ts:List Nat):Option (SV×Nat×Mm):=
 match xs,ts with
 |[d,s],[t,t']=>(match xcopy X.E.T t (opv fr d) (opv fr s) M with|some (y,M')=>some (y,nk,M')|none=>none)
 |_,_=>none
def xfn(X:XE)(xi:XI)(Y:Yx)(nk:Nat)(fr:Fr)(M:Mm)(g:SV)(xs:List SV):Option (SV×Nat×Mm):=
 match g with
 |.fn f cs=>xck nk (xi Y f (catQ xs cs) nk M)
 |.yl k=>(match yxGet Y k with|some h=>xck nk (h xs nk M)|none=>none)
 |_=>none
def y5(X:XE)(nk:Nat)(fr:Fr)(M:Mm)(s t:Nat)(x:Operand):Option (SV×Nat×Mm):=
 match (ty X.E.T s).d,(ty X.E.T t).d with
 |.str,.slice _=>we nk (xsb X.E.T t nk (opv fr x) M)
 |.slice _,.slice _=>(match Nat.beq s t,xfz X.E.T t (opv fr x) M with|true,some (y,M')=>some (y,nk,M')|_,_=>none)
 |_,_=>ye nk M (zy X.E.T (.convert s t x) fr M.get)
def xop(X:XE)(xi:XI)(Y:Yx)(nk:Nat)(fr:Fr)(M:Mm)(op:Op):Option (SV×Nat×Mm):=
 match op with
 |.alloc t=>we nk (wq X.E.T t nk M)
 |.box t x=>we nk (xboxM X.E.T t nk (opv fr x) M)
 |.buildSlice t m ps=>we nk (x7 X.E.T t m nk fr ps.toList M)
 |.makeSlice t l c=>we nk (xmakeA X.E.T t nk (opv fr l) (opv fr c) M)
 |.store t p x=>liftU nk (xstore X.E.T t (opv fr p) (opv fr x) M)
 |.makeMap _ rs=>we nk (xmakeMap rs nk M)
 |.mapUpdate t m k x=>liftU nk (wl X.E.T t (opv fr m) (opv fr k) (opv fr x) M)
 |.insert t m k x=>liftU nk (wl X.E.T t (opv fr m) (opv fr k) (opv fr x) M)
 |.lookup t x i ok=>ye nk M (wp X.E.T X.Z t (opv fr x) (opv fr i) ok M.get)
 |.call ⟨.builtin .append,xs,ts⟩=>xapp2 X nk fr M xs.toList ts.toList
 |.call ⟨.builtin .copy,xs,ts⟩=>xcopy2 X nk fr M xs.toList ts.toList
 |.call ⟨.value (.func f),xs,_⟩=>xcall2 X xi Y nk fr M f (opvs fr xs.toList)
 |.call ⟨.value (.tmp t),xs,_⟩=>xfn X xi Y nk fr M (get fr t) (opvs fr xs.toList)
 |.convert s t x=>y5 X nk fr M s t x
 |op=>ye nk M (zy X.E.T op fr M.get)
def xguard(all:List Oper)(g:Option (Nat×Bool))(fr:Fr):Option Bool:=
 match g with
 |none=>some true
 | some (j,want)=>(match dstOf all j with
  |none=>none
  | some t=>(match get fr t with
   |.bb b=>(match b,want with|true,true=>some true|false,false=>some true|_,_=>some false)
   |.v (.tuple _)=>some false
   | _=>none))
def yj(X:XE)(xi:XI)(Y:Yx)(all:List Oper)(o:Oper)(nk:Nat)(fr:Fr)(M:Mm):Option (SV×Nat×Mm):=
 match xguard all o.guard fr with
 |none=>none
 |some false=>some (.v undef,nk,M)
 |some true=>xop X xi Y nk fr M o.op
def xops(X:XE)(xi:XI)(Y:Yx)(N:Nat)(all:List Oper)(l:List Oper):Nat→Fr→Mm→Option (Nat×Fr×Mm):=
 List.rec (motive:=λ_=>Nat→Fr→Mm→Option (Nat×Fr×Mm)) (λnk fr M=>some (nk,fr,M))
  (fun o _ ih nk fr M=>match yj X xi Y all o nk fr M with
   |none=>none
   | some (y,nk',M')=>(match putX N o.dst y fr with
    |none=>none
    | some fr'=>ih nk' fr' M')) l
structure Tc where
 nk:Nat
 fr:Fr
 M:Mm
 y:SV
def xtrace(X:XE)(xi:XI)(Y:Yx)(N:Nat)(all:List Oper)(l:List Oper):Nat→Fr→Mm→Option (List Tc×Nat×Fr×Mm):=
 List.rec (motive:=λ_=>Nat→Fr→Mm→Option (List Tc×Nat×Fr×Mm)) (λnk fr M=>some ([],nk,fr,M))
  (fun o _ ih nk fr M=>match yj X xi Y all o nk fr M with
   |none=>none
   | some (y,nk',M')=>(match putX N o.dst y fr,Nat.ble nk nk',R.ltK nk' y with
    | some fr',true,true=>(match ih nk' fr' M' with
     |none=>none
     | some (l,z)=>some (⟨nk,fr,M,y⟩::l,z))
    | _,_,_=>none)) l
def isEff(X:XE)(op:Op):Bool:=
 match op with
 |.convert s t _=>(match (ty X.E.T s).d,(ty X.E.T t).d with|.str,.slice _=>true|.slice _,.slice _=>true|_,_=>false)
 |.alloc _|.box _ _|.buildSlice _ _ _|.makeSlice _ _ _|.store _ _ _|.makeMap _ _|.mapUpdate _ _ _ _|.insert _ _ _ _=>true
 |.call ⟨.builtin .append,_,_⟩=>true
 |.call ⟨.builtin .copy,_,_⟩=>true
 |.call ⟨.builtin _,_,_⟩=>false
 |.call ⟨.value (.func f),_,_⟩=>(match X.ext.get f with|some _=>false|none=>true)
 |.call _=>true
 |_=>false
def isPure(op:Op):Bool:=
 match op with
 |.binOp op _ _ _ _=>(match op with|.eql=>false|.neq=>false|_=>true)
 |.move _|.assign _|.pick _ _ _|.unOp _ _ _|.extract _ _|.field _ _ _|.fieldAddr _ _ _|.nilCheck _|.index _ _ _|.build _ _|.makeFunc _ _ _=>true
 |_=>false
def bit(m i:Nat):Bool:=Nat.testBit m i
def befs1(bs:List Nat)(es:List Edge):Nat:=
 List.rec (motive:=fun _=>Nat) 0 (fun e _ ih=>match Region.binds .any e with
  |true=>(match nth bs e.on with|some m=>Nat.lor (Nat.lor (2^e.on) m) ih|none=>ih)
  | false=>ih) es
def befs(ops:List Oper):List Nat→List Nat:=
 List.rec (motive:=λ_=>List Nat→List Nat) (λbs=>bs) (λo _ ih bs=>ih (catQ bs [befs1 bs o.after.toList])) ops
mutual
def svEq:SV→SV→Bool
 |.v x,.v y=>vEq x y
 |.bb a,.bb b=>a==b
 |.lp k o,.lp k' o'=>Nat.beq k k'&&Nat.beq o o'
 |.own k,.own k'=>Nat.beq k k'
 |.mr k,.mr k'=>Nat.beq k k'
 |.yl k,.yl k'=>Nat.beq k k'
 |.vw k a b c d,.vw k' a' b' c' d'=>Nat.beq k k'&&Nat.beq a a'&&Nat.beq b b'&&Nat.beq c c'&&d==d'
 |.agg l,.agg l'=>svEqL l l'
 |.tup l,.tup l'=>svEqL l l'
 |.fn f l,.fn f' l'=>Nat.beq f f'&&svEqL l l'
 |.bad,.bad=>true
 |_,_=>false
def svEqL:List SV→List SV→Bool
 |[],[]=>true
 |x::r,y::s=>svEq x y&&svEqL r s
 |_,_=>false
end
def opsL(o:Oper):List Nat:=(o.op.operands.toList.filterMap λ| .tmp t=>some t|_=>none)
def x9(all:List Oper)(o:Oper):List Nat:=match o.guard with|none=>[]|some (j,_)=>(match dstOf all j with|some t=>[t]|none=>[])
def readersOk(X:XE)(d:Nat)(all:List Oper):List Oper→Bool
 |[]=>true
 |o::r=>((opsL o++x9 all o).all (λt=>!(Nat.beq t d))||isEff X o.op)&&readersOk X d all r
def srcOk(X:XE)(o:Oper):List Oper→Bool
 |[]=>true
 |o'::r=>(!(isEff X o'.op)||(match o'.dst with|some d=>(opsL o).all (λt=>!(Nat.beq t d))|none=>true))&&srcOk X o r
def yC(X:XE)(all:List Oper)(o:Oper):Bool:=
 match o.op,o.guard,o.dst with
 |.alloc t,none,some d=>(match (ty X.E.T t).d with|.arr _ _=>false|.other=>false|_=>readersOk X d all all)
 |.buildSlice _ _ _,none,some d=>readersOk X d all all&&srcOk X o all
 |_,_,_=>false
def xsame(X:XE)(xi:XI)(Y:Yx)(all:List Oper)(o:Oper)(tc:Tc)(nk:Nat)(M:Mm):Bool:=
 match R.ltK nk tc.y with
 | true=>(match isPure o.op with
  |true=>true
  | false=>(match yj X xi Y all o nk tc.fr M with
   |some (y,_,_)=>svEq y tc.y
   | none=>false))
 |false=>false
def passed(X:XE)(all:List Oper)(m e:Nat):List Oper→Nat→Bool
 |[],_=>false
 |o::r,j=>(match isEff X o.op,yC X all o,Nat.blt e j,bit m j with|true,false,true,true=>true|_,_,_,_=>passed X all m e r (j+1))
def xT(X:XE)(all:List Oper)(bs:List Nat)(i e:Nat)(oe:Oper):Bool:=
 match yC X all oe with
 |false=>false
 |true=>(match nth bs i with|some m=>!(passed X all m e all 0)|none=>true)
def xpair(X:XE)(xi:XI)(Y:Yx)(all:List Oper)(bs:List Nat)(ea:Bool)(i e:Nat)(oi:Oper)(ti te:Tc)(nke:Nat)(Me:Mm):Bool:=
 match Nat.blt e i with
 | true=>(match nth bs i with
  |some m=>(match bit m e,ea with|true,false=>true|_,_=>xsame X xi Y all oi ti te.nk te.M)
  | none=>false)
 | false=>(match nth bs e with
  |some m=>(match bit m i with|true=>true|false=>xsame X xi Y all oi ti nke Me)
  | none=>false)
def xpairs(X:XE)(xi:XI)(Y:Yx)(all:List Oper)(bs:List Nat)(i:Nat)(oi:Oper)(ti:Tc)(nkF:Nat)(MF:Mm):List Oper→List Tc→Nat→Bool
 |[],[],_=>true
 | oe::r,te::s,e=>(match isEff X oe.op with
  | true=>(match s with
   |tn::_=>xpair X xi Y all bs (xT X all bs i e oe) i e oi ti te tn.nk tn.M
   | []=>xpair X xi Y all bs (xT X all bs i e oe) i e oi ti te nkF MF)
  | false=>true) && xpairs X xi Y all bs i oi ti nkF MF r s (e+1)
 |_,_,_=>false
def xeffs(X:XE)(bs:List Nat)(m:Nat):List Oper→Nat→Bool
 |[],_=>true
 | oe::r,e=>(match isEff X oe.op with
  |true=>Nat.blt e m==false||bit ((nth bs m).getD 0) e
  | false=>true) && xeffs X bs m r (e+1)
def ldKey(fr:Fr)(o:Oper):Option Nat:=
 match o.op,o.guard with
 |.load _ p,none=>(match opv fr p with|.lp k _=>some k|_=>none)
 |_,_=>none
def effKeeps(k:Nat)(o:Oper)(t:Tc):Bool:=
 match Nat.beq k t.nk with
 |true=>false
 | false=>(match o.op with
  |.alloc _=>true
  |.box _ _=>true
  |.store _ p _=>(match opv t.fr p with|.lp k2 _=>(match Nat.beq k k2 with|true=>false|false=>true)|_=>false)
  | _=>false)
def allKeep(X:XE)(bs:List Nat)(i k:Nat):List Oper→List Tc→Nat→Bool
 |[],[],_=>true
 |o::r,t::s,e=>(match isEff X o.op with|true=>(match Nat.blt i e&&bit ((nth bs e).getD 0) i with|true=>true|false=>effKeeps k o t)|false=>true)&&allKeep X bs i k r s (e+1)
 |_,_,_=>false
def ldSafe(X:XE)(bs:List Nat)(i:Nat)(all:List Oper)(tr:List Tc)(o:Oper)(t:Tc):Bool:=
 match ldKey t.fr o,tr with
 |some k,t0::_=>R.ltK t0.nk t.y&&allKeep X bs i k all tr 0
 |_,_=>false
def xchk(X:XE)(xi:XI)(Y:Yx)(all:List Oper)(bs:List Nat)(tr:List Tc)(nkF:Nat)(MF:Mm):List Oper→List Tc→Nat→Bool
 |[],[],_=>true
 | o::r,t::s,i=>(match isEff X o.op with
  |true=>(match yC X all o with|true=>true|false=>xeffs X bs i all 0)
  | false=>(ldSafe X bs i all tr o t || xpairs X xi Y all bs i o t nkF MF all tr 0)) && xchk X xi Y all bs tr nkF MF r s (i+1)
 |_,_,_=>false
def slotOk(bs:List Nat)(i:Nat)(t:Nat):List Oper→Nat→Bool
 |[],_=>true
 | o::r,j=>(match o.dst with
  | some d=>(match Nat.beq d t with
   | true=>(match Nat.beq i j,Nat.blt j i with
    |true,_=>true
    |false,true=>bit ((nth bs i).getD 0) j
    | false,false=>bit ((nth bs j).getD 0) i)
   | false=>true)
  | none=>true) && slotOk bs i t r (j+1)
def dstOk(i:Nat)(d:Nat):List Oper→Nat→Bool
 |[],_=>true
 | o::r,j=>(match o.dst with
  |some d'=>(match Nat.beq d' d with|true=>Nat.beq i j|false=>true)
  | none=>true) && dstOk i d r (j+1)
def slotsOk(bs:List Nat)(all:List Oper):List Oper→Nat→Bool
 |[],_=>true
 |o::r,i=>(opsL o++x9 all o).all (λt=>slotOk bs i t all 0)&&(match o.dst with|some d=>dstOk i d all 0|none=>true)&&slotsOk bs all r (i+1)
def edgesOk(all:List Oper):List Oper→Nat→Bool
 |[],_=>true
 |o::r,i=>o.after.toList.all (λe=>!Region.binds .any e||Nat.blt e.on i)&&edgesOk all r (i+1)
def regOk(ops:Array Oper):Bool:=edgesOk ops.toList ops.toList 0&&slotsOk (befs ops.toList []) ops.toList ops.toList 0&&noDefer ops&&Region.noSelect ops
def xdraw(X:XE)(xi:XI)(Y:Yx)(N:Nat)(ops:List Oper)(nk:Nat)(fr:Fr)(M:Mm):Option (Nat×Fr×Mm):=
 match xtrace X xi Y N ops ops nk fr M with
 |none=>none
 |some (tr,nk',fr',M')=>(match xchk X xi Y ops (befs ops []) tr nk' M' ops tr 0 with|true=>some (nk',fr',M')|false=>none)
abbrev XR:=Option (Ex×Nat×Fr×Mm)
def xputs(ps:List Nat)(N:Nat):List SV→Fr→Option Fr:=
 List.rec (motive:=λ_=>List SV→Fr→Option Fr) (λxs fr=>match xs with|[]=>some fr|_::_=>none)
  (fun p _ ih xs fr=>match xs with
   |x::xs=>(match Nat.blt p N with|true=>ih xs ((p,x)::fr)|false=>none)
   | []=>none) ps
def xround(xa xb:Nat→Fr→Mm→XR)(N nk:Nat)(ps:List Nat)(fr:Fr):XH:=λargs nk1 M=>
 match M.get nk with
 | some (.loop .ready none)=>(match xputs ps N args fr with
  |none=>none
  | some fr1=>(match xa nk1 fr1 M with
   | some (.norm,nk2,fr2,M2)=>(match M2.get nk with
    | some (.loop .ready none)=>(match xput M2 nk (some (.loop .busy none)) with
     |none=>none
     | some M3=>(match xb nk2 fr2 M3 with
      | some (ex,nk3,_,M4)=>(match M4.get nk with
       | some (.loop .busy none)=>(match ex with
        |.norm=>(match xput M4 nk (some (.loop .ready none)) with|some M5=>some (.bb true,nk3,M5)|none=>none)
        | ex=>(match xput M4 nk (some (.loop .done (some ex))) with | some M5=>some (.bb false,nk3,M5) | none=>none))
       | _=>none)
      | none=>none))
    | _=>none)
   | _=>none))
 |_=>none
def xdone(nk:Nat)(fr:Fr)(nk1:Nat)(M:Mm):XR:=
 let out (ex:Ex):XR:=(match xput M nk none with|some M1=>(match xput M1 (nk+1) none with|some M2=>some (ex,nk1,fr,M2)|none=>none)|none=>none)
 match M.get nk with
 |some (.loop .ready none)=>out .norm
 |some (.loop .done (some .ret))=>out .ret
 |some (.loop .done (some (.exit n)))=>out (.exit n)
 |some (.loop .done (some (.goto n)))=>out (.goto n)
 |_=>none
def xnorm(fr:Fr):Nat→Fr:=List.rec (motive:=λ_=>Nat→Fr) (λ_=>[])
 (λp _ ih seen=>match p with|(t,x)=>(match bit seen t with|true=>ih seen|false=>(t,x)::ih (Nat.lor seen (2^t)))) fr
def xloop(body:Nat→Fr→Mm→XR)(f:Nat):Nat→Fr→Mm→XR:=
 Nat.rec (motive:=λ_=>Nat→Fr→Mm→XR) (λ_ _ _=>none)
  (fun _ ih nk fr M=>match body nk (xnorm fr 0) M with
   |some (.norm,nk',fr',M')=>ih nk' fr' M'
   | r=>r) f
def xgo(xi:XI)(N:Nat)(Y:Yx)(va vb:Option Nat→Nat→Fr→Mm→XR)(ps:Array Nat)(it:Nat)(cs:List SV)(nk:Nat)(fr:Fr)(M1:Mm):XR:=
 match xput M1 nk (some (.loop .ready none)) with
 |none=>none
 | some M2=>(match xi ((nk,xround (va (some nk)) (vb (some nk)) N nk ps.toList fr)::Y) it (.yl nk::cs) (nk+2) M2 with
  |some (_,nk1,M3)=>(match Nat.ble nk nk1 with|true=>xdone nk fr nk1 M3|false=>none)
  | none=>none)
def xrange(xi:XI)(N:Nat)(Y:Yx)(va vb:Option Nat→Nat→Fr→Mm→XR)(g:Operand)(ps:Array Nat)(ro:Option Nat)(nk:Nat)(fr:Fr)(M:Mm):XR:=
 match opv fr g with
 | .fn it cs=>(match ro with
  |none=>(match xput M (nk+1) (some .dfr) with|some M1=>xgo xi N Y va vb ps it cs nk fr M1|none=>none)
  | some l0=>(match M.get l0 with | some (.loop _ _)=>xgo xi N Y va vb ps it cs nk fr M | _=>none))
 |_=>none
def xC(X:XE)(xi:XI)(lf N:Nat)(Y:Yx)(c:Code):Option Nat→Nat→Fr→Mm→XR:=
 Code.rec (motive:=λ_=>Option Nat→Nat→Fr→Mm→XR)
  (λ_ nk fr M=>some (.norm,nk,fr,M))
  (fun _ ops draw _ nk fr M=>match draw with
   |false=>(match xops X xi Y N ops.toList ops.toList nk fr M with|some (nk',fr',M')=>some (.norm,nk',fr',M')|none=>none)
   | true=>(match xdraw X xi Y N ops.toList nk fr M with | some (nk',fr',M')=>some (.norm,nk',fr',M') | none=>none))
  (fun _ _ va vb ro nk fr M=>match va ro nk fr M with
   |some (.norm,nk',fr',M')=>vb ro nk' fr' M'
   | r=>r)
  (fun c _ _ vx vy ro nk fr M=>match opv fr c with
   |.bb true=>vx ro nk fr M
   |.bb false=>vy ro nk fr M
   | _=>none)
  (fun id _ vc ro nk fr M=>match vc ro nk fr M with
   |some (.exit n,nk',fr',M')=>(match Nat.beq n id with|true=>some (.norm,nk',fr',M')|false=>some (.exit n,nk',fr',M'))
   | r=>r)
  (λ_ vb ro nk fr M=>xloop (vb ro) lf nk fr M)
  (λg ps _ _ va vb=>xrange xi N Y va vb g ps)
  (λid _ nk fr M=>some (.exit id,nk,fr,M))
  (fun _ vc ro nk fr M=>match vc ro nk fr M with
   |some (.goto _,_,_,_)=>none
   | r=>r)
  (λ_ _ nk fr M=>some (.norm,nk,fr,M))
  (λl _ nk fr M=>some (.goto l,nk,fr,M))
  (λ_ nk fr M=>some (.ret,nk,fr,M))
  (λ_ _ _ _ _=>none)
  c
def xy(c:Code):Bool:=
 match c with
 |.region _ ops draw=>(match draw with|true=>regOk ops|false=>true)
 |.seq a b=>xy a&&xy b
 |.cond _ a b=>xy a&&xy b
 |.block _ a=>xy a
 |.loop a=>xy a
 |.rangeFunc _ _ a b=>xy a&&xy b
 |.scope a=>xy a
 |_=>true
def xres(T:Tab)(rs:List ResultVar)(fr:Fr)(M:Mm):Option (List SV):=
 List.rec (motive:=λ_=>Option (List SV)) (some [])
  (fun v _ ih=>match (match v with | .tmp t=>some (get fr t) | .cell t ty=>xload T M.get ty (get fr t)) with
   |some x=>(match ih with|some l=>some (x::l)|none=>none)
   | none=>none) rs
def xN(X:XE)(lf:Nat)(d:Nat):XI:=Nat.rec (motive:=λ_=>XI) (λ_ _ _ _ _=>none)
 (fun _ ih Y f args nk M=>match X.prim.get f with
  |some p=>p args nk M
  | none=>(match X.E.FT.get f with
   |none=>none
   | some fn=>(match fn.body with
    |none=>none
    | some c=>(match Nat.ble args.length fn.ntmps with
     |false=>none
     | true=>(match xC X ih lf fn.ntmps Y c none nk (argF args 0) M with
      | some (ex,nk',fr',M')=>(match (match ex with | .norm=>true | .ret=>true | _=>false) with
       | true=>(match xres X.E.T fn.results.toList fr' M' with
        |some l=>some (oneOr l,nk',M')
        | none=>none)
       | false=>none)
      | none=>none))))) d
end
end Exe
end Go.Eng
end
section
namespace Go.Eng
open Go Go.RowKit
namespace Exe
noncomputable section
variable {P:Program}{S S' Sb:Pl}{fr fr':Fr}{L L':LL}{q q':PH}{w0:W0}{w w':World}{a a':Act}{n0 N:Nat}{B:Nat→Prop}{X:XE}{xi:XI}{Yx':Yx}
variable {r:Option Nat}{n:Nat}{Q:Exit→Act→World→Prop}{M M':Mm}{nk nk':Nat}{y:SV}
def YRel(Yx':Yx)(Y:Ye):Prop:=∀k hx,yxGet Yx' k=some hx→∃h,yGet Y k=some h∧∀args nk q L M r nk' M' (K:SV→Nat→PH→LL→Prop),k+2≤nk→Rep M L→hL nk L→hS nk args →
 hx args nk M=some (r,nk',M')→(∀q' L',Rep M' L'→hL nk' L'→K r nk' q' L')→h args nk q L K
def XInl(xi:XI):Inl:=λY f args nk q L K=>∃Yx' M r nk' M',YRel Yx' Y∧Rep M L∧hL nk L∧hS nk args∧xi Yx' f args nk M=some (r,nk',M')∧∀q' L',Rep M' L'→hL nk' L'→K r nk' q' L'
def ExtOk(P:Program)(T:Tr (List SV→Option SV)):Prop:=∀f g,T.get f=some g→∀(S:Pl) args vs y,okL S args vs→g args=some y→∃v,okv S y v∧((∀w,(callFunc f vs.toArray).run P w=.ok (.value v) w) ∨
 ((∀args w,(callFunc f args).run P w=.ok (.enter f args) w)∧∀w,Calls P f vs.toArray w fun e w'=>e=.returned v∧Below w.heap.size w w'))
structure XOk (P:Program) (X:XE):Prop where
 e:EnvOk P X.E
 z:ZOk P X.Z
 x:ExtOk P X.ext
theorem ltKR{b:Nat}{x:SV}(h:R.ltK b x=true):hV b x:=by rw[R.ltK_eq] at h;exact hV_of h
theorem nb_ok{x:SV}{v:Value}(h:okv S x v):okv S (nb x) v:=by
 cases x with
 |b p d=>
  have h:v=.bool (@decide p d):=h;subst h;unfold nb;dsimp only
  cases d with
  |isTrue hp=>rfl
  |isFalse hp=>rfl
 |_=>exact h
theorem nb_h{m:Nat}{x:SV}(h:hV m x):hV m (nb x):=by
 cases x with
 |b p d=>
  intro k hk;unfold nb at hk;dsimp only at hk;split at hk<;>simp[SV.has] at hk
 |_=>exact h
theorem putX_nb{dst:Option Nat}{fr1:Fr}(h:putX N dst (nb y) fr=some fr1):∃fr2,putX N dst y fr=some fr2∧∀(S:Pl) tm,okF S fr2 tm→okF S fr1 tm:=by
 unfold putX at h ⊢;split at h
 ·cases h;exact⟨_,rfl,λ_ _ h=>h⟩
 rename_i d;split at h
 ·rename_i e;cases h;refine⟨_,rfl,λS tm hf t=>?_⟩;have:=hf t;rw[zH] at this ⊢;split
  ·rename_i e2;rw[if_pos e2] at this;exact nb_ok this
  rename_i e2;rw[if_neg e2] at this;exact this
 cases h
theorem XK.nb{o:Oper}{dst:Option Nat}{fr1:Fr}(hp:putX N dst (nb y) fr=some fr1)(hf:hF nk fr1)(hw:∀fr2,putX N dst y fr=some fr2→Oper.wpIn (FF r) n P o a w (St w0 S B nk N (XK nk fr2 M)) Q):
  Oper.wpIn (FF r) n P o a w (St w0 S B nk N (XK nk fr1 M)) Q:=by
 obtain⟨fr2,h2,h3⟩:=putX_nb hp;refine Oper.wpIn_mono ?_ (hw fr2 h2);rintro a w ⟨S',q',fr',L',k',hc,rfl,g1,g2,g3⟩;exact⟨S',q',fr1,L',k',hc.frame (h3 _ _ hc.f),rfl,g1,hf,g3⟩
theorem liftC_step{o:Oper}{x:Option SV}(h:ye nk M x=some (y,nk',M'))(hf:hF nk fr)(hp:putX N o.dst y fr=some fr')
  (hw:∀z fr2,x=some z→hV nk z→putX N o.dst z fr=some fr2→Oper.wpIn (FF r) n P o a w (St w0 S B nk N (XK nk fr2 M)) Q):nk'=nk∧hV nk' y∧Oper.wpIn (FF r) n P o a w (St w0 S B nk N (XK nk' fr' M')) Q:=by
 unfold ye at h;split at h
 ·rename_i z;split at h
  ·rename_i hz;cases h;have hz:=ltKR hz;refine⟨rfl,nb_h hz,XK.nb hp (y8 hp hf (nb_h hz)) λfr2 h2=>hw z fr2 rfl hz h2⟩
  cases h
 cases h
theorem ofList{α:Type}{xs:Array α}{l:List α}(h:xs.toList=l):xs=l.toArray:=by rw[←h]
theorem xop_step(hX:XOk P X)(hI:yE P (XInl xi)){Y:Ye}(hYr:YRel Yx' Y)(hY:YOk P S Y nk){o:Oper}(hc:Cfg w0 S B nk N S q fr L a w)(hB:B=λd=>getL L d=some .dfr)(hR:Rep M L)(hf:hF nk fr)(hl:hL nk L)
  (h:xop X xi Yx' nk fr M o.op=some (y,nk',M')) (hp:putX N o.dst y fr=some fr'):nk≤nk'∧hV nk' y∧Oper.wpIn (FF r) n P o a w (St w0 S B nk N (XK nk' fr' M')) Q:=by
 have l1:∀{x:Option (SV×Mm)},we nk x=some (y,nk',M')→x=some (y,M')∧nk'=nk+1:=by
  intro x hx;unfold we at hx;split at hx<;>cases hx;exact⟨rfl,rfl⟩
 have lu:∀{x:Option Mm},liftU nk x=some (y,nk',M')→x=some M'∧nk'=nk∧y=.v undef:=by
  intro x hx;unfold liftU at hx;split at hx<;>cases hx;exact⟨rfl,rfl,rfl⟩
 have hu:hV nk (.v undef):=λk hk=>by simp[SV.has] at hk
 have kk:∀{x:Option (SV×Mm)},x=some (y,M')→(hV (nk+1) y)→nk'=nk+1→Oper.wpIn (FF r) n P o a w (St w0 S B nk N (XK (nk+1) fr' M')) Q→nk≤nk'∧hV nk' y∧Oper.wpIn (FF r) n P o a w (St w0 S B nk N (XK nk' fr' M')) Q:=
  λ_ hy e hw=>by subst e;exact⟨Nat.le_succ nk,hy,hw⟩
 have T:=hX.e.T;obtain⟨dst,op,oty,pos,after,guard⟩:=o;have hmap:∀(xs:Array Operand),xs.map a.eval=(xs.toList.map a.eval).toArray:=λxs=>by apply Array.ext';simp
 have calm:ye nk M (zy X.E.T op fr M.get)=some (y,nk',M')→nk≤nk'∧hV nk' y∧Oper.wpIn (FF r) n P ⟨dst,op,oty,pos,after,guard⟩ a w (St w0 S B nk N (XK nk' fr' M')) Q:=λh=>by
  obtain⟨e,g1,g2⟩:=liftC_step (P:=P) (w:=w) (w0:=w0) (S:=S) (B:=B) (a:=a) (r:=r) (n:=n) (Q:=Q) (o:=⟨dst,op,oty,pos,after,guard⟩) h hf hp (λz fr2 hz hzv hp2=>xcalm2_step hX.e hc hR hf hl hz hzv hp2);exact⟨by omega,g1,g2⟩
 have own:y=.own nk→hV (nk+1) y:=λe=>by subst e;exact hV_own (Nat.lt_succ_self nk)
 replace h:xop X xi Yx' nk fr M op=some (y,nk',M'):=h;unfold xop at h;split at h
 ·obtain⟨h,e⟩:=l1 h;refine kk h ?_ e (xallocB_step T rfl hc hR hf hl h hp)
  have old:∀{t:Nat},xalloc X.E.T t nk M=some (y,M')→hV (nk+1) y:=λh=>by
   unfold xalloc at h;split at h
   ·cases h
   split at h<;>cases h;exact hV_lp (Nat.lt_succ_self nk)
  unfold wq at h;split at h
  ·split at h
   ·split at h<;>cases h;exact hV_lp (Nat.lt_succ_self nk)
   exact old h
  exact old h
 ·obtain⟨h,e⟩:=l1 h;refine kk h ?_ e (xbox_step rfl hc hR hf hl h hp);unfold xboxM at h;split at h
  ·cases h
  split at h
  ·split at h<;>cases h;exact hV_lp (Nat.lt_succ_self nk)
  cases h
 ·obtain⟨h,e⟩:=l1 h;refine kk h (own ?_) e (xbuildS_step T rfl hc hR hf hl hB h hp);unfold x7 at h;split at h
  ·split at h
   ·cases h
   split at h
   ·split at h<;>cases h;rfl
   cases h
  cases h
 ·obtain⟨h,e⟩:=l1 h;refine kk h (own ?_) e (xmakeA_step T rfl hc hR hf hl h hp)
  have old:∀{l c:SV}{t:Nat},xmake X.E.T t nk l c M=some (y,M')→y=.own nk:=λh=>by
   unfold xmake at h;split at h
   ·split at h
    ·cases h
    split at h
    ·split at h<;>cases h;rfl
    ·split at h<;>cases h;rfl
    cases h
   cases h
  unfold xmakeA at h;split at h
  ·split at h
   ·cases h
   split at h
   ·cases h;rfl
   exact old h
  cases h
 ·obtain⟨h3,e,e2⟩:=lu h;subst e e2;exact⟨Nat.le_refl _,hu,xstore_step T rfl hc hR hf hl h3 hp⟩
 ·obtain⟨h,e⟩:=l1 h;refine kk h ?_ e (xmakeMap_step rfl hc hR hf hl h hp);unfold xmakeMap at h;split at h
  ·split at h<;>cases h;exact hV_mr (Nat.lt_succ_self nk)
  cases h
 ·obtain⟨h3,e,e2⟩:=lu h;subst e e2;exact⟨Nat.le_refl _,hu,xmapUpd_step T (.inl rfl) hc hR hf hl h3 hp⟩
 ·obtain⟨h3,e,e2⟩:=lu h;subst e e2;exact⟨Nat.le_refl _,hu,xmapUpd_step T (.inr rfl) hc hR hf hl h3 hp⟩
 ·rename_i t x i ok;obtain⟨e,g1,g2⟩:=liftC_step (P:=P) (w:=w) (w0:=w0) (S:=S) (B:=B) (a:=a) (r:=r) (n:=n) (Q:=Q) (o:=⟨dst,.lookup t x i ok,oty,pos,after,guard⟩) h hf hp (λz fr2 hz hzv hp2=>xlookup_step T hX.z rfl hc hR hf hl hz hzv hp2);exact⟨by omega,g1,g2⟩
 ·rename_i xs ts;unfold xapp2 at h;split at h
  ·rename_i s x t t' e1 e2;have e1:=ofList e1;have e2:=ofList e2;subst e1 e2;split at h
   ·rename_i e;have e:=Nat.eq_of_beq_eq_true e;subst e;obtain⟨h,e⟩:=l1 h;refine kk h (own ?_) e (xapp_stepM T rfl hc hR hf hl h hp);unfold xappM at h;split at h
    ·split at h
     ·cases h
     split at h
     ·cases h
     split at h
     ·cases h
     split at h
     ·split at h<;>cases h;rfl
     cases h
    cases h
   obtain⟨h,e⟩:=l1 h;refine kk h (own ?_) e (xapps_stepM T rfl hc hR hf hl h hp);unfold xappSM at h;split at h
   ·split at h
    ·split at h
     ·split at h<;>cases h;rfl
     ·split at h
      ·split at h
       ·split at h<;>cases h;rfl
       cases h
      cases h
     cases h
    cases h
   cases h
  cases h
 ·rename_i xs ts;unfold xcopy2 at h;split at h
  ·rename_i s x t t' e1 e2;have e1:=ofList e1;have e2:=ofList e2;subst e1 e2;split at h
   ·rename_i y1 M1 hcp;cases h;refine⟨Nat.le_refl _,?_,xcopy_step T rfl hc hR hf hl hcp hp⟩;unfold xcopy at hcp;split at hcp
    ·split at hcp
     ·split at hcp
      ·split at hcp
       ·split at hcp<;>cases hcp;exact λk hk=>by simp[SV.has] at hk
       cases hcp
      ·split at hcp
       ·split at hcp<;>cases hcp;exact λk hk=>by simp[SV.has] at hk
       cases hcp
      cases hcp
     cases hcp
    cases hcp
   cases h
  cases h
 ·rename_i f xs ts;have hxs:=opvs_ok hc.f xs.toList;unfold xcall2 at h;split at h
  ·rename_i g hg
   obtain ⟨e,g1,g2⟩:=liftC_step (P:=P) (w:=w) (w0:=w0) (S:=S) (B:=B) (a:=a) (r:=r) (n:=n) (Q:=Q) (o:=⟨dst,.call ⟨.value (.func f),xs,ts⟩,oty,pos,after,guard⟩) h hf hp (fun z fr2 hz hzv hp2=>by
    obtain⟨v,hv,hrun⟩:=hX.x f g hg S _ _ z hxs hz;rcases hrun with hrun|⟨hen,hcall⟩
    ·refine zA wv (w':=w) (v:=v) ?_ ?_
     ·have:=hrun w;simp only[execOp,resolve,Act.eval,Deferred.ofValue,invoke,hmap,Sem.run_bind,Sem.run_pure,Result.andThen_ok];simpa using this
     obtain⟨fr1,hK',hc'⟩:=hc.put (K:=λfr=>fr=fr2) (zL hp2 rfl) hv;subst hK';exact⟨S,q,_,L,0,hc',rfl,hR,y8 hp2 hf hzv,hl⟩
    refine inl_step (f:=f) (inl:=λ_ f' args' nk1 q1 L1 K1=>f'=f∧args'=opvs fr xs.toList∧nk1=nk∧(∀k,getL L1 k=getL L k)∧K1 z nk1 q1 L1) ?_ hY wv hc hxs ?_ (nk:=nk) ?_
    ·rintro w0 Y f' args' nk1 q1 L1 K1 vs w1 S1 r1 n1 ⟨rfl,rfl,rfl,hL1,hK1⟩ hY1 hvs1 hm1;obtain⟨v1,hv1,hrun1⟩:=hX.x f' g hg S1 _ _ z hvs1 hz;rcases hrun1 with hrun1|⟨_,hcall1⟩
     ·exfalso;have h1:=hrun1 w1;rw[hen] at h1;cases h1
     refine⟨hen,(yw (hcall1 w1)).mono ?_⟩;rintro e w' ⟨rfl,hb⟩;exact⟨v1,z,S1,q1,L1,nk1,rfl,hv1,λ_ _=>rfl,hm1.below hb,λ_ _ h=>h,hK1⟩
    ·intro w' he;simp only[execOp,resolve,Act.eval,Deferred.ofValue,invoke,hmap,Sem.run_bind,Sem.run_pure,Result.andThen_ok];simpa using he
    rw[Nat.ble_eq_true_of_le (Nat.le_refl nk),ltF_of hf,dLt_of hl]
    exact ⟨rfl,rfl,rfl,fun _=>rfl,zL hp2 ⟨rfl,hR,y8 hp2 hf hzv,hl⟩⟩)
   exact⟨by omega,g1,g2⟩
  unfold xck at h;split at h;rotate_left
  ·cases h
  rename_i y1 nk1 M1 hxi;split at h;rotate_left
  ·cases h
  rename_i h1 h2;cases h;have h1:=Nat.le_of_ble_eq_true h1;have h2:=ltKR h2;refine⟨h1,h2,inl_step (f:=f) hI hY wv hc hxs ?_ (nk:=nk) ?_⟩
  ·intro w' he;have:(callFunc f ((xs.toList.map a.eval).toArray ++ #[])).run P w=.ok (.enter f (xs.toList.map a.eval).toArray) w':=by simpa using he
   simp only[execOp,resolve,Act.eval,Deferred.ofValue,invoke,hmap,Sem.run_bind,Sem.run_pure,Result.andThen_ok];simpa using he
  rw[Nat.ble_eq_true_of_le (Nat.le_refl nk),ltF_of hf,dLt_of hl];exact⟨Yx',M,y,nk',M',hYr,hR,hl,hf.opvs _,hxi,λq' L' hR' hl'=>zL hp ⟨rfl,hR',y8 hp (hf.mono h1) h2,hl'⟩⟩
 ·rename_i t xs ts;have hxs:=opvs_ok hc.f xs.toList;have hft:=hc.f t;have hgt:hV nk (get fr t):=hf.opv (.tmp t);unfold xfn at h;split at h
  ·rename_i f cs e;rw[e] at hft hgt;obtain⟨cvs,hfv,hcs⟩:=hft;rw[wj] at h;unfold xck at h;split at h;rotate_left
   ·cases h
   rename_i y1 nk1 M1 hxi;split at h;rotate_left
   ·cases h
   rename_i h1 h2;cases h;have h1:=Nat.le_of_ble_eq_true h1;have h2:=ltKR h2;refine⟨h1,h2,inl_step (f:=f) hI hY wv hc (zV hxs hcs) ?_ (nk:=nk) ?_⟩
   ·intro w' he;have hev:a.eval (.tmp t)=.func (.func f) #[] cvs.toArray:=hfv;simp only[execOp,resolve,hev,Deferred.ofValue,invoke,hmap,Sem.run_bind,Sem.run_pure,Result.andThen_ok];simpa using he
   rw[Nat.ble_eq_true_of_le (Nat.le_refl nk),ltF_of hf,dLt_of hl];exact⟨Yx',M,y,nk',M',hYr,hR,hl,(hf.opvs _).append (λk hk=>hgt k wF),hxi,λq' L' hR' hl'=>zL hp ⟨rfl,hR',y8 hp (hf.mono h1) h2,hl'⟩⟩
  ·rename_i k e;rw[e] at hft;split at h;rotate_left
   ·cases h
   rename_i hx hyk;unfold xck at h;split at h;rotate_left
   ·cases h
   rename_i y1 nk1 M1 hxi;split at h;rotate_left
   ·cases h
   rename_i h1 h2;cases h;have h1:=Nat.le_of_ble_eq_true h1;have h2:=ltKR h2;obtain⟨hh,hyk',hrel⟩:=hYr k hx hyk;have hk2:=(hY k hh hyk').1;refine⟨h1,h2,yl_step hY wv hc hxs ?_ (k:=k) (nk:=nk) ?_⟩
   ·intro x hr;have hev:a.eval (.tmp t)=.func (.yield (S k).b) #[] #[]:=hft;simp only[execOp,resolve,hev,Deferred.ofValue,invoke,hmap,Sem.run_bind,Sem.run_pure,Result.andThen_ok];simpa using hr
   rw[Nat.ble_eq_true_of_le (Nat.le_refl nk),ltF_of hf,dLt_of hl,hyk'];exact hrel _ _ _ _ M _ _ M' _ hk2 hR hl (hf.opvs _) hxi (λq' L' hR' hl'=>zL hp ⟨rfl,hR',y8 hp (hf.mono h1) h2,hl'⟩)
  cases h
 ·rename_i s t x;unfold y5 at h;split at h
  ·rename_i h1 h2;obtain⟨h,e⟩:=l1 h;refine kk h (own ?_) e (xsb_step T rfl h1 hc hR hf hl h hp);unfold xsb at h;split at h
   ·split at h
    ·cases h;rfl
    cases h
   cases h
  ·split at h
   ·rename_i y1 M1 hb hz;cases h;obtain⟨g1,g2⟩:=xfz_step (P:=P) (w:=w) (w0:=w0) (S:=S) (B:=B) (a:=a) (r:=r) (n:=n) (Q:=Q) (o:=⟨dst,.convert s t x,oty,pos,after,guard⟩) T rfl (Nat.eq_of_beq_eq_true hb) hc hR hf hl hz hp;exact⟨Nat.le_refl _,g1,g2⟩
   cases h
  exact calm h
 exact calm h
end
end Exe
end Go.Eng
end
section
namespace Go.Eng
open Go Go.RowKit
namespace Exe
noncomputable section
variable {P:Program}{S S' Sb:Pl}{fr fr':Fr}{L L':LL}{q q':PH}{w0:W0}{w w':World}{a a':Act}{n0 N:Nat}{B:Nat→Prop}{X:XE}{xi:XI}{Yx':Yx}
variable {r:Option Nat}{n:Nat}{Q:Exit→Act→World→Prop}{M M':Mm}{nk nk':Nat}{y:SV}{Y:Ye}{all:List Oper}
theorem xguard_ok{o:Oper}{b:Bool}(hf:okF S fr a.tmps)(h:xguard all o.guard fr=some b):Region.wanted o (yielded all.toArray a.tmps)=b:=by
 unfold xguard at h;unfold Region.wanted;split at h
 ·rename_i e;rw[e];cases h;rfl
 rename_i j want e;rw[e];dsimp only;split at h
 ·cases h
 rename_i t ht;have hft:=hf t;split at h
 ·rename_i c hg;rw[hg] at hft;rw[xU ht hft];cases c<;>cases want<;>(cases h;rfl)
 ·rename_i x hg;rw[hg] at hft;have hft:a.tmps.getD t undef=.tuple x:=hft;rw[yielded_none ht (λb=>by rw[hft];simp)];cases h;rfl
 cases h
theorem noUndef{m:Nat}:hV m (.v undef):=λk hk=>by simp[SV.has] at hk
theorem xstep_run(hX:XOk P X)(hI:yE P (XInl xi))(hYr:YRel Yx' Y)(hY:YOk P Sb Y n0){o:Oper}(hc:Cfg w0 Sb B n0 N S q fr L a w)(h0:n0≤nk)(hR:Rep M L)(hf:hF nk fr)(hl:hL nk L)
  (h:yj X xi Yx' all o nk fr M=some (y,nk',M')) (hp:putX N o.dst y fr=some fr') :
  nk≤nk'∧hV nk' y∧((Region.wanted o (yielded all.toArray a.tmps)=true∧Oper.wpIn (FF r) n P o a w (St w0 Sb B n0 N (XK nk' fr' M')) Q) ∨
   (Region.wanted o (yielded all.toArray a.tmps)=false∧St w0 Sb B n0 N (XK nk' fr' M') (a.put o.dst undef) w)):=by
 unfold yj at h;split at h
 ·cases h
 ·rename_i hg;cases h;refine⟨Nat.le_refl _,noUndef,.inr ⟨xguard_ok hc.f hg,?_⟩⟩;obtain⟨fr1,hK',hc'⟩:=hc.put (K:=λfr=>fr=fr') (v:=undef) (zL hp rfl) rfl;subst hK';exact⟨S,q,_,L,0,hc',rfl,hR,y8 hp hf noUndef,hl⟩
 rename_i hg;have hY1:YOk P S Y nk:=(hY.congr λk hk=>hc.ag k hk).more h0;obtain⟨g1,g2,g3⟩:=xop_step (r:=r) (n:=n) (Q:=Q) hX hI hYr hY1 (hc.up nk) rfl hR hf hl h hp;exact⟨g1,g2,.inl ⟨xguard_ok hc.f hg,Oper.wpIn_mono (λa w h=>hc.down h0 h) g3⟩⟩
theorem xops_c{fr:Fr}{o:Oper}{l:List Oper}:xops X xi Yx' N all (o::l) nk fr M=(match yj X xi Yx' all o nk fr M with
   |none=>none
   | some (y,nk',M')=>(match putX N o.dst y fr with
    |none=>none
    | some fr'=>xops X xi Yx' N all l nk' fr' M')):=rfl
theorem xops_ok(hX:XOk P X)(hI:yE P (XInl xi))(hYr:YRel Yx' Y)(hY:YOk P Sb Y n0){nkF:Nat}{frF:Fr}{MF:Mm}:
  ∀(l:List Oper) {nk:Nat}{S:Pl}{q:PH}{fr:Fr}{L:LL}{M:Mm}{a:Act}{w:World},Cfg w0 Sb B n0 N S q fr L a w→n0≤nk→Rep M L→hF nk fr→hL nk L →
   xops X xi Yx' N all l nk fr M=some (nkF,frF,MF)→(nk≤nkF→∀a w,St w0 Sb B n0 N (XK nkF frF MF) a w→Q .normal a w)→wpListIn (FF r) n P all.toArray Q l a w
 |[],nk,S,q,fr,L,M,a,w,hc,h0,hR,hf,hl,h,hQ=>by
  cases h;exact hQ (Nat.le_refl _) a w ⟨S,q,_,L,0,hc,rfl,hR,hf,hl⟩
 |o::l,nk,S,q,fr,L,M,a,w,hc,h0,hR,hf,hl,h,hQ=>by
  rw[xops_c] at h;split at h
  ·cases h
  rename_i y nk' M' hs;split at h
  ·cases h
  rename_i fr' hp;obtain⟨g1,g2,g3⟩:=xstep_run (r:=r) (n:=n) (Q:=Q) hX hI hYr hY hc h0 hR hf hl hs hp
  have next:∀a w,St w0 Sb B n0 N (XK nk' fr' M') a w→wpListIn (FF r) n P all.toArray Q l a w:=by
   rintro a w ⟨S',q',fr1,L',k',hc',rfl,h1,h2,h3⟩;exact xops_ok hX hI hYr hY l hc' (Nat.le_trans h0 g1) h1 h2 h3 h (λhle=>hQ (Nat.le_trans g1 hle))
  rcases g3 with ⟨hw,g3⟩|⟨hw,g3⟩
  ·simp only[wpListIn,hw,if_true];exact Oper.wpIn_mono next g3
  simp only[wpListIn,hw];exact⟨λ_ _=>trivial,next _ _ g3⟩
theorem opvs_congr{fr fr':Fr}:∀{l:List Operand},(∀x∈l,opv fr x=opv fr' x)→opvs fr l=opvs fr' l
 |[],_=>rfl
 |x::r,h=>by
  show opv fr x::opvs fr r=opv fr' x::opvs fr' r;rw[h x (.head _),opvs_congr λz hz=>h z (.tail _ hz)]
theorem xparts_congr{T:Tab}{fs:List (Nat×Nat)}:∀{ps:List (Nat×Operand)}{cs:List SV},(∀p∈ps,opv fr p.2=opv fr' p.2)→yM T fs fr ps cs=yM T fs fr' ps cs
 |[],_,_=>rfl
 |(i,x)::r,cs,h=>by
  have hx:opv fr x=opv fr' x:=h (i,x) (.head _);have ih:∀cs,yM T fs fr r cs=yM T fs fr' r cs:=λcs=>xparts_congr λp hp=>h p (.tail _ hp);rw[xparts_c,xparts_c,hx];simp only[ih]
theorem xrd_congr{T:Tab}{M:Mg}{op:Op}(h:∀x∈op.operands.toList,opv fr x=opv fr' x):xrd T op fr M=xrd T op fr' M:=by
 cases op
 case call c=>
  obtain⟨callee,xs,ts⟩:=c
  have hh:∀x∈xs.toList,opv fr x=opv fr' x:=fun x hx=>h x (by
   simp only[Op.operands,Call.operands,Array.toList_append,List.mem_append]
   exact .inr hx)
  cases callee with
  |builtin b=>
   cases b
   case len=>
    unfold xrd;dsimp only;split
    ·rename_i s t e1 e2;rw[e1] at hh;have:get fr s=get fr' s:=hh (.tmp s) (.head _);rw[this]
    rfl
   all_goals rfl
  |_=>rfl
 case indexAddr t x i=>
  cases x with
  |tmp s=>
   have h1:get fr s=get fr' s:=h (.tmp s) wx;have h2:opv fr i=opv fr' i:=h i wx;unfold xrd;dsimp only;rw[h1,h2]
  |_=>rfl
 case binOp op t x y t2=>
  have h1:opv fr x=opv fr' x:=h x wx;have h2:opv fr y=opv fr' y:=h y wx
  have h3:tmpV fr x=tmpV fr' x:=by
   cases x with
   |tmp s=>exact congrArg some h1
   |_=>rfl
  unfold xrd;dsimp only;rw[h1,h2,h3]
 case slice t x lo hi mx=>
  cases x with
  |tmp s=>
   cases mx with
   |some v=>rfl
   |none=>
    have h1:get fr s=get fr' s:=h (.tmp s) wx
    have hlo:optv fr lo=optv fr' lo:=by cases lo with
     |none=>rfl
     |some v=>exact congrArg some (h v wx)
    have hhi:optv fr hi=optv fr' hi:=by cases hi with
     |none=>rfl
     |some v=>exact congrArg some (h v wx)
    unfold xrd;dsimp only;rw[h1,hlo,hhi]
  |_=>rfl
 case load t x=>
  cases x with
  |tmp s=>
   have h1:get fr s=get fr' s:=h (.tmp s) wx;unfold xrd;dsimp only;rw[h1]
  |_=>rfl
 case convert src dst x=>
  cases x with
  |tmp s=>
   have h1:get fr s=get fr' s:=h (.tmp s) wx;unfold xrd;dsimp only;rw[h1]
  |_=>rfl
 all_goals rfl
theorem xop_congr{op:Op}(h:∀x∈op.operands.toList,opv fr x=opv fr' x):xop X xi Yx' nk fr M op=xop X xi Yx' nk fr' M op:=by
 have one:∀{x:Operand},x∈op.operands.toList→opv fr x=opv fr' x:=λhx=>h _ hx;have hr:=xrd_congr (T:=X.E.T) (M:=M.get) h;cases op
 case call c=>
  obtain⟨callee,xs,ts⟩:=c
  have hxs:opvs fr xs.toList=opvs fr' xs.toList:=opvs_congr fun x hx=>h x (by
   simp only[Op.operands,Call.operands,Array.toList_append,List.mem_append]
   exact .inr hx)
  cases callee with
  |builtin b=>
   cases b
   case append=>
    simp only[xop,xapp2];split
    ·rename_i s x t t' e1 e2;rw[e1] at hxs;simp only[opvs,List.cons.injEq] at hxs;rw[hxs.1,hxs.2.1]
    rfl
   case copy=>
    simp only[xop,xcopy2];split
    ·rename_i s x t t' e1 e2;rw[e1] at hxs;simp only[opvs,List.cons.injEq] at hxs;rw[hxs.1,hxs.2.1]
    rfl
   all_goals simp only[xop,zy,y5,hr,ym,hxs]
  |value v=>
   have hv:opv fr v=opv fr' v:=h v (by simp[Op.operands,Call.operands])
   cases v with
   |tmp t=>
    have hv:get fr t=get fr' t:=hv;simp only[xop,xfn,hxs,hv]
   |func f=>simp only[xop,xcall2,hxs]
   |_=>simp only[xop,zy,y5,hr,ym]
  |_=>simp only[xop,zy,y5,hr,ym]
 case build t ps=>
  simp only[xop,zy,y5,hr,ym,xbuild];have:∀fs cs,yM X.E.T fs fr ps.toList cs=yM X.E.T fs fr' ps.toList cs:=λfs cs=>xparts_congr λp hp=>h p.2 v7;simp only[this]
 case buildSlice t m ps=>
  simp only[xop,x7];have:∀fs cs,yM X.E.T fs fr ps.toList cs=yM X.E.T fs fr' ps.toList cs:=λfs cs=>xparts_congr λp hp=>h p.2 v7;simp only[this]
 case makeFunc fn first cs=>
  have h1:opvs fr first.toList=opvs fr' first.toList:=opvs_congr λx hx=>h x (by simp[Op.operands];exact .inl (by simpa using hx))
  have h2:opvs fr cs.toList=opvs fr' cs.toList:=opvs_congr λx hx=>h x (by simp[Op.operands];exact .inr (by simpa using hx));simp only[xop,zy,y5,hr,ym,h1,h2]
 case slice t x lo hi mx=>
  have hx:opv fr x=opv fr' x:=h x wx
  have hlo:optv fr lo=optv fr' lo:=by cases lo with
   |none=>rfl
   |some v=>exact congrArg some (h v wx)
  have hhi:optv fr hi=optv fr' hi:=by cases hi with
   |none=>rfl
   |some v=>exact congrArg some (h v wx)
  cases mx with
  |none=>simp only[xop,zy,y5,hr,ym,hx,hlo,hhi]
  |some v=>
   have hv:opv fr v=opv fr' v:=h v wx;simp only[xop,zy,y5,hr,ym,hx,hlo,hhi,hv]
 case move x=>
  have h_x:opv fr x=opv fr' x:=h x wx;simp only[xop,zy,y5,hr,ym,h_x]
 case assign x=>
  have h_x:opv fr x=opv fr' x:=h x wx;simp only[xop,zy,y5,hr,ym,h_x]
 case pick c x y=>
  have h_c:opv fr c=opv fr' c:=h c wx;have h_x:opv fr x=opv fr' x:=h x wx;have h_y:opv fr y=opv fr' y:=h y wx;simp only[xop,zy,y5,hr,ym,h_c,h_x,h_y]
 case box t x=>
  have h_x:opv fr x=opv fr' x:=h x wx;simp only[xop,zy,y5,hr,ym,h_x]
 case insert t m k x=>
  have h_m:opv fr m=opv fr' m:=h m wx;have h_k:opv fr k=opv fr' k:=h k wx;have h_x:opv fr x=opv fr' x:=h x wx;simp only[xop,zy,y5,hr,ym,h_m,h_k,h_x]
 case load t x=>
  have h_x:opv fr x=opv fr' x:=h x wx;simp only[xop,zy,y5,hr,ym,h_x]
 case store t p x=>
  have h_p:opv fr p=opv fr' p:=h p wx;have h_x:opv fr x=opv fr' x:=h x wx;simp only[xop,zy,y5,hr,ym,h_p,h_x]
 case nilCheck x=>
  have h_x:opv fr x=opv fr' x:=h x wx;simp only[xop,zy,y5,hr,ym,h_x]
 case binOp op t x y t2=>
  have h_x:opv fr x=opv fr' x:=h x wx;have h_y:opv fr y=opv fr' y:=h y wx;simp only[xop,zy,y5,hr,ym,h_x,h_y]
 case unOp op t x=>
  have h_x:opv fr x=opv fr' x:=h x wx;simp only[xop,zy,y5,hr,ym,h_x]
 case convert s t x=>
  have h_x:opv fr x=opv fr' x:=h x wx;simp only[xop,zy,y5,hr,ym,h_x]
 case makeSlice t l c=>
  have h_l:opv fr l=opv fr' l:=h l wx;have h_c:opv fr c=opv fr' c:=h c wx;simp only[xop,zy,y5,hr,ym,h_l,h_c]
 case fieldAddr t x f=>
  have h_x:opv fr x=opv fr' x:=h x wx;simp only[xop,zy,y5,hr,ym,h_x]
 case field t x f=>
  have h_x:opv fr x=opv fr' x:=h x wx;simp only[xop,zy,y5,hr,ym,h_x]
 case indexAddr t x i=>
  have h_x:opv fr x=opv fr' x:=h x wx;have h_i:opv fr i=opv fr' i:=h i wx;simp only[xop,zy,y5,hr,ym,h_x,h_i]
 case index t x i=>
  have h_x:opv fr x=opv fr' x:=h x wx;have h_i:opv fr i=opv fr' i:=h i wx;simp only[xop,zy,y5,hr,ym,h_x,h_i]
 case lookup t x i ok=>
  have h_x:opv fr x=opv fr' x:=h x wx;have h_i:opv fr i=opv fr' i:=h i wx;simp only[xop,zy,y5,hr,ym,h_x,h_i]
 case mapUpdate t m k x=>
  have h_m:opv fr m=opv fr' m:=h m wx;have h_k:opv fr k=opv fr' k:=h k wx;have h_x:opv fr x=opv fr' x:=h x wx;simp only[xop,zy,y5,hr,ym,h_m,h_k,h_x]
 case extract x i=>
  have h_x:opv fr x=opv fr' x:=h x wx;simp only[xop,zy,y5,hr,ym,h_x]
 all_goals rfl
end
end Exe
end Go.Eng
end
section
namespace Go.Eng
open Go Go.RowKit
namespace Exe
noncomputable section
variable {P:Program}{S S' Sb:Pl}{fr fr':Fr}{L L':LL}{q q':PH}{w0:W0}{w w':World}{a a':Act}{n0 N:Nat}{B:Nat→Prop}{X:XE}{xi:XI}{Yx':Yx}
variable {r:Option Nat}{n:Nat}{Q:Exit→Act→World→Prop}{M M':Mm}{nk nk':Nat}{y:SV}{Y:Ye}{all:List Oper}
mutual
theorem svEq_ok:∀(x y:SV),svEq x y=true→x=y
 |.v x,.v y,h=>by rw[vEq_eq (a:=x) (b:=y) vD]
 |.bb a,.bb b,h=>by simp[svEq] at h;rw[h]
 |.lp k o,.lp k' o',h=>by simp[svEq] at h;rw[h.1,h.2]
 |.own k,.own k',h=>by simp[svEq] at h;rw[h]
 |.mr k,.mr k',h=>by simp[svEq] at h;rw[h]
 |.yl k,.yl k',h=>by simp[svEq] at h;rw[h]
 |.vw k a b c d,.vw k' a' b' c' d',h=>by
  simp[svEq] at h;obtain⟨⟨⟨⟨h1,h2⟩,h3⟩,h4⟩,h5⟩:=h;rw[h1,h2,h3,h4,h5]
 |.agg l,.agg l',h=>by rw[svEqL_ok l l' vD]
 |.tup l,.tup l',h=>by rw[svEqL_ok l l' vD]
 |.fn f l,.fn f' l',h=>by
  simp[svEq] at h;rw[h.1,svEqL_ok l l' h.2]
 |.v _,.bb _,h|.v _,.b _ _,h|.v _,.lp _ _,h|.v _,.own _,h|.v _,.el _ _,h|.v _,.agg _,h|.v _,.tup _,h|.v _,.fn _ _,h|.v _,.yl _,h|.v _,.vw _ _ _ _ _,h|.v _,.lq _,h|.v _,.ls _ _,h|.v _,.mr _,h|.v _,.bad,h=>by simp[svEq] at h
 |.bb _,.v _,h|.bb _,.b _ _,h|.bb _,.lp _ _,h|.bb _,.own _,h|.bb _,.el _ _,h|.bb _,.agg _,h|.bb _,.tup _,h|.bb _,.fn _ _,h|.bb _,.yl _,h|.bb _,.vw _ _ _ _ _,h|.bb _,.lq _,h|.bb _,.ls _ _,h|.bb _,.mr _,h|.bb _,.bad,h=>by simp[svEq] at h
 |.lp _ _,.v _,h|.lp _ _,.bb _,h|.lp _ _,.b _ _,h|.lp _ _,.own _,h|.lp _ _,.el _ _,h|.lp _ _,.agg _,h|.lp _ _,.tup _,h|.lp _ _,.fn _ _,h|.lp _ _,.yl _,h|.lp _ _,.vw _ _ _ _ _,h|.lp _ _,.lq _,h|.lp _ _,.ls _ _,h|.lp _ _,.mr _,h|.lp _ _,.bad,h=>by simp[svEq] at h
 |.own _,.v _,h|.own _,.bb _,h|.own _,.b _ _,h|.own _,.lp _ _,h|.own _,.el _ _,h|.own _,.agg _,h|.own _,.tup _,h|.own _,.fn _ _,h|.own _,.yl _,h|.own _,.vw _ _ _ _ _,h|.own _,.lq _,h|.own _,.ls _ _,h|.own _,.mr _,h|.own _,.bad,h=>by simp[svEq] at h
 |.mr _,.v _,h|.mr _,.bb _,h|.mr _,.b _ _,h|.mr _,.lp _ _,h|.mr _,.el _ _,h|.mr _,.agg _,h|.mr _,.tup _,h|.mr _,.fn _ _,h|.mr _,.yl _,h|.mr _,.vw _ _ _ _ _,h|.mr _,.lq _,h|.mr _,.ls _ _,h|.mr _,.own _,h|.mr _,.bad,h=>by simp[svEq] at h
 |.yl _,.v _,h|.yl _,.bb _,h|.yl _,.b _ _,h|.yl _,.lp _ _,h|.yl _,.el _ _,h|.yl _,.agg _,h|.yl _,.tup _,h|.yl _,.fn _ _,h|.yl _,.own _,h|.yl _,.vw _ _ _ _ _,h|.yl _,.lq _,h|.yl _,.ls _ _,h|.yl _,.mr _,h|.yl _,.bad,h=>by simp[svEq] at h
 |.vw _ _ _ _ _,.v _,h|.vw _ _ _ _ _,.bb _,h|.vw _ _ _ _ _,.b _ _,h|.vw _ _ _ _ _,.lp _ _,h|.vw _ _ _ _ _,.el _ _,h|.vw _ _ _ _ _,.agg _,h|.vw _ _ _ _ _,.tup _,h|.vw _ _ _ _ _,.fn _ _,h|.vw _ _ _ _ _,.own _,h|.vw _ _ _ _ _,.yl _,h|.vw _ _ _ _ _,.lq _,h|.vw _ _ _ _ _,.ls _ _,h|.vw _ _ _ _ _,.mr _,h|.vw _ _ _ _ _,.bad,h=>by simp[svEq] at h
 |.agg _,.v _,h|.agg _,.bb _,h|.agg _,.b _ _,h|.agg _,.lp _ _,h|.agg _,.el _ _,h|.agg _,.vw _ _ _ _ _,h|.agg _,.tup _,h|.agg _,.fn _ _,h|.agg _,.own _,h|.agg _,.yl _,h|.agg _,.lq _,h|.agg _,.ls _ _,h|.agg _,.mr _,h|.agg _,.bad,h=>by simp[svEq] at h
 |.tup _,.v _,h|.tup _,.bb _,h|.tup _,.b _ _,h|.tup _,.lp _ _,h|.tup _,.el _ _,h|.tup _,.vw _ _ _ _ _,h|.tup _,.agg _,h|.tup _,.fn _ _,h|.tup _,.own _,h|.tup _,.yl _,h|.tup _,.lq _,h|.tup _,.ls _ _,h|.tup _,.mr _,h|.tup _,.bad,h=>by simp[svEq] at h
 |.fn _ _,.v _,h|.fn _ _,.bb _,h|.fn _ _,.b _ _,h|.fn _ _,.lp _ _,h|.fn _ _,.el _ _,h|.fn _ _,.vw _ _ _ _ _,h|.fn _ _,.agg _,h|.fn _ _,.tup _,h|.fn _ _,.own _,h|.fn _ _,.yl _,h|.fn _ _,.lq _,h|.fn _ _,.ls _ _,h|.fn _ _,.mr _,h|.fn _ _,.bad,h=>by simp[svEq] at h
 |.bad,.bad,_=>rfl
 |.bad,.v _,h|.bad,.bb _,h|.bad,.b _ _,h|.bad,.lp _ _,h|.bad,.el _ _,h|.bad,.vw _ _ _ _ _,h|.bad,.tup _,h|.bad,.agg _,h|.bad,.own _,h|.bad,.yl _,h|.bad,.lq _,h|.bad,.ls _ _,h|.bad,.mr _,h|.bad,.fn _ _,h=>by simp[svEq] at h
 |.b _ _,_,h|.el _ _,_,h|.lq _,_,h|.ls _ _,_,h=>by simp[svEq] at h
theorem svEqL_ok:∀(x y:List SV),svEqL x y=true→x=y
 |[],[],_=>rfl
 |x::r,z::s,h=>by
  simp only[svEqL,Bool.and_eq_true] at h;rw[svEq_ok x z h.1,svEqL_ok r s h.2]
 |[],_::_,h=>by simp[svEqL] at h
 |_::_,[],h=>by simp[svEqL] at h
end
theorem yR{x:Option SV}(h:ye nk M x=some (y,nk',M')):nk'=nk∧M'=M∧∃z,x=some z∧y=nb z∧R.ltK nk z=true:=by
 unfold ye at h;split at h
 ·split at h
  ·rename_i e;cases h;exact⟨rfl,rfl,_,rfl,rfl,e⟩
  cases h
 cases h
theorem calm_same{op:Op}(he:isEff X op=false)(h:xop X xi Yx' nk fr M op=some (y,nk',M')):nk'=nk∧M'=M:=by
 unfold xop at h
 split at h<;>first
  |exact⟨(yR h).1,(yR h).2.1⟩
  |exact Bool.noConfusion he
  |skip
 ·rename_i f xs ts;have he:(match X.ext.get f with|some _=>false|none=>true)=false:=he;unfold xcall2 at h;split at h
  ·exact⟨(yR h).1,(yR h).2.1⟩
  rename_i hn;rw[hn] at he;cases he
 unfold y5 at h;split at h
 ·rename_i h1 h2;simp[isEff,h1,h2] at he
 ·rename_i h1 h2;simp[isEff,h1,h2] at he
 obtain⟨h1,h2,_⟩:=yR h;exact⟨h1,h2⟩
theorem xV{o:Oper}(he:isEff X o.op=false)(h:yj X xi Yx' all o nk fr M=some (y,nk',M')):nk'=nk∧M'=M:=by
 unfold yj at h;split at h
 ·cases h
 ·cases h;exact⟨rfl,rfl⟩
 exact calm_same he h
theorem pure_same{T:Tab}{op:Op}{M1 M2:Mg}(hp:isPure op=true):zy T op fr M1=zy T op fr M2:=by
  cases op<;>first
    |rfl
    |(simp[isPure] at hp;done)
    |skip
  rename_i op t x y t2
  cases op<;>first
    |(simp[isPure] at hp;done)
    | (simp only [zy,ym]
       cases x<;>rfl)
theorem nb_lt{b:Nat}{x:SV}(h:R.ltK b (nb x)=true):R.ltK b x=true:=by
 cases x with
 |b p d=>rfl
 |_=>exact h
theorem xsame_ok{o:Oper}{tc:Tc}{nk1 nk2 nk3:Nat}{M1 M2 M3:Mm}(he:isEff X o.op=false)(h0:yj X xi Yx' all o nk1 tc.fr M1=some (tc.y,nk2,M2))(h:xsame X xi Yx' all o tc nk M=true):
  yj X xi Yx' all o nk tc.fr M=some (tc.y,nk,M):=by
 unfold xsame at h;split at h;rotate_left
 ·cases h
 rename_i hlt;split at h
 ·rename_i hp;unfold yj at h0 ⊢;split at h0
  ·cases h0
  ·rename_i hg;simp only[Option.some.injEq,Prod.mk.injEq] at h0;rw[h0.1]
  rename_i hg
  have form:∀{nk:Nat}{M:Mm},xop X xi Yx' nk tc.fr M o.op=ye nk M (zy X.E.T o.op tc.fr M.get):=by
   intro nk M;generalize o.op=op at hp
   cases op<;>first
    |rfl
    |(simp[isPure] at hp;done)
  rw[form] at h0 ⊢;obtain⟨_,_,z,hz,hy,_⟩:=yR h0;rw[pure_same (M2:=M1.get) hp,hz];unfold ye;dsimp only;rw[hy] at hlt;rw[nb_lt hlt,←hy]
 split at h
 ·rename_i y1 k1 M4 hs;have:=svEq_ok _ _ h;subst this;obtain⟨e1,e2⟩:=xV he hs;subst e1 e2;exact hs
 cases h
theorem bit_lor{a b i:Nat}:bit (Nat.lor a b) i=(bit a i||bit b i):=Nat.testBit_or a b i
theorem bit_pow{j i:Nat}:bit (2^j) i=decide (j=i):=by
 unfold bit;rw[Nat.testBit_two_pow]
theorem befs1_c{bs:List Nat}{e:Edge}{es:List Edge}:befs1 bs (e::es)=(match Region.binds .any e with
  |true=>(match nth bs e.on with|some m=>Nat.lor (Nat.lor (2^e.on) m) (befs1 bs es)|none=>befs1 bs es)
  | false=>befs1 bs es):=rfl
theorem befs1_ok{bs:List Nat}:∀{es:List Edge}{j:Nat},bit (befs1 bs es) j=true→∃e∈es,Region.binds .any e=true∧∃m,nth bs e.on=some m∧(j=e.on∨bit m j=true)
 |[],j,h=>by simp[befs1,bit] at h
 |e::es,j,h=>by
  rw[befs1_c] at h
  have rest:bit (befs1 bs es) j=true→∃e'∈e::es,Region.binds .any e'=true∧∃m,nth bs e'.on=some m∧(j=e'.on∨bit m j=true):=λh=>by
   obtain⟨e',h1,h2⟩:=befs1_ok h;exact⟨e',.tail _ h1,h2⟩
  split at h
  ·rename_i hb;split at h
   ·rename_i m hm;rw[bit_lor,bit_lor,Bool.or_eq_true,Bool.or_eq_true,bit_pow] at h;rcases h with (h|h)|h
    ·exact⟨e,.head _,hb,m,hm,.inl (of_decide_eq_true h).symm⟩
    ·exact⟨e,.head _,hb,m,hm,.inr h⟩
    exact rest h
   exact rest h
  exact rest h
theorem befs_c{o:Oper}{l:List Oper}{bs:List Nat}:befs (o::l) bs=befs l (catQ bs [befs1 bs o.after.toList]):=rfl
theorem befs_get:∀{l:List Oper}{bs:List Nat},(∀i,i<bs.length→(befs l bs)[i]?=bs[i]?)∧(befs l bs).length=bs.length+l.length ∧
  ∀i o,l[i]?=some o→∃pre,(befs l bs)[bs.length+i]?=some (befs1 pre o.after.toList)∧pre.length=bs.length+i∧∀j,j<pre.length→pre[j]?=(befs l bs)[j]?
 |[],bs=>⟨λ_ _=>rfl,rfl,λi o h=>by simp at h⟩
 |o::l,bs=>by
  rw[befs_c,wj];obtain⟨h1,h2,h3⟩:=befs_get (l:=l) (bs:=bs++[befs1 bs o.after.toList]);refine⟨λi hi=>?_,?_,λi o' ho=>?_⟩
  ·rw[h1 i wN,List.getElem?_append_left hi]
  ·rw[h2];simp;omega
  cases i with
  |zero=>
   cases ho;refine⟨bs,?_,rfl,λj hj=>?_⟩
   ·rw[Nat.add_zero,h1 _ wv];simp
   rw[h1 j wN,List.getElem?_append_left hj]
  |succ i=>
   obtain⟨pre,g1,g2,g3⟩:=h3 i o' wI;refine⟨pre,?_,?_,g3⟩
   ·rw[←g1];congr 1;simp;omega
   rw[g2];simp;omega
variable {ops:Array Oper}
theorem bef_listed{listed:Array Bool}(hcl:ClosedL ops listed):∀(i:Nat) {m j:Nat},(befs ops.toList [])[i]?=some m→bit m j=true→(∀o,ops[i]?=some o→∀e∈o.after,Region.binds .any e=true→listed.getD e.on false=true)→listed.getD j false=true∧j<i:=by
 intro i
 induction i using Nat.strongRecOn with
 |_ i ih=>
  intro m j hm hb hall;obtain⟨_,h2,h3⟩:=befs_get (l:=ops.toList) (bs:=[])
  have hi:i<ops.toList.length:=by
   have:=(List.getElem?_eq_some_iff.1 hm).1;rw[h2] at this;simpa using this
  obtain⟨o,ho⟩:∃o,ops.toList[i]?=some o:=⟨ops.toList[i],List.getElem?_eq_getElem hi⟩;obtain⟨pre,g1,g2,g3⟩:=h3 i o ho;simp only[List.length_nil,Nat.zero_add] at g1 g2;rw[hm] at g1;cases g1;obtain⟨e,he,hbn,m',hm',hj⟩:=befs1_ok hb;rw[xp] at hm';have hon:e.on<i:=by have:=(List.getElem?_eq_some_iff.1 hm').1;omega
  have ho':ops[i]?=some o:=by rw[←Array.getElem?_toList];exact ho
  have hl:=hall o ho' e vz hbn;rcases hj with rfl|hj
  ·exact⟨hl,hon⟩
  rw[g3 e.on ws] at hm';obtain⟨k1,k2⟩:=ih e.on hon hm' hj (λo2 ho2 e2 he2 hb2=>hcl e.on o2 hl ho2 e2 he2 hb2);exact⟨k1,by omega⟩
end
end Exe
end Go.Eng
end
section
namespace Go.Eng
open Go Go.RowKit
namespace Exe
noncomputable section
variable {P:Program}{S S' Sb:Pl}{fr fr':Fr}{L L':LL}{q q':PH}{w0:W0}{w w':World}{a a':Act}{n0 N:Nat}{B:Nat→Prop}{X:XE}{xi:XI}{Yx':Yx}
variable {r:Option Nat}{n:Nat}{Q:Exit→Act→World→Prop}{M M':Mm}{nk nk':Nat}{y:SV}{Y:Ye}{all:List Oper}{ops:Array Oper}
def stX(tr:List Tc)(z:Nat×Fr×Mm)(i:Nat):Nat×Fr×Mm:=match tr[i]? with|some t=>(t.nk,t.fr,t.M)|none=>z
theorem xtrace_c{o:Oper}{l:List Oper}{fr:Fr}:xtrace X xi Yx' N all (o::l) nk fr M=(match yj X xi Yx' all o nk fr M with
   |none=>none
   | some (y,nk',M')=>(match putX N o.dst y fr,Nat.ble nk nk',R.ltK nk' y with
    | some fr',true,true=>(match xtrace X xi Yx' N all l nk' fr' M' with
     |none=>none
     | some (l,z)=>some (⟨nk,fr,M,y⟩::l,z))
    | _,_,_=>none)):=rfl
structure TrAt (X:XE) (xi:XI) (Yx':Yx) (N:Nat) (all:List Oper) (tr:List Tc) (z:Nat×Fr×Mm) (i:Nat) (o:Oper) (t:Tc):Prop where
 get:tr[i]?=some t
 step:yj X xi Yx' all o t.nk t.fr t.M=some (t.y,(stX tr z (i+1)).1,(stX tr z (i+1)).2.2)
 put:putX N o.dst t.y t.fr=some (stX tr z (i+1)).2.1
 le:t.nk≤(stX tr z (i+1)).1
 lt:hV (stX tr z (i+1)).1 t.y
theorem xtrace_ok:∀{l:List Oper}{nk:Nat}{fr:Fr}{M:Mm}{tr:List Tc}{z:Nat×Fr×Mm},xtrace X xi Yx' N all l nk fr M=some (tr,z) →
  tr.length=l.length∧stX tr z 0=(nk,fr,M)∧∀i o,l[i]?=some o→∃t,TrAt X xi Yx' N all tr z i o t
 |[],nk,fr,M,tr,z,h=>by
  cases h;exact⟨rfl,rfl,λi o h=>by simp at h⟩
 |o::l,nk,fr,M,tr,z,h=>by
  rw[xtrace_c] at h;split at h
  ·cases h
  rename_i y nk' M' hs;split at h;rotate_left
  ·cases h
  rename_i fr' hp hle hlt;split at h
  ·cases h
  rename_i tr' z' hx;cases h;obtain⟨h1,h2,h3⟩:=xtrace_ok hx;have e1:stX (⟨nk,fr,M,y⟩::tr') z 1=(nk',fr',M'):=h2;refine⟨by simp[h1],rfl,λi o' ho=>?_⟩
  cases i with
  |zero=>
   cases ho;refine⟨⟨nk,fr,M,y⟩,rfl,?_,?_,?_,?_⟩
   ·rw[Nat.zero_add,e1];exact hs
   ·rw[Nat.zero_add,e1];exact hp
   ·rw[Nat.zero_add,e1];exact Nat.le_of_ble_eq_true hle
   rw[Nat.zero_add,e1];exact ltKR hlt
  |succ i=>
   obtain⟨t,g1,g2,g3,g4,g5⟩:=h3 i o' wI;exact⟨t,by simpa using g1,g2,g3,g4,g5⟩
section
variable {tr:List Tc}{z:Nat×Fr×Mm}
theorem xd{i:Nat}{t:Tc}(h:tr[i]?=some t):stX tr z i=(t.nk,t.fr,t.M):=by unfold stX;rw[h]
structure Trc (X:XE) (xi:XI) (Yx':Yx) (N:Nat) (all:List Oper) (tr:List Tc) (z:Nat×Fr×Mm) (nk:Nat) (fr:Fr) (M:Mm):Prop where
 len:tr.length=all.length
 zero:stX tr z 0=(nk,fr,M)
 at_:∀i o,all[i]?=some o→∃t,TrAt X xi Yx' N all tr z i o t
theorem Trc.mono(h:Trc X xi Yx' N all tr z nk fr M):∀(d i:Nat),i+d≤all.length→(stX tr z i).1≤(stX tr z (i+d)).1
 |0,i,_=>Nat.le_refl _
 |d+1,i,hd=>by
  have h1:=Trc.mono h d i ws;obtain⟨t,g⟩:=h.at_ (i+d) _ (List.getElem?_eq_getElem ws);have:=g.le;rw[xd g.get] at h1;exact Nat.le_trans h1 this
theorem Trc.mono'(h:Trc X xi Yx' N all tr z nk fr M){i j:Nat}(hij:i≤j)(hj:j≤all.length):(stX tr z i).1≤(stX tr z j).1:=by
 have:=h.mono (j-i) i ws
 rwa [Nat.add_sub_cancel' hij] at this
theorem Trc.calm(h:Trc X xi Yx' N all tr z nk fr M):∀(d i:Nat),i+d≤all.length→(∀e o,all[e]?=some o→isEff X o.op=true→i≤e→e<i+d→False)→(stX tr z (i+d)).1=(stX tr z i).1∧(stX tr z (i+d)).2.2=(stX tr z i).2.2
 |0,i,_,_=>⟨rfl,rfl⟩
 |d+1,i,hd,hno=>by
  obtain⟨h1,h2⟩:=Trc.calm h d i ws (λe o ho he hi hd=>hno e o ho he hi ws);have ho:=List.getElem?_eq_getElem (l:=all) (i:=i+d) ws;obtain⟨t,g⟩:=h.at_ (i+d) _ ho
  have hc:isEff X all[i+d].op=false:=by
   cases hb:isEff X all[i+d].op with
   |false=>rfl
   |true=>exact(hno (i+d) _ ho hb ws ws).elim
  obtain⟨k1,k2⟩:=xV hc g.step;rw[xd g.get] at h1 h2;exact⟨k1.trans h1,k2.trans h2⟩
theorem Trc.calm'(h:Trc X xi Yx' N all tr z nk fr M){i j:Nat}(hij:i≤j)(hj:j≤all.length)(hno:∀e o,all[e]?=some o→isEff X o.op=true→i≤e→e<j→False):(stX tr z j).1=(stX tr z i).1∧(stX tr z j).2.2=(stX tr z i).2.2:=by
 have:=h.calm (j-i) i ws (λe o ho he hi hd=>hno e o ho he hi ws)
 rwa [Nat.add_sub_cancel' hij] at this
theorem Trc.hFs(h:Trc X xi Yx' N all tr z nk fr M)(hf:hF nk fr):∀i,i≤all.length→hF (stX tr z i).1 (stX tr z i).2.1
 |0,_=>by rw[h.zero];exact hf
 |i+1,hi=>by
  have ih:=Trc.hFs h hf i ws;obtain⟨t,g⟩:=h.at_ i _ (List.getElem?_eq_getElem ws);rw[xd g.get] at ih;exact y8 g.put (ih.mono g.le) g.lt
theorem allKeep_ok{bs:List Nat}{i k:Nat}:∀{l:List Oper}{s:List Tc}{e0:Nat},allKeep X bs i k l s e0=true→∀(e:Nat) (oe:Oper) (te:Tc),l[e]?=some oe→s[e]?=some te→isEff X oe.op=true→(i<e0+e∧bit ((nth bs (e0+e)).getD 0) i=true)∨effKeeps k oe te=true
 |[],_,_,_,e,oe,te,ho,_,_=>by simp at ho
 |_::_,[],_,_,e,oe,te,_,ht,_=>by simp at ht
 |o::l,t::s,e0,h,e,oe,te,ho,ht,he=>by
  simp only[allKeep,Bool.and_eq_true] at h
  cases e with
  |zero=>
   cases ho;cases ht;have h1:=h.1;rw[he] at h1;dsimp only at h1;split at h1
   ·rename_i hb;simp only[Bool.and_eq_true] at hb;exact .inl ⟨Nat.le_of_ble_eq_true hb.1,hb.2⟩
   exact .inr h1
  |succ e=>
   have:=allKeep_ok h.2 e oe te wI (by simpa using ht) he;rw[show e0+(e+1)=e0+1+e from by omega];exact this
theorem w9{M M':Mm}{k j:Nat}{x:Option LB}(h:xput M k x=some M')(hk:Nat.beq j k=false):M'.get j=M.get j:=by
 rw[xP h,if_neg (λe=>by subst e;rw[Nat.beq_refl] at hk;cases hk)]
theorem effKeeps_ok{k:Nat}{o:Oper}{t:Tc}(h:effKeeps k o t=true)(hs:yj X xi Yx' all o t.nk t.fr t.M=some (y,nk',M')):M'.get k=t.M.get k:=by
 unfold yj at hs;split at hs
 ·cases hs
 ·cases hs;rfl
 unfold effKeeps at h;split at h
 ·cases h
 rename_i hk;generalize o.op=op at h hs
 cases op<;>first
  |(cases h;done)
  |skip
 ·-- alloc
  rename_i t1;have hs:we t.nk (wq X.E.T t1 t.nk t.M)=some (y,nk',M'):=hs;unfold we at hs;split at hs;rotate_left
  ·cases hs
  rename_i y1 M1 h1;cases hs
  have al:∀{y M'},xalloc X.E.T t1 t.nk t.M=some (y,M')→M'.get k=t.M.get k:=λ{y M'} h=>by
   unfold xalloc at h;split at h
   ·cases h
   split at h
   ·rename_i h2;cases h;exact w9 h2 hk
   cases h
  unfold wq at h1;split at h1
  ·split at h1
   ·split at h1
    ·rename_i h2;cases h1;exact w9 h2 hk
    cases h1
   exact al h1
  exact al h1
 ·-- box
  rename_i t1 x;have hs:we t.nk (xboxM X.E.T t1 t.nk (opv t.fr x) t.M)=some (y,nk',M'):=hs;unfold we at hs;split at hs;rotate_left
  ·cases hs
  rename_i y1 M1 h1;cases hs;unfold xboxM at h1;split at h1
  ·cases h1
  split at h1;rotate_left
  ·cases h1
  split at h1
  ·rename_i h2;cases h1;exact w9 h2 hk
  cases h1
 -- store
 rename_i t1 p x;have hs:liftU t.nk (xstore X.E.T t1 (opv t.fr p) (opv t.fr x) t.M)=some (y,nk',M'):=hs;unfold liftU at hs;split at hs;rotate_left
 ·cases hs
 rename_i M1 h1;cases hs;dsimp only at h;split at h;rotate_left
 ·cases h
 rename_i k2 o2 hp;split at h
 ·cases h
 rename_i hk2;rw[hp] at h1;unfold xstore at h1;split at h1
 ·cases h1
 dsimp only at h1;split at h1
 ·split at h1
  ·split at h1
   ·exact w9 h1 hk2
   cases h1
  ·split at h1
   ·exact w9 h1 hk2
   cases h1
  cases h1
 cases h1
theorem Trc.keep(h:Trc X xi Yx' N all tr z nk fr M){bs:List Nat}{i0 k:Nat}(hk:allKeep X bs i0 k all tr 0=true):∀i,i≤all.length→(∀e oe,all[e]?=some oe→isEff X oe.op=true→i0<e→e<i→bit ((nth bs e).getD 0) i0=true→False)→(stX tr z i).2.2.get k=M.get k
 |0,_,_=>by rw[h.zero]
 |i+1,hi,hno=>by
  have ih:=Trc.keep h hk i ws (λe oe g1 g2 g3 g4=>hno e oe g1 g2 g3 ws);have ho:=List.getElem?_eq_getElem (l:=all) (i:=i) ws;obtain⟨t,g⟩:=h.at_ i _ ho;rw[xd g.get] at ih
  cases he:isEff X all[i].op with
  |false=>
   obtain⟨_,e2⟩:=xV he g.step;rw[e2];exact ih
  |true=>
   have hkk:=allKeep_ok hk i _ t ho g.get he;rw[Nat.zero_add] at hkk;rcases hkk with ⟨h1,h2⟩|h1
   ·exact(hno i _ ho he h1 ws h2).elim
   rw[effKeeps_ok h1 g.step];exact ih
theorem ldSafe_ok(h:Trc X xi Yx' N all tr z nk fr M){bs:List Nat}{o:Oper}{t:Tc}{i:Nat}(hg:tr[i]?=some t)(hls:ldSafe X bs i all tr o t=true)(hc:yj X xi Yx' all o t.nk t.fr t.M=some (t.y,t.nk,t.M)){p:Nat}(hp:p≤all.length)
  (hno:∀e oe,all[e]?=some oe→isEff X oe.op=true→i<e→e<p→bit ((nth bs e).getD 0) i=true→False) :
  yj X xi Yx' all o (stX tr z p).1 t.fr (stX tr z p).2.2=some (t.y,(stX tr z p).1,(stX tr z p).2.2):=by
 have hi:i<tr.length:=(List.getElem?_eq_some_iff.1 hg).1;unfold ldSafe at hls;split at hls;rotate_left
 ·cases hls
 rename_i k t0 r hk;simp only[Bool.and_eq_true] at hls;obtain⟨h1,h2⟩:=hls;have hz:(stX (t0::r) z 0).1=t0.nk:=rfl;have hle:t0.nk≤(stX (t0::r) z p).1:=by rw[←hz];exact h.mono' (Nat.zero_le _) hp
 have e1:=h.keep h2 i (by rw[←h.len];omega) (λe _ _ _ g1 g2 _=>by omega);rw[xd hg] at e1;have e2:=h.keep h2 p hp hno;have e3:(stX (t0::r) z p).2.2.get k=t.M.get k:=e2.trans e1.symm;generalize (stX (t0::r) z p).1=nk2 at hle;generalize (stX (t0::r) z p).2.2=M2 at e3;unfold ldKey at hk;split at hk;rotate_left
 ·cases hk
 rename_i t1 x hop hgd;split at hk;rotate_left
 ·cases hk
 rename_i k' o' hx;cases hk
 have form:∀nk M,yj X xi Yx' all o nk t.fr M=ye nk M (zy X.E.T (.load t1 x) t.fr M.get):=by
  intro nk M;unfold yj;rw[hgd];show xop X xi Yx' nk t.fr M o.op=_;rw[hop];rfl
 rw[form] at hc ⊢
 have e4:zy X.E.T (.load t1 x) t.fr M2.get=zy X.E.T (.load t1 x) t.fr t.M.get:=by
  have e5:xload X.E.T M2.get t1 (opv t.fr x)=xload X.E.T t.M.get t1 (opv t.fr x):=by
   rw[hx];unfold xload;dsimp only;rw[e3]
  have e6:xrd X.E.T (.load t1 x) t.fr M2.get=xrd X.E.T (.load t1 x) t.fr t.M.get:=by
   cases x with
   |tmp s=>
    have hx':get t.fr s=.lp k o':=hx;simp only[xrd,hx',e3]
   |_=>rfl
  unfold zy;rw[e6];unfold ym;dsimp only;rw[e5]
 rw[e4];obtain⟨_,_,u,hu,hy,_⟩:=yR hc;rw[hu]
 have hlt:R.ltK nk2 u=true:=by
  rw[hy] at h1;have:=(ltKR (nb_lt h1)).mono hle;rw[R.ltK_eq];exact ltK_of u this
 unfold ye;dsimp only;rw[hlt,←hy]
theorem putX_get{dst:Option Nat}{fr1:Fr}(h:putX N dst y fr=some fr1)(t:Nat):get fr1 t=if dst=some t then y else get fr t:=by
 unfold putX at h;split at h
 ·cases h;simp
 split at h
 ·cases h;rw[zH];simp
 cases h
theorem Trc.keeps(h:Trc X xi Yx' N all tr z nk fr M){t:Nat}:∀i,i≤all.length→(∀j o,j<i→all[j]?=some o→o.dst≠some t)→get (stX tr z i).2.1 t=get fr t
 |0,_,_=>by rw[h.zero]
 |i+1,hi,hno=>by
  have ih:=Trc.keeps h i ws (λj o hj ho=>hno j o ws ho);have ho:=List.getElem?_eq_getElem (l:=all) (i:=i) ws;obtain⟨tc,g⟩:=h.at_ i _ ho;rw[xd g.get] at ih;rw[putX_get g.put,if_neg (hno i _ ws ho)];exact ih
theorem Trc.lays(h:Trc X xi Yx' N all tr z nk fr M){j t:Nat}{o:Oper}{tc:Tc}(ho:all[j]?=some o)(hd:o.dst=some t)(htc:tr[j]?=some tc)(hun:∀j' o',all[j']?=some o'→o'.dst=some t→j'=j):
  ∀i,i≤all.length→j<i→get (stX tr z i).2.1 t=tc.y
 |0,_,hj=>by omega
 |i+1,hi,hj=>by
  have ho2:=List.getElem?_eq_getElem (l:=all) (i:=i) ws;obtain⟨t2,g⟩:=h.at_ i _ ho2;rw[putX_get g.put];by_cases e:j=i
  ·subst e;rw[ho] at ho2;cases ho2;have hg:=g.get;rw[htc] at hg;cases hg;rw[if_pos hd]
  rw[if_neg (λhd2=>e (hun i _ ho2 hd2).symm)];have:=Trc.lays h ho hd htc hun i ws ws;rw[xd g.get] at this;exact this
end
theorem slotOk_ok{bs:List Nat}{i t:Nat}:∀{l:List Oper}{j0:Nat},slotOk bs i t l j0=true→∀j o,l[j]?=some o→o.dst=some t→i=j0+j∨(j0+j<i∧bit ((nth bs i).getD 0) (j0+j)=true)∨(i<j0+j∧bit ((nth bs (j0+j)).getD 0) i=true)
 |[],j0,_,j,o,ho,_=>by simp at ho
 |o1::l,j0,h,j,o,ho,hd=>by
  simp only[slotOk,Bool.and_eq_true] at h
  cases j with
  |zero=>
   cases ho;have h1:=h.1;rw[hd] at h1;dsimp only at h1;rw[Nat.beq_refl] at h1;dsimp only at h1;rw[Nat.add_zero];split at h1
   ·rename_i e;exact .inl (Nat.eq_of_beq_eq_true e)
   ·rename_i e1 e2;exact .inr (.inl ⟨Nat.le_of_ble_eq_true e2,h1⟩)
   rename_i e1 e2;refine .inr (.inr ⟨?_,h1⟩)
   have:¬j0<i:=λhlt=>by
    have:Nat.blt j0 i=true:=Nat.ble_eq_true_of_le hlt;rw[this] at e2;cases e2
   have:i≠j0:=Nat.ne_of_beq_eq_false e1;omega
  |succ j=>
   have:=slotOk_ok h.2 j o wI hd;rw[show j0+(j+1)=j0+1+j from by omega];exact this
theorem dstOk_ok{i d:Nat}:∀{l:List Oper}{j0:Nat},dstOk i d l j0=true→∀j o,l[j]?=some o→o.dst=some d→i=j0+j
 |[],j0,_,j,o,ho,_=>by simp at ho
 |o1::l,j0,h,j,o,ho,hd=>by
  simp only[dstOk,Bool.and_eq_true] at h
  cases j with
  |zero=>
   cases ho;have h1:=h.1;rw[hd] at h1;dsimp only at h1;rw[Nat.beq_refl] at h1;exact Nat.eq_of_beq_eq_true h1
  |succ j=>
   have:=dstOk_ok h.2 j o wI hd;omega
theorem xX{bs:List Nat}:∀{l:List Oper}{i0:Nat},slotsOk bs all l i0=true→∀i o,l[i]?=some o→(∀t∈opsL o++x9 all o,slotOk bs (i0+i) t all 0=true)∧∀d,o.dst=some d→dstOk (i0+i) d all 0=true
 |[],i0,_,i,o,ho=>by simp at ho
 |o1::l,i0,h,i,o,ho=>by
  simp only[slotsOk,Bool.and_eq_true,List.all_eq_true] at h
  cases i with
  |zero=>
   cases ho;refine⟨h.1.1,λd hd=>?_⟩;have:=h.1.2;rw[hd] at this;exact this
  |succ i=>
   have:=xX h.2 i o wI;rw[show i0+(i+1)=i0+1+i from by omega];exact this
theorem xeffs_ok{bs:List Nat}{m:Nat}:∀{l:List Oper}{e0:Nat},xeffs X bs m l e0=true→∀e o,l[e]?=some o→isEff X o.op=true→e0+e<m→bit ((nth bs m).getD 0) (e0+e)=true
 |[],e0,_,e,o,ho,_,_=>by simp at ho
 |o1::l,e0,h,e,o,ho,he,hlt=>by
  simp only[xeffs,Bool.and_eq_true] at h
  cases e with
  |zero=>
   cases ho;have h1:=h.1;rw[he] at h1;simp only[Bool.or_eq_true,beq_iff_eq] at h1;have:Nat.blt e0 m=true:=Nat.ble_eq_true_of_le hlt;rw[this] at h1;simpa using h1
  |succ e=>
   rw[show e0+(e+1)=e0+1+e from by omega];exact xeffs_ok h.2 e o wI he ws
theorem passed_ok{m e:Nat}:∀{l:List Oper}{j0:Nat},passed X all m e l j0=true→∀{A:Prop},(∀j o,l[j]?=some o→isEff X o.op=true→yC X all o=false→e<j0+j→bit m (j0+j)=true→A)→A
 |[],j0,h,A,hA=>by simp[passed] at h
 |o::l,j0,h,A,hA=>by
  have hrec:passed X all m e l (j0+1)=true→A:=λh=>passed_ok h λj o' g1 g2 g3 g4 g5=>hA (j+1) o' (by simpa using g1) g2 g3 ws (by rw[show j0+(j+1)=j0+1+j from by omega];exact g5);unfold passed at h;split at h
  ·rename_i h1 h2 h3 h4;exact hA 0 o rfl h1 h2 (Nat.le_of_ble_eq_true h3) h4
  exact hrec h
theorem xpairs_ok{bs:List Nat}{i:Nat}{oi:Oper}{ti:Tc}{nkF:Nat}{MF:Mm}{frF:Fr}:∀{l:List Oper}{s:List Tc}{e0:Nat},xpairs X xi Yx' all bs i oi ti nkF MF l s e0=true→∀e oe te,l[e]?=some oe→s[e]?=some te→isEff X oe.op=true →
  xpair X xi Yx' all bs (xT X all bs i (e0+e) oe) i (e0+e) oi ti te (stX s (nkF,frF,MF) (e+1)).1 (stX s (nkF,frF,MF) (e+1)).2.2=true
 |[],[],e0,_,e,oe,te,ho,_,_=>by simp at ho
 |[],_::_,e0,h,e,oe,te,ho,_,_=>by simp at ho
 |_::_,[],e0,h,e,oe,te,ho,ht,_=>by simp at ht
 |o1::l,t1::s,e0,h,e,oe,te,ho,ht,he=>by
  simp only[xpairs,Bool.and_eq_true] at h
  cases e with
  |zero=>
   cases ho;cases ht;have h1:=h.1;rw[he] at h1;dsimp only at h1
   cases s with
   |nil=>exact h1
   |cons t2 s=>exact h1
  |succ e=>
   have:=xpairs_ok (frF:=frF) h.2 e oe te wI (by simpa using ht) he;rw[show e0+(e+1)=e0+1+e from by omega];exact this
theorem xchk_ok{bs:List Nat}{tr:List Tc}{nkF:Nat}{MF:Mm}:∀{l:List Oper}{s:List Tc}{i0:Nat},xchk X xi Yx' all bs tr nkF MF l s i0=true→∀i o t,l[i]?=some o→s[i]?=some t →
  (isEff X o.op=true→(match yC X all o with|true=>true|false=>xeffs X bs (i0+i) all 0)=true)∧(isEff X o.op=false→(ldSafe X bs (i0+i) all tr o t||xpairs X xi Yx' all bs (i0+i) o t nkF MF all tr 0)=true)
 |[],[],i0,_,i,o,t,ho,_=>by simp at ho
 |[],_::_,i0,h,i,o,t,ho,_=>by simp at ho
 |_::_,[],i0,h,i,o,t,ho,ht=>by simp at ht
 |o1::l,t1::s,i0,h,i,o,t,ho,ht=>by
  simp only[xchk,Bool.and_eq_true] at h
  cases i with
  |zero=>
   cases ho;cases ht;have h1:=h.1;exact⟨λhe=>by rw[he] at h1;exact h1,λhe=>by rw[he] at h1;exact h1⟩
  |succ i=>
   have:=xchk_ok h.2 i o t wI (by simpa using ht);rw[show i0+(i+1)=i0+1+i from by omega];exact this
theorem edgesOk_ok:∀{l:List Oper}{i0:Nat},edgesOk all l i0=true→∀i o,l[i]?=some o→∀e∈o.after,Region.binds .any e=true→e.on<i0+i
 |[],i0,_,i,o,ho,_,_,_=>by simp at ho
 |o1::l,i0,h,i,o,ho,e,he,hb=>by
  simp only[edgesOk,Bool.and_eq_true,List.all_eq_true] at h
  cases i with
  |zero=>
   cases ho;have:=h.1 e vz;rw[hb] at this;simp only[Bool.not_true,Bool.false_or] at this;exact Nat.le_of_ble_eq_true this
  |succ i=>
   have:=edgesOk_ok h.2 i o wI e he hb;omega
theorem befs_some{i:Nat}(hi:i<ops.toList.length):∃m,(befs ops.toList [])[i]?=some m∧(nth (befs ops.toList []) i).getD 0=m:=by
 obtain⟨_,h2,_⟩:=befs_get (l:=ops.toList) (bs:=[]);have:i<(befs ops.toList []).length:=by rw[h2];simpa using hi
 refine⟨_,List.getElem?_eq_getElem this,?_⟩;rw[xp,List.getElem?_eq_getElem this];rfl
structure Ea where
 j:Nat
 d:Nat
 lb:LB
 pl:Loc
 ow:Bool
def Ea.wd(x:Ea)(k:Nat):SV:=match x.ow with|true=>.own k|false=>.lp k 0
def Ea.vl(x:Ea):Value:=match x.ow with|true=>.slice x.pl.A x.pl.n x.pl.c|false=>.pointer (some ⟨x.pl.b,0,none⟩)
def Ea.bk(x:Ea):Option Nat:=blk (λ_=>x.pl) 0 x.lb
theorem Ea.okv_wd{x:Ea}{S:Pl}{k:Nat}{v:Value}(h:S k=x.pl):okv S (x.wd k) v↔v=x.vl:=by
 unfold Ea.wd Ea.vl;cases x.ow<;>simp[okv,h]
theorem Ea.blk_eq{x:Ea}{S:Pl}{k:Nat}(h:S k=x.pl):blk S k x.lb=x.bk:=by
 unfold Ea.bk;cases x.lb<;>simp[blk,h]
theorem Ea.hV{x:Ea}{k:Nat}:hV (k+1) (x.wd k):=by
 unfold Ea.wd;cases x.ow
 ·exact hV_lp (Nat.lt_succ_self _)
 exact hV_own (Nat.lt_succ_self _)
theorem chunk_key{N0:Nat}{S S':Pl}{k k':Nat}{lb:LB}{w:World}(h1:S' k'=S k)(h2:∀j,lb.has j=true→S' j=S j)(h:zD N0 S k lb w):zD N0 S' k' lb w:=by
 cases lb with
 |cells T cs=>obtain⟨a1,vs,a2,a3⟩:=h;exact⟨by rw[h1];exact a1,vs,by rw[h1];exact a2,yc cs h2 a3⟩
 |row E sz n cs=>obtain⟨xs,a2,a3⟩:=h;exact⟨xs,by rw[h1];exact a2,yc cs h2 a3⟩
 |arr E sz n xs=>simp only[zD,h1] at h ⊢;exact h
 |dfr=>simp only[zD,h1] at h ⊢;exact h
 |mp es c=>simp only[zD,h1] at h ⊢;exact h
 |sb E n xs=>simp only[zD,h1] at h ⊢;exact h
 |loop st pe=>simp only[zD,h1] at h ⊢;exact h
theorem chunk_lt{N0:Nat}{S:Pl}{k:Nat}{lb:LB}{w:World}(h:zD N0 S k lb w)(hd:lb≠.dfr){b:Nat}(hb:blk S k lb=some b):∃y,w.heap[b]?=some y∧y≠.deferred (some []):=by
 cases lb with
 |cells T cs=>obtain⟨_,vs,a2,_⟩:=h;cases hb;exact⟨_,a2,by simp⟩
 |row E sz n cs=>
  obtain⟨xs,⟨⟨_,h2⟩,_⟩,_⟩:=h;rcases h2 with h2|⟨g,cap,cur,hv,hg,hh,r⟩
  ·obtain⟨h2,_⟩:=h2;injection h2 with h2 _ _;simp[blk,h2] at hb
  injection hv with hv _ _;simp only[blk,hv,Option.map_some,Option.some.injEq] at hb;subst hb;exact⟨_,hh,by simp⟩
 |arr E sz n xs=>
  obtain⟨⟨_,h2⟩,_⟩:=h;rcases h2 with h2|⟨g,cap,cur,hv,hg,hh,r⟩
  ·obtain⟨h2,_⟩:=h2;injection h2 with h2 _ _;simp[blk,h2] at hb
  injection hv with hv _ _;simp only[blk,hv,Option.map_some,Option.some.injEq] at hb;subst hb;exact⟨_,hh,by simp⟩
 |dfr=>exact(hd rfl).elim
 |mp es c=>cases hb;exact⟨_,h.2,by simp⟩
 |sb E n xs=>obtain⟨_,_,_,_,_,cur,fz,h6,_⟩:=h;cases hb;exact⟨_,h6,by simp⟩
 |loop st pe=>cases hb;exact⟨_,h.2,by simp⟩
structure EFact (w0:W0) (q:PH) (S:Pl) (L:LL) (w:World) (m:Nat) (x:Ea):Prop where
 h:∀k,x.lb.has k=false→zD 0 (updS S k x.pl) k x.lb w
 k:∀k,x.lb.has k=true→k<m
 f:∀b,x.bk=some b→¬w0.F b
 q:∀b,x.bk=some b→∀o,q b o=none
 l:∀k lb,getL L k=some lb→∀b,blk S k lb=some b→x.bk≠some b
 z:∀b,x.bk=some b→∃y,w.heap[b]?=some y∧y≠.deferred (some [])
def w0E(w0:W0)(w:World)(q:PH)(E:List Ea)(hs:w0.w.heap.size≤w.heap.size):W0 where
 w:=w
 F:=λb=>w0.F b∨(b<w.heap.size∧∃x∈E,x.bk=some b)
 lt:=λb h=>h.elim (λh=>Nat.lt_of_lt_of_le (w0.lt b h) hs) (λh=>h.1)
 F0:=w0.F0
 sub:=λb h=>.inl (w0.sub b h)
 q:=λb o=>@ite _ (∃x∈E,x.bk=some b) (Classical.propDecidable _) none (q b o)
theorem exec(hX:XOk P X)(hI:yE P (XInl xi))(hYr:YRel Yx' Y)(hY:YOk P Sb Y n0){o:Oper}{fr':Fr}{E:List Ea}(hc:Cfg w0 Sb B n0 N S q fr L a w)(hE:∀x∈E,EFact w0 q S L w nk x)(h0:n0≤nk)(hR:Rep M L)(hf:hF nk fr)(hl:hL nk L)
  (h:yj X xi Yx' all o nk fr M=some (y,nk',M')) (hp:putX N o.dst y fr=some fr') {R:Act→World→Prop}
  (hK:∀a' w' S' q' L',Cfg w0 Sb B n0 N S' q' fr' L' a' w'→Rep M' L'→hF nk' fr'→hL nk' L'→(∀k,k<nk→S' k=S k)→(∀x∈E,EFact w0 q' S' L' w' nk' x)→R a' w') :
  nk≤nk'∧hV nk' y∧((Region.wanted o (yielded all.toArray a.tmps)=true∧Oper.wpIn (FF r) n P o a w R Q) ∨
   (Region.wanted o (yielded all.toArray a.tmps)=false∧R (a.put o.dst undef) w)):=by
 let w1:W0:=w0E w0 w q E hc.m.be.size
 have hlt:∀x∈E,∀b,x.bk=some b→b<w.heap.size:=λx hx b hb=>by
  obtain⟨y,hh,_⟩:=(hE x hx).z b hb;exact(Array.getElem?_eq_some_iff.1 hh).1
 have q1:∀{b o v},w1.q b o=some v→(¬ ∃x∈E,x.bk=some b)∧q b o=some v:=λ{b o v} hq=>by
  have hq:@ite _ (∃x∈E,x.bk=some b) (Classical.propDecidable _) none (q b o)=some v:=hq;split at hq
  ·cases hq
  rename_i hn;exact⟨hn,hq⟩
 have hext:Ext w0 w1:=⟨rfl,λb hb=>.inl hb,hc.m.be,λb o v hq hF=>hc.m.gw b o v (q1 hq).2 hF⟩
 have hm1:Mem w1 q S L w:=by
  refine⟨hc.m.ch,hc.m.ap,hc.m.po,λk lb hk b hb hF=>?_,hc.m.on,Bel.refl w1,λb o v hq hF=>?_⟩
  ·rcases hF with hF|⟨_,x,hx,hxb⟩
   ·exact hc.m.fz k lb hk b hb hF
   exact(hE x hx).l k lb hk b hb hxb
  show @ite _ (∃x∈E,x.bk=some b) (Classical.propDecidable _) none (q b o)=some v;split
  ·rename_i hx;obtain⟨x,hx,hxb⟩:=hx;rw[(hE x hx).q b hxb o] at hq;cases hq
  exact hq
 have hc1:Cfg w1 Sb B n0 N S q fr L a w:=by
  refine⟨hc.ag,hc.b,hm1,hc.f,hc.n,?_⟩;obtain⟨Hs,e1,e2,e3⟩:=hc.d;exact⟨Hs,e1,e2,λb hb=>⟨.inl (e3 b hb).1,(e3 b hb).2.1,(hc.m.be.block b (e3 b hb).1).trans (e3 b hb).2.2⟩⟩
 have hY1:YOk P S Y nk:=(hY.congr λk hk=>hc.ag k hk).more h0;obtain⟨g1,g2,g3⟩:=xstep_run (r:=r) (n:=n) (Q:=Q) (fr':=fr') hX hI hYr hY1 (hc1.up nk) (Nat.le_refl nk) hR hf hl h hp
 have back:∀a' w',St w1 S (λd=>getL L d=some .dfr) nk N (XK nk' fr' M') a' w'→R a' w':=by
  rintro a' w' ⟨S',q',fr1,L',k',hc',hfr,h1,h2,h3⟩;rw[hfr] at hc';have hS:∀k,k<nk→S' k=S k:=hc'.ag;refine hK a' w' S' q' L' ⟨λk hk=>(hS k (Nat.lt_of_lt_of_le hk h0)).trans (hc.ag k hk),λd hd hB=>hc'.b d (Nat.lt_of_lt_of_le hd h0) (hc.b d hd hB),hext.mem hc'.m,hc'.f,hc'.n,?_⟩ h1 h2 h3 hS λx hx=>?_
  ·obtain⟨Hs,e1,e2,e3⟩:=hc'.d;refine⟨Hs,e1,e2,λb hb=>?_⟩;obtain⟨f1,f2,f3⟩:=e3 b hb;rcases f1 with f1|⟨_,x,hx,hxb⟩
   ·exact⟨f1,f2,(hc.m.be.block b f1).symm.trans f3⟩
   obtain⟨y,hh,hne⟩:=(hE x hx).z b hxb;have f3:w.heap[b]?=some (.deferred (some [])):=f3;rw[hh] at f3;cases f3;exact(hne rfl).elim
  have hF1:∀b,x.bk=some b→w1.F b:=λb hb=>.inr ⟨hlt x hx b hb,x,hx,hb⟩;have hbl:∀b,x.bk=some b→w'.heap[b]?=w.heap[b]?:=λb hb=>hc'.m.be.block b (hF1 b hb);refine⟨λk hk=>?_,λk hk=>Nat.lt_of_lt_of_le ((hE x hx).k k hk) g1,(hE x hx).f,λb hb o=>?_,λk lb hk b hb hxb=>hc'.m.fz k lb hk b hb (hF1 b hxb),λb hb=>by rw[hbl b hb];exact(hE x hx).z b hb⟩
  ·refine zI (w:=w) (yt (S:=updS S k x.pl) (by rw[zc,zc]) (λj hj=>?_) ((hE x hx).h k hk)) (λb hb=>hbl b (by rw[←hb];exact(Ea.blk_eq zc).symm));have hjk:j≠k:=λe=>by subst e;rw[hk] at hj;cases hj
   rw[zz hjk,zz hjk];exact hS j ((hE x hx).k j hj)
  cases hq:q' b o with
  |none=>rfl
  |some v=>exact((q1 (hc'.m.gw b o v hq (hF1 b hb))).1 ⟨x,hx,hb⟩).elim
 refine⟨g1,g2,?_⟩;rcases g3 with ⟨hw,g3⟩|⟨hw,g3⟩
 ·exact .inl ⟨hw,Oper.wpIn_mono back g3⟩
 exact .inr ⟨hw,back _ _ g3⟩
def hS'(cs:List SV)(fr:Fr):Prop:=∀m,hF m fr→hS m cs
theorem srcOk_ok{o:Oper}:∀{l:List Oper},srcOk X o l=true→∀(i:Nat) (o':Oper) (d:Nat),l[i]?=some o'→isEff X o'.op=true→o'.dst=some d→d ∉ opsL o
 |[],_,i,o',d,ho,_,_=>by simp at ho
 |o1::l,h,i,o',d,ho,he,hd=>by
  simp only[srcOk,Bool.and_eq_true] at h
  cases i with
  |zero=>
   cases ho;have h1:=h.1;rw[he,hd] at h1;simp only[Bool.not_true,Bool.false_or,List.all_eq_true,Bool.not_eq_true'] at h1;intro hm;have:=h1 d hm;rw[Nat.beq_refl] at this;cases this
  |succ i=>exact srcOk_ok h.2 i o' d wI he hd
theorem readersOk_ok{d:Nat}:∀{l:List Oper},readersOk X d all l=true→∀(i:Nat) (o:Oper),l[i]?=some o→d∈opsL o++x9 all o→isEff X o.op=true
 |[],_,i,o,ho,_=>by simp at ho
 |o1::l,h,i,o,ho,hd=>by
  simp only[readersOk,Bool.and_eq_true,Bool.or_eq_true,List.all_eq_true] at h
  cases i with
  |zero=>
   cases ho;rcases h.1 with h1|h1
   ·have:=h1 d hd;rw[Nat.beq_refl] at this;cases this
   exact h1
  |succ i=>exact readersOk_ok h.2 i o wI hd
theorem xk{o:Oper}(h:yC X all o=true):∃d,o.guard=none∧o.dst=some d∧isEff X o.op=true∧(∀(i:Nat) (o':Oper),all[i]?=some o'→d∈opsL o'++x9 all o'→isEff X o'.op=true) ∧
  (∀(i:Nat) (o':Oper) (d':Nat),all[i]?=some o'→isEff X o'.op=true→o'.dst=some d'→d' ∉ opsL o++x9 all o):=by
 unfold yC at h;split at h
 ·rename_i t d h1 h2 h3;have hg:x9 all o=[]:=by unfold x9;rw[h2]
  have ho:opsL o=[]:=by unfold opsL;rw[h1];rfl
  split at h
  ·cases h
  ·cases h
  exact⟨d,h2,h3,by rw[h1];rfl,λi o'=>readersOk_ok h i o',λi o' d' _ _ _ hm=>by rw[hg,ho] at hm;cases hm⟩
 ·rename_i t m ps d h1 h2 h3;have hg:x9 all o=[]:=by unfold x9;rw[h2]
  simp only[Bool.and_eq_true] at h;exact⟨d,h2,h3,by rw[h1];rfl,λi o'=>readersOk_ok h.1 i o',λi o' d' g1 g2 g3 hm=>by rw[hg,List.append_nil] at hm;exact srcOk_ok h.2 i o' d' g1 g2 g3 hm⟩
 cases h
theorem early_step{o:Oper}{y:SV}{nk':Nat}{M':Mm}(h:yC X all o=true)(hs:yj X xi Yx' all o nk fr M=some (y,nk',M')):
  ∃lb ow,(∀m,hF m fr→∀k,lb.has k=true→k<m)∧(lb≠.dfr)∧(y=match ow with|true=>.own nk|false=>.lp nk 0)∧nk'=nk+1∧xput M nk (some lb)=some M' ∧
   ∀nk2 M2 Mx,xput M2 nk2 (some lb)=some Mx→yj X xi Yx' all o nk2 fr M2=some ((match ow with|true=>SV.own nk2|false=>.lp nk2 0),nk2+1,Mx):=by
 unfold yC at h;split at h
 ·rename_i t d h1 h2 h3
  have key:(ty X.E.T t).d≠.other→(∀n e,(ty X.E.T t).d≠.arr n e)→∀nk M,yj X xi Yx' all o nk fr M=(match xput M nk (some (.cells t (valL (ty X.E.T t).zero))) with|some M'=>some (.lp nk 0,nk+1,M')|none=>none):=by
   intro n1 n2 nk M;unfold yj xguard;rw[h2];dsimp only;rw[h1];show we nk (wq X.E.T t nk M)=_;unfold wq;split
   ·rename_i n e hd;exact(n2 n e hd).elim
   unfold xalloc;split
   ·rename_i hd;exact(n1 hd).elim
   unfold we;cases xput M nk (some (.cells t (valL (ty X.E.T t).zero)))<;>rfl
  split at h
  ·cases h
  ·cases h
  rename_i n1 n2;rw[key n2 n1] at hs;split at hs;rotate_left
  ·cases hs
  rename_i M1 hM1;cases hs;refine⟨.cells t (valL (ty X.E.T t).zero),false,λm _ k hk=>?_,by simp,rfl,rfl,hM1,λnk2 M2 Mx hx=>?_⟩
  ·have h0:hS 0 (valL (ty X.E.T t).zero):=hS.valL _;have:=h0 k hk;omega
  rw[key n2 n1,hx]
 ·rename_i t m ps d h1 h2 h3
  have e:∀nk M,yj X xi Yx' all o nk fr M=we nk (x7 X.E.T t m nk fr ps.toList M):=by
   intro nk M;unfold yj xguard;rw[h2];dsimp only;rw[h1];rfl
  rw[e] at hs
  have key:∃el cs,hS' cs fr∧∀nk M,x7 X.E.T t m nk fr ps.toList M=(match xput M nk (some (.row el (ty X.E.T el).sz m cs)) with|some M'=>some (.own nk,M')|none=>none):=by
   unfold x7 at hs ⊢;split at hs;rotate_left
   ·cases hs
   rename_i el hd;split at hs
   ·cases hs
   rename_i n1;split at hs;rotate_left
   ·cases hs
   rename_i cs hcs;have hcS:hS' cs fr:=λm hm=>xparts_h hm (repl_h (hS.valL _) _) hcs
   cases hone:oneL cs with
   |false=>rw[hone] at hs;cases hs
   |true=>
   cases hble:Nat.ble (m*(ty X.E.T el).sz) 16777216 with
   |false=>rw[hone,hble] at hs;cases hs
   |true=>
   refine⟨el,cs,hcS,λnk M=>?_⟩;cases xput M nk (some (.row el (ty X.E.T el).sz m cs))<;>rfl
  obtain⟨el,cs,hcs,key⟩:=key;rw[key] at hs
  cases hM1:xput M nk (some (.row el (ty X.E.T el).sz m cs)) with
  |none=>rw[hM1] at hs;cases hs
  |some M1=>
  rw[hM1] at hs;cases hs;refine⟨.row el (ty X.E.T el).sz m cs,true,λm hm k hk=>hcs m hm k hk,by simp,rfl,rfl,hM1,λnk2 M2 Mx hx=>?_⟩;rw[e,key,hx];rfl
 cases h
structure DS (X:XE) (w0:W0) (Sb:Pl) (B:Nat→Prop) (n0 N:Nat) (ops:Array Oper) (tr:List Tc) (z:Nat×Fr×Mm) (fr:Fr) (listed:Array Bool) (a:Act) (w:World) (p:Nat) (S:Pl) (q:PH) (L:LL) (G:Fr) (E:List Ea):Prop where
 pn:p≤ops.toList.length
 pe:∀e o,ops.toList[e]?=some o→isEff X o.op=true→(listed.getD e false=true↔e<p∨∃x∈E,x.j=e)
 c:Cfg w0 Sb B n0 N S q G L a w
 r:Rep (stX tr z p).2.2 L
 f:hF (stX tr z p).1 G
 l:hL (stX tr z p).1 L
 g1:∀i o t d,ops.toList[i]?=some o→tr[i]?=some t→listed.getD i false=true→(∀x∈E,x.j≠i)→o.dst=some d→get G d=t.y
 g2:∀t,(∀i o,ops.toList[i]?=some o→listed.getD i false=true→o.dst≠some t)→get G t=get fr t
 e:∀x∈E,p≤x.j∧(∃o,ops.toList[x.j]?=some o∧yC X ops.toList o=true∧o.dst=some x.d ∧
  ∀tc,tr[x.j]?=some tc→tc.y=x.wd tc.nk∧(stX tr z (x.j+1)).1=tc.nk+1∧xput tc.M tc.nk (some x.lb)=some (stX tr z (x.j+1)).2.2)∧EFact w0 q S L w (stX tr z p).1 x∧get G x.d=.v x.vl
 nd:∀x∈E,∀y∈E,∀b,x.bk=some b→y.bk=some b→x.j=y.j
structure DInv (X:XE) (w0:W0) (Sb:Pl) (B:Nat→Prop) (n0 N:Nat) (ops:Array Oper) (tr:List Tc) (z:Nat×Fr×Mm) (fr:Fr) (listed:Array Bool) (a:Act) (w:World):Prop where
 cl:ClosedL ops listed
 sz:listed.size=ops.size
 ex:∃p S q L G E,DS X w0 Sb B n0 N ops tr z fr listed a w p S q L G E
theorem opsL_mem{o:Oper}{t:Nat}(h:Operand.tmp t∈o.op.operands.toList):t∈opsL o:=List.mem_filterMap.2 ⟨_,h,rfl⟩
theorem DS.adv1{tr:List Tc}{z:Nat×Fr×Mm}{fr:Fr}{listed:Array Bool}{p:Nat}{G:Fr}{E:List Ea}(hT:Trc X xi Yx' N ops.toList tr z nk fr M)(h0:n0≤nk)(hslots:slotsOk (befs ops.toList []) ops.toList ops.toList 0=true)
  (h:DS X w0 Sb B n0 N ops tr z fr listed a w p S q L G E) (hp:p<ops.toList.length) (hno:∀o,ops.toList[p]?=some o→isEff X o.op=true→∃x∈E,x.j=p) :
  ∃S' L' G' E',DS X w0 Sb B n0 N ops tr z fr listed a w (p+1) S' q L' G' E'∧∀x∈E',x∈E:=by
 have ho:=List.getElem?_eq_getElem (l:=ops.toList) (i:=p) hp;obtain⟨tc,ht⟩:=hT.at_ p _ ho
 cases he:isEff X ops.toList[p].op with
 |false=>
  obtain⟨k1,k2⟩:=xV he ht.step;have e1:(stX tr z (p+1)).1=(stX tr z p).1:=by rw[xd ht.get];exact k1
  have e2:(stX tr z (p+1)).2.2=(stX tr z p).2.2:=by rw[xd ht.get];exact k2
  refine⟨S,L,G,E,⟨hp,λe o hoe hee=>?_,h.c,by rw[e2];exact h.r,by rw[e1];exact h.f,by rw[e1];exact h.l,h.g1,h.g2,λx hx=>?_,h.nd⟩,λx hx=>hx⟩
  ·rw[h.pe e o hoe hee];have:e≠p:=λe'=>by subst e';rw[ho] at hoe;cases hoe;rw[he] at hee;cases hee
   constructor
   ·rintro(h|h)
    ·exact .inl ws
    exact .inr h
   rintro(h|h)
   ·exact .inl ws
   exact .inr h
  rw[e1];obtain⟨f1,⟨o,f2,f3⟩,f4⟩:=h.e x hx;refine⟨?_,⟨o,f2,f3⟩,f4⟩
  have:x.j≠p:=λe'=>by
   rw[e',ho] at f2;cases f2;obtain⟨d,_,_,g,_⟩:=xk f3.1;rw[g] at he;cases he
  omega
 |true=>
  obtain⟨x,hx,hxj⟩:=hno _ ho he;obtain⟨_,⟨o,f2,f3,f5,f6⟩,fE,fG⟩:=h.e x hx;rw[hxj,ho] at f2;cases f2;have g3:ops.toList[p].dst=some x.d:=f5;obtain⟨hy,hk,hM1⟩:=f6 tc (by rw[hxj];exact ht.get);rw[hxj] at hk hM1;have hP:stX tr z p=(tc.nk,tc.fr,tc.M):=xd ht.get
  have hn0:n0≤tc.nk:=by
   have:=hT.mono' (Nat.zero_le p) h.pn;rw[hT.zero,hP] at this;exact Nat.le_trans h0 this
  have hR:=h.r;have hf:=h.f;have hl:=h.l;rw[hP] at hR hf hl fE;have hR:Rep tc.M L:=hR;have hf:hF tc.nk G:=hf;have hl:hL tc.nk L:=hl;have fE:EFact w0 q S L w tc.nk x:=fE
  let S1:=updS S tc.nk x.pl
  have hS1:∀k,k≠tc.nk→S1 k=S k:=λk hk=>zz hk;have hlk:∀k lb,getL L k=some lb→k<tc.nk:=λk lb hk=>hl.key hk;have hLk:∀k,hasLL k L=true→S1 k=S k:=λk hk=>hS1 k (λe=>by have:=hl k hk;omega)
  have hch:∀k lb,getL L k=some lb→zD 0 S1 k lb w∧blk S1 k lb=blk S k lb:=λk lb hk=>by
   have hm:=(h.c.m.congr hLk).ch k lb hk;exact⟨hm,zX (hLk k (zm hk (.inl rfl)))⟩
  have hxk:x.lb.has tc.nk=false:=by
   cases hh:x.lb.has tc.nk with
   |false=>rfl
   |true=>have:=fE.k _ hh;omega
  have hb1:blk S1 tc.nk x.lb=x.bk:=Ea.blk_eq zc
  have gl:∀k lb,getL ((tc.nk,x.lb)::L) k=some lb→(k=tc.nk∧lb=x.lb)∨(k≠tc.nk∧getL L k=some lb):=λk lb hk=>by
   rw[ze] at hk;split at hk
   ·rename_i e;cases hk;exact .inl ⟨e.symm,rfl⟩
   rename_i e;exact .inr ⟨λe'=>e e'.symm,hk⟩
  have hm:Mem w0 q S1 ((tc.nk,x.lb)::L) w:=by
   refine⟨λk lb hk=>?_,λk lb k' lb' hk hk' hne b hb hb'=>?_,λk lb hk b hb o=>?_,λk lb hk b hb=>?_,h.c.m.on,h.c.m.be,h.c.m.gw⟩
   ·rcases gl k lb hk with ⟨rfl,rfl⟩|⟨_,hk⟩
    ·exact fE.h _ hxk
    exact(hch k lb hk).1
   ·rcases gl k lb hk with ⟨rfl,rfl⟩|⟨h1,hk⟩<;>rcases gl k' lb' hk' with ⟨rfl,rfl⟩|⟨h2,hk'⟩
    ·exact hne rfl
    ·rw[hb1] at hb;rw[(hch k' lb' hk').2] at hb';exact fE.l k' lb' hk' b hb' hb
    ·rw[hb1] at hb';rw[(hch k lb hk).2] at hb;exact fE.l k lb hk b hb hb'
    rw[(hch k lb hk).2] at hb;rw[(hch k' lb' hk').2] at hb';exact h.c.m.ap k lb k' lb' hk hk' hne b hb hb'
   ·rcases gl k lb hk with ⟨rfl,rfl⟩|⟨h1,hk⟩
    ·rw[hb1] at hb;exact fE.q b hb o
    rw[(hch k lb hk).2] at hb;exact h.c.m.po k lb hk b hb o
   rcases gl k lb hk with ⟨rfl,rfl⟩|⟨h1,hk⟩
   ·rw[hb1] at hb;exact fE.f b hb
   rw[(hch k lb hk).2] at hb;exact h.c.m.fz k lb hk b hb
  have hget:∀t,get ((x.d,x.wd tc.nk)::G) t=if x.d=t then x.wd tc.nk else get G t:=λt=>by rw[zH]
  have hcfg:Cfg w0 Sb B n0 N S1 q ((x.d,x.wd tc.nk)::G) ((tc.nk,x.lb)::L) a w:=by
   refine⟨λk hk=>(hS1 k ws).trans (h.c.ag k hk),λd hd hB=>?_,hm,λt=>?_,h.c.n,h.c.d⟩
   ·rw[ze,if_neg ws];exact h.c.b d hd hB
   rw[hget];split
   ·rename_i e;subst e;have:=h.c.f x.d;rw[fG] at this;have this:a.tmps.getD x.d undef=x.vl:=this;rw[this];exact(Ea.okv_wd zc).2 rfl
   exact okv_congr _ (λk hk=>hS1 k (λe=>by subst e;have:=hf.opv (.tmp t) tc.nk hk;omega)) (h.c.f t)
  have hE:∀y∈E,y.j≠p→EFact w0 q S1 ((tc.nk,x.lb)::L) w (tc.nk+1) y:=λy hy hyp=>by
   obtain⟨_,_,gE,_⟩:=h.e y hy;rw[hP] at gE;have gE:EFact w0 q S L w tc.nk y:=gE;refine⟨λk hk=>?_,λk hk=>Nat.lt_succ_of_lt (gE.k k hk),gE.f,gE.q,λk lb hk b hb hyb=>?_,gE.z⟩
   ·refine yt (S:=updS S k y.pl) (by rw[zc,zc]) (λj hj=>?_) (gE.h k hk);have hjk:j≠k:=λe=>by subst e;rw[hk] at hj;cases hj
    rw[zz hjk,zz hjk];exact hS1 j (λe=>by have:=gE.k j hj;omega)
   rcases gl k lb hk with ⟨rfl,rfl⟩|⟨h1,hk⟩
   ·rw[hb1] at hb;exact hyp ((h.nd y hy x hx b hyb hb).trans hxj)
   rw[(hch k lb hk).2] at hb;exact gE.l k lb hk b hb hyb
  have uniq:∀{j:Nat}{oj:Oper}{d:Nat},ops.toList[j]?=some oj→oj.dst=some d→∀j' o',ops.toList[j']?=some o'→o'.dst=some d→j'=j:=λ{j oj d} hoj hdj j' o' ho' hd'=>by
   have:=dstOk_ok ((xX hslots j oj hoj).2 d vL) j' o' ho' hd';omega
  have hlp:listed.getD p false=true:=(h.pe p _ ho he).2 (.inr ⟨x,hx,hxj⟩);refine⟨S1,_,(x.d,x.wd tc.nk)::G,E.filter (λy=>!(Nat.beq y.j p)),⟨hp,λe o hoe hee=>?_,hcfg,?_,?_,?_,λi o t d hoi hti hli hni hdi=>?_,λt hno=>?_,λy hy=>?_,λy hy y' hy' b hb=>?_⟩,λy hy=>(List.mem_filter.1 hy).1⟩
  ·rw[h.pe e o hoe hee];constructor
   ·rintro(h1|⟨y,hy,rfl⟩)
    ·exact .inl ws
    by_cases hyp:y.j=p
    ·exact .inl ws
    exact .inr ⟨y,List.mem_filter.2 ⟨hy,by cases hb:Nat.beq y.j p with|false=>rfl|true=>exact(hyp (Nat.eq_of_beq_eq_true hb)).elim⟩,rfl⟩
   rintro(h1|⟨y,hy,rfl⟩)
   ·by_cases hep:e=p
    ·exact .inr ⟨x,hx,by rw[hep,hxj]⟩
    exact .inl ws
   exact .inr ⟨y,(List.mem_filter.1 hy).1,rfl⟩
  ·exact hR.new hM1
  ·rw[hk];exact(hf.mono (Nat.le_succ _)).cons Ea.hV
  ·rw[hk];exact(hl.mono (Nat.le_succ _)).new (Nat.lt_succ_self _) (λk hk=>Nat.lt_succ_of_lt (fE.k k hk))
  ·rw[hget];by_cases hip:i=p
   ·subst hip;rw[ho] at hoi;cases hoi;rw[ht.get] at hti;cases hti;rw[g3] at hdi;cases hdi;rw[if_pos rfl];exact hy.symm
   rw[if_neg (λe=>hip (uniq ho g3 i o hoi (by rw[hdi,e])))];refine h.g1 i o t d hoi hti hli (λy hyE hyi=>?_) hdi;exact hni y (List.mem_filter.2 ⟨hyE,by cases hb:Nat.beq y.j p with|false=>rfl|true=>exact(hip (hyi.symm.trans (Nat.eq_of_beq_eq_true hb))).elim⟩) hyi
  ·rw[hget,if_neg (λe=>hno p _ ho hlp (by rw[g3,e]))];exact h.g2 t hno
  ·obtain⟨hyE,hyp⟩:=List.mem_filter.1 hy;have hyp:y.j≠p:=λe=>by rw[e,Nat.beq_refl] at hyp;cases hyp
   obtain⟨k1,⟨o,k2,k3,k5,k6⟩,_,k7⟩:=h.e y hyE;refine⟨by omega,⟨o,k2,k3,k5,k6⟩,by rw[hk];exact hE y hyE hyp,?_⟩;rw[hget,if_neg (λe=>hyp (uniq ho g3 y.j o k2 (by rw[k5,e])))];exact k7
  exact h.nd y (List.mem_filter.1 hy).1 y' (List.mem_filter.1 hy').1 b hb
theorem DS.adv{tr:List Tc}{z:Nat×Fr×Mm}{fr:Fr}{listed:Array Bool}(hT:Trc X xi Yx' N ops.toList tr z nk fr M)(h0:n0≤nk)(hslots:slotsOk (befs ops.toList []) ops.toList ops.toList 0=true):
  ∀(d:Nat) {p:Nat}{S:Pl}{L:LL}{G:Fr}{E:List Ea},DS X w0 Sb B n0 N ops tr z fr listed a w p S q L G E→p+d≤ops.toList.length→(∀e o,ops.toList[e]?=some o→isEff X o.op=true→p≤e→e<p+d→∃x∈E,x.j=e) →
  ∃S' L' G' E',DS X w0 Sb B n0 N ops tr z fr listed a w (p+d) S' q L' G' E'∧∀x∈E',x∈E
 |0,p,S,L,G,E,h,_,_=>⟨S,L,G,E,h,λ_ h=>h⟩
 |d+1,p,S,L,G,E,h,hp,hno=>by
  obtain⟨S1,L1,G1,E1,h1,h2⟩:=DS.adv1 hT h0 hslots h ws (λo ho he=>hno p o ho he (Nat.le_refl _) ws)
  obtain ⟨S2,L2,G2,E2,h3,h4⟩:=DS.adv hT h0 hslots d h1 (by omega) (fun e o ho he g1 g2=>by
   rcases(h1.pe e o ho he).1 ((h.pe e o ho he).2 (.inr (hno e o ho he ws ws))) with h5|h5
   ·omega
   exact h5)
  refine⟨S2,L2,G2,E2,?_,λx hx=>h2 x (h4 x hx)⟩;rw[show p+(d+1)=p+1+d from by omega];exact h3
theorem xput_le{M M2:Mm}{k j:Nat}{x y:Option LB}{M':Mm}(h:xput M k x=some M')(hj:j≤k):∃M3,xput M2 j y=some M3:=by
 unfold xput at h ⊢;split at h
 ·rename_i hb;have hb:Nat.blt k 1000000000=true:=hb;have:Nat.blt j 1000000000=true:=Nat.ble_eq_true_of_le (Nat.le_trans (Nat.succ_le_succ hj) (Nat.le_of_ble_eq_true hb));rw[this];exact⟨_,rfl⟩
 cases h
theorem dinv_step(hX:XOk P X)(hI:yE P (XInl xi))(hYr:YRel Yx' Y)(hY:YOk P Sb Y n0){tr:List Tc}{z:Nat×Fr×Mm}{fr:Fr}{nk:Nat}{M:Mm}(hT:Trc X xi Yx' N ops.toList tr z nk fr M)(h0:n0≤nk)
  (hreg:regOk ops=true) (hchk:xchk X xi Yx' ops.toList (befs ops.toList []) tr z.1 z.2.2 ops.toList tr 0=true) {listed:Array Bool}(hd:DInv X w0 Sb B n0 N ops tr z fr listed a w) {i:Nat}(hi:i∈Region.ready .any ops listed) :
  wpOpIn (FF r) n P ops Q i (λa' w'=>DInv X w0 Sb B n0 N ops tr z fr (listed.setIfInBounds i true) a' w') a w:=by
 obtain⟨hcl,hsz,p,S,q,L,G,E,hD⟩:=hd;have hcl':=x4 hcl hi;obtain⟨hun,o,hop,hall⟩:=mem_ready.1 hi;have ho:ops.toList[i]?=some o:=by rw[Array.getElem?_toList];exact hop
 have hil:i<ops.toList.length:=(List.getElem?_eq_some_iff.1 ho).1;have hil2:i<listed.size:=by rw[hsz];simpa using hil
 have hunf:listed.getD i false=false:=by
  rw[Array.getD_eq_getD_getElem?,Array.getElem?_eq_getElem hil2] at hun ⊢;exact hun
 simp only[regOk,Bool.and_eq_true] at hreg;obtain⟨⟨⟨hedge,hslots⟩,hnd⟩,hsel⟩:=hreg;have hall':∀o',ops[i]?=some o'→∀e∈o'.after,Region.binds .any e=true→listed.getD e.on false=true:=λo' ho'=>by rw[hop] at ho';cases ho';exact hall
 have bef_i:∀{j:Nat},bit ((nth (befs ops.toList []) i).getD 0) j=true→listed.getD j false=true∧j<i:=λ{j} hb=>by
  obtain⟨m,hm1,hm2⟩:=befs_some hil;rw[hm2] at hb;exact bef_listed hcl i hm1 hb hall'
 have bef_j:∀{j:Nat},j<ops.toList.length→bit ((nth (befs ops.toList []) j).getD 0) i=true→listed.getD j false=false:=λ{j} hj hb=>by
  obtain⟨m,hm1,hm2⟩:=befs_some hj;rw[hm2] at hb
  cases hl:listed.getD j false with
  |false=>rfl
  |true=>
   have:=(bef_listed hcl j hm1 hb (λo2 ho2 e he hbn=>hcl j o2 hl ho2 e he hbn)).1;rw[hunf] at this;cases this
 obtain⟨tc,ht⟩:=hT.at_ i o ho;obtain⟨hs1,hs2⟩:=xX hslots i o ho;rw[Nat.zero_add] at hs1 hs2
 have uniq:∀{j:Nat}{oj:Oper}{d:Nat},ops.toList[j]?=some oj→oj.dst=some d→∀j' o',ops.toList[j']?=some o'→o'.dst=some d→j'=j:=λ{j oj d} hoj hdj j' o' ho' hd'=>by
  have:=dstOk_ok ((xX hslots j oj hoj).2 d vL) j' o' ho' hd';omega
 have hii:(listed.setIfInBounds i true).getD i false=true:=by simp[hil2]
 have slot:∀{p S L G E},DS X w0 Sb B n0 N ops tr z fr listed a w p S q L G E→(∀x∈E,x.d∈opsL o++x9 ops.toList o→i≤x.j)→∀t,t∈opsL o++x9 ops.toList o→get G t=get tc.fr t:=λ{p S L G E} hD hEi t htm=>by
  have hst:tc.fr=(stX tr z i).2.1:=by rw[xd ht.get]
  rw[hst];have hok:=slotOk_ok (hs1 t htm);by_cases hw:∃j oj,ops.toList[j]?=some oj∧oj.dst=some t∧listed.getD j false=true
  ·obtain⟨j,oj,hoj,hdj,hlj⟩:=hw;obtain⟨tj,gj⟩:=hT.at_ j oj hoj;have hjl:j<ops.toList.length:=(List.getElem?_eq_some_iff.1 hoj).1
   have hji:j<i:=by
    rcases hok j oj hoj hdj with e|⟨e1,e2⟩|⟨e1,e2⟩
    ·rw[Nat.zero_add] at e;subst e;rw[hunf] at hlj;cases hlj
    ·rw[Nat.zero_add] at e1;exact e1
    rw[Nat.zero_add] at e1 e2;rw[bef_j hjl e2] at hlj;cases hlj
   rw [hD.g1 j oj tj t hoj gj.get hlj (fun x hx hxj=>by
    obtain⟨_,⟨o2,f2,f3,f5,_⟩,_⟩:=hD.e x hx;rw[hxj,hoj] at f2;cases f2;rw[hdj] at f5;cases f5;have:=hEi x hx htm
    omega) hdj]
   exact(hT.lays hoj hdj gj.get (uniq hoj hdj) i ws hji).symm
  rw[hD.g2 t (λj oj hoj hlj hdj=>hw ⟨j,oj,hoj,hdj,hlj⟩)];refine(hT.keeps i ws λj oj hj hoj hdj=>?_).symm;rcases hok j oj hoj hdj with e|⟨e1,e2⟩|⟨e1,e2⟩
  ·omega
  ·rw[Nat.zero_add] at e2;exact hw ⟨j,oj,hoj,hdj,(bef_i e2).1⟩
  omega
 have conv:∀{p S L G E},DS X w0 Sb B n0 N ops tr z fr listed a w p S q L G E→(∀x∈E,isEff X o.op=true→i≤x.j)→∀x∈E,x.d∈opsL o++x9 ops.toList o→i≤x.j:=λ{p S L G E} hD hEi x hx hm=>by
  obtain⟨_,⟨o2,f2,f3,f5,_⟩,_⟩:=hD.e x hx;obtain⟨d,_,k3,_,k6,_⟩:=xk f3;rw[f5] at k3;cases k3;exact hEi x hx (k6 i o ho hm)
 have step_congr:∀{G:Fr},(∀t,t∈opsL o++x9 ops.toList o→get G t=get tc.fr t)→∀{nk:Nat}{M:Mm},yj X xi Yx' ops.toList o nk G M=yj X xi Yx' ops.toList o nk tc.fr M:=λ{G} slot {nk M}=>by
  have hop2:xop X xi Yx' nk G M o.op=xop X xi Yx' nk tc.fr M o.op:=xop_congr λx hx=>by
   cases x with
   |tmp t=>exact slot t (List.mem_append_left _ (opsL_mem hx))
   |const v=>cases v<;>rfl
   |_=>rfl
  have hg:xguard ops.toList o.guard G=xguard ops.toList o.guard tc.fr:=by
   unfold xguard
   cases hgd:o.guard with
   |none=>rfl
   |some g=>
    obtain⟨j,want⟩:=g;dsimp only
    cases hds:dstOf ops.toList j with
    |none=>rfl
    |some t=>
     dsimp only;rw[slot t (List.mem_append_right _ (by unfold x9;rw[hgd];dsimp only;rw[hds];simp))]
  unfold yj;rw[hg,hop2]
 have putG:∀{y:SV}{G fr1 fr2:Fr}{y':SV},putX N o.dst y' fr1=some fr2→∃G',putX N o.dst y G=some G':=λ{y G fr1 fr2 y'} h=>by
  unfold putX at h ⊢;split
  ·exact⟨_,rfl⟩
  rename_i d hd;rw[hd] at h;dsimp only at h;split at h
  ·exact⟨_,rfl⟩
  cases h
 have h0p:∀{p},p≤ops.toList.length→n0≤(stX tr z p).1:=λ{p} hpn=>by
  have:=hT.mono' (Nat.zero_le p) hpn;rw[hT.zero] at this;exact Nat.le_trans h0 this
 have lay:∀{R:Act→World→Prop},((Region.wanted o (yielded ops.toList.toArray a.tmps)=true∧Oper.wpIn (FF r) n P o a w R Q)∨(Region.wanted o (yielded ops.toList.toArray a.tmps)=false∧R (a.put o.dst undef) w))→wpOpIn (FF r) n P ops Q i R a w:=λ{R} g3=>by
  unfold wpOpIn;rw[hop];dsimp only;have hto:ops.toList.toArray=ops:=by simp
  rw[hto] at g3;rcases g3 with ⟨hw,g3⟩|⟨hw,g3⟩
  ·rw[if_pos hw];exact g3
  rw[if_neg (by rw[hw];simp)];exact⟨λ_ _=>trivial,g3⟩
 have run:∀{p p' nk':Nat}{M':Mm}{S L G E},DS X w0 Sb B n0 N ops tr z fr listed a w p S q L G E→(∀x∈E,isEff X o.op=true→i≤x.j)→yj X xi Yx' ops.toList o (stX tr z p).1 tc.fr (stX tr z p).2.2=some (tc.y,nk',M')→p'≤ops.toList.length→nk'=(stX tr z p').1→M'=(stX tr z p').2.2 →
   (∀e oe,ops.toList[e]?=some oe→isEff X oe.op=true→((listed.setIfInBounds i true).getD e false=true↔e<p'∨∃x∈E,x.j=e))→(∀x∈E,p'≤x.j) →
   wpOpIn (FF r) n P ops Q i (λa' w'=>DInv X w0 Sb B n0 N ops tr z fr (listed.setIfInBounds i true) a' w') a w:=by
  intro p p' nk' M' S L G E hD hEi hst hp' e1 e2 hpe' hEp;obtain⟨G',hG'⟩:=putG (y:=tc.y) (G:=G) ht.put;have hget:∀t,get G' t=if o.dst=some t then tc.y else get G t:=putX_get hG'
  have:=exec (r:=r) (n:=n) (Q:=Q) (fr':=G') (E:=E) (R:=fun a' w'=>DInv X w0 Sb B n0 N ops tr z fr (listed.setIfInBounds i true) a' w') hX hI hYr hY hD.c (fun x hx=>(hD.e x hx).2.2.1) (h0p hD.pn) hD.r hD.f hD.l ((step_congr (slot hD (conv hD hEi))).trans hst) hG' (by
   intro a w S' q' L' hc' h1 h2 h3 _ hE';refine⟨hcl',by simpa using hsz,p',S',q',L',G',E,hp',hpe',hc',by rw[←e2];exact h1,by rw[←e1];exact h2,by rw[←e1];exact h3,λj oj tj d hoj htj hlj hnE hdj=>?_,λt hno=>?_,λx hx=>?_,hD.nd⟩
   ·rw[hget];by_cases hji:j=i
    ·subst hji;rw[ho] at hoj;cases hoj;rw[ht.get] at htj;cases htj;rw[if_pos hdj]
    rw[if_neg (λhd2=>hji (uniq ho hd2 j oj hoj hdj))];rw[getD_set_ne false (Ne.symm hji)] at hlj;exact hD.g1 j oj tj d hoj htj hlj hnE hdj
   ·rw[hget];rw[if_neg (hno i o ho hii)];exact hD.g2 t λj oj hoj hlj=>hno j oj hoj (getD_set_true hlj)
   obtain⟨k1,⟨o2,k2,k3,k5,k6⟩,_,k7⟩:=hD.e x hx;refine⟨hEp x hx,⟨o2,k2,k3,k5,k6⟩,by rw[←e1];exact hE' x hx,?_⟩;rw[hget];have hli:listed.getD x.j false=true:=(hD.pe x.j o2 k2 ((xk k3).elim λ_ k=>k.2.2.1)).2 (.inr ⟨x,hx,rfl⟩);have hxi:x.j≠i:=λe=>by rw[e,hunf] at hli;cases hli
   rw[if_neg (λhd2=>hxi (uniq ho hd2 x.j o2 k2 k5))]
   exact k7)
  exact lay this.2.2
 obtain⟨hck1,hck2⟩:=xchk_ok hchk i o tc ho ht.get;rw[Nat.zero_add] at hck1 hck2
 have xne:∀{p S L G E},DS X w0 Sb B n0 N ops tr z fr listed a w p S q L G E→∀x∈E,x.j≠i:=λ{p S L G E} hD x hx e=>by
  obtain⟨_,⟨o2,k2,k3,_⟩,_⟩:=hD.e x hx;have hli:listed.getD x.j false=true:=(hD.pe x.j o2 k2 ((xk k3).elim λ_ k=>k.2.2.1)).2 (.inr ⟨x,hx,rfl⟩);rw[e,hunf] at hli;cases hli
 cases he:isEff X o.op with
 |true=>
  have hip:∀{p S L G E},DS X w0 Sb B n0 N ops tr z fr listed a w p S q L G E→p≤i:=λ{p S L G E} hD=>by
   rcases Nat.lt_or_ge i p with h|h
   ·have:=(hD.pe i o ho he).2 (.inl h);rw[hunf] at this;cases this
   exact h
  cases hea:yC X ops.toList o with
  |false=>
   have hck1:=hck1 he;rw[hea] at hck1;have hx:=xeffs_ok hck1
   have hall2:∀e oe,ops.toList[e]?=some oe→isEff X oe.op=true→p≤e→e<i→∃x∈E,x.j=e:=λe oe hoe hee h1 h2=>by
    have:=hx e oe hoe hee (by rw[Nat.zero_add];exact h2);rw[Nat.zero_add] at this;rcases(hD.pe e oe hoe hee).1 (bef_i this).1 with h|h
    ·omega
    exact h
   obtain⟨S1,L1,G1,E1,hD1,hsub⟩:=DS.adv hT h0 hslots (i-p) hD (by have:=hip hD;omega) (λe oe hoe hee h1 h2=>hall2 e oe hoe hee h1 (by have:=hip hD;omega));rw[show p+(i-p)=i by have:=hip hD;omega] at hD1;have hst:=ht.step;have hP:stX tr z i=(tc.nk,tc.fr,tc.M):=xd ht.get;refine run (p:=i) (p':=i+1) hD1 (λx hx _=>(hD1.e x hx).1) (by rw[hP];exact hst) ws rfl rfl (λe oe hoe hee=>?_) (λx hx=>?_)
   ·by_cases hei:e=i
    ·subst hei;simp[hil2]
    rw[getD_set_ne false (Ne.symm hei),hD1.pe e oe hoe hee];constructor
    ·rintro(h|h)
     ·exact .inl ws
     exact .inr h
    rintro(h|h)
    ·exact .inl ws
    exact .inr h
   have h1:=(hD1.e x hx).1;have h2:=xne hD1 x hx;omega
  |true=>
   obtain⟨d,g2,g3,_,_,g7⟩:=xk hea
   have hEi:∀x∈E,x.d∈opsL o++x9 ops.toList o→i≤x.j:=λx hx hm=>by
    obtain⟨_,⟨o2,f2,f3,f5,_⟩,_⟩:=hD.e x hx;exact(g7 x.j o2 x.d f2 ((xk f3).elim λ_ k=>k.2.2.1) f5 hm).elim
   have hsl:=slot hD hEi;obtain⟨lb,ow,lk,lnd,ly,lnk,lM,lall⟩:=early_step hea ((step_congr hsl).trans ht.step)
   have hle:(stX tr z p).1≤tc.nk:=by
    have:=hT.mono' (hip hD) ws;rw[xd ht.get] at this;exact this
   obtain⟨M2,hM2⟩:=xput_le (M2:=(stX tr z p).2.2) (y:=some lb) lM hle
   have hgen:∀(k:Nat) (hk:k=(stX tr z p).1),wpOpIn (FF r) n P ops Q i (λa' w'=>DInv X w0 Sb B n0 N ops tr z fr (listed.setIfInBounds i true) a' w') a w:=by
    intro k hk;rw[←hk] at hM2
    let xw:Ea:=⟨i,d,lb,S 0,ow⟩
    obtain⟨G',hG'⟩:=putG (y:=xw.wd k) (G:=G) ht.put
    have hG2:G'=(d,xw.wd k)::G:=by
     unfold putX at hG';rw[g3] at hG';dsimp only at hG';split at hG'<;>cases hG';rfl
    have hf:=hD.f;have hl:=hD.l;have hR:=hD.r;rw[←hk] at hf hl;have hst2:yj X xi Yx' ops.toList o k G (stX tr z p).2.2=some (xw.wd k,k+1,M2):=lall k _ _ hM2
    have:=exec (r:=r) (n:=n) (Q:=Q) (fr':=G') (E:=E) (R:=fun a' w'=>DInv X w0 Sb B n0 N ops tr z fr (listed.setIfInBounds i true) a' w') hX hI hYr hY hD.c (fun x hx=>by rw [hk];exact (hD.e x hx).2.2.1) (by rw [hk];exact h0p hD.pn) hR hf hl hst2 hG' (by
     intro a w S' q' L' hc' h1 h2 h3 hSS hE';subst hG2
     have hgl:∀j,getL L' j=if k=j then some lb else getL L j:=λj=>by
      rw[h1 j,xP hM2,hR j]
     have hnk:getL L' k=some lb:=by rw[hgl,if_pos rfl]
     have hin:∀j lb,getL L j=some lb→getL L' j=some lb∧j≠k:=λj lb hj=>by
      have hjk:j≠k:=λe=>by have:=hl.key hj;omega
      exact⟨by rw[hgl,if_neg (Ne.symm hjk)];exact hj,hjk⟩
     have hm:Mem w0 q' S' L w:=⟨λj lb hj=>hc'.m.ch j lb (hin j lb hj).1,λj lb j' lb' hj hj'=>hc'.m.ap j lb j' lb' (hin j lb hj).1 (hin j' lb' hj').1,λj lb hj=>hc'.m.po j lb (hin j lb hj).1,λj lb hj=>hc'.m.fz j lb (hin j lb hj).1,hc'.m.on,hc'.m.be,hc'.m.gw⟩;have hchk:=hc'.m.ch k _ hnk
     let x0:Ea:=⟨i,d,lb,S' k,ow⟩
     have hbk:blk S' k lb=x0.bk:=Ea.blk_eq (x:=x0) rfl
     have hx0:EFact w0 q' S' L w k x0:=⟨fun k' hk'=>chunk_key (S:=S') (k:=k) zc (fun j hj=>zz (fun e=>by subst e;rw [hk'] at hj;cases hj)) hchk,fun j hj=>lk k hf j hj,
      fun b hb=>hc'.m.fz k _ hnk _ (hbk.trans hb),fun b hb=>hc'.m.po k _ hnk _ (hbk.trans hb),fun j lb hj b hb hxb=>hc'.m.ap j lb k _ (hin j lb hj).1 hnk (hin j lb hj).2 _ hb (hbk.trans hxb),fun b hb=>chunk_lt hchk lnd (hbk.trans hb)⟩
     have hget:∀u,get ((d,SV.v x0.vl)::G) u=if d=u then .v x0.vl else get G u:=λu=>by rw[zH]
     refine⟨hcl',by simpa using hsz,p,S',q',L,(d,.v x0.vl)::G,x0::E,hD.pn,λe oe hoe hee=>?_,⟨hc'.ag,λe he hB=>hD.c.b e he hB,hm,λu=>?_,hc'.n,hc'.d⟩,hR,?_,hD.l,λj oj tj e hoj htj hlj hnE hdj=>?_,λu hno=>?_,λx hx=>?_,λx hx y hy b hb hb2=>?_⟩
     ·by_cases hei:e=i
      ·subst hei;simp only[hii,true_iff];exact .inr ⟨x0,.head _,rfl⟩
      rw[getD_set_ne false (Ne.symm hei),hD.pe e oe hoe hee];constructor
      ·rintro(h|⟨x,hx,h⟩)
       ·exact .inl h
       exact .inr ⟨x,.tail _ hx,h⟩
      rintro(h|⟨x,hx,h⟩)
      ·exact .inl h
      rcases List.mem_cons.1 hx with rfl|hx
      ·exact(hei h.symm).elim
      exact .inr ⟨x,hx,h⟩
     ·have:=hc'.f u;rw[zH] at this;rw[hget];split at this
      ·rename_i e;rw[if_pos e];exact(Ea.okv_wd (x:=x0) (S:=S') (k:=k) rfl).1 this
      rename_i e;rw[if_neg e];exact this
     ·rw[←hk];exact hf.cons (λj hj=>by simp[SV.has] at hj)
     ·rw[hget];have hji:j≠i:=λe'=>hnE x0 (.head _) e'.symm;rw[if_neg (λe'=>hji (uniq ho g3 j oj hoj (by rw[hdj,e'])))];rw[getD_set_ne false (Ne.symm hji)] at hlj;exact hD.g1 j oj tj e hoj htj hlj (λx hx=>hnE x (.tail _ hx)) hdj
     ·rw[hget,if_neg (λe'=>hno i o ho hii (by rw[g3,e']))];exact hD.g2 u λj oj hoj hlj=>hno j oj hoj (getD_set_true hlj)
     ·rcases List.mem_cons.1 hx with rfl|hx
      ·refine⟨hip hD,⟨o,ho,hea,g3,λt2 ht2=>?_⟩,by rw[←hk];exact hx0,by rw[hget,if_pos rfl]⟩;rw[ht.get] at ht2;cases ht2;refine⟨ly,?_,?_⟩
       ·exact lnk
       exact lM
      obtain⟨k1,⟨o2,k2,k3,k5,k6⟩,kE,k7⟩:=hD.e x hx;have hE'':=hE' x hx;refine⟨k1,⟨o2,k2,k3,k5,k6⟩,⟨hE''.h,kE.k,hE''.f,hE''.q,λj lb hj b hb=>hE''.l j lb (hin j lb hj).1 b hb,hE''.z⟩,?_⟩;rw[hget,if_neg (λe'=>xne hD x hx (uniq ho g3 x.j o2 k2 (by rw[k5,e'])))];exact k7
     rcases List.mem_cons.1 hx with rfl|hx<;>rcases List.mem_cons.1 hy with rfl|hy
     ·rfl
     ·exact((hE' y hy).l k _ hnk b (hbk.trans hb) hb2).elim
     ·exact((hE' x hx).l k _ hnk b (hbk.trans hb2) hb).elim
     exact hD.nd x hx y hy b hb hb2)
    exact lay this.2.2
   exact hgen _ rfl
 |false=>
  have hEi:∀x∈E,isEff X o.op=true→i≤x.j:=λx hx h=>by rw[he] at h;cases h
  have hpairs0:=hck2 he
  have fin:yj X xi Yx' ops.toList o (stX tr z p).1 tc.fr (stX tr z p).2.2=some (tc.y,(stX tr z p).1,(stX tr z p).2.2)→wpOpIn (FF r) n P ops Q i (λa' w'=>DInv X w0 Sb B n0 N ops tr z fr (listed.setIfInBounds i true) a' w') a w:=λh=>by
   refine run hD hEi h hD.pn rfl rfl (λe oe hoe hee=>?_) (λx hx=>(hD.e x hx).1);have hei:e≠i:=λe'=>by subst e';rw[ho] at hoe;cases hoe;rw[he] at hee;cases hee
   rw[getD_set_ne false (Ne.symm hei)];exact hD.pe e oe hoe hee
  have canon:yj X xi Yx' ops.toList o tc.nk tc.fr tc.M=some (tc.y,tc.nk,tc.M):=by
   have:=ht.step;obtain⟨e1,e2⟩:=xV he this;rw[e1,e2] at this;exact this
  have hpn:=hD.pn;rcases Bool.or_eq_true_iff.1 hpairs0 with hls|hpairs
  ·refine fin (ldSafe_ok hT ht.get hls canon hpn λe oe g1 g2 g3 g4 hbit=>?_);have hel:e<ops.toList.length:=(List.getElem?_eq_some_iff.1 g1).1;obtain⟨m,hm1,hm2⟩:=befs_some hel;have:=bef_j hel hbit;have h':=(hD.pe e oe g1 g2).2 (.inl g4);rw[this] at h';cases h'
  have pair:=λe oe te hoe hte hee=>xpairs_ok (frF:=z.2.1) hpairs e oe te hoe hte hee;rcases Nat.lt_or_ge i p with hip|hip
  ·-- later than in the text
   by_cases hex:∃e oe,ops.toList[e]?=some oe∧isEff X oe.op=true∧i≤e∧e<p
   ·have last:∀(d:Nat),(∃e oe,ops.toList[e]?=some oe∧isEff X oe.op=true∧i≤e∧e<p∧p-e≤d)→∃e oe,ops.toList[e]?=some oe∧isEff X oe.op=true∧i≤e∧e<p∧∀e' oe',ops.toList[e']?=some oe'→isEff X oe'.op=true→e+1≤e'→e'<p→False:=by
     intro d
     induction d with
     |zero=>rintro⟨e,oe,_,_,_,h1,h2⟩;omega
     |succ d ih=>
      rintro⟨e,oe,h1,h2,h3,h4,h5⟩;by_cases hm:∃e' oe',ops.toList[e']?=some oe'∧isEff X oe'.op=true∧e+1≤e'∧e'<p
      ·obtain⟨e',oe',g1,g2,g3,g4⟩:=hm;exact ih ⟨e',oe',g1,g2,by omega,g4,by omega⟩
      exact⟨e,oe,h1,h2,h3,h4,λe' oe' g1 g2 g3 g4=>hm ⟨e',oe',g1,g2,g3,g4⟩⟩
    obtain⟨e0,oe0,h1,h2,h3,h4⟩:=hex;obtain⟨e,oe,g1,g2,g3,g4,g5⟩:=last (p-e0) ⟨e0,oe0,h1,h2,h3,h4,Nat.le_refl _⟩;have hei:e≠i:=λe'=>by subst e';rw[ho] at g1;cases g1;rw[he] at g2;cases g2
    obtain⟨te,ge⟩:=hT.at_ e oe g1;have hp1:=pair e oe te g1 ge.get g2;rw[Nat.zero_add] at hp1;have hel:e<ops.toList.length:=(List.getElem?_eq_some_iff.1 g1).1;obtain⟨k1,k2⟩:=hT.calm' (i:=e+1) (j:=p) ws hpn g5;unfold xpair at hp1
    have hb:Nat.blt e i=false:=by
     cases hb:Nat.blt e i with
     |false=>rfl
     |true=>have:e<i:=Nat.le_of_ble_eq_true hb;omega
    rw[hb] at hp1;dsimp only at hp1;obtain⟨m,hm1,hm2⟩:=befs_some hel;have hm3:nth (befs ops.toList []) e=some m:=by rw[xp];exact hm1
    rw[hm3] at hp1;dsimp only at hp1;split at hp1
    ·rename_i hbit;have:=bef_j hel (by rw[hm2];exact hbit);have h':=(hD.pe e oe g1 g2).2 (.inl g4);rw[this] at h';cases h'
    have:=xsame_ok (nk3:=0) (M3:=.lf) he canon hp1;refine fin ?_;rw[k1,k2];exact this
   obtain⟨k1,k2⟩:=hT.calm' (Nat.le_of_lt hip) hpn (λe oe g1 g2 g3 g4=>hex ⟨e,oe,g1,g2,g3,g4⟩);refine fin ?_;rw[k1,k2,xd ht.get];exact canon
  -- earlier than in the text,or there
  by_cases hex:∃e oe,ops.toList[e]?=some oe∧isEff X oe.op=true∧p≤e∧e<i
  ·have first:∀(d:Nat),(∃e oe,ops.toList[e]?=some oe∧isEff X oe.op=true∧p≤e∧e<i∧e-p≤d)→∃e oe,ops.toList[e]?=some oe∧isEff X oe.op=true∧p≤e∧e<i∧∀e' oe',ops.toList[e']?=some oe'→isEff X oe'.op=true→p≤e'→e'<e→False:=by
    intro d
    induction d with
    |zero=>rintro⟨e,oe,h1,h2,h3,h4,h5⟩;exact⟨e,oe,h1,h2,h3,h4,λe' _ _ _ g1 g2=>by omega⟩
    |succ d ih=>
     rintro⟨e,oe,h1,h2,h3,h4,h5⟩;by_cases hm:∃e' oe',ops.toList[e']?=some oe'∧isEff X oe'.op=true∧p≤e'∧e'<e
     ·obtain⟨e',oe',g1,g2,g3,g4⟩:=hm;exact ih ⟨e',oe',g1,g2,g3,by omega,by omega⟩
     exact⟨e,oe,h1,h2,h3,h4,λe' oe' g1 g2 g3 g4=>hm ⟨e',oe',g1,g2,g3,g4⟩⟩
   obtain⟨e0,oe0,h1,h2,h3,h4⟩:=hex;obtain⟨e,oe,g1,g2,g3,g4,g5⟩:=first (e0-p) ⟨e0,oe0,h1,h2,h3,h4,Nat.le_refl _⟩
   obtain⟨te,ge⟩:=hT.at_ e oe g1;have hp1:=pair e oe te g1 ge.get g2;rw[Nat.zero_add] at hp1;obtain⟨k1,k2⟩:=hT.calm' (i:=p) (j:=e) g3 ws g5;rw[xd ge.get] at k1 k2;unfold xpair at hp1;have hb:Nat.blt e i=true:=Nat.ble_eq_true_of_le g4;rw[hb] at hp1;dsimp only at hp1;obtain⟨m,hm1,hm2⟩:=befs_some hil;have hm3:nth (befs ops.toList []) i=some m:=by rw[xp];exact hm1
   rw[hm3] at hp1;dsimp only at hp1;split at hp1
   ·rename_i hbit hea;have:=(bef_i (by rw[hm2];exact hbit)).1;unfold xT at hea
    cases hea1:yC X ops.toList oe with
    |true=>
     rw[hea1,hm3] at hea;dsimp only at hea;refine passed_ok (by simpa using hea) λe' oe' q1 q2 q3 q4 q5=>?_;rw[Nat.zero_add] at q4 q5;have:=(bef_i (j:=e') (by rw[hm2];exact q5)).1;rcases(hD.pe e' oe' q1 q2).1 this with h'|⟨x,hx,hxe⟩
     ·omega
     obtain⟨_,⟨o2,k2,k3,_⟩,_⟩:=hD.e x hx;rw[hxe,q1] at k2;cases k2;rw[k3] at q3;cases q3
    |false=>
     rcases(hD.pe e oe g1 g2).1 this with h'|⟨x,hx,hxe⟩
     ·omega
     obtain⟨_,⟨o2,k2,k3,_⟩,_⟩:=hD.e x hx;rw[hxe,g1] at k2;cases k2;rw[k3] at hea1;cases hea1
   have:=xsame_ok (nk3:=0) (M3:=.lf) he canon hp1;refine fin ?_;rw[←k1,←k2];exact this
  obtain⟨k1,k2⟩:=hT.calm' hip ws (λe oe g1 g2 g3 g4=>hex ⟨e,oe,g1,g2,g3,g4⟩);rw[xd ht.get] at k1 k2;refine fin ?_;rw[←k1,←k2];exact canon
end
end Exe
end Go.Eng
end
section
namespace Go.Eng
open Go Go.RowKit
namespace Exe
noncomputable section
variable {P:Program}{S S' Sb:Pl}{fr fr':Fr}{L L':LL}{q q':PH}{w0:W0}{w w':World}{a a':Act}{n0 N:Nat}{B:Nat→Prop}{X:XE}{xi:XI}{Yx':Yx}
variable {r:Option Nat}{n:Nat}{Q:Exit→Act→World→Prop}{M M':Mm}{nk nk':Nat}{y:SV}{Y:Ye}{all:List Oper}{ops:Array Oper}
theorem unl_lt{listed:Array Bool}{i:Nat}(hi:i<listed.size)(hu:listed.getD i false=false):∀(l:List Nat),i∈l→l.countP (λj=>!(listed.setIfInBounds i true).getD j false)<l.countP (λj=>!listed.getD j false):=by
 have le:∀l:List Nat,l.countP (λj=>!(listed.setIfInBounds i true).getD j false)≤l.countP (λj=>!listed.getD j false):=λl=>
  List.countP_mono_left λj _ hj=>by
   cases hl:listed.getD j false with
   |false=>rfl
   |true=>rw[getD_set_true hl] at hj;cases hj
 intro l
 induction l with
 |nil=>intro h;cases h
 |cons x l ih=>
  intro h;rw[List.countP_cons,List.countP_cons];rcases List.mem_cons.1 h with rfl|h
  ·have h1:(listed.setIfInBounds i true).getD i false=true:=by simp[hi]
   rw[h1,hu];have:=le l;simp only[Bool.not_true,Bool.not_false,if_true,Bool.false_eq_true,if_false];omega
  have h1:=ih h;by_cases hx:listed.getD x false=true
  ·rw[getD_set_true hx,hx];simp only[Bool.not_true,Bool.false_eq_true,if_false];omega
  have hx:listed.getD x false=false:=by simpa using hx
  rw[hx];cases(listed.setIfInBounds i true).getD x false<;>simp only[Bool.not_true,Bool.not_false,if_true,Bool.false_eq_true,if_false]<;>omega
theorem draw_any(hX:XOk P X)(hI:yE P (XInl xi))(hYr:YRel Yx' Y)(hY:YOk P Sb Y n0){tr:List Tc}{z:Nat×Fr×Mm}{fr:Fr}{nk:Nat}{M:Mm}(hT:Trc X xi Yx' N ops.toList tr z nk fr M)(h0:n0≤nk)
  (hreg:regOk ops=true) (hchk:xchk X xi Yx' ops.toList (befs ops.toList []) tr z.1 z.2.2 ops.toList tr 0=true) (hf0:hF nk fr)
  (hQ:∀a w,St w0 Sb B n0 N (XK z.1 z.2.1 z.2.2) a w→Q .normal a w) :
  ∀(fuel:Nat) (listed:Array Bool) (a:Act) (w:World),DInv X w0 Sb B n0 N ops tr z fr listed a w→(List.range ops.size).countP (λj=>!listed.getD j false)≤fuel→wpAnyIn (FF r) n P .any ops Q fuel listed a w:=by
 have fin:∀(listed:Array Bool) (a:Act) (w:World),DInv X w0 Sb B n0 N ops tr z fr listed a w→Region.ready .any ops listed=[]→Q .normal a w:=by
  intro listed a w hd hr;have hedge:edgesOk ops.toList ops.toList 0=true:=by simp only[regOk,Bool.and_eq_true] at hreg;exact hreg.1.1.1
  have hslots:slotsOk (befs ops.toList []) ops.toList ops.toList 0=true:=by simp only[regOk,Bool.and_eq_true] at hreg;exact hreg.1.1.2
  obtain⟨hcl,hsz,p0,S0',q,L0',G0',E0,hD0⟩:=hd
  have hall:∀i,i<ops.size→listed.getD i false=true:=by
   intro i
   induction i using Nat.strongRecOn with
   |_ i ih=>
    intro hi
    cases hl:listed.getD i false with
    |true=>rfl
    |false=>
     exfalso;have hop:ops[i]?=some ops[i]:=Array.getElem?_eq_getElem hi
     have:i∈Region.ready .any ops listed:=by
      refine mem_ready.2 ⟨?_,ops[i],hop,λe he hb=>?_⟩
      ·have hi2:i<listed.size:=by rw[hsz];exact hi
       rw[Array.getD_eq_getD_getElem?,Array.getElem?_eq_getElem hi2] at hl ⊢;exact hl
      have:=edgesOk_ok hedge i ops[i] (by rw[Array.getElem?_toList];exact hop) e he hb;exact ih e.on ws ws
     rw[hr] at this;cases this
  have hlen:ops.toList.length=ops.size:=by simp
  obtain ⟨S,L,G,E,hD,_⟩:=DS.adv hT h0 hslots (ops.toList.length-p0) hD0 (by have:=hD0.pn;omega) (fun e o ho he h1 h2=>by
   rcases(hD0.pe e o ho he).1 (hall e (by have:=hD0.pn;omega)) with h|h
   ·omega
   exact h)
  rw[show p0+(ops.toList.length-p0)=ops.toList.length by have:=hD0.pn;omega] at hD
  have hEn:∀x∈E,False:=λx hx=>by
   obtain⟨k1,⟨o,k2,_⟩,_⟩:=hD.e x hx;have:=(List.getElem?_eq_some_iff.1 k2).1;omega
  have hz:stX tr z ops.toList.length=z:=by
   unfold stX;rw[List.getElem?_eq_none (by rw[hT.len];exact Nat.le_refl _)]
  have uniq:∀{j:Nat}{oj:Oper}{d:Nat},ops.toList[j]?=some oj→oj.dst=some d→∀j' o',ops.toList[j']?=some o'→o'.dst=some d→j'=j:=λ{j oj d} hoj hdj j' o' ho' hd'=>by
   have:=dstOk_ok ((xX hslots j oj hoj).2 d vL) j' o' ho' hd';omega
  have hget:∀t,get G t=get z.2.1 t:=λt=>by
   by_cases hw:∃(j:Nat) (oj:Oper),ops.toList[j]?=some oj∧oj.dst=some t
   ·obtain⟨j,oj,hoj,hdj⟩:=hw;obtain⟨tj,gj⟩:=hT.at_ j oj hoj;have hjl:j<ops.toList.length:=(List.getElem?_eq_some_iff.1 hoj).1;rw[hD.g1 j oj tj t hoj gj.get (hall j ws) (λx hx _=>hEn x hx) hdj];have:=hT.lays hoj hdj gj.get (uniq hoj hdj) ops.toList.length (Nat.le_refl _) hjl;rw[hz] at this;exact this.symm
   rw[hD.g2 t (λj oj hoj _ hdj=>hw ⟨j,oj,hoj,hdj⟩)];have:=hT.keeps (t:=t) ops.toList.length (Nat.le_refl _) (λj oj _ hoj hdj=>hw ⟨j,oj,hoj,hdj⟩);rw[hz] at this;exact this.symm
  have hfz:hF z.1 z.2.1:=by
   have:=hT.hFs hf0 ops.toList.length (Nat.le_refl _);rw[hz] at this;exact this
  have hr:=hD.r;have hl:=hD.l;rw[hz] at hr hl;refine hQ a w ⟨S,q,z.2.1,L,0,hD.c.frame (λt=>by rw[←hget t];exact hD.c.f t),rfl,hr,hfz,hl⟩
 intro fuel
 induction fuel with
 |zero=>
  intro listed a w hd hcn
  have hr:Region.ready .any ops listed=[]:=by
   rw[List.eq_nil_iff_forall_not_mem];intro i hi;obtain⟨hun,o,ho,_⟩:=mem_ready.1 hi;have hil:i<ops.size:=(Array.getElem?_eq_some_iff.1 ho).1;have hil2:i<listed.size:=by rw[hd.sz];exact hil
   have h0:=List.countP_eq_zero.1 (Nat.le_zero.1 hcn) i (List.mem_range.2 hil);rw[Array.getD_eq_getD_getElem?,Array.getElem?_eq_getElem hil2] at hun h0;simp only[Option.getD_some] at hun h0;rw[hun] at h0;simp at h0
  exact⟨hr,fin _ _ _ hd hr⟩
 |succ fuel ih=>
  intro listed a w hd hcn;refine⟨fin _ _ _ hd,λi hi=>?_⟩;refine wpOpIn_mono (λa' w' hd'=>ih _ a' w' hd' ?_) (dinv_step hX hI hYr hY hT h0 hreg hchk hd hi);obtain⟨hun,o,ho,_⟩:=mem_ready.1 hi;have hil:i<ops.size:=(Array.getElem?_eq_some_iff.1 ho).1;have hil2:i<listed.size:=by rw[hd.sz];exact hil
  have hunf:listed.getD i false=false:=by
   rw[Array.getD_eq_getD_getElem?,Array.getElem?_eq_getElem hil2] at hun ⊢;exact hun
  have:=unl_lt hil2 hunf (List.range ops.size) (List.mem_range.2 hil);omega
theorem xdraw_ok(hX:XOk P X)(hI:yE P (XInl xi))(hYr:YRel Yx' Y)(hY:YOk P Sb Y n0){id:Nat}{nkF:Nat}{frF:Fr}{MF:Mm}(hc:Cfg w0 Sb B n0 N S q fr L a w)(h0:n0≤nk)(hR:Rep M L)(hf:hF nk fr)(hl:hL nk L)
  (hreg:regOk ops=true) (h:xdraw X xi Yx' N ops.toList nk fr M=some (nkF,frF,MF)) (hQ:nk≤nkF→∀a w,St w0 Sb B n0 N (XK nkF frF MF) a w→Q .normal a w):(Code.region id ops true).wpIn (FF r) n P Q a w:=by
 unfold xdraw at h;split at h
 ·cases h
 rename_i tr k1 f1 m1 htr;split at h;rotate_left
 ·cases h
 rename_i hchk;cases h;obtain⟨h1,h2,h3⟩:=xtrace_ok htr;have hT:Trc X xi Yx' N ops.toList tr (nkF,frF,MF) nk fr M:=⟨h1,h2,h3⟩
 have hle:nk≤nkF:=by
  have:=hT.mono' (Nat.zero_le ops.toList.length) (Nat.le_refl _);rw[hT.zero] at this
  have hz:stX tr (nkF,frF,MF) ops.toList.length=(nkF,frF,MF):=by
   unfold stX;rw[List.getElem?_eq_none (by rw[hT.len];exact Nat.le_refl _)]
  rw[hz] at this;exact this
 refine wpIn_region_any hX.e.mix (draw_any hX hI hYr hY hT h0 hreg hchk hf (hQ hle) ops.size _ a _ ?_ ?_)
 ·have hdrew:Cl w0 q S L w { w with drawn:=w.drawn+1 }:=⟨λ_ _ _ _ _=>rfl,λb o v hv=>hc.m.on b o v hv,hc.m.be.drew⟩
  have hno:∀i,(Array.replicate ops.size false).getD i false=false:=λi=>by
   rw[Array.getD_eq_getD_getElem?,Array.getElem?_replicate];split<;>rfl
  refine⟨λj o hj=>(by rw[hno] at hj;cases hj),by simp,0,S,q,L,fr,[],Nat.zero_le _,λe o _ _=>⟨λhh=>(by rw[hno] at hh;cases hh),λhh=>(hh.elim (λhh=>absurd hh (Nat.not_lt_zero _)) (λ⟨_,hh,_⟩=>by cases hh))⟩,hc.mem (hc.m.of_cl hdrew),?_,?_,?_,λi o t d _ _ hh=>(by rw[hno] at hh;cases hh),λ_ _=>rfl,λ_ h=>wL,λ_ h=>wL⟩
  ·rw[hT.zero];exact hR
  ·rw[hT.zero];exact hf
  rw[hT.zero];exact hl
 have:=List.countP_le_length (p:=λj=>!(Array.replicate ops.size false).getD j false) (l:=List.range ops.size);simpa using this
def vX(X:XE)(xi:XI)(lf N:Nat)(Yx':Yx)(ro:Option Nat)(c:Code):Nat→Nat→PH→Fr→LL→Ke→Prop:=λn0 nk q fr L K=>
 ∃M ex nk' fr' M',Rep M L∧hF nk fr∧hL nk L∧n0≤nk∧xC X xi lf N Yx' c ro nk fr M=some (ex,nk',fr',M')∧∀q' L',Rep M' L'→hF nk' fr'→hL nk' L'→nk≤nk'→K ex nk' q' fr' L'
theorem xnorm_c{t:Nat}{x:SV}{fr:Fr}{s:Nat}:xnorm ((t,x)::fr) s=(match bit s t with|true=>xnorm fr s|false=>(t,x)::xnorm fr (Nat.lor s (2^t))):=rfl
theorem xnorm_get:∀{fr:Fr}{s t:Nat},bit s t=false→get (xnorm fr s) t=get fr t
 |[],s,t,_=>rfl
 |(u,x)::fr,s,t,h=>by
  rw[xnorm_c,zH]
  cases hu:bit s u with
  |true=>
   dsimp only;rw[xnorm_get h,if_neg (λe=>by subst e;rw[h] at hu;cases hu)]
  |false=>
   dsimp only;rw[zH];by_cases e:u=t
   ·rw[if_pos e,if_pos e]
   rw[if_neg e,if_neg e];exact xnorm_get (by rw[bit_lor,h,bit_pow];simp[e])
theorem xnorm_h:∀{fr:Fr}{s k:Nat},hasF k (xnorm fr s)=true→hasF k fr=true
 |[],s,k,h=>h
 |(u,x)::fr,s,k,h=>by
  rw[xnorm_c] at h;rw[hasF_cons,Bool.or_eq_true];split at h
  ·exact .inr (xnorm_h h)
  rw[hasF_cons,Bool.or_eq_true] at h;exact h.imp id xnorm_h
theorem okF_xnorm{tm:Array Value}(h:okF S fr tm):okF S (xnorm fr 0) tm:=λt=>by
 rw[xnorm_get (by simp[bit])];exact h t
theorem xloop_ok{body:Nat→Fr→Mm→XR}{c:Code}{nkF:Nat}{frF:Fr}{MF:Mm}{ex:Ex}{K:Ke}
  (hbody:∀{w0:W0}{nk q fr L S a w} {K:Ke},Cfg w0 Sb B n0 N S q fr L a w→(∃M ex nk' fr' M',Rep M L∧hF nk fr∧hL nk L∧n0≤nk∧body nk fr M=some (ex,nk',fr',M')∧∀q' L',Rep M' L'→hF nk' fr'→hL nk' L'→nk≤nk'→K ex nk' q' fr' L')→c.wpIn (FF r) n P (QE w0 Sb B n0 N K) a w)
  {lf:Nat}(hc:Cfg w0 Sb B n0 N S q fr L a w) (h0:n0≤nk) (hR:Rep M L) (hf:hF nk fr) (hl:hL nk L) (h:xloop body lf nk fr M=some (ex,nkF,frF,MF)) (hne:ex≠.norm)
  (hK:∀q' L',Rep MF L'→hF nkF frF→hL nkF L'→nk≤nkF→K ex nkF q' frF L'):(Code.loop c).wpIn (FF r) n P (QE w0 Sb B n0 N K) a w:=by
 let H:Nat→Act→World→Prop:=λj a w=>∃w1 S q fr L nk1 M,Ext w0 w1∧Cfg w1 Sb B n0 N S q fr L a w∧nk≤nk1∧Rep M L∧hF nk1 fr∧hL nk1 L∧xloop body j nk1 fr M=some (ex,nkF,frF,MF)
 refine wpIn_loopG H id (i0:=lf) ⟨w0,S,q,fr,L,nk,M,.refl _,hc,Nat.le_refl _,hR,hf,hl,h⟩ λj a w hj=>?_;obtain⟨w1,S,q,fr,L,nk1,M,hx,hc,hle,hR,hf,hl,h⟩:=hj
 cases j with
 |zero=>cases h
 |succ j=>
  have e:xloop body (j+1) nk1 fr M=(match body nk1 (xnorm fr 0) M with
   |some (.norm,nk',fr',M')=>xloop body j nk' fr' M'
   | r=>r):=rfl
  rw[e] at h;have hfn:hF nk1 (xnorm fr 0):=λk hk=>hf k (xnorm_h hk);have hcn:=hc.frame (okF_xnorm hc.f);generalize hb:body nk1 (xnorm fr 0) M=res at h
  have go:∀{ex' nk' fr' M'},res=some (ex',nk',fr',M')→(∀q' L',Rep M' L'→hF nk' fr'→hL nk' L'→nk1≤nk'→(∀(w2:W0) (S':Pl) (a':Act) (w':World),Ext w0 w2→Cfg w2 Sb B n0 N S' q' fr' L' a' w'→Exit.then (λa' w'=>∃i,H i a' w'∧id i<id (j+1)) (QE w0 Sb B n0 N K) (toX ex') a' w')) →
    c.wpIn (FF r) n P (Exit.then (λa' w'=>∃i,H i a' w'∧id i<id (j+1)) (QE w0 Sb B n0 N K)) a w:=by
   intro ex' nk' fr' M' hres hgo;refine Code.wpIn_mono ?_ (hbody (nk:=nk1) (K:=λe nk2 q2 fr2 L2=>e=ex'∧nk2=nk'∧fr2=fr'∧Rep M' L2∧hF nk' fr'∧hL nk' L2∧nk1≤nk') hcn ⟨M,ex',nk',fr',M',hR,hfn,hl,Nat.le_trans h0 hle,hb.trans hres,λq' L' h1 h2 h3 h4=>⟨rfl,rfl,rfl,h1,h2,h3,h4⟩⟩);rintro e a' w' ⟨x,rfl,w2,hx2,S',q',fr2,L',k',hc',rfl,rfl,rfl,h1,h2,h3,h4⟩;exact hgo q' L' h1 h2 h3 h4 w2 S' a' w' (hx.trans hx2) hc'
  match res,h with
  |none,h=>cases h
  |some (.norm,nk',fr',M'),h=>
   refine go rfl λq' L' h1 h2 h3 h4 w2 S' a' w' hx2 hc'=>⟨j,⟨w2,S',q',fr',L',nk',M',hx2,hc',Nat.le_trans hle h4,h1,h2,h3,h⟩,Nat.lt_succ_self j⟩
  |some (.ret,nk',fr',M'),h=>
   cases h;exact go rfl λq' L' h1 h2 h3 h4 w2 S' a' w' hx2 hc'=>⟨.ret,rfl,w2,hx2,S',q',_,L',nkF,hc',hK q' L' h1 h2 h3 (Nat.le_trans hle h4)⟩
  |some (.exit m,nk',fr',M'),h=>
   cases h;exact go rfl λq' L' h1 h2 h3 h4 w2 S' a' w' hx2 hc'=>⟨.exit m,rfl,w2,hx2,S',q',_,L',nkF,hc',hK q' L' h1 h2 h3 (Nat.le_trans hle h4)⟩
  |some (.goto m,nk',fr',M'),h=>
   cases h;exact go rfl λq' L' h1 h2 h3 h4 w2 S' a' w' hx2 hc'=>⟨.goto m,rfl,w2,hx2,S',q',_,L',nkF,hc',hK q' L' h1 h2 h3 (Nat.le_trans hle h4)⟩
theorem xloop_ne{body:Nat→Fr→Mm→XR}:∀{lf nk:Nat}{fr:Fr}{M:Mm}{ex:Ex}{nkF:Nat}{frF:Fr}{MF:Mm},xloop body lf nk fr M=some (ex,nkF,frF,MF)→ex≠.norm
 |0,nk,fr,M,ex,nkF,frF,MF,h=>by cases h
 |lf+1,nk,fr,M,ex,nkF,frF,MF,h=>by
  have e:xloop body (lf+1) nk fr M=(match body nk (xnorm fr 0) M with
   |some (.norm,nk',fr',M')=>xloop body lf nk' fr' M'
   | r=>r):=rfl
  rw[e] at h;split at h
  ·exact xloop_ne h
  rename_i hno;intro hex;subst hex;exact hno _ _ _ h
end
end Exe
end Go.Eng
end
section
namespace Go.Eng
open Go Go.RowKit
namespace Exe
noncomputable section
variable {P:Program}{S S' Sb:Pl}{fr fr':Fr}{L L':LL}{q q':PH}{w0:W0}{w w':World}{a a':Act}{n0 N:Nat}{B:Nat→Prop}{X:XE}{xi:XI}{Yx':Yx}
variable {r:Option Nat}{n:Nat}{Q:Exit→Act→World→Prop}{M M':Mm}{nk nk':Nat}{y:SV}{Y:Ye}{lf:Nat}
theorem hB_loop{m:Nat}{st:LoopState}{pe:Option Ex}:hB m (.loop st pe):=λj hj=>by simp[LB.has] at hj
theorem hB_dfr{m:Nat}:hB m .dfr:=λj hj=>by simp[LB.has] at hj
theorem xputs_ok{K:Fr→Prop}:∀{ps:List Nat}{args:List SV}{fr fr1:Fr},xputs ps N args fr=some fr1→K fr1→putsF ps args N fr K
 |[],[],fr,fr1,h,hK=>by cases h;exact hK
 |[],_::_,fr,fr1,h,hK=>by cases h
 |p::ps,[],fr,fr1,h,hK=>by cases h
 |p::ps,x::xs,fr,fr1,h,hK=>by
  have e:xputs (p::ps) N (x::xs) fr=(match Nat.blt p N with|true=>xputs ps N xs ((p,x)::fr)|false=>none):=rfl;rw[e] at h;unfold putsF;split at h
  ·rename_i hp;rw[hp];exact xputs_ok h hK
  cases h
theorem xputs_h:∀{ps:List Nat}{args:List SV}{fr fr1:Fr},xputs ps N args fr=some fr1→hF nk fr→hS nk args→hF nk fr1
 |[],[],fr,fr1,h,hf,_=>by cases h;exact hf
 |[],_::_,fr,fr1,h,_,_=>by cases h
 |p::ps,[],fr,fr1,h,_,_=>by cases h
 |p::ps,x::xs,fr,fr1,h,hf,hs=>by
  have e:xputs (p::ps) N (x::xs) fr=(match Nat.blt p N with|true=>xputs ps N xs ((p,x)::fr)|false=>none):=rfl;rw[e] at h;split at h
  ·exact xputs_h h (hf.cons hs.head) hs.tail
  cases h
theorem round_rel{va vb:Code}{ps:List Nat}{args:List SV}{nk1:Nat}{rr:SV}{K:SV→Nat→PH→LL→Prop}(hk:nk+2≤nk1)(hR:Rep M L)(hl:hL nk1 L)(hs:hS nk1 args)(hf:hF nk fr)
  (h:xround (xC X xi lf N Yx' va (some nk)) (xC X xi lf N Yx' vb (some nk)) N nk ps fr args nk1 M=some (rr,nk',M')) (hK:∀q' L',Rep M' L'→hL nk' L'→K rr nk' q' L') :
  roundK (vX X xi lf N Yx' (some nk) va) (vX X xi lf N Yx' (some nk) vb) N nk ps fr args nk1 q L K:=by
 unfold xround at h;unfold roundK;split at h;rotate_left
 ·cases h
 rename_i hg;rw[hR nk,hg];dsimp only;split at h
 ·cases h
 rename_i fr1 hp;refine xputs_ok hp ?_;have hf1:hF nk1 fr1:=xputs_h hp (hf.mono ws) hs;split at h;rotate_left
 ·cases h
 rename_i nk2 fr2 M2 hxa;split at h;rotate_left
 ·cases h
 rename_i hg2;split at h
 ·cases h
 rename_i M3 hM3;split at h;rotate_left
 ·cases h
 rename_i ex nk3 fr3 M4 hxb;split at h;rotate_left
 ·cases h
 rename_i hg4;refine⟨M,.norm,nk2,fr2,M2,hR,hf1,hl,Nat.le_refl _,hxa,λq2 L2 h1 h2 h3 h4=>?_⟩
 show (match getL L2 nk with
   |some (.loop .ready none)=>_
   | _=>False)
 have hk2:getL L2 nk=some (.loop .ready none):=(h1 nk).trans hg2;rw[hk2];dsimp only;rw[zY];refine⟨M3,ex,nk3,fr3,M4,h1.set hk2 hM3,h2,h3.set hB_loop,h4,hxb,λq4 L4 g1 g2 g3 g4=>?_⟩;have hk4:getL L4 nk=some (.loop .busy none):=(g1 nk).trans hg4;dsimp only;rw[hk4];dsimp only
 cases ex with
 |norm=>
  dsimp only at h ⊢;split at h
  ·rename_i M5 hM5;cases h;rw[zY];exact hK q4 _ (g1.set hk4 hM5) (g3.set hB_loop)
  cases h
 |ret=>
  dsimp only at h ⊢;split at h
  ·rename_i M5 hM5;cases h;rw[zY];exact hK q4 _ (g1.set hk4 hM5) (g3.set hB_loop)
  cases h
 |exit m=>
  dsimp only at h ⊢;split at h
  ·rename_i M5 hM5;cases h;rw[zY];exact hK q4 _ (g1.set hk4 hM5) (g3.set hB_loop)
  cases h
 |goto m=>
  dsimp only at h ⊢;split at h
  ·rename_i M5 hM5;cases h;rw[zY];exact hK q4 _ (g1.set hk4 hM5) (g3.set hB_loop)
  cases h
theorem done_rel{nk1:Nat}{ex:Ex}{fr1:Fr}{K:Ke}{x:SV}(hle:nk≤nk1)(hR:Rep M L)(hl:hL nk1 L)(hf:hF nk fr)(h:xdone nk fr nk1 M=some (ex,nk',fr1,M'))
  (hK:∀q' L',Rep M' L'→hF nk' fr1→hL nk' L'→nk≤nk'→K ex nk' q' fr1 L'):doneK nk fr K x nk1 q L:=by
 have out:∀(e:Ex),(match xput M nk none with|some M1=>(match xput M1 (nk+1) none with|some M2=>some (e,nk1,fr,M2)|none=>none)|none=>none)=some (ex,nk',fr1,M')→fLL (remL (remL L nk) (nk+1)) λL=>K e nk1 q fr L:=by
  intro e h;split at h
  ·rename_i M1 h1;split at h
   ·rename_i M2 h2;cases h;rw[zY];exact hK q _ ((hR.rem h1).rem h2) (hf.mono hle) (hL.rem (hL.rem hl)) hle
   cases h
  cases h
 unfold xdone at h;unfold doneK;dsimp only at h;rw[hR nk];split at h
 ·rename_i e;rw[e];exact out _ h
 ·rename_i e;rw[e];exact out _ h
 ·rename_i e;rw[e];exact out _ h
 ·rename_i e;rw[e];exact out _ h
 cases h
theorem xC_ok(hX:XOk P X)(hI:yE P (XInl xi))(hYr:YRel Yx' Y)(c:Code):xy c=true→∀ro,CodeOk P N Y ro c (vX X xi lf N Yx' ro c):=by
 induction c with
 |skip=>
  intro _ ro w0 n0 nk Sb S B q fr L K a w r n hr hro hY hc h;obtain⟨M,ex,nk',fr',M',hR,hf,hl,h0,h,hK⟩:=h;cases h;exact wpIn_skip ⟨.norm,rfl,w0,.refl _,S,q,_,L,_,hc,hK q L hR hf hl (Nat.le_refl _)⟩
 |label l=>
  intro _ ro w0 n0 nk Sb S B q fr L K a w r n hr hro hY hc h;obtain⟨M,ex,nk',fr',M',hR,hf,hl,h0,h,hK⟩:=h;cases h;exact wpIn_label ⟨.norm,rfl,w0,.refl _,S,q,_,L,_,hc,hK q L hR hf hl (Nat.le_refl _)⟩
 |exit l=>
  intro _ ro w0 n0 nk Sb S B q fr L K a w r n hr hro hY hc h;obtain⟨M,ex,nk',fr',M',hR,hf,hl,h0,h,hK⟩:=h;cases h;exact wpIn_exit ⟨.exit l,rfl,w0,.refl _,S,q,_,L,_,hc,hK q L hR hf hl (Nat.le_refl _)⟩
 |goto l=>
  intro _ ro w0 n0 nk Sb S B q fr L K a w r n hr hro hY hc h;obtain⟨M,ex,nk',fr',M',hR,hf,hl,h0,h,hK⟩:=h;cases h;exact wpIn_goto ⟨.goto l,rfl,w0,.refl _,S,q,_,L,_,hc,hK q L hR hf hl (Nat.le_refl _)⟩
 |ret=>
  intro _ ro w0 n0 nk Sb S B q fr L K a w r n hr hro hY hc h;obtain⟨M,ex,nk',fr',M',hR,hf,hl,h0,h,hK⟩:=h;cases h;exact wpIn_ret ⟨.ret,rfl,w0,.refl _,S,q,_,L,_,hc,hK q L hR hf hl (Nat.le_refl _)⟩
 |refuse s=>
  intro _ ro w0 n0 nk Sb S B q fr L K a w r n hr hro hY hc h;obtain⟨M,ex,nk',fr',M',hR,hf,hl,h0,h,hK⟩:=h;cases h
 |region id ops draw=>
  intro hco ro w0 n0 nk Sb S B q fr L K a w r n hr hro hY hc h;obtain⟨M,ex,nk',fr',M',hR,hf,hl,h0,h,hK⟩:=h
  have fin:∀{nk1 fr1 M1},some (Ex.norm,nk1,fr1,M1)=some (ex,nk',fr',M')→nk≤nk1→∀a w,St w0 Sb B n0 N (XK nk1 fr1 M1) a w→QE w0 Sb B n0 N K .normal a w:=by
   rintro nk1 fr1 M1 he hle a w ⟨S',q',fr2,L',k',hc',rfl,h1,h2,h3⟩;cases he;exact⟨.norm,rfl,w0,.refl _,S',q',_,L',_,hc',hK q' L' h1 h2 h3 hle⟩
  cases draw with
  |false=>
   have h:(match xops X xi Yx' N ops.toList ops.toList nk fr M with|some (nk',fr',M')=>some (Ex.norm,nk',fr',M')|none=>none)=some (ex,nk',fr',M'):=h;split at h
   ·rename_i nk1 fr1 M1 hx;refine wpIn_region_list ?_;have:=xops_ok (r:=r) (n:=n) (Q:=QE w0 Sb B n0 N K) hX hI hYr hY ops.toList hc h0 hR hf hl hx (fin h);simpa using this
   cases h
  |true=>
   have h:(match xdraw X xi Yx' N ops.toList nk fr M with|some (nk',fr',M')=>some (Ex.norm,nk',fr',M')|none=>none)=some (ex,nk',fr',M'):=h;split at h
   ·rename_i nk1 fr1 M1 hx;exact xdraw_ok hX hI hYr hY hc h0 hR hf hl hco hx (fin h)
   cases h
 |seq x y ihx ihy=>
  intro hco ro w0 n0 nk Sb S B q fr L K a w r n hr hro hY hc h;simp only[xy,Bool.and_eq_true] at hco;obtain⟨M,ex,nk',fr',M',hR,hf,hl,h0,h,hK⟩:=h
  have h:(match xC X xi lf N Yx' x ro nk fr M with
   |some (.norm,nk',fr',M')=>xC X xi lf N Yx' y ro nk' fr' M'
   | r=>r)=some (ex,nk',fr',M'):=h
  have go:∀{ex1 nk1 fr1 M1},xC X xi lf N Yx' x ro nk fr M=some (ex1,nk1,fr1,M1)→(∀q' L',Rep M1 L'→hF nk1 fr1→hL nk1 L'→nk≤nk1→thenE (λnk q fr L=>vX X xi lf N Yx' ro y n0 nk q fr L K) K ex1 nk1 q' fr1 L')→(Code.seq x y).wpIn (FF r) n P (QE w0 Sb B n0 N K) a w:=by
   intro ex1 nk1 fr1 M1 hx hgo;refine wpIn_seq (Code.wpIn_mono ?_ (ihx hco.1 ro (K:=thenE (λnk q fr L=>vX X xi lf N Yx' ro y n0 nk q fr L K) K) hr hro hY hc ⟨M,ex1,nk1,fr1,M1,hR,hf,hl,h0,hx,hgo⟩));rintro e a' w' ⟨z,rfl,w1,hx1,hst⟩
   cases z with
   |norm=>
    obtain⟨S',q',fr',L',nk',hc',hK⟩:=hst;exact Code.wpIn_mono (λ_ _ _ hq=>hq.ext hx1) (ihy hco.2 ro hr hro hY hc' hK)
   |ret=>exact⟨.ret,rfl,w1,hx1,hst⟩
   |exit m=>exact⟨.exit m,rfl,w1,hx1,hst⟩
   |goto m=>exact⟨.goto m,rfl,w1,hx1,hst⟩
  generalize hx:xC X xi lf N Yx' x ro nk fr M=res at h
  match res,hx,h with
  |none,hx,h=>cases h
  |some (.norm,nk1,fr1,M1),hx,h=>exact go hx λq' L' h1 h2 h3 h4=>⟨M1,ex,nk',fr',M',h1,h2,h3,Nat.le_trans h0 h4,h,λq2 L2 g1 g2 g3 g4=>hK q2 L2 g1 g2 g3 (Nat.le_trans h4 g4)⟩
  |some (.ret,nk1,fr1,M1),hx,h=>cases h;exact go hx hK
  |some (.exit m,nk1,fr1,M1),hx,h=>cases h;exact go hx hK
  |some (.goto m,nk1,fr1,M1),hx,h=>cases h;exact go hx hK
 |cond g x y ihx ihy=>
  intro hco ro w0 n0 nk Sb S B q fr L K a w r n hr hro hY hc h;simp only[xy,Bool.and_eq_true] at hco;obtain⟨M,ex,nk',fr',M',hR,hf,hl,h0,h,hK⟩:=h;have hg:=zu hc.f g
  have h:(match opv fr g with
   |.bb true=>xC X xi lf N Yx' x ro nk fr M
   |.bb false=>xC X xi lf N Yx' y ro nk fr M
   | _=>none)=some (ex,nk',fr',M'):=h
  split at h
  ·rename_i e;rw[e] at hg;exact wpIn_cond_true hg (ihx hco.1 ro hr hro hY hc ⟨M,ex,nk',fr',M',hR,hf,hl,h0,h,hK⟩)
  ·rename_i e;rw[e] at hg;exact wpIn_cond_false hg (ihy hco.2 ro hr hro hY hc ⟨M,ex,nk',fr',M',hR,hf,hl,h0,h,hK⟩)
  cases h
 |block id x ihx=>
  intro hco ro w0 n0 nk Sb S B q fr L K a w r n hr hro hY hc h;obtain⟨M,ex,nk',fr',M',hR,hf,hl,h0,h,hK⟩:=h
  have h:(match xC X xi lf N Yx' x ro nk fr M with
   |some (.exit n,nk',fr',M')=>(match Nat.beq n id with|true=>some (.norm,nk',fr',M')|false=>some (.exit n,nk',fr',M'))
   | r=>r)=some (ex,nk',fr',M'):=h
  have go:∀{ex1 nk1 fr1 M1},xC X xi lf N Yx' x ro nk fr M=some (ex1,nk1,fr1,M1)→(∀q' L',Rep M1 L'→hF nk1 fr1→hL nk1 L'→nk≤nk1→blkE id K ex1 nk1 q' fr1 L')→(Code.block id x).wpIn (FF r) n P (QE w0 Sb B n0 N K) a w:=by
   intro ex1 nk1 fr1 M1 hx hgo;refine wpIn_block (Code.wpIn_mono ?_ (ihx hco ro (K:=blkE id K) hr hro hY hc ⟨M,ex1,nk1,fr1,M1,hR,hf,hl,h0,hx,hgo⟩));rintro e a' w' ⟨z,rfl,w1,hx1,hst⟩
   cases z with
   |norm=>exact⟨.norm,rfl,w1,hx1,hst⟩
   |ret=>exact⟨.ret,rfl,w1,hx1,hst⟩
   |goto m=>exact⟨.goto m,rfl,w1,hx1,hst⟩
   |exit m=>
    simp only[Exit.inBlock,toX];obtain⟨S',q',fr',L',nk',hc',hK⟩:=hst;have hb:blkE id K (.exit m)=(match Nat.beq m id with|true=>K .norm|false=>K (.exit m)):=rfl;rw[hb] at hK
    cases e:Nat.beq m id with
    |true=>
     rw[e] at hK;rw[if_pos (Nat.eq_of_beq_eq_true e)];exact⟨.norm,rfl,w1,hx1,S',q',fr',L',nk',hc',hK⟩
    |false=>
     rw[e] at hK;rw[if_neg (λe'=>by subst e';simp at e)];exact⟨.exit m,rfl,w1,hx1,S',q',fr',L',nk',hc',hK⟩
  generalize hx:xC X xi lf N Yx' x ro nk fr M=res at h
  match res,hx,h with
  |none,hx,h=>cases h
  |some (.norm,nk1,fr1,M1),hx,h=>cases h;exact go hx hK
  |some (.ret,nk1,fr1,M1),hx,h=>cases h;exact go hx hK
  |some (.goto m,nk1,fr1,M1),hx,h=>cases h;exact go hx hK
  |some (.exit m,nk1,fr1,M1),hx,h=>
   refine go hx λq' L' h1 h2 h3 h4=>?_;have hb:blkE id K (.exit m)=(match Nat.beq m id with|true=>K .norm|false=>K (.exit m)):=rfl;rw[hb];dsimp only at h
   cases e:Nat.beq m id with
   |true=>rw[e] at h;cases h;exact hK q' L' h1 h2 h3 h4
   |false=>rw[e] at h;cases h;exact hK q' L' h1 h2 h3 h4
 |loop x ihx=>
  intro hco ro w0 n0 nk Sb S B q fr L K a w r n hr hro hY hc h;obtain⟨M,ex,nk',fr',M',hR,hf,hl,h0,h,hK⟩:=h;have h:xloop (xC X xi lf N Yx' x ro) lf nk fr M=some (ex,nk',fr',M'):=h;exact xloop_ok (λhc h=>ihx hco ro hr hro hY hc h) hc h0 hR hf hl h (xloop_ne h) hK
 |scope x ihx=>
  intro hco ro w0 n0 nk Sb S B q fr L K a w r n hr hro hY hc h;obtain⟨M,ex,nk',fr',M',hR,hf,hl,h0,h,hK⟩:=h
  have h:(match xC X xi lf N Yx' x ro nk fr M with
   |some (.goto _,_,_,_)=>none
   | r=>r)=some (ex,nk',fr',M'):=h
  have go:∀{ex1 nk1 fr1 M1},xC X xi lf N Yx' x ro nk fr M=some (ex1,nk1,fr1,M1)→(∀q' L',Rep M1 L'→hF nk1 fr1→hL nk1 L'→nk≤nk1→scopeE K ex1 nk1 q' fr1 L')→(Code.scope x).wpIn (FF r) n P (QE w0 Sb B n0 N K) a w:=by
   intro ex1 nk1 fr1 M1 hx hgo;refine wpIn_scope (Code.wpIn_mono ?_ (ihx hco ro (K:=scopeE K) hr hro hY hc ⟨M,ex1,nk1,fr1,M1,hR,hf,hl,h0,hx,hgo⟩));rintro e a' w' ⟨z,rfl,w1,hx1,hst⟩
   cases z with
   |norm=>exact⟨.norm,rfl,w1,hx1,hst⟩
   |ret=>exact⟨.ret,rfl,w1,hx1,hst⟩
   |exit m=>exact⟨.exit m,rfl,w1,hx1,hst⟩
   |goto m=>
    obtain⟨S',q',fr',L',nk',hc',hK⟩:=hst;exact hK.elim
  generalize hx:xC X xi lf N Yx' x ro nk fr M=res at h
  match res,hx,h with
  |none,hx,h=>cases h
  |some (.norm,nk1,fr1,M1),hx,h=>cases h;exact go hx hK
  |some (.ret,nk1,fr1,M1),hx,h=>cases h;exact go hx hK
  |some (.exit m,nk1,fr1,M1),hx,h=>cases h;exact go hx hK
  |some (.goto m,nk1,fr1,M1),hx,h=>cases h
 |rangeFunc g ps assign body iha ihb=>
  intro hco ro w0 n0 nk Sb S B q fr L K a w r n hr hro hY hc h;simp only[xy,Bool.and_eq_true] at hco;obtain⟨M,ex,nk',fr',M',hR,hf,hl,h0,h,hK⟩:=h;have h:xrange xi N Yx' (xC X xi lf N Yx' assign) (xC X xi lf N Yx' body) g ps ro nk fr M=some (ex,nk',fr',M'):=h;unfold xrange at h;split at h;rotate_left
  ·cases h
  rename_i it cs hg;have hA:=@iha hco.1 (some nk);have hB:=@ihb hco.2 (some nk);have hgv:hV nk (.fn it cs):=by rw[←hg];exact hf.opv g
  have hargs:hS (nk+2) (.yl nk::cs):=by
   refine hS.cons (λk hk=>?_) (λk hk=>?_)
   ·have:=hgv k wF;omega
   have:Nat.beq nk k=true:=by simpa[SV.has] using hk
   have:=Nat.eq_of_beq_eq_true this;omega
  have hlt:=ltF_of hf;have hltL:=ltLL_of hl
  have hrel:∀{L1:LL}{M1:Mm},(∀M2,xput M1 nk (some (.loop .ready none))=some M2→Rep M2 L1)→hL (nk+2) L1→xgo xi N Yx' (xC X xi lf N Yx' assign) (xC X xi lf N Yx' body) ps it cs nk fr M1=some (ex,nk',fr',M') →
    XInl xi ((nk,roundK (vX X xi lf N Yx' (some nk) assign) (vX X xi lf N Yx' (some nk) body) N nk ps.toList fr)::Y) it (.yl nk::cs) (nk+2) q L1 (doneK nk fr K):=by
   intro L1 M1 hR1 hl1 h;unfold xgo at h;split at h
   ·cases h
   rename_i M2 hM2;replace hR1:=hR1 M2 hM2;split at h;rotate_left
   ·cases h
   rename_i r1 nk1 M3 hxi;split at h;rotate_left
   ·cases h
   rename_i hle;have hle:=Nat.le_of_ble_eq_true hle;refine⟨_,M2,r1,nk1,M3,λk hx hk=>?_,hR1,hl1,hargs,hxi,λq' L' g1 g2=>done_rel hle g1 g2 hf h hK⟩;rw[yxGet_c] at hk;split at hk
   ·rename_i e;cases hk;have e:=Nat.eq_of_beq_eq_true e;subst e;refine⟨_,by simp only[yGet];rw[Nat.beq_refl],λargs nk2 q2 L2 M2 r2 nk3 M4 K2 hk2 hR2 hl2 hs2 hx2 hK2=>round_rel hk2 hR2 hl2 hs2 hf hx2 hK2⟩
   rename_i e;obtain⟨hh,g1,g2⟩:=hYr k hx hk;exact⟨hh,by simp only[yGet];rw[e];exact g1,g2⟩
  cases ro with
  |none=>
   dsimp only at h;split at h;rotate_left
   ·cases h
   rename_i M1 hM1;have hr:r=none:=hr;subst hr;have hR1:∀M2,xput M1 nk (some (.loop .ready none))=some M2→Rep M2 ((nk,.loop .ready none)::(nk+1,.dfr)::L):=λM2 hM2=>(hR.new hM1).new hM2;have hl1:hL (nk+2) ((nk,.loop .ready none)::(nk+1,.dfr)::L):=((hl.mono ws).new ws hB_dfr).new ws hB_loop;refine range_ok hI hA hB hg hc h0 hlt hY hltL (λfn=>?_) (hrel hR1 hl1 h);have hm1:=hc.m.newDfr (k:=nk+1) (w8 hltL ws)
   have hm2:=hm1.newRec (nk:=nk) (by
    rw[hasLL_c];have:Nat.beq (nk+1) nk=false:=by rw[Bool.eq_false_iff];intro e;have:=Nat.eq_of_beq_eq_true e;omega
    simp only[this,LB.has]
    exact w8 hltL (Nat.le_refl _)) { state:=.ready,pending:=none,fn:=fn,tmps:=a.tmps,params:=ps,assign:=assign,body:=body,defers:=w.heap.size } rfl rfl
   have hb:(w.alloc (.deferred (some []))).heap.size=w.heap.size+1:=World.size_alloc _ _;rw[hb] at hm2;refine⟨_,[{ target:=.collected w.heap.size,args:=#[] }],_,[nk+1],(run_enterLoop_outer fn a.tmps ps assign body).trans ?_,λk hk=>?_,hm2,?_,?_,?_,?_,λd hd=>?_,?_,λd hd=>?_⟩
   ·rw[zc]
   ·rw[zz ws,zz ws]
   ·rw[zc]
   ·rw[zc]
   ·rw[zc]
   ·rw[zc]
   ·have:=zT hltL (zm hd (.inl rfl));rw[ze,if_neg ws,ze,if_neg ws];exact hd
   ·exact⟨by simp[markOf,zz,zc],by simp⟩
   have:d=nk+1:=by simpa using hd
   subst this;exact⟨rfl,by rw[ze,if_neg ws,ze,if_pos rfl]⟩
  |some l0=>
   dsimp only at h;split at h;rotate_left
   ·cases h
   rename_i st pe hL0;rw[←hR l0] at hL0;have hr:r=some (Sb l0).b:=hr;subst hr;have hl0:=hro l0 rfl;have hR1:∀M2,xput M nk (some (.loop .ready none))=some M2→Rep M2 ((nk,.loop .ready none)::L):=λM2 hM2=>hR.new hM2;have hl1:hL (nk+2) ((nk,.loop .ready none)::L):=(hl.mono ws).new ws hB_loop;refine range_ok hI hA hB hg hc h0 hlt hY hltL (λfn=>?_) (hrel hR1 hl1 h);have hh:=hc.m.recHeap hL0;rw[hc.ag l0 hl0] at hh;have hm2:=hc.m.newRec (nk:=nk) (w8 hltL (Nat.le_refl _)) { state:=.ready,pending:=none,fn:=fn,tmps:=a.tmps,params:=ps,assign:=assign,body:=body,defers:=(Sb l0).r.defers } rfl rfl;refine⟨_,[],_,[],(run_enterLoop_inner hh fn a.tmps ps assign body).trans ?_,λk hk=>?_,hm2,?_,?_,?_,?_,λd hd=>?_,⟨rfl,.nil⟩,λd hd=>by cases hd⟩
   ·rw[zc]
   ·rw[zz ws]
   ·rw[zc]
   ·rw[zc]
   ·rw[zc]
   ·rw[zc]
   have:=zT hltL (zm hd (.inl rfl));rw[ze,if_neg ws];exact hd
theorem xres_c{T:Tab}{v:ResultVar}{rs:List ResultVar}:xres T (v::rs) fr M=(match (match v with | .tmp t=>some (get fr t) | .cell t ty=>xload T M.get ty (get fr t)) with
   |some x=>(match xres T rs fr M with|some l=>some (x::l)|none=>none)
   | none=>none):=rfl
theorem xres_ok{T:Tab}(hR:Rep M L):∀{rs:List ResultVar}{l:List SV}{K:List SV→Prop},xres T rs fr M=some l→K l→resK T q rs fr L K
 |[],l,K,h,hK=>by cases h;exact hK
 |.tmp t::rs,l,K,h,hK=>by
  rw[xres_c] at h;dsimp only at h;split at h
  ·rename_i l' hl;cases h;unfold resK;rw[yn];exact xres_ok hR hl hK
  cases h
 |.cell t ty::rs,l,K,h,hK=>by
  rw[xres_c] at h;dsimp only at h;split at h
  ·rename_i x hx;split at h
   ·rename_i l' hl;cases h;unfold resK;exact xload_ok hR hx (xres_ok hR hl hK)
   cases h
  cases h
def PrimsOk(P:Program)(X:XE):Prop:=∀f p,X.prim.get f=some p→∀(w0:W0) args nk q L M vs w (S:Pl) (r:Option Nat) n y nk' M',p args nk M=some (y,nk',M')→Rep M L→hL nk L→hS nk args→okL S args vs→Mem w0 q S L w →
 (∀args w,(callFunc f args).run P w=.ok (.enter f args) w) ∧
 CallsIn (FF r) n P f vs.toArray w λe w'=>∃v S' q' L',e=.returned v∧okv S' y v∧(∀k,k<nk→S' k=S k)∧Mem w0 q' S' L' w'∧(∀d,d<nk→getL L d=some .dfr→getL L' d=some .dfr)∧Rep M' L'∧hL nk' L'
def bodiesOk(T:Tr Func):Bool:=T.all λ_ fn=>match fn.body with|some c=>xy c|none=>true
theorem xN_ok(hX:XOk P X)(hPr:PrimsOk P X)(hC:bodiesOk X.E.FT=true):∀d,yE P (XInl (xN X lf d))
 |0=>λw0 Y f args nk q L K vs w S r n h hY hvs hm=>by
  obtain⟨Yx',M,y,nk',M',hYr,hR,hl,hs,h,hK⟩:=h;cases h
 |d+1=>λw0 Y f args nk q L K vs w S r n h hY hvs hm=>by
  obtain⟨Yx',M,y,nk',M',hYr,hR,hl,hs,h,hK⟩:=h
  have h:(match X.prim.get f with
  |some p=>p args nk M
  | none=>(match X.E.FT.get f with
   |none=>none
   | some fn=>(match fn.body with
    |none=>none
    | some c=>(match Nat.ble args.length fn.ntmps with
     |false=>none
     | true=>(match xC X (xN X lf d) lf fn.ntmps Yx' c none nk (argF args 0) M with
      | some (ex,nk',fr',M')=>(match (match ex with | .norm=>true | .ret=>true | _=>false) with
       | true=>(match xres X.E.T fn.results.toList fr' M' with
        |some l=>some (oneOr l,nk',M')
        | none=>none)
       | false=>none)
      | none=>none)))))=some (y,nk',M'):=h
  split at h
  ·rename_i p hp;obtain⟨h1,h2⟩:=hPr f p hp w0 args nk q L M vs w S r n y nk' M' h hR hl hs hvs hm;refine⟨h1,h2.mono ?_⟩;rintro e w' ⟨v,S',q',L',rfl,g1,g2,g3,g4,g5,g6⟩;exact⟨v,y,S',q',L',nk',rfl,g1,g2,g3,g4,hK q' L' g5 g6⟩
  split at h
  ·cases h
  rename_i fn hfn;split at h
  ·cases h
  rename_i c hc;split at h
  ·cases h
  rename_i hN;have hN:=Nat.le_of_ble_eq_true hN;split at h;rotate_left
  ·cases h
  rename_i ex nk1 fr1 M1 hxc;split at h;rotate_left
  ·cases h
  rename_i hex;split at h;rotate_left
  ·cases h
  rename_i l hres;cases h
  have hco:xy c=true:=by
   have:=Tr.all_get hC hfn;rw[hc] at this;exact this
  obtain⟨hP,hname⟩:=hX.e.FT f fn hfn;refine⟨λargs w=>?_,?_⟩
  ·have hname' : ¬ fn.name = "runtime.NumGoroutine" := by simpa using hname
   simp[callFunc,hP,hname',hc]
  have hlen:=zC hvs
  have hargsF:∀(l:List SV) (i:Nat),hS nk l→hF nk (argF l i):=by
   intro l
   induction l with
   |nil=>intro i _ k hk;cases hk
   |cons x r ih=>intro i h;exact(ih (i+1) h.tail).cons h.head
  show CallsIn (FF none) n P f vs.toArray w _;refine callsIn_of_wp_marks hP hc trivial ?_
  let wb:W0:={ w0 with F0:=w0.F,sub:=λ_ h=>h }
  have hmb:Mem wb q S L w:=⟨hm.ch,hm.ap,hm.po,hm.fz,hm.on,⟨hm.be.os,hm.be.tape,hm.be.output,hm.be.size,hm.be.block⟩,hm.gw⟩
  have hcfg:Cfg wb S (λd=>getL L d=some .dfr) nk fn.ntmps S q (argF args 0) L { tmps:=vs.toArray++Array.replicate (fn.ntmps-vs.toArray.size) undef,defers:=[] } w:=
   ⟨λ_ _=>rfl,λ_ _ h=>h,hmb,okF_args hvs _,by simp;omega,.nil _⟩
  have hcode:=xC_ok (N:=fn.ntmps) (lf:=lf) hX (xN_ok hX hPr hC d) hYr c hco none (n:=n) (r:=none) (K:=λe nk2 q2 fr2 L2=>e=ex∧nk2=nk'∧fr2=fr1∧Rep M' L2∧hF nk' fr1∧hL nk' L2) rfl (λ_ h=>by cases h) hY hcfg
   ⟨M,ex,nk',fr1,M',hR,hargsF args 0 hs,hl,Nat.le_refl _,hxc,λq' L' h1 h2 h3 h4=>⟨rfl,rfl,rfl,h1,h2,h3⟩⟩
  refine Code.wpIn_mono ?_ hcode;rintro e a' w' ⟨x,rfl,w1,hx1,S',q',fr',L',k',hc',rfl,rfl,rfl,hR',hf',hl'⟩;obtain⟨Hs,hd1,hd2,hd3⟩:=hc'.d
  have hmw:Mem w0 q' S' L' w':=by
   have:=hx1.mem hc'.m;exact⟨this.ch,this.ap,this.po,this.fz,this.on,⟨this.be.os,this.be.tape,this.be.output,this.be.size,this.be.block⟩,this.gw⟩
  have fin:LeavesInM (FF none) n P fn a'.tmps (λe w'=>∃v x S' q' L' nk',e=.returned v∧okv S' x v∧(∀k,k<nk→S' k=S k)∧Mem w0 q' S' L' w'∧(∀d,d<nk→getL L d=some .dfr→getL L' d=some .dfr)∧K x nk' q' L') a'.defers .returning w':=by
   rw[hd1];refine leave_marks Hs hmw hd2 (λb hb=>?_) λw2 hm2=>?_
   ·obtain⟨k1,k2,k3⟩:=hd3 b hb;refine⟨(hc'.m.be.block b k1).trans k3,λhF=>k2 ?_,λk lb hk e=>hc'.m.fz k lb hk b e k1⟩;rw[hx1.F0];exact hF
   obtain⟨l2,v,hK2,hv,hr⟩:=results_ok (K:=λl2=>l2=l) hX.e.T hc'.f hm2 (xres_ok hR' hres rfl);subst hK2;exact⟨v,hr,v,oneOr l2,S',q',L',k',rfl,hv,hc'.ag,hm2,λd hd hdL=>hc'.b d hd hdL,hK q' L' hR' hl'⟩
  cases x with
  |norm=>exact fin
  |ret=>exact fin
  |exit m=>cases hex
  |goto m=>cases hex
def isTrue(x:Option (SV×Nat×Mm)):Bool:=match x with|some (.bb true,_,_)=>true|_=>false
theorem closed_true(hX:XOk P X)(hPr:PrimsOk P X)(hC:bodiesOk X.E.FT=true){d f:Nat}(h:isTrue (xN X lf d [] f [] 0 .lf)=true):
  (∀args w,(callFunc f args).run P w=.ok (.enter f args) w)∧∀w,Calls P f #[] w λe w'=>e=.returned (.bool true)∧Below w.heap.size w w':=by
 have main:∀w,(∀args w,(callFunc f args).run P w=.ok (.enter f args) w)∧CallsIn (FF none) 0 P f (#[]:Array Value) w λe w'=>e=.returned (.bool true)∧Below w.heap.size w w':=by
  intro w;unfold isTrue at h;split at h
  ·rename_i nk' M' hx;have:=xN_ok hX hPr hC (lf:=lf) d (.all w) [] f [] 0 (phOf w) [] (λx _ _ _=>x=.bb true) [] w S0 none 0 ⟨[],.lf,.bb true,nk',M',λk hx hk=>vH,λk=>rfl,λk hk=>vH,.nil,hx,λ_ _ _ _=>rfl⟩ (λk hd hk=>by simp[yGet] at hk) trivial (Mem.start w S0);refine⟨this.1,this.2.mono ?_⟩;rintro e w' ⟨v,x,S',q',L',nk',rfl,hxv,_,hm,_,rfl⟩;have hxv:v=.bool true:=hxv;exact⟨by rw[hxv],hm.be.below⟩
  cases h
 refine⟨(main default).1,λw=>?_⟩;have h3:CallsIn Fence.wide 0 P f (#[]:Array Value) w _:=(main w).2;exact callsIn_wide.1 h3
end
end Exe
end Go.Eng
end
namespace Go.Proofs.YticmemgehllacaaGreatDoor
open Go Go.Eng Go.RowKit
set_option maxHeartbeats 1000000 in
set_option maxRecDepth 100000 in
theorem cc_used(b:Nat)(w:World)(h0:w.cell? ⟨b,0,none⟩=some (.pointer (some ⟨b,0,none⟩))):
  Calls Tryz.prog 54 #[.pointer (some ⟨b,0,none⟩)] w λe w'=>e=.returned (.tuple #[])∧w'=w:=by
 have hj:(Tryz.prog.info? 74).map (·.size)=some 2:=by kernel_rfl
 obtain⟨j,hj,hjs⟩:=Option.map_eq_some_iff.1 hj;go_enter Tryz.func54,Tryz.ntmps54;go_wp2;rw[Lib.run_neq_ptr_same w _ Tryz.underlying72 hj];go_wp2;go_end0;exact⟨rfl,rfl⟩
set_option maxHeartbeats 1000000 in
set_option maxRecDepth 100000 in
theorem cc_fresh(b t n:Nat)(hlies:liesAt Tryz.prog Tryz.prog.depth t (n/Tryz.prog.cellsOf t) 0 74 1=true)(hn:0<n)(w:World)(h0:w.cell? ⟨b,0,none⟩=some (.pointer none))(hsh:w.shape? b=some (t,n))(hfz:w.frozen? ⟨b,0,none⟩=false):
  Calls Tryz.prog 54 #[.pointer (some ⟨b,0,none⟩)] w λe w'=>e=.returned (.tuple #[])∧w'=w.setCell ⟨b,0,none⟩ (.pointer (some ⟨b,0,none⟩)):=by
 have hj:(Tryz.prog.info? 74).map (·.size)=some 2:=by kernel_rfl
 obtain⟨j,hj,hjs⟩:=Option.map_eq_some_iff.1 hj;go_enter Tryz.func54,Tryz.ntmps54;go_wp2;rw[Lib.run_to_unsafe w ⟨b,0,none⟩ Tryz.underlying72 Tryz.underlying213 hj (by rw[hjs];decide) hsh hn];simp only[Result.andThen];rw[Oper.upon_value];go_wp2;rw[run_callFunc_extern Tryz.func118 wz wz wz (e:=Extern.AbiNoEscape.same) wz];rw[Lib.run_noEscape];simp only[Result.andThen];rw[Oper.upon_value];go_wp2;rw[Lib.run_from_unsafe w ⟨b,0,none⟩ Tryz.underlying213 Tryz.underlying72 hj hsh hlies];simp only[Result.andThen];rw[Oper.upon_value];go_wp2;go_end0;exact⟨rfl,rfl⟩
theorem us_nil(W:World)(q:Option Addr):(Builtin.unsafeString_ #[123,3] 9 #[.pointer q,.int .i64 0]).run Tryz.prog W=.ok (.string .empty) W:=
 Lib.run_unsafeString_none W _ _ _ q
set_option maxHeartbeats 2000000 in
set_option maxRecDepth 100000 in
theorem str_nil(b:Nat)(w:World)(cs:Array Value)(t:Nat)(hv1:cs[1]?=some (.slice none 0 0))(hbk:w.heap[b]?=some (.cells cs t (0,0))):
  Calls Tryz.prog 23 #[.pointer (some ⟨b,0,none⟩)] w λe w'=>e=.returned (.string ⟨#[]⟩)∧w.grownBy w' none:=by
 have mixed:Tryz.prog.follows Departure.mixedOrders=true:=by kernel_rfl
 have hUS:=us_nil
 have c1:w.drew.cell? ⟨b,1,none⟩=some (.slice none 0 0):=by
  have:w.drew.heap[b]?=some (.cells cs t (0,0)):=hbk;rw[Lib.cell_of_heap this];exact hv1
 have hSD:(Builtin.unsafeSliceData_ #[35] 123 #[.slice none 0 0]).run Tryz.prog w.drew=.ok (.pointer none) w.drew:=rfl;go_enter Tryz.func23,Tryz.ntmps23;go_wp2;go_region_o
 all_goals (go_wp2;go_ret;exact⟨rfl,rfl,rfl,rfl,Nat.le_refl _,λ_ _ _=>rfl⟩)
set_option maxHeartbeats 2000000 in
set_option maxRecDepth 100000 in
theorem str_noroom(b g:Nat)(cur:Array Value)(w:World)(cs:Array Value)(t:Nat)(hv1:cs[1]?=some (.slice (some ⟨g,0,none⟩) 0 0))(hbk:w.heap[b]?=some (.cells cs t (0,0)))(hg:w.heap[g]?=some (.cells cur 5 (0,0))):
  Calls Tryz.prog 23 #[.pointer (some ⟨b,0,none⟩)] w λe w'=>e=.returned (.string ⟨#[]⟩)∧w.grownBy w' (some g):=by
 have mixed:Tryz.prog.follows Departure.mixedOrders=true:=by kernel_rfl
 have hUS:=us_nil;have hlt:b<w.heap.size:=(Array.getElem?_eq_some_iff.1 hbk).1
 have c1:w.drew.cell? ⟨b,1,none⟩=some (.slice (some ⟨g,0,none⟩) 0 0):=by
  have:w.drew.heap[b]?=some (.cells cs t (0,0)):=hbk;rw[Lib.cell_of_heap this];exact hv1
 have hSD:(Builtin.unsafeSliceData_ #[35] 123 #[.slice (some ⟨g,0,none⟩) 0 0]).run Tryz.prog w.drew=.ok (.pointer (some ⟨w.drew.heap.size,0,none⟩)) (w.drew.alloc (.view ⟨g,0,none⟩ 5)):=
  Lib.run_unsafeSliceData_zero w.drew _ _ 5 Tryz.underlying123 ⟨g,0,none⟩ 0 (5,cur.size) wC
 have c2:(w.drew.alloc (.view ⟨g,0,none⟩ 5)).cell? ⟨b,1,none⟩=some (.slice (some ⟨g,0,none⟩) 0 0):=by
  have:(w.drew.alloc (.view ⟨g,0,none⟩ 5)).heap[b]?=_:=(Lib.alloc_old w.drew _ b hlt).trans hbk;rw[Lib.cell_of_heap this];exact hv1
 have c3:(w.alloc (.view ⟨g,0,none⟩ 5)).drew.cell? ⟨b,1,none⟩=some (.slice (some ⟨g,0,none⟩) 0 0):=c2;have c0:w.cell? ⟨b,1,none⟩=some (.slice (some ⟨g,0,none⟩) 0 0):=c1;go_enter Tryz.func23,Tryz.ntmps23;go_wp2;go_region_o
 all_goals (go_wp2;go_ret;exact⟨rfl,rfl,rfl,rfl,by simp,λk hk _=>heap_alloc_old w.drew _ hk⟩)
set_option maxHeartbeats 2000000 in
set_option maxRecDepth 100000 in
theorem str_room(b g cap:Nat)(w:World)(hc0:cap≠0)(cs:Array Value)(t:Nat)(hv1:cs[1]?=some (.slice (some ⟨g,0,none⟩) 0 cap))(hbk:w.heap[b]?=some (.cells cs t (0,0))):
  Calls Tryz.prog 23 #[.pointer (some ⟨b,0,none⟩)] w λe w'=>e=.returned (.string ⟨#[]⟩)∧w.grownBy w' (some g):=by
 have mixed:Tryz.prog.follows Departure.mixedOrders=true:=by kernel_rfl
 have hUS:=us_nil
 have c1:w.drew.cell? ⟨b,1,none⟩=some (.slice (some ⟨g,0,none⟩) 0 cap):=by
  have:w.drew.heap[b]?=some (.cells cs t (0,0)):=hbk;rw[Lib.cell_of_heap this];exact hv1
 have hSD:(Builtin.unsafeSliceData_ #[35] 123 #[.slice (some ⟨g,0,none⟩) 0 cap]).run Tryz.prog w.drew=.ok (.pointer (some ⟨g,0,none⟩)) w.drew:=
  Lib.run_unsafeSliceData_row _ _ _ _ _ _ hc0
 clear hc0;go_enter Tryz.func23,Tryz.ntmps23;go_wp2;go_region_o
 all_goals (go_wp2;go_ret;exact⟨rfl,rfl,rfl,rfl,Nat.le_refl _,λ_ _ _=>rfl⟩)
set_option maxHeartbeats 2000000 in
set_option maxRecDepth 100000 in
theorem str_some(b g cap:Nat)(cur:Array Value)(l:List UInt8)(w:World)(h0:l≠[])(cs:Array Value)(t:Nat)(hv1:cs[1]?=some (.slice (some ⟨g,0,none⟩) l.length cap))(hbk:w.heap[b]?=some (.cells cs t (0,0)))(hg:w.heap[g]?=some (.cells cur 5 (0,0)))
  (hnc:l.length≤cap) (hcm:cap≤maxLen) (hcs:cur.size=cap) (hcell:∀j x,l[j]?=some x→w.cell? ((⟨g,0,none⟩:Addr).add j)=some (.int .u8 x.toNat)) :
  Calls Tryz.prog 23 #[.pointer (some ⟨b,0,none⟩)] w λe w'=>e=.returned (.string ⟨l.toArray⟩)∧w.grownBy w' (some g):=by
 have mixed:Tryz.prog.follows Departure.mixedOrders=true:=by kernel_rfl
 have hl0:l.length≠0:=by simpa using h0
 have c1:w.drew.cell? ⟨b,1,none⟩=some (.slice (some ⟨g,0,none⟩) l.length cap):=by
  have:w.drew.heap[b]?=some (.cells cs t (0,0)):=hbk;rw[Lib.cell_of_heap this];exact hv1
 have hSD:(Builtin.unsafeSliceData_ #[35] 123 #[.slice (some ⟨g,0,none⟩) l.length cap]).run Tryz.prog w.drew=.ok (.pointer (some ⟨g,0,none⟩)) w.drew:=
  Lib.run_unsafeSliceData_row _ _ _ _ _ _ ws
 have hUS:(Builtin.unsafeString_ #[123,3] 9 #[.pointer (some ⟨g,0,none⟩),.int .i64 l.length]).run Tryz.prog w.drew=.ok (.string ⟨l.toArray⟩) (w.drew.freeze ⟨g,0,none⟩ l.length):=by
  refine Lib.run_unsafeString_row w.drew 123 3 9 5 Tryz.underlying123 wz g cur.size wC l h0 ws (by unfold maxLen at hcm;omega) ?_;intro j x hx;exact hcell j x hx
 have hfz:w.grownBy (w.drew.freeze ⟨g,0,none⟩ l.length) (some g):=by
  unfold World.freeze;rw[if_neg hl0];refine⟨rfl,rfl,rfl,by simp,λk _ hk=>?_⟩;have hne:g≠k:=λe=>hk vt;show(Array.modify _ g _)[k]?=_;rw[Array.getElem?_modify,if_neg hne];rfl
 clear hcell hcs hnc hcm h0;go_enter Tryz.func23,Tryz.ntmps23;go_wp2;go_region_o
 all_goals (go_wp2;go_ret;exact⟨rfl,hfz⟩)
end Go.Proofs.YticmemgehllacaaGreatDoor
section
namespace Go.Proofs.YticmemgehllacaaGreatDoor
open Go Go.Eng Go.RowKit Go.Eng.Exe
noncomputable section
def strsL(l:List Value):Option (List ByteArray):=List.rec (motive:=λ_=>Option (List ByteArray)) (some [])
 (λx _ ih=>match x,ih with|.string s,some r=>some (s::r)|_,_=>none) l
theorem strsL_c{x:Value}{r:List Value}:strsL (x::r)=(match x,strsL r with|.string s,some r=>some (s::r)|_,_=>none):=rfl
theorem strsL_ok:∀{l:List Value}{ss:List ByteArray},strsL l=some ss→l=ss.map .string
 |[],ss,h=>by cases h;rfl
 |x::r,ss,h=>by
  rw[strsL_c] at h;split at h
  ·rename_i s r' hr;cases h;rw[List.map_cons,←strsL_ok hr]
  cases h
theorem calls_of{f : Nat}(hP : ∃ fn, Tryz.prog.funcs[f]? = some fn ∧ (fn.name == "runtime.NumGoroutine") = false ∧ fn.body.isSome = true): ∀ args w, (callFunc f args).run Tryz.prog w = .ok (.enter f args) w := fun args w => by
 obtain ⟨fn,hP,hname,hb⟩:=hP;have hname' : ¬ fn.name = "runtime.NumGoroutine" := by simpa using hname
 obtain⟨c,hc⟩:=Option.isSome_iff_exists.1 hb;simp[callFunc,hP,hname',hc]
theorem src_room{q:PH}{S:Pl}{L:LL}{w0:W0}{w:World}{m:Nat}{x:SV}{ys:List SV}{A:Option Addr}{c m':Nat}(hm:Mem w0 q S L w)(h:xsrc L 1 x=some (m,ys))(hx:okv S x (.slice A m' c)):m'=m→m≤c:=by
 intro e;subst e;unfold xsrc at h;split at h
 ·cases h;exact Nat.zero_le _
 ·rename_i j;have hx:Value.slice A m' c=.slice (S j).A (S j).n (S j).c:=hx;injection hx with e1 e2 e3;split at h
  ·rename_i e' sz' n' cs hj;split at h;rotate_left
   ·cases h
   cases h;obtain⟨xs,hown,_⟩:=hm.ch j _ hj;rcases hown.1.2 with ⟨hv,h0⟩|⟨g,cap,cur,hv,_,_,hle,_⟩
   ·omega
   injection hv with f1 f2 f3;omega
  ·rename_i e' n' xs hj;split at h;rotate_left
   ·cases h
   cases h;obtain⟨_,_,_,hle,_⟩:=hm.ch j _ hj;omega
  cases h
 ·rename_i j lo sz'' m2 ex;obtain⟨A2,c2,e1,e2,_⟩:=hx;injection e1 with f1 f2 f3
  have:m2=m':=by
   split at h
   ·split at h
    ·cases h;rfl
    cases h
   ·split at h
    ·cases h;rfl
    cases h
   cases h
  omega
 cases h
def pJoin:XH:=λargs nk M=>match args with
 | [s,.v (.string sep)]=>(match xsrcM M.get 1 s with
  | some (m,cs)=>(match rowVL cs with
   | some xs=>(match strsL xs with
    | some ss=>(match Nat.ble ss.length 140737488355328,Nat.ble (Lib.join (ss.map (·.data.toList)) sep.data.toList).length 140737488355328 with
     |true,true=>some (.v (.string ⟨(Lib.join (ss.map (·.data.toList)) sep.data.toList).toArray⟩),nk,M)
     | _,_=>none)
    | none=>none)
   | none=>none)
  | none=>none)
 |_=>none
def tbs(t n:Nat):Bool:=(Nat.beq t 74&&Nat.beq n 2)
theorem tbs_ok{t n:Nat}(h:tbs t n=true):liesAt Tryz.prog Tryz.prog.depth t (n/Tryz.prog.cellsOf t) 0 74 1=true∧0<n:=by
 simp only[tbs,Bool.or_eq_true,Bool.and_eq_true] at h;rcases h with h<;>(have h1:=Nat.eq_of_beq_eq_true h.1;have h2:=Nat.eq_of_beq_eq_true h.2;subst h1;subst h2;exact⟨by kernel_rfl,by decide⟩)
def pCc:XH:=λargs nk M=>match args with
 | [.lp k 0]=>(match M.get k with
  | some (.cells t (a::b::l))=>(match tbs t (l.length+2) with
   | true=>(match a with
    |.v (.pointer none)=>(match xput M k (some (.cells t (.lp k 0::b::l))) with|some M'=>some (.tup [],nk,M')|none=>none)
    |.lp k' 0=>(match Nat.beq k' k with|true=>some (.tup [],nk,M)|false=>none)
    | _=>none)
   | false=>none)
  | _=>none)
 |_=>none
def pStr:XH:=λargs nk M=>match args with
 | [.lp k 0]=>(match M.get k with
  | some (.cells t (a::b::l))=>(match tbs t (l.length+2) with
   | true=>(match b with
    |.v (.slice none 0 0)=>some (.v (.string ⟨#[]⟩),nk,M)
    | .own j=>(match M.get j with
     | some (.row e sz n cs)=>(match Nat.beq e 5,Nat.beq sz 1,Nat.beq j k,rowVL cs with
      | true,true,false,some xs=>(match xbytes xs,xput M j none with
       |some bs,some M'=>some (.v (.string ⟨bs.toArray⟩),nk,M')
       | _,_=>none)
      | _,_,_,_=>none)
     | _=>none)
    | _=>none)
   | false=>none)
  | _=>none)
 |_=>none
abbrev PrimOk(f:Nat)(p:XH):Prop:=∀(w0:W0) args nk q L M vs w (S:Pl) (r:Option Nat) n y nk' M',p args nk M=some (y,nk',M')→Rep M L→hL nk L→hS nk args→okL S args vs→Mem w0 q S L w →
 (∀args w,(callFunc f args).run Tryz.prog w=.ok (.enter f args) w) ∧
 CallsIn (FF r) n Tryz.prog f vs.toArray w λe w'=>∃v S' q' L',e=.returned v∧okv S' y v∧(∀k,k<nk→S' k=S k)∧Mem w0 q' S' L' w'∧(∀d,d<nk→getL L d=some .dfr→getL L' d=some .dfr)∧Rep M' L'∧hL nk' L'
theorem pJoin_ok : PrimOk 376 pJoin := by
  intro w0 args nk q L M vs w S r n y nk' M' h hR hl hs hvs hm
  unfold pJoin at h
  split at h
  rotate_left
  · cases h
  rename_i s sep
  split at h
  rotate_left
  · cases h
  rename_i m cs hsrc
  split at h
  rotate_left
  · cases h
  rename_i xs hxs
  split at h
  rotate_left
  · cases h
  rename_i ss hss
  split at h
  rotate_left
  · cases h
  rename_i h1 h2
  cases h
  have h1 := Nat.le_of_ble_eq_true h1
  have h2 := Nat.le_of_ble_eq_true h2
  match vs, hvs with
  | [u, v], hvs =>
  obtain ⟨hu, hv, _⟩ := hvs
  have hv : v = .string sep := hv
  subst hv
  rw [← xsrc_eq hR] at hsrc
  obtain ⟨A, c, vals, hue, ⟨hlen, hcell⟩, hok, _, _⟩ := xsrc_ok hm hsrc hu
  have hvals := xH hxs hok
  subst hvals
  have hse := strsL_ok hss
  subst hue
  have hroom := src_room hm hsrc hu rfl
  have hml : ss.length = m := by have : vals.length = ss.length := by rw [hse]; simp
                                 omega
  refine ⟨calls_of ⟨_, Tryz.func376, (nq9 Tryz.func376), rfl⟩, ?_⟩
  have fin : Calls Tryz.prog 376 #[.slice A m c, .string sep] w fun e w' => e = .returned (.string ⟨(Lib.join (ss.map (·.data.toList)) sep.data.toList).toArray⟩) ∧ Below w.heap.size w w' := by
    by_cases h0 : ss = []
    · subst h0
      have hm0 : m = 0 := by simpa using hml.symm
      subst hm0
      refine (Tryz.strings_Join_none A c sep w).mono ?_
      rintro e w' ⟨rfl, rfl⟩
      exact ⟨rfl, Below.refl _ _⟩
    · have hp : 0 < ss.length := List.length_pos_iff.2 h0
      have key : ∀ j x, ss[j]? = some x → ∃ a, A = some a ∧ a.spot = none ∧ w.cell? ⟨a.block, a.off + j, none⟩ = some (.string x) := fun j x hx => by
        obtain ⟨a, e1, e2, e3⟩ := hcell j (.string x) (by rw [hse, List.getElem?_map, hx]; rfl)
        refine ⟨a, e1, e2, ?_⟩
        obtain ⟨b, o, sp⟩ := a
        have e2 : sp = none := e2
        subst e2
        exact e3
      obtain ⟨a, e1, e2, e3⟩ := key 0 _ (List.getElem?_eq_getElem hp)
      subst e1
      obtain ⟨b, o, sp⟩ := a
      have e2 : sp = none := e2
      subst e2
      have := Tryz.strings_Join b o c ss sep w (fun j x hx => by
        obtain ⟨a, f1, f2, f3⟩ := key j x hx
        cases f1
        exact f3) (World.block_lt_of_cell? w _ e3) h1 (by omega) h2
      rw [hml] at this
      exact this
  refine (yw fin).mono ?_
  rintro e w' ⟨rfl, hb⟩
  exact ⟨_, S, q, L, rfl, rfl, fun _ _ => rfl, hm.below hb, fun _ _ h => h, hR, hl⟩
theorem pCc_ok:PrimOk 54 pCc:=by
 intro w0 args nk q L M vs w S r n y nk' M' h hR hl hs hvs hm;unfold pCc at h;split at h;rotate_left
 ·cases h
 rename_i k;split at h;rotate_left
 ·cases h
 rename_i t x z l hk;split at h;rotate_left
 ·cases h
 rename_i ht;have ht:=tbs_ok ht
 match vs,hvs with
 |[v],hvs=>
 have hv:v=.pointer (some ⟨(S k).b,0,none⟩):=hvs.1;subst hv;refine⟨calls_of ⟨_,Tryz.func54,(nq9 Tryz.func54),rfl⟩,?_⟩;have hk':=hk;rw[←hR k] at hk';obtain⟨_,us,hh,hok⟩:=hm.ch k _ hk'
 match us,hok with
 |p::u::us,hok=>
 obtain⟨hpx,huz,hrest⟩:=hok;have hz:hS nk (z::l):=λj hj=>hl.get hk' j (by rw[LB.has,yY,hj,Bool.or_true]);have hlen:=zC hrest;split at h
 ·have hpx:p=.pointer none:=hpx;subst hpx;split at h;rotate_left
  ·cases h
  rename_i M1 hM;cases h;refine(yw (cc_fresh (S k).b t (l.length+2) ht.1 ht.2 w ?_ ?_ ?_)).mono ?_
  ·rw[Lib.cell_of_heap hh];rfl
  ·simp[World.shape?,hh,hlen]
  ·exact Lib.frozen_of_heap hh 0
  rintro e w' ⟨rfl,rfl⟩;have hset:w.setCell ⟨(S k).b,0,none⟩ (.pointer (some ⟨(S k).b,0,none⟩))=w.setRow (S k).b (.pointer (some ⟨(S k).b,0,none⟩)::u::us).toArray:=by rw[setCell_eq_setRow w _ 0 _ _ _ _ hh];simp
  rw[hset];have hmt:=hm.turn (lb':=.cells t (.lp k 0::z::l)) hk' rfl (w':=w.setRow (S k).b (.pointer (some ⟨(S k).b,0,none⟩)::u::us).toArray) ⟨rfl,rfl,rfl,by simp,λk _ hk=>setRow_other w _ k _ (λe=>hk vt)⟩ ⟨Nat.zero_le _,.pointer (some ⟨(S k).b,0,none⟩)::u::us,setRow_heap w _ _ _ _ _ hh,rfl,huz,hrest⟩ rfl;refine⟨_,S,q,_,rfl,⟨[],rfl,trivial⟩,λ_ _=>rfl,hmt,λd hd hdL=>?_,hR.set hk' hM,hl.set (.cells (hz.cons (hV_lp (hl.key hk'))))⟩;rw[zK,if_neg (λe=>by subst e;rw[hk'] at hdL;cases hdL)];exact hdL
 ·rename_i k';split at h;rotate_left
  ·cases h
  rename_i e;have e:=Nat.eq_of_beq_eq_true e;subst e;cases h;have hpx:p=.pointer (some ⟨(S k').b,0,none⟩):=hpx;subst hpx;refine(yw (cc_used (S k').b w ?_)).mono ?_
  ·rw[Lib.cell_of_heap hh];rfl
  rintro e w' ⟨rfl,rfl⟩;exact⟨_,S,q,L,rfl,⟨[],rfl,trivial⟩,λ_ _=>rfl,hm,λ_ _ h=>h,hR,hl⟩
 cases h
theorem pStr_ok:PrimOk 23 pStr:=by
 intro w0 args nk q L M vs w S r n y nk' M' h hR hl hs hvs hm;unfold pStr at h;split at h;rotate_left
 ·cases h
 rename_i k;split at h;rotate_left
 ·cases h
 rename_i t x z l hk;split at h;rotate_left
 ·cases h
 rename_i ht;have ht:=tbs_ok ht
 match vs,hvs with
 |[v],hvs=>
 have hv:v=.pointer (some ⟨(S k).b,0,none⟩):=hvs.1;subst hv;refine⟨calls_of ⟨_,Tryz.func23,(nq9 Tryz.func23),rfl⟩,?_⟩;have hk':=hk;rw[←hR k] at hk';obtain⟨_,us,hh,hok⟩:=hm.ch k _ hk'
 match us,hok with
 |p::u::us,hok=>
 obtain⟨hpx,huz,hrest⟩:=hok;split at h
 ·have huz:u=.slice none 0 0:=huz;subst huz;cases h;refine(yw (str_nil (S k).b w _ _ rfl hh)).mono ?_;rintro e w' ⟨rfl,hgr⟩;exact⟨_,S,q,L,rfl,rfl,λ_ _=>rfl,hm.below ((Below.refl _ w).grown hgr (Nat.le_refl _) (λk e=>by cases e)),λ_ _ h=>h,hR,hl⟩
 ·rename_i j;split at h;rotate_left
  ·cases h
  rename_i e sz m cs hj;split at h;rotate_left
  ·cases h
  rename_i xs h1 h2 h3 hxs;split at h;rotate_left
  ·cases h
  rename_i bs M1 hbs hM;cases h;have h1:=Nat.eq_of_beq_eq_true h1;have h2:=Nat.eq_of_beq_eq_true h2;subst h1 h2;have hj':=hj;rw[←hR j] at hj';obtain⟨ys,⟨hown,hn,_,_,hA⟩,hys⟩:=hm.ch j _ hj';have hyx:=xH hxs hys;subst hyx;have hyb:=xbytes_ok hbs;have hu:u=.slice (S j).A (S j).n (S j).c:=huz;subst hu
  have hmb:bs.length=m:=by
   have:=hown.1;rw[hyb] at this;simpa using this
  rw[hn] at hh hown
  have done:∀(g:Nat),blk S j (.row 5 1 m cs)=some g→∀e w',(e=Ending.returned (.string ⟨bs.toArray⟩)∧w.grownBy w' (some g))→∃v S' q' L',e=.returned v∧okv S' (.v (.string ⟨bs.toArray⟩)) v∧(∀k,k<nk→S' k=S k)∧Mem w0 q' S' L' w'∧(∀d,d<nk→getL L d=some .dfr→getL L' d=some .dfr)∧Rep M' L'∧hL nk L':=by
   rintro g hg e w' ⟨rfl,hgr⟩;refine⟨_,S,q,_,rfl,rfl,λ_ _=>rfl,hm.lose (k:=j) hj' hg hgr,λd hd hdL=>?_,hR.rem hM,hL.rem hl⟩;rw[zM,if_neg (λe=>by subst e;rw[hj'] at hdL;cases hdL)];exact hdL
  rcases hown.2 with ⟨hv,h0⟩|⟨g,cap,cur,hv,_,hg,hnc,hcm,hcs,htake⟩
  ·injection hv with e1 e2 e3;have hb0:bs=[]:=List.eq_nil_of_length_eq_zero ws;subst hb0;rw[e1,e2,e3] at hh;refine(yw (str_nil (S k).b w _ _ rfl hh)).mono ?_;rintro e w' ⟨rfl,hgr⟩;have hm':=(hm.below ((Below.refl _ w).grown hgr (Nat.le_refl _) (λk e=>by cases e))).rem j;refine⟨_,S,q,_,rfl,rfl,λ_ _=>rfl,hm',λd hd hdL=>?_,hR.rem hM,hL.rem hl⟩;rw[zM,if_neg (λe=>by subst e;rw[hj'] at hdL;cases hdL)];exact hdL
  injection hv with e1 e2 e3;rw[e1,e3] at hh;have hgb:blk S j (.row 5 1 m cs)=some g:=by simp[blk,e1]
  by_cases h0:bs=[]
  ·subst h0;have hm0:m=0:=by simpa using hmb.symm
   subst hm0;by_cases hc:cap=0
   ·subst hc;exact(yw (str_noroom (S k).b g cur w _ _ rfl hh hg)).mono (done g hgb)
   exact(yw (str_room (S k).b g cap w hc _ _ rfl hh)).mono (done g hgb)
  refine(yw (str_some (S k).b g cap cur bs w h0 _ _ (by rw[hmb];rfl) hh hg (by rw[hmb];exact hnc) hcm (by simpa using hcs) λi x hx=>?_)).mono (done g hgb)
  have hcell:=hown.cells (g:=g) (by rw [e1];rfl) i (.int .u8 x.toNat) (by
   rw[hyb,List.getElem?_map,hx]
   rfl)
  exact hcell
 cases h
def TrAll{α:Type}(T:Tr α)(Q:Nat→α→Prop):Prop:=∀k v,T.get k=some v→Q k v
theorem tr_nil{α:Type}{Q:Nat→α→Prop}:TrAll (.nil:Tr α) Q:=λ_ _ h=>by simp[Tr.get_n] at h
theorem tr_node{α:Type}{Q:Nat→α→Prop}{l r:Tr α}{k:Nat}{v:α}(hl:TrAll l Q)(h:Q k v)(hr:TrAll r Q):TrAll (.node l k v r) Q:=λj u hj=>by
 rw[Tr.get_c] at hj;split at hj
 ·rename_i e;cases hj;rw[Nat.eq_of_beq_eq_true e];exact h
 split at hj
 ·exact hl j u hj
 exact hr j u hj
def ixR(l:List UInt8)(c:Nat):Nat→Int:=List.rec (motive:=λ_=>Nat→Int) (λ_=>Int.negSucc 0) (λb _ ih i=>Bool.rec (ih (Nat.succ i)) (Int.ofNat i) (Nat.beq b.toNat c)) l
theorem ixR_eq:∀(l:List UInt8) (c:UInt8) (i:Nat),ixR l c.toNat i=if Lib.indexByte l c=-1 then -1 else Lib.indexByte l c+i
 |[],c,i=>rfl
 |b::l,c,i=>by
  have h0:=Lib.indexByte_ge l c;have ih:=ixR_eq l c (i+1);have e:ixR (b::l) c.toNat i=Bool.rec (ixR l c.toNat (i+1)) (Int.ofNat i) (Nat.beq b.toNat c.toNat):=rfl;rw[e];by_cases h:b=c
  ·subst h;rw[Nat.beq_refl];simp[Lib.indexByte]
  have h':Nat.beq b.toNat c.toNat=false:=by
   rw[Bool.eq_false_iff];intro hh;exact h (UInt8.toNat_inj.1 (Nat.eq_of_beq_eq_true hh))
  rw[h'];have hb:(b==c)=false:=by simpa using h
  simp only[Lib.indexByte,hb,ih];by_cases h1:Lib.indexByte l c=-1
  ·simp[h1]
  have h2:(Lib.indexByte l c == -1)=false:=by simpa using h1
  have h3:¬Lib.indexByte l c+1=-1:=by omega
  simp only[h1,h2,if_false,h3,Bool.false_eq_true];omega
def eIdx:List SV→Option SV:=λargs=>match args with|[.v (.string s),.v (.int .u8 c)]=>some (.v (.int .i64 (ixR s.data.toList (c.toNat.toUInt8).toNat 0)))|_=>none
theorem eIdx_ok(f : Nat){fn : Func}(hf : Tryz.prog.funcs[f]? = some fn)(hname : (fn.name == "runtime.NumGoroutine") = false)(hb : fn.body.isNone = true)(hn : Extern.findNext fn = none)(he : Extern.find fn = some Extern.BytealgIndexByte.indexByte):
  ∀(S:Pl) args vs y,okL S args vs→eIdx args=some y→∃v,okv S y v∧((∀w,(callFunc f vs.toArray).run Tryz.prog w=.ok (.value v) w)∨((∀args w,(callFunc f args).run Tryz.prog w=.ok (.enter f args) w)∧∀w,Calls Tryz.prog f vs.toArray w λe w'=>e=.returned v∧Below w.heap.size w w')):=by
 intro S args vs y hvs h;unfold eIdx at h;split at h;rotate_left
 ·cases h
 rename_i s c;cases h
 match vs,hvs with
 |[u,v],hvs=>
 have hu:u=.string s:=hvs.1;have hv:v=.int .u8 c:=hvs.2.1;subst hu hv;refine⟨_,rfl,.inl λw=>?_⟩;rw[run_callFunc_extern hf hname hb hn he];have e:=ixR_eq s.data.toList c.toNat.toUInt8 0;have e2:(if Lib.indexByte s.data.toList c.toNat.toUInt8=-1 then(-1:Int) else Lib.indexByte s.data.toList c.toNat.toUInt8+((0:Nat):Int))=Lib.indexByte s.data.toList c.toNat.toUInt8:=by split<;>omega
 rw[e,e2];have hr:=Lib.run_indexByteString (P:=Tryz.prog) s c w;show((Extern.BytealgIndexByte.indexByte #[.string s,.int .u8 c]).run Tryz.prog w).andThen _=_;rw[hr];rfl
def prims:Tr XH:=(.node (.node .nil 23 pStr .nil) 54 pCc (.node .nil 376 pJoin .nil))
def exts:Tr (List SV→Option SV):=(.node .nil 119 eIdx .nil)
theorem exts_ok:ExtOk Tryz.prog exts:=λf g hg=>(show TrAll exts (λf g=>∀(S:Pl) args vs y,okL S args vs→g args=some y→∃v,okv S y v∧((∀w,(callFunc f vs.toArray).run Tryz.prog w=.ok (.value v) w)∨((∀args w,(callFunc f args).run Tryz.prog w=.ok (.enter f args) w)∧∀w,Calls Tryz.prog f vs.toArray w λe w'=>e=.returned v∧Below w.heap.size w w'))) from(tr_node tr_nil (eIdx_ok 119 Tryz.func119 (nq9 Tryz.func119) rfl wz wz) tr_nil)) f g hg
def zt:Zt:=[(270,.int .i64 0)]
theorem zt_ok:ZOk Tryz.prog zt:=by
 intro p hp;simp only[zt,List.mem_cons,List.not_mem_nil,or_false] at hp;subst hp;kernel_rfl
def XX:XE:={ E:=envC [] true [],Z:=zt,ext:=exts,prim:=prims }
theorem xx_ok:XOk Tryz.prog XX:=⟨zi zj,zt_ok,exts_ok⟩
theorem wm:PrimsOk Tryz.prog XX:=λf p hp=>(show TrAll prims (λf p=>PrimOk f p) from(tr_node (tr_node tr_nil pStr_ok tr_nil) pCc_ok (tr_node tr_nil pJoin_ok tr_nil))) f p hp
theorem xn:bodiesOk XX.E.FT=true:=by kernel_rfl
end
end Go.Proofs.YticmemgehllacaaGreatDoor
end
