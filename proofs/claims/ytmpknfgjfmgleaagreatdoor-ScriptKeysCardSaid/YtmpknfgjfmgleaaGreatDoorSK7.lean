/- Texts that the law leans on. -/
import Derived.Test.YtmpknfgjfmgleaaGreatDoorSK6
import Derived.Test.YtmpknfgjfmgleaaGreatDoorSK3
import Derived.Test.YtmpknfgjfmgleaaGreatDoorSK4
import Derived.Test.YtmpknfgjfmgleaaGreatDoorSK5
import Derived.KernelRfl
import Derived.Test.YtmpknfgjfmgleaaGreatDoorRows
import Derived.WalkKit
import Derived.ProofKit
import Derived.OpenShut
import Derived.ChangeOld
import Derived.Below
import GoSem.ClaimGoes
set_option linter.unusedVariables false
set_option linter.unusedSimpArgs false
section
namespace Go.Eng
open Go Go.RowKit
namespace Exe
noncomputable section
def YR (Z:Yk) (Y:Yx):Prop:=∀k h,yk Z k=some h→∃g,yxGet Y k=some g∧∀args nk M K r,h args nk M K=some r→Via (g args nk M) K r
def XR2 (z:XIk) (xi:XI):Prop:=∀Z Y,YR Z Y→∀f args nk M K r,z Z f args nk M K=some r→Via (xi Y f args nk M) K r
structure EvR (e:Ev) (xi:XI) (Y:Yx):Prop where
 x:XR2 e.xi xi
 y:YR e.Y Y
variable {X:XE} {e:Ev} {xi:XI} {Y:Yx} {nk:Nat} {fr:Fr} {M:Mm} {K:KV} {r:SV×Nat×Mm}
theorem kck_ok {x:RR} {nk0:Nat} (h:Via x (kck nk0 K) r):Via (xck nk0 x) K r:=by
 obtain ⟨y,n,m,rfl,h⟩:=h
 obtain ⟨h1,h⟩:=bon h
 obtain ⟨h2,h⟩:=bon h
 exact ⟨y,n,m,by simp only [xck,h1,h2],h⟩
theorem callFn_ok (he:EvR e xi Y) {f:Nat} {xs:List Operand} (h:callFn f xs X e nk fr M K=some r):Via (xcall2 X xi Y nk fr M f (opvs fr xs)) K r:=by
 unfold callFn at h
 rw [ovs_eq] at h
 unfold xcall2
 split
 ·rename_i g hg
  rw [hg] at h
  exact frcO_ok h
 ·rename_i hg
  rw [hg] at h
  exact kck_ok (he.x _ _ he.y _ _ _ _ _ _ h)
theorem callT_ok (he:EvR e xi Y) {t:Nat} {xs:List Operand} (h:callT t xs X e nk fr M K=some r):Via (xfn X xi Y nk fr M (get fr t) (opvs fr xs)) K r:=by
 unfold callT at h
 rw [gt_eq] at h
 unfold xfn
 split at h
 ·rename_i f cs hg
  rw [hg]
  rw [ovs_eq] at h
  exact kck_ok (he.x _ _ he.y _ _ _ _ _ _ h)
 ·rename_i k hg
  rw [hg]
  rw [ovs_eq] at h
  dsimp only
  split at h
  ·rename_i g hk
   obtain ⟨g',h1,h2⟩:=he.y k g hk
   rw [h1]
   exact kck_ok (h2 _ _ _ _ _ h)
  ·cases h
 ·cases h
theorem oCall_ok (he:EvR e xi Y) {c:Call} (h:oCall c X e nk fr M K=some r):Via (xop X xi Y nk fr M (.call c)) K r:=by
 obtain ⟨callee,ags,ts⟩:=c
 cases callee with
 | value f=>
  cases f with
  | tmp t=>exact callT_ok (X:=X) he h
  | const v=>cases h
  | global n=>cases h
  | func f=>exact callFn_ok (X:=X) he h
 | invoke a b=>cases h
 | builtin b=>
  have h:cBui b ags ts X e nk fr M K=some r:=h
  unfold cBui at h
  split at h
  ·show Via (xapp2 X nk fr M ags.toList ts.toList) K r
   unfold xapp2
   split at h
   ·rename_i s x t t' h1 h2
    rw [h1,h2]
    dsimp only
    split at h
    ·rename_i e0
     rw [e0]
     rw [zL,zL] at h
     exact apK_ok h
    ·rename_i e0
     rw [e0]
     rw [zL,zL] at h
     exact x8 h
   ·cases h
  ·show Via (xcopy2 X nk fr M ags.toList ts.toList) K r
   unfold xcopy2
   split at h
   ·rename_i d s t t' h1 h2
    rw [h1,h2]
    dsimp only
    rw [zL,zL] at h
    split at h
    ·rename_i y M' h3
     rw [h3]
     have hy:nb y=y:=by
      unfold xcopy at h3
      split at h3
      rotate_left
      ·cases h3
      split at h3
      rotate_left
      ·cases h3
      split at h3
      ·split at h3
       rotate_left
       ·cases h3
       split at h3
       ·cases h3;rfl
       ·cases h3
      ·split at h3
       rotate_left
       ·cases h3
       split at h3
       ·cases h3;rfl
       ·cases h3
      ·first
       | (cases h3;done)
       | (split at h3<;>first | (cases h3;rfl) | cases h3)
     obtain ⟨h4,h⟩:=frc_ok h
     rw [hy] at h
     exact ⟨y,nk,M',rfl,h⟩
    ·cases h
   ·cases h
  ·show Via (y4 nk M (zr X.E.T (.call ⟨.builtin .len,ags,ts⟩) fr M.get)) K r
   split at h
   ·rename_i x t h1 h2
    rcases lnF_ok h1 h2 h with h | h
    ·exact h
    ·exact zA (e:=e) h
   ·cases h
  ·rename_i N1 N2 N3
   have h:=zA (e:=e) h
   cases b<;>first
    | exact h
    | exact (N1 rfl).elim
    | exact (N2 rfl).elim
theorem opF_ok (he:EvR e xi Y) {op:Op} (h:opF op X e nk fr M K=some r):Via (xop X xi Y nk fr M op) K r:=by
 cases op with
 | move x=>
  have h:mv (ov x fr) nk M K=some r:=h
  rw [zL] at h
  exact via_calm (calm2 (show y8 X.E.T (.move x) fr M.get=some (opv fr x) from rfl)) (mv_ok h)
 | assign x=>
  have h:mv (ov x fr) nk M K=some r:=h
  rw [zL] at h
  exact via_calm (calm2 (show y8 X.E.T (.assign x) fr M.get=some (opv fr x) from rfl)) (mv_ok h)
 | pick c a b=>exact zA (e:=e) h
 | alloc t=>exact x8 h
 | box t x=>
  have h:slow1 (xboxM X.E.T t nk (ov x fr) M) nk K=some r:=h
  rw [zL] at h
  exact x8 h
 | build t ps=>exact zA (e:=e) h
 | buildSlice t m ps=>exact oBuildS_ok (X:=X) (e:=e) h
 | insert t m k x=>
  have h:muF t (ov m fr) (ov k fr) (ov x fr) X nk M K=some r:=h
  rw [zL,zL,zL] at h
  exact muF_ok h
 | load t x=>exact oLoad_ok (X:=X) (e:=e) h
 | store t p x=>exact oStore_ok (X:=X) (e:=e) h
 | nilCheck x=>exact oNil_ok (X:=X) (e:=e) h
 | binOp op t x y u=>exact oBin_ok (X:=X) (e:=e) h
 | unOp op t x=>exact zA (e:=e) h
 | convert s t x=>exact oConv_ok (X:=X) (e:=e) h
 | makeFunc f a b=>exact zA (e:=e) h
 | makeMap t rs=>exact x8 h
 | makeSlice t l c=>
  have h:slow1 (xmakeA X.E.T t nk (ov l fr) (ov c fr) M) nk K=some r:=h
  rw [zL,zL] at h
  exact x8 h
 | slice t x a b c=>exact oSlice_ok (X:=X) (e:=e) h
 | fieldAddr t x f=>exact oFA_ok (X:=X) (e:=e) h
 | field t x f=>exact oField_ok (X:=X) (e:=e) h
 | indexAddr t x i=>exact oIA_ok (X:=X) (e:=e) h
 | index t x i=>exact oIdx_ok (X:=X) (e:=e) h
 | lookup t x i ok=>
  have h:lkF t (ov x fr) (ov i fr) ok X nk M K (frcO (xlookup X.E.T X.Z t (ov x fr) (ov i fr) ok M.get) nk M K)=some r:=h
  rw [zL,zL] at h
  exact lkF_ok h
 | mapUpdate t m k x=>
  have h:muF t (ov m fr) (ov k fr) (ov x fr) X nk M K=some r:=h
  rw [zL,zL,zL] at h
  exact muF_ok h
 | extract x i=>exact oExt_ok (X:=X) (e:=e) h
 | call c=>exact oCall_ok he h
 | _=>cases h
def gdS (want:Bool) (y:SV):Option Bool:=match y with
   | .bb b=>(match b,want with | true,true=>some true | false,false=>some true | _,_=>some false)
   | .v (.tuple _)=>some false
   | _=>none
theorem gdB_ok {want:Bool} {yes no:RR} {y:SV} (h:gdB want yes no y=some r):(gdS want y=some true∧yes=some r)∨(gdS want y=some false∧no=some r):=by
 unfold gdB at h
 unfold gdS
 split at h
 ·rename_i b
  cases b<;>cases want<;>first
   | exact .inl ⟨rfl,h⟩
   | exact .inr ⟨rfl,h⟩
 ·exact .inr ⟨rfl,h⟩
 ·cases h
theorem stF_ok (he:EvR e xi Y) {all:List Oper} {o:Oper} (h:stF all o X e nk fr M K=some r):Via (ya X xi Y all o nk fr M) K r:=by
 unfold stF at h
 unfold ya xguard
 cases hg:o.guard with
 | none=>
  rw [hg] at h
  exact opF_ok he h
 | some g=>
  rw [hg] at h
  have h:gdF all g fr (opF o.op X e nk fr M K) (K (.v undef) nk M)=some r:=h
  obtain ⟨j,want⟩:=g
  unfold gdF at h
  obtain ⟨t,ht,h⟩:=oon h
  dsimp only at ht h ⊢
  rw [ht]
  dsimp only
  rw [gt_eq] at h
  show Via (match gdS want (get fr t) with
   | none=>none
   | some false=>some (.v undef,nk,M)
   | some true=>xop X xi Y nk fr M o.op) K r
  rcases gdB_ok h with ⟨h1,h⟩ | ⟨h1,h⟩
  ·rw [h1]
   exact opF_ok he h
  ·rw [h1]
   exact ⟨_,_,_,rfl,h⟩
theorem putF_ok {N:Nat} {dst:Option Nat} {y:SV} {K:Fr→RR} (h:putF N dst y fr K=some r):∃fr',putX N dst y fr=some fr'∧K fr'=some r:=by
 cases dst with
 | none=>exact ⟨fr,rfl,h⟩
 | some d=>
  obtain ⟨h1,h⟩:=bon h
  exact ⟨_,by simp only [putX,h1],h⟩
theorem opsF_ok (he:EvR e xi Y) {all:List Oper}:∀{l:List Oper} {nk:Nat} {fr:Fr} {M:Mm} {K:CKn},opsF all l X e nk fr M K=some r→∃nk' fr' M',xops X xi Y e.N all l nk fr M=some (nk',fr',M')∧K nk' fr' M'=some r
 | [],nk,fr,M,K,h=>⟨nk,fr,M,rfl,h⟩
 | o::l,nk,fr,M,K,h=>by
  obtain ⟨y,nk1,M1,h1,h⟩:=stF_ok he (K:=fun y nk M=>putF e.N o.dst y fr fun fr=>opsF all l X e nk fr M K) h
  obtain ⟨fr1,h2,h⟩:=putF_ok h
  obtain ⟨nk',fr',M',h3,h⟩:=opsF_ok he h
  refine ⟨nk',fr',M',?_,h⟩
  show (match ya X xi Y all o nk fr M with
   | none=>none
   | some (y,nk',M')=>(match putX e.N o.dst y fr with
    | none=>none
    | some fr'=>xops X xi Y e.N all l nk' fr' M'))=_
  rw [h1]
  dsimp only
  rw [h2]
  exact h3
theorem trF_ok (he:EvR e xi Y) {all:List Oper}:∀{l:List Oper} {nk:Nat} {fr:Fr} {M:Mm} {K:List Tc→CKn},trF all l X e nk fr M K=some r →
  ∃tr nk' fr' M',xtrace X xi Y e.N all l nk fr M=some (tr,nk',fr',M')∧tr.length=l.length∧K tr nk' fr' M'=some r
 | [],nk,fr,M,K,h=>⟨[],nk,fr,M,rfl,rfl,h⟩
 | o::l,nk,fr,M,K,h=>by
  obtain ⟨y,nk1,M1,h1,h⟩:=stF_ok he (K:=fun y nk' M'=>Bool.rec (motive:=fun _=>RR) none (Bool.rec (motive:=fun _=>RR) none (putF e.N o.dst y fr fun fr'=>trF all l X e nk' fr' M' fun l=>K (⟨nk,fr,M,y⟩::l)) (R.ltK nk' y)) (Nat.ble nk nk')) h
  obtain ⟨h5,h⟩:=bon h
  obtain ⟨h6,h⟩:=bon h
  obtain ⟨fr1,h2,h⟩:=putF_ok h
  obtain ⟨tr,nk',fr',M',h3,hlen,h⟩:=trF_ok he h
  refine ⟨_,nk',fr',M',?_,by simp [hlen],h⟩
  show (match ya X xi Y all o nk fr M with
   | none=>none
   | some (y,nk',M')=>(match putX e.N o.dst y fr,Nat.ble nk nk',R.ltK nk' y with
    | some fr',true,true=>(match xtrace X xi Y e.N all l nk' fr' M' with
     | none=>none
     | some (l,z)=>some ((⟨nk,fr,M,y⟩:Tc)::l,z))
    | _,_,_=>none))=_
  rw [h1]
  dsimp only
  rw [h2,h5,h6]
  dsimp only
  rw [h3]
theorem smF_ok (he:EvR e xi Y) {all:List Oper} {o:Oper} {tc:Tc} {nk:Nat} {M:Mm} (h:smF X e all o tc nk M=true):xsame X xi Y all o tc nk M=true:=by
 unfold smF at h
 unfold xsame
 cases h1:R.ltK nk tc.y with
 | false=>rw [h1] at h;cases h
 | true=>
  rw [h1] at h
  dsimp only
  cases h2:isPure o.op with
  | true=>rfl
  | false=>
   rw [h2] at h
   have h:isTrueR (stF all o X e nk tc.fr M fun y _ _=>Bool.rec (motive:=fun _=>RR) none (some (.bad,0,.lf)) (svEq y tc.y))=true:=h
   cases hs:stF all o X e nk tc.fr M (fun y _ _=>Bool.rec (motive:=fun _=>RR) none (some (.bad,0,.lf)) (svEq y tc.y)) with
   | none=>rw [hs] at h;cases h
   | some r=>
    obtain ⟨y,n,m,h3,h4⟩:=stF_ok he hs
    rw [h3]
    exact (bon h4).1
theorem nthT_eq:∀{l:List Tc} {n:Nat} {K:Tc→Bool} {no:Bool},nthT l n K no=match l.drop n with | t::_=>K t | []=>no
 | [],n,K,no=>by cases n<;>rfl
 | x::l,0,K,no=>rfl
 | x::l,n+1,K,no=>by
  show nthT l n K no=_
  rw [nthT_eq]
  rfl
theorem prF_all {all:List Oper} {o:Oper} {tr:List Tc} {nkF:Nat} {MF:Mm} {ti:Tc}:∀{ps:List (Nat×Bool)},prF X e all o tr nkF MF ti ps=true→∀p∈ps,
  Bool.rec (motive:=fun _=>Bool) (nthT tr (Nat.succ p.1) (fun t=>smF X e all o ti t.nk t.M) (smF X e all o ti nkF MF)) (nthT tr p.1 (fun t=>smF X e all o ti t.nk t.M) false) p.2=true
 | [],_,p,hp=>by cases hp
 | q::ps,h,p,hp=>by
  have h:Bool.rec (motive:=fun _=>Bool) false (prF X e all o tr nkF MF ti ps) (Bool.rec (motive:=fun _=>Bool) (nthT tr (Nat.succ q.1) (fun t=>smF X e all o ti t.nk t.M) (smF X e all o ti nkF MF)) (nthT tr q.1 (fun t=>smF X e all o ti t.nk t.M) false) q.2)=true:=h
  generalize hb:(Bool.rec (motive:=fun _=>Bool) (nthT tr (Nat.succ q.1) (fun t=>smF X e all o ti t.nk t.M) (smF X e all o ti nkF MF)) (nthT tr q.1 (fun t=>smF X e all o ti t.nk t.M) false) q.2:Bool)=b at h
  cases b with
  | false=>cases h
  | true=>
   rcases List.mem_cons.1 hp with rfl | hp
   ·exact hb
   ·exact prF_all h p hp
theorem chF_all {bs:List Nat} {all:List Oper} {tr:List Tc} {nkF:Nat} {MF:Mm}:∀{pl:List (Nat×Oper×List (Nat×Bool))},chF X e bs all tr nkF MF pl=true→∀p∈pl,nthT tr p.1 (fun ti=>Bool.rec (motive:=fun _=>Bool) (prF X e all p.2.1 tr nkF MF ti p.2.2) true (ldSafe X bs p.1 all tr p.2.1 ti)) false=true
 | [],_,p,hp=>by cases hp
 | q::pl,h,p,hp=>by
  have h:Bool.rec (motive:=fun _=>Bool) false (chF X e bs all tr nkF MF pl) (nthT tr q.1 (fun ti=>Bool.rec (motive:=fun _=>Bool) (prF X e all q.2.1 tr nkF MF ti q.2.2) true (ldSafe X bs q.1 all tr q.2.1 ti)) false)=true:=h
  generalize hb:nthT tr q.1 (fun ti=>Bool.rec (motive:=fun _=>Bool) (prF X e all q.2.1 tr nkF MF ti q.2.2) true (ldSafe X bs q.1 all tr q.2.1 ti)) false=b at h
  cases b with
  | false=>cases h
  | true=>
   rcases List.mem_cons.1 hp with rfl | hp
   ·exact hb
   ·exact chF_all h p hp
theorem len_catQ {α:Type}:∀{a b:List α},(catQ a b).length=a.length+b.length
 | [],b=>by show b.length=_;simp
 | x::a,b=>by show (x::catQ a b).length=_;rw [List.length_cons,len_catQ,List.length_cons];omega
theorem len_befs:∀(ops:List Oper) (bs:List Nat),(befs ops bs).length=bs.length+ops.length
 | [],bs=>rfl
 | o::ops,bs=>by
  show (befs ops (catQ bs [befs1 bs o.after.toList])).length=_
  rw [len_befs ops,len_catQ,List.length_cons,List.length_cons,List.length_nil]
  omega
theorem nth_lt {α:Type} {l:List α} {i:Nat} (h:i<l.length):∃x,nth l i=some x:=by
 rw [nth_get]
 exact ⟨_,List.getElem?_eq_getElem h⟩
theorem pairsOf_c {T:XE} {all:List Oper} {bs:List Nat} {i e:Nat} {o:Oper} {r:List Oper}:yx T all bs i (o::r) e=(match isEff T o.op with
  | false=>yx T all bs i r (e+1)
  | true=>(match Nat.blt e i with
   | true=>(match nth bs i with | some m=>(match bit m e,earlyOf T all bs i e o with | true,false=>yx T all bs i r (e+1) | _,_=>(e,true)::yx T all bs i r (e+1)) | none=>(e,true)::yx T all bs i r (e+1))
   | false=>(match nth bs e with | some m=>(match bit m i with | true=>yx T all bs i r (e+1) | false=>(e,false)::yx T all bs i r (e+1)) | none=>(e,false)::yx T all bs i r (e+1)))):=rfl
theorem pairs_ok (he:EvR e xi Y) {all:List Oper} {bs:List Nat} {i:Nat} {oi:Oper} {tr:List Tc} {nkF:Nat} {MF:Mm} {ti:Tc} (hbs:bs.length=tr.length) (hi:i<tr.length):∀{l:List Oper} {s:List Tc} {j:Nat},tr.drop j=s→l.length=s.length →
  (∀p∈yx X all bs i l j,Bool.rec (motive:=fun _=>Bool) (nthT tr (Nat.succ p.1) (fun t=>smF X e all oi ti t.nk t.M) (smF X e all oi ti nkF MF)) (nthT tr p.1 (fun t=>smF X e all oi ti t.nk t.M) false) p.2=true) →
  xpairs X xi Y all bs i oi ti nkF MF l s j=true
 | [],[],j,_,_,_=>by simp [xpairs]
 | oe::l,te::s,j,hd,hl,h=>by
  have hj:j<tr.length:=by
   have:=congrArg List.length hd
   simp at this
   omega
  have hd':tr.drop (j+1)=s:=by
   have:=congrArg (List.drop 1) hd
   simpa [Nat.add_comm] using this
  have ih:=fun h'=>pairs_ok he (all:=all) (bs:=bs) (i:=i) (oi:=oi) (nkF:=nkF) (MF:=MF) (ti:=ti) hbs hi (l:=l) (s:=s) hd' (by simpa using hl) h'
  rw [pairsOf_c] at h
  simp only [xpairs,Bool.and_eq_true]
  cases hE:isEff X oe.op with
  | false=>
   rw [hE] at h
   exact ⟨rfl,ih h⟩
  | true=>
   rw [hE] at h
   dsimp only at h ⊢
   obtain ⟨mi,hmi⟩:=nth_lt (l:=bs) (i:=i) (by omega)
   obtain ⟨mj,hmj⟩:=nth_lt (l:=bs) (i:=j) (by omega)
   cases hlt:Nat.blt j i with
   | true=>
    rw [hlt,hmi] at h
    dsimp only at h
    have key:∀(n:Nat) (m:Mm),xpair X xi Y all bs (earlyOf X all bs i j oe) i j oi ti te n m=match bit mi j,earlyOf X all bs i j oe with | true,false=>true | _,_=>xsame X xi Y all oi ti te.nk te.M:=fun n m=>by
     unfold xpair;rw [hlt];dsimp only;rw [hmi];try rfl
    have add:(∀p∈(j,true)::yx X all bs i l (j+1),Bool.rec (motive:=fun _=>Bool) (nthT tr (Nat.succ p.1) (fun t=>smF X e all oi ti t.nk t.M) (smF X e all oi ti nkF MF)) (nthT tr p.1 (fun t=>smF X e all oi ti t.nk t.M) false) p.2=true) →
      xsame X xi Y all oi ti te.nk te.M=true∧xpairs X xi Y all bs i oi ti nkF MF l s (j+1)=true:=fun h=>by
     have h0:=h (j,true) (.head _)
     have h0:nthT tr j (fun t=>smF X e all oi ti t.nk t.M) false=true:=h0
     rw [nthT_eq,hd] at h0
     exact ⟨smF_ok he h0,ih fun p hp=>h p (.tail _ hp)⟩
    cases hb:bit mi j with
    | true=>
     cases hea:earlyOf X all bs i j oe with
     | false=>
      rw [hb,hea] at h key
      refine ⟨?_,ih h⟩
      cases s<;>exact key _ _
     | true=>
      rw [hb,hea] at h key
      obtain ⟨a1,a2⟩:=add h
      refine ⟨?_,a2⟩
      cases s<;>exact (key _ _).trans a1
    | false=>
     rw [hb] at h key
     obtain ⟨a1,a2⟩:=add h
     refine ⟨?_,a2⟩
     cases s<;>exact (key _ _).trans a1
   | false=>
    rw [hlt,hmj] at h
    dsimp only at h
    have key:∀(n:Nat) (m:Mm),xpair X xi Y all bs (earlyOf X all bs i j oe) i j oi ti te n m=match bit mj i with | true=>true | false=>xsame X xi Y all oi ti n m:=fun n m=>by
     unfold xpair;rw [hlt];dsimp only;rw [hmj];try rfl
    cases hb:bit mj i with
    | true=>
     rw [hb] at h key
     refine ⟨?_,ih h⟩
     cases s<;>exact key _ _
    | false=>
     rw [hb] at h key
     have h0:=h (j,false) (.head _)
     have h0:nthT tr (j+1) (fun t=>smF X e all oi ti t.nk t.M) (smF X e all oi ti nkF MF)=true:=h0
     rw [nthT_eq,hd'] at h0
     refine ⟨?_,ih fun p hp=>h p (.tail _ hp)⟩
     cases s with
     | nil=>exact (key _ _).trans (smF_ok he h0)
     | cons tn s=>exact (key _ _).trans (smF_ok he h0)
 | [],_::_,j,_,hl,_=>by simp at hl
 | _::_,[],j,_,hl,_=>by simp at hl
theorem planOf_c {T:XE} {bs:List Nat} {all:List Oper} {o:Oper} {l:List Oper} {i:Nat}:planOf T bs all (o::l) i=(match isEff T o.op with
  | true=>planOf T bs all l (i+1)
  | false=>(match yx T all bs i all 0 with | []=>planOf T bs all l (i+1) | p=>(i,o,p)::planOf T bs all l (i+1))):=rfl
theorem effsOk_c {bs:List Nat} {all:List Oper} {o:Oper} {l:List Oper} {i:Nat}:effsOk X bs all (o::l) i=(match isEff X o.op with
  | true=>(match yw X all o with | true=>effsOk X bs all l (i+1) | false=>(match xeffs X bs i all 0 with | true=>effsOk X bs all l (i+1) | false=>false))
  | false=>effsOk X bs all l (i+1)):=rfl
theorem chk_ok (he:EvR e xi Y) {all:List Oper} {bs:List Nat} {tr:List Tc} {nkF:Nat} {MF:Mm} (hbs:bs.length=tr.length) (hall:all.length=tr.length):∀{l:List Oper} {s:List Tc} {i:Nat},tr.drop i=s→l.length=s.length →
  effsOk X bs all l i=true→(∀p∈planOf X bs all l i,nthT tr p.1 (fun ti=>Bool.rec (motive:=fun _=>Bool) (prF X e all p.2.1 tr nkF MF ti p.2.2) true (ldSafe X bs p.1 all tr p.2.1 ti)) false=true)→xchk X xi Y all bs tr nkF MF l s i=true
 | [],[],i,_,_,_,_=>by simp [xchk]
 | o::l,t::s,i,hd,hl,hE,hP=>by
  have hi:i<tr.length:=by
   have:=congrArg List.length hd
   simp at this
   omega
  have hd':tr.drop (i+1)=s:=by
   have:=congrArg (List.drop 1) hd
   simpa [Nat.add_comm] using this
  have ih:=fun h1 h2=>chk_ok he (all:=all) (bs:=bs) (nkF:=nkF) (MF:=MF) hbs hall (l:=l) (s:=s) hd' (by simpa using hl) h1 h2
  rw [planOf_c] at hP
  rw [effsOk_c] at hE
  simp only [xchk,Bool.and_eq_true]
  cases hF:isEff X o.op with
  | true=>
   rw [hF] at hP hE
   dsimp only at hP hE ⊢
   cases hea:yw X all o with
   | true=>rw [hea] at hE;exact ⟨rfl,ih hE hP⟩
   | false=>
    rw [hea] at hE
    dsimp only at hE
    cases hx:xeffs X bs i all 0 with
    | true=>rw [hx] at hE;exact ⟨rfl,ih hE hP⟩
    | false=>rw [hx] at hE;cases hE
  | false=>
   rw [hF] at hP hE
   dsimp only at hP hE ⊢
   have hp:ldSafe X bs i all tr o t=true∨∀p∈yx X all bs i all 0,Bool.rec (motive:=fun _=>Bool) (nthT tr (Nat.succ p.1) (fun u=>smF X e all o t u.nk u.M) (smF X e all o t nkF MF)) (nthT tr p.1 (fun u=>smF X e all o t u.nk u.M) false) p.2=true:=by
    cases hq:yx X all bs i all 0 with
    | nil=>exact .inr fun p hp=>by cases hp
    | cons q qs=>
     rw [hq] at hP
     have h0:=hP _ (.head _)
     dsimp only at h0
     rw [nthT_eq,hd] at h0
     have h0:Bool.rec (motive:=fun _=>Bool) (prF X e all o tr nkF MF t (q::qs)) true (ldSafe X bs i all tr o t)=true:=h0
     cases hls:ldSafe X bs i all tr o t with
     | true=>exact .inl rfl
     | false=>rw [hls] at h0;exact .inr fun p hp=>prF_all h0 p hp
   refine ⟨Bool.or_eq_true_iff.2 (hp.imp id fun hp=>pairs_ok he hbs hi rfl hall hp),ih hE ?_⟩
   cases hq:yx X all bs i all 0 with
   | nil=>rw [hq] at hP;exact hP
   | cons q qs=>rw [hq] at hP;exact fun p hp=>hP p (.tail _ hp)
 | [],_::_,i,_,hl,_,_=>by simp at hl
 | _::_,[],i,_,hl,_,_=>by simp at hl
theorem drF_ok (he:EvR e xi Y) {ops:List Oper} {K:CKn} (h:drF ops X e nk fr M K=some r):∃nk' fr' M',xdraw X xi Y e.N ops nk fr M=some (nk',fr',M')∧K nk' fr' M'=some r:=by
 obtain ⟨tr,nk',fr',M',h1,hlen,h⟩:=trF_ok he h
 obtain ⟨h2,h⟩:=bon h
 obtain ⟨h3,h⟩:=bon h
 refine ⟨nk',fr',M',?_,h⟩
 unfold xdraw
 rw [h1]
 dsimp only
 rw [show xchk X xi Y ops (befs ops []) tr nk' M' ops tr 0=true from chk_ok he (by rw [len_befs,hlen];simp) hlen.symm (i:=0) rfl hlen.symm h2 (chF_all h3)]
def ViaC (x:XR) (Kn:CKn) (Ko:CKo) (r:SV×Nat×Mm):Prop:=∃ex nk fr M,x=some (ex,nk,fr,M)∧((ex=.norm∧Kn nk fr M=some r)∨(ex≠.norm∧Ko ex nk fr M=some r))
theorem ptsF_ok {N:Nat}:∀{ps:List Nat} {xs:List SV} {fr:Fr} {K:Fr→RR},ptsF N ps xs fr K=some r→∃fr',xputs ps N xs fr=some fr'∧K fr'=some r
 | [],[],fr,K,h=>⟨fr,rfl,h⟩
 | [],_::_,fr,K,h=>by cases h
 | p::ps,[],fr,K,h=>by cases h
 | p::ps,x::xs,fr,K,h=>by
  have h:Bool.rec (motive:=fun _=>RR) none (ptsF N ps xs ((p,x)::fr) K) (Nat.blt p N)=some r:=h
  obtain ⟨h1,h⟩:=bon h
  obtain ⟨fr',h2,h⟩:=ptsF_ok h
  refine ⟨fr',?_,h⟩
  show (match Nat.blt p N with | true=>xputs ps N xs ((p,x)::fr) | false=>none)=_
  rw [h1]
  exact h2
theorem isRdy_ok {b:Option LB} (h:isRdy b=true):b=some (.loop .ready none):=by
 unfold isRdy at h
 split at h
 ·rfl
 ·cases h
theorem isBusy_ok {b:Option LB} (h:isBusy b=true):b=some (.loop .busy none):=by
 unfold isBusy at h
 split at h
 ·rfl
 ·cases h
theorem isLoop_ok {b:Option LB} (h:isLoop b=true):∃x y,b=some (.loop x y):=by
 unfold isLoop at h
 split at h
 ·exact ⟨_,_,rfl⟩
 ·cases h
abbrev BodyR (va:Nat→Fr→Mm→CKn→CKo→RR) (xa:Nat→Fr→Mm→XR):Prop:=∀nk fr M Kn Ko r,va nk fr M Kn Ko=some r→ViaC (xa nk fr M) Kn Ko r
theorem rdF_ok {va vb:Nat→Fr→Mm→CKn→CKo→RR} {xa xb:Nat→Fr→Mm→XR} (ha:BodyR va xa) (hb:BodyR vb xb) {N:Nat} {ps:List Nat}:∀args nk1 M K r,rdF va vb N nk ps fr args nk1 M K=some r→Via (xround xa xb N nk ps fr args nk1 M) K r:=by
 intro args nk1 M K r h
 unfold rdF at h
 obtain ⟨h0,h⟩:=bon h
 rw [zZ] at h0
 have h0:=isRdy_ok h0
 obtain ⟨fr1,h1,h⟩:=ptsF_ok h
 obtain ⟨ex,nk2,fr2,M2,h2,h⟩:=ha _ _ _ _ _ _ h
 rcases h with ⟨rfl,h⟩ | ⟨_,h⟩
 rotate_left
 ·cases h
 obtain ⟨h3,h⟩:=bon h
 rw [zZ] at h3
 have h3:=isRdy_ok h3
 obtain ⟨M3,h4,h⟩:=y6 h
 obtain ⟨ex,nk3,fr3,M4,h5,h⟩:=hb _ _ _ _ _ _ h
 rcases h with ⟨rfl,h⟩ | ⟨hne,h⟩
 ·obtain ⟨h6,h⟩:=bon h
  rw [zZ] at h6
  have h6:=isBusy_ok h6
  obtain ⟨M5,h7,h⟩:=y6 h
  refine ⟨_,_,M5,?_,h⟩
  unfold xround
  simp only [h0,h1,h2,h3,h4,h5,h6,h7]
 ·obtain ⟨h6,h⟩:=bon h
  rw [zZ] at h6
  have h6:=isBusy_ok h6
  obtain ⟨M5,h7,h⟩:=y6 h
  refine ⟨_,_,M5,?_,h⟩
  unfold xround
  simp only [h0,h1,h2,h3,h4,h5,h6]
  cases ex<;>first
   | exact absurd rfl hne
   | simp only [h7]
theorem dnF_ok {nk1:Nat} {Kn:CKn} {Ko:CKo} (h:dnF nk fr nk1 M Kn Ko=some r):ViaC (xdone nk fr nk1 M) Kn Ko r:=by
 unfold dnF at h
 rw [zZ] at h
 unfold xdone
 split at h
 ·rename_i h0
  obtain ⟨M1,h1,h⟩:=y6 h
  obtain ⟨M2,h2,h⟩:=y6 h
  exact ⟨.norm,nk1,fr,M2,by simp only [h0,h1,h2],.inl ⟨rfl,h⟩⟩
 ·rename_i h0
  obtain ⟨M1,h1,h⟩:=y6 h
  obtain ⟨M2,h2,h⟩:=y6 h
  exact ⟨.ret,nk1,fr,M2,by simp only [h0,h1,h2],.inr ⟨by simp,h⟩⟩
 ·rename_i n h0
  obtain ⟨M1,h1,h⟩:=y6 h
  obtain ⟨M2,h2,h⟩:=y6 h
  exact ⟨.exit n,nk1,fr,M2,by simp only [h0,h1,h2],.inr ⟨by simp,h⟩⟩
 ·rename_i n h0
  obtain ⟨M1,h1,h⟩:=y6 h
  obtain ⟨M2,h2,h⟩:=y6 h
  exact ⟨.goto n,nk1,fr,M2,by simp only [h0,h1,h2],.inr ⟨by simp,h⟩⟩
 ·cases h
theorem nmF_eq:∀{fr:Fr} {seen:Nat} {K:Fr→RR},nmF fr seen K=K (xnorm fr seen)
 | [],seen,K=>rfl
 | (t,x)::fr,seen,K=>by
  have e:Nat.beq (Nat.mod (Nat.shiftRight seen t) 2) 1=bit seen t:=by
   show Nat.beq ((seen >>> t) % 2) 1=Nat.testBit seen t
   unfold Nat.testBit
   rw [Nat.one_and_eq_mod_two]
   have:(seen >>> t) % 2=0∨(seen >>> t) % 2=1:=by omega
   rcases this with h | h<;>rw [h]<;>rfl
  show Bool.rec (motive:=fun _=>RR) (nmF fr (Nat.lor seen (2 ^ t)) fun s=>K ((t,x)::s)) (nmF fr seen K) (Nat.beq (Nat.mod (Nat.shiftRight seen t) 2) 1)=K (match bit seen t with | true=>xnorm fr seen | false=>(t,x)::xnorm fr (Nat.lor seen (2 ^ t)))
  rw [e,nmF_eq,nmF_eq]
  cases bit seen t<;>rfl
theorem lpF_ok {body:Nat→Fr→Mm→CKn→CKo→RR} {xb:Nat→Fr→Mm→XR} (hb:BodyR body xb) {Kn:CKn} {Ko:CKo}:∀{f:Nat} {nk:Nat} {fr:Fr} {M:Mm},lpF body Kn Ko f nk fr M=some r→ViaC (xloop xb f nk fr M) Kn Ko r
 | 0,nk,fr,M,h=>by cases h
 | f+1,nk,fr,M,h=>by
  have h:nmF fr 0 (fun fr=>body nk fr M (lpF body Kn Ko f) Ko)=some r:=h
  rw [nmF_eq] at h
  obtain ⟨ex,nk',fr',M',h1,h⟩:=hb _ _ _ _ _ _ h
  have hu:xloop xb (f+1) nk fr M=(match xb nk (xnorm fr 0) M with
   | some (.norm,nk',fr',M')=>xloop xb f nk' fr' M'
   | r=>r):=rfl
  rw [h1] at hu
  rcases h with ⟨rfl,h⟩ | ⟨hne,h⟩
  ·rw [hu]
   exact lpF_ok hb h
  ·refine ⟨ex,nk',fr',M',?_,.inr ⟨hne,h⟩⟩
   rw [hu]
   cases ex<;>first
    | exact absurd rfl hne
    | rfl
theorem goF_ok (he:EvR e xi Y) {va vb:CF} {xa xb:Option Nat→Nat→Fr→Mm→XR} (ha:∀ro,BodyR (va X e ro) (xa ro)) (hb:∀ro,BodyR (vb X e ro) (xb ro)) {ps:Array Nat} {it:Nat} {cs:List SV} {Kn:CKn} {Ko:CKo}
  (h:goF va vb X e ps.toList it cs nk fr M Kn Ko=some r):ViaC (xgo xi e.N Y xa xb ps it cs nk fr M) Kn Ko r:=by
 obtain ⟨M2,h1,h⟩:=y6 h
 rw [yc] at h
 obtain ⟨y,nk1,M3,h2,h⟩:=he.x _ ((nk,xround (xa (some nk)) (xb (some nk)) e.N nk ps.toList fr)::Y) (by
  intro k g hg
  rw [yk_c] at hg
  rw [yxGet_c]
  cases hk:Nat.beq nk k with
  | true=>
   rw [hk] at hg
   cases hg
   exact ⟨_,rfl,rdF_ok (ha _) (hb _)⟩
  | false=>
   rw [hk] at hg
   exact he.y k g hg) _ _ _ _ _ _ h
 obtain ⟨h3,h⟩:=bon h
 obtain ⟨ex,nk',fr',M',h4,h⟩:=dnF_ok h
 refine ⟨ex,nk',fr',M',?_,h⟩
 unfold xgo
 rw [h1]
 dsimp only
 rw [h2]
 dsimp only
 rw [h3]
 exact h4
theorem cdF_ok (he:EvR e xi Y):∀{c:Code} {ro:Option Nat} {nk:Nat} {fr:Fr} {M:Mm} {Kn:CKn} {Ko:CKo} {r},cdF c X e ro nk fr M Kn Ko=some r→ViaC (xC X xi e.lf e.N Y c ro nk fr M) Kn Ko r:=by
 intro c
 induction c with
 | skip=>intro ro nk fr M Kn Ko r h;exact ⟨.norm,nk,fr,M,rfl,.inl ⟨rfl,h⟩⟩
 | region id ops draw=>
  intro ro nk fr M Kn Ko r h
  cases draw with
  | false=>
   obtain ⟨nk',fr',M',h1,h⟩:=opsF_ok he (show opsF ops.toList ops.toList X e nk fr M Kn=some r from h)
   refine ⟨.norm,nk',fr',M',?_,.inl ⟨rfl,h⟩⟩
   show (match xops X xi Y e.N ops.toList ops.toList nk fr M with | some (nk',fr',M')=>some (Ex.norm,nk',fr',M') | none=>none)=_
   rw [h1]
  | true=>
   obtain ⟨nk',fr',M',h1,h⟩:=drF_ok he (show drF ops.toList X e nk fr M Kn=some r from h)
   refine ⟨.norm,nk',fr',M',?_,.inl ⟨rfl,h⟩⟩
   show (match xdraw X xi Y e.N ops.toList nk fr M with | some (nk',fr',M')=>some (Ex.norm,nk',fr',M') | none=>none)=_
   rw [h1]
 | seq a b iha ihb=>
  intro ro nk fr M Kn Ko r h
  obtain ⟨ex,nk',fr',M',h1,h⟩:=iha (show cdF a X e ro nk fr M (fun nk fr M=>cdF b X e ro nk fr M Kn Ko) Ko=some r from h)
  have hu:xC X xi e.lf e.N Y (.seq a b) ro nk fr M=(match xC X xi e.lf e.N Y a ro nk fr M with
   | some (.norm,nk',fr',M')=>xC X xi e.lf e.N Y b ro nk' fr' M'
   | r=>r):=rfl
  rw [h1] at hu
  rcases h with ⟨rfl,h⟩ | ⟨hne,h⟩
  ·rw [hu];exact ihb h
  ·refine ⟨ex,nk',fr',M',?_,.inr ⟨hne,h⟩⟩
   rw [hu]
   cases ex<;>first
    | exact absurd rfl hne
    | rfl
 | cond c a b iha ihb=>
  intro ro nk fr M Kn Ko r h
  have h:tst (ov c fr) (cdF a X e ro nk fr M Kn Ko) (cdF b X e ro nk fr M Kn Ko)=some r:=h
  have hu:xC X xi e.lf e.N Y (.cond c a b) ro nk fr M=(match opv fr c with
   | .bb true=>xC X xi e.lf e.N Y a ro nk fr M
   | .bb false=>xC X xi e.lf e.N Y b ro nk fr M
   | _=>none):=rfl
  rw [zL] at h
  unfold tst at h
  split at h
  ·rename_i x hx
   rw [hx] at hu
   cases x with
   | true=>rw [hu];exact iha h
   | false=>rw [hu];exact ihb h
  ·cases h
 | block id c ih=>
  intro ro nk fr M Kn Ko r h
  obtain ⟨ex,nk',fr',M',h1,h⟩:=ih (show cdF c X e ro nk fr M Kn (exF id Kn Ko)=some r from h)
  have hu:xC X xi e.lf e.N Y (.block id c) ro nk fr M=(match xC X xi e.lf e.N Y c ro nk fr M with
   | some (.exit n,nk',fr',M')=>(match Nat.beq n id with | true=>some (.norm,nk',fr',M') | false=>some (.exit n,nk',fr',M'))
   | r=>r):=rfl
  rw [h1] at hu
  rcases h with ⟨rfl,h⟩ | ⟨hne,h⟩
  ·exact ⟨.norm,nk',fr',M',hu,.inl ⟨rfl,h⟩⟩
  ·cases ex with
   | norm=>exact absurd rfl hne
   | exit n=>
    have h:Bool.rec (motive:=fun _=>RR) (Ko (.exit n) nk' fr' M') (Kn nk' fr' M') (Nat.beq n id)=some r:=h
    dsimp only at hu
    rcases bofs h with ⟨hb,h⟩ | ⟨hb,h⟩
    ·rw [hb] at hu;exact ⟨.norm,nk',fr',M',hu,.inl ⟨rfl,h⟩⟩
    ·rw [hb] at hu;exact ⟨.exit n,nk',fr',M',hu,.inr ⟨by simp,h⟩⟩
   | ret=>exact ⟨.ret,nk',fr',M',hu,.inr ⟨by simp,h⟩⟩
   | goto l=>exact ⟨.goto l,nk',fr',M',hu,.inr ⟨by simp,h⟩⟩
 | loop c ih=>
  intro ro nk fr M Kn Ko r h
  exact lpF_ok (xb:=xC X xi e.lf e.N Y c ro) (fun nk fr M Kn Ko r h=>ih h) (show lpF (cdF c X e ro) Kn Ko e.lf nk fr M=some r from h)
 | rangeFunc g ps a b iha ihb=>
  intro ro nk fr M Kn Ko r h
  have h:rgF (cdF a) (cdF b) ps.toList X e ro nk fr M Kn Ko (ov g fr)=some r:=h
  show ViaC (xrange xi e.N Y (xC X xi e.lf e.N Y a) (xC X xi e.lf e.N Y b) g ps ro nk fr M) Kn Ko r
  rw [zL] at h
  unfold rgF at h
  unfold xrange
  split at h
  ·rename_i it cs hg
   rw [hg]
   dsimp only
   cases ro with
   | none=>
    obtain ⟨M1,h1,h⟩:=y6 h
    dsimp only
    rw [h1]
    exact goF_ok he (va:=cdF a) (vb:=cdF b) (fun ro nk fr M Kn Ko r h=>iha h) (fun ro nk fr M Kn Ko r h=>ihb h) h
   | some l0=>
    obtain ⟨h1,h⟩:=bon h
    rw [zZ] at h1
    obtain ⟨x,y,h1⟩:=isLoop_ok h1
    dsimp only
    rw [h1]
    exact goF_ok he (va:=cdF a) (vb:=cdF b) (fun ro nk fr M Kn Ko r h=>iha h) (fun ro nk fr M Kn Ko r h=>ihb h) h
  ·cases h
 | exit id=>intro ro nk fr M Kn Ko r h;exact ⟨.exit id,nk,fr,M,rfl,.inr ⟨by simp,h⟩⟩
 | scope c ih=>
  intro ro nk fr M Kn Ko r h
  obtain ⟨ex,nk',fr',M',h1,h⟩:=ih (show cdF c X e ro nk fr M Kn (scF Ko)=some r from h)
  have hu:xC X xi e.lf e.N Y (.scope c) ro nk fr M=(match xC X xi e.lf e.N Y c ro nk fr M with
   | some (.goto _,_,_,_)=>none
   | r=>r):=rfl
  rw [h1] at hu
  rcases h with ⟨rfl,h⟩ | ⟨hne,h⟩
  ·exact ⟨.norm,nk',fr',M',hu,.inl ⟨rfl,h⟩⟩
  ·cases ex with
   | norm=>exact absurd rfl hne
   | exit n=>exact ⟨.exit n,nk',fr',M',hu,.inr ⟨by simp,h⟩⟩
   | ret=>exact ⟨.ret,nk',fr',M',hu,.inr ⟨by simp,h⟩⟩
   | goto l=>cases h
 | label l=>intro ro nk fr M Kn Ko r h;exact ⟨.norm,nk,fr,M,rfl,.inl ⟨rfl,h⟩⟩
 | goto l=>intro ro nk fr M Kn Ko r h;exact ⟨.goto l,nk,fr,M,rfl,.inr ⟨by simp,h⟩⟩
 | ret=>intro ro nk fr M Kn Ko r h;exact ⟨.ret,nk,fr,M,rfl,.inr ⟨by simp,h⟩⟩
 | refuse why=>intro ro nk fr M Kn Ko r h;cases h
theorem endF_ok {rs:List ResultVar} (h:endF X rs K nk fr M=some r):∃l,xres X.E.T rs fr M=some l∧K (oneOr l) nk M=some r:=by
 obtain ⟨l,h1,h⟩:=oon h
 refine ⟨l,h1,?_⟩
 rw [frLS_eq] at h
 split at h
 ·rename_i x
  rcases bofs h with ⟨_,h⟩ | ⟨hb,h⟩
  ·cases h
  ·obtain ⟨_,h⟩:=mv_ok h
   cases x<;>first
    | exact h
    | cases hb
 ·rename_i hne
  cases l with
  | nil=>exact h
  | cons x l=>
   cases l with
   | nil=>exact (hne x rfl).elim
   | cons y l=>exact h
theorem xF_ok {lf:Nat}:∀d,XR2 (xF X lf d) (xN X lf d)
 | 0=>by intro Z Y hY f args nk M K r h;cases h
 | d+1=>by
  intro Z Y hY f args nk M K r h
  have h:Option.rec (motive:=fun _=>RR) (Option.rec (motive:=fun _=>RR) none (bdF X lf (xF X lf d) Z args nk M K) (X.E.FT.get f)) (fun p=>obR (p args nk M) K) (X.prim.get f)=some r:=h
  have hu:xN X lf (d+1) Y f args nk M=(match X.prim.get f with
   | some p=>p args nk M
   | none=>(match X.E.FT.get f with
    | none=>none
    | some fn=>(match fn.body with
     | none=>none
     | some c=>(match Nat.ble args.length fn.ntmps with
      | false=>none
      | true=>(match xC X (xN X lf d) lf fn.ntmps Y c none nk (argF args 0) M with
       | some (ex,nk',fr',M')=>(match (match ex with | .norm=>true | .ret=>true | _=>false) with
        | true=>(match xres X.E.T fn.results.toList fr' M' with
         | some l=>some (oneOr l,nk',M')
         | none=>none)
        | false=>none)
       | none=>none))))):=rfl
  cases hp:X.prim.get f with
  | some p=>
   rw [hp] at h hu
   rw [hu]
   exact obR_ok h
  | none=>
   rw [hp] at h hu
   dsimp only at hu h
   obtain ⟨fn,hf,h⟩:=oon h
   rw [hf] at hu
   dsimp only at hu
   unfold bdF at h
   obtain ⟨c,hc,h⟩:=oon h
   rw [hc] at hu
   dsimp only at hu
   obtain ⟨hb,h⟩:=bon h
   rw [hb] at hu
   dsimp only at hu
   obtain ⟨ex,nk',fr',M',h1,h⟩:=cdF_ok (e:=⟨xF X lf d,Z,lf,fn.ntmps⟩) ⟨xF_ok d,hY⟩ h
   dsimp only at h1
   rw [h1] at hu
   dsimp only at hu
   rcases h with ⟨rfl,h⟩ | ⟨hne,h⟩
   ·obtain ⟨l,h2,h⟩:=endF_ok h
    rw [h2] at hu
    exact ⟨oneOr l,nk',M',hu,h⟩
   ·unfold endO at h
    split at h
    ·obtain ⟨l,h2,h⟩:=endF_ok h
     rw [h2] at hu
     exact ⟨oneOr l,nk',M',hu,h⟩
    ·cases h
def run1 (X:XE) (lf d f:Nat) (args:List SV) (nk:Nat) (M:Mm):RR:=xF X lf d [] f args nk M fun y nk M=>some (y,nk,M)
theorem run1_ok {lf d f:Nat} {args:List SV} {nk:Nat} {M:Mm} {r} (h:run1 X lf d f args nk M=some r):xN X lf d [] f args nk M=some r:=by
 obtain ⟨y,n,m,h1,h2⟩:=xF_ok d [] [] (fun k g hg=>by cases hg) _ _ _ _ _ _ h
 cases h2
 exact h1
theorem fast_true {lf d f:Nat} {args:List SV} {nk:Nat} {M:Mm} (h:isTrue (run1 X lf d f args nk M)=true):isTrue (xN X lf d [] f args nk M)=true:=by
 cases hr:run1 X lf d f args nk M with
 | none=>rw [hr] at h;cases h
 | some r=>rw [run1_ok hr,←hr];exact h
end
end Exe
end Go.Eng
end
section
namespace Go.Eng
open Go Go.RowKit
namespace Exe
noncomputable section
def pureS (x:SV):Bool:=
 SV.rec (motive_1:=fun _=>Bool) (motive_2:=fun _=>Bool)
  (fun _=>true) (fun _=>true) (fun _ _=>false) (fun _ _=>false) (fun _=>false) (fun _ _=>false)
  (fun _ ih=>ih) (fun _ ih=>ih) (fun _ _ _=>false) (fun _=>false) (fun _ _ _ _ _=>false) (fun _=>false) (fun _ _=>false) (fun _=>false) false
  true (fun _ _ hx hr=>Bool.rec false hr hx) x
def pureL (l:List SV):Bool:=List.rec (motive:=fun _=>Bool) true (fun x _ ih=>Bool.rec (motive:=fun _=>Bool) false ih (pureS x)) l
theorem pureL_c {x:SV} {l:List SV}:pureL (x::l)=true↔pureS x=true∧pureL l=true:=by
 show Bool.rec (motive:=fun _=>Bool) false (pureL l) (pureS x)=true↔_
 cases pureS x<;>simp
theorem pure_agg:∀l,pureS (.agg l)=pureL l
 | []=>rfl
 | x::r=>by
  show Bool.rec (motive:=fun _=>Bool) false (pureS (.agg r)) (pureS x)=_
  rw [pure_agg r];rfl
theorem pure_tup:∀l,pureS (.tup l)=pureL l
 | []=>rfl
 | x::r=>by
  show Bool.rec (motive:=fun _=>Bool) false (pureS (.tup r)) (pureS x)=_
  rw [pure_tup r];rfl
mutual
theorem pure_uniq {S S':Pl}:∀(y:SV) {v v':Value},pureS y=true→okv S y v→okv S' y v'→v=v'
 | .v x,v,v',_,h,h'=>(show v=x from h).trans (show v'=x from h').symm
 | .bb b,v,v',_,h,h'=>(show v=.bool b from h).trans (show v'=.bool b from h').symm
 | .agg l,v,v',hp,h,h'=>by
  obtain ⟨vs,rfl,h⟩:=h
  obtain ⟨vs',rfl,h'⟩:=h'
  rw [pure_agg] at hp
  rw [pure_uniqL l hp h h']
 | .tup l,v,v',hp,h,h'=>by
  obtain ⟨vs,rfl,h⟩:=h
  obtain ⟨vs',rfl,h'⟩:=h'
  rw [pure_tup] at hp
  rw [pure_uniqL l hp h h']
 | .b _ _,v,v',hp,h,h'=>by cases hp
 | .lp _ _,v,v',hp,h,h'=>by cases hp
 | .own _,v,v',hp,h,h'=>by cases hp
 | .el _ _,v,v',hp,h,h'=>by cases hp
 | .fn _ _,v,v',hp,h,h'=>by cases hp
 | .yl _,v,v',hp,h,h'=>by cases hp
 | .vw _ _ _ _ _,v,v',hp,h,h'=>by cases hp
 | .lq _,v,v',hp,h,h'=>by cases hp
 | .ls _ _,v,v',hp,h,h'=>by cases hp
 | .mr _,v,v',hp,h,h'=>by cases hp
 | .bad,v,v',hp,h,h'=>by cases hp
theorem pure_uniqL {S S':Pl}:∀(l:List SV) {vs vs':List Value},pureL l=true→okL S l vs→okL S' l vs'→vs=vs'
 | [],[],[],_,_,_=>rfl
 | x::l,v::vs,v'::vs',hp,h,h'=>by
  obtain ⟨h1,h2⟩:=pureL_c.1 hp
  rw [pure_uniq x h1 h.1 h'.1,pure_uniqL l h2 h.2 h'.2]
 | [],_::_,_,_,h,_=>by cases h
 | [],[],_::_,_,_,h=>by cases h
 | _::_,[],_,_,h,_=>by cases h
 | _::_,_::_,[],_,_,h=>by cases h
end
mutual
theorem pure_has {k:Nat}:∀(y:SV),pureS y=true→y.has k=false
 | .v x,_=>rfl
 | .bb b,_=>rfl
 | .agg l,hp=>by rw [pure_agg] at hp;simpa [SV.has] using pure_hasL l hp
 | .tup l,hp=>by rw [pure_tup] at hp;simpa [SV.has] using pure_hasL l hp
 | .b _ _,hp=>by cases hp
 | .lp _ _,hp=>by cases hp
 | .own _,hp=>by cases hp
 | .el _ _,hp=>by cases hp
 | .fn _ _,hp=>by cases hp
 | .yl _,hp=>by cases hp
 | .vw _ _ _ _ _,hp=>by cases hp
 | .lq _,hp=>by cases hp
 | .ls _ _,hp=>by cases hp
 | .mr _,hp=>by cases hp
 | .bad,hp=>by cases hp
theorem pure_hasL {k:Nat}:∀(l:List SV),pureL l=true→hasL k l=false
 | [],_=>rfl
 | x::l,hp=>by
  obtain ⟨h1,h2⟩:=pureL_c.1 hp
  unfold hasL
  rw [pure_has x h1,pure_hasL l h2]
end
theorem pure_move {S S':Pl} {y:SV} {v:Value} (hp:pureS y=true) (h:okv S y v):okv S' y v:=okv_congr y (fun k hk=>by rw [pure_has y hp] at hk;cases hk) h
def apart (X:XE) (f:Nat) (args:List SV):Option SV:=Bool.rec (motive:=fun _=>Option SV) none
 (Option.rec (motive:=fun _=>Option SV) none (fun p=>Bool.rec (motive:=fun _=>Option SV) none (some p.1) (pureS p.1)) (run1 X 1000 40 f args 0 .lf)) (pureL args)
theorem apart_ok {P:Program} {X:XE} (hX:XOk P X) (hPr:PrimsOk P X) (hC:bodiesOk X.E.FT=true) {f:Nat} {args:List SV} {y:SV} {S:Pl} {vs:List Value} (h:apart X f args=some y) (hvs:okL S args vs) :
  ∃v,okv S y v∧(∀args w,(callFunc f args).run P w=.ok (.enter f args) w)∧∀w,Calls P f vs.toArray w fun e w'=>e=.returned v∧Below w.heap.size w w':=by
 unfold apart at h
 cases hp:pureL args with
 | false=>rw [hp] at h;cases h
 | true=>
  rw [hp] at h
  dsimp only at h
  cases hr:run1 X 1000 40 f args 0 .lf with
  | none=>rw [hr] at h;cases h
  | some p=>
   rw [hr] at h
   dsimp only at h
   cases hpy:pureS p.1 with
   | false=>rw [hpy] at h;cases h
   | true=>
    rw [hpy] at h
    cases h
    obtain ⟨y,nk',M'⟩:=p
    have hx:=run1_ok hr
    have main:∀w,(∀args w,(callFunc f args).run P w=.ok (.enter f args) w)∧CallsIn (FF none) 0 P f vs.toArray w fun e w'=>∃v,e=.returned v∧okv S y v∧Below w.heap.size w w':=by
     intro w
     have:=xN_ok hX hPr hC (lf:=1000) 40 (.all w) [] f args 0 (phOf w) [] (fun x _ _ _=>x=y) vs w S none 0 ⟨[],.lf,y,nk',M',fun k hx hk=>(by cases hk),fun k=>rfl,fun k hk=>(by cases hk),fun k hk=>(by rw [pure_hasL args hp] at hk;cases hk),hx,fun _ _ _ _=>rfl⟩ (fun k hd hk=>by simp [yGet] at hk) hvs (Mem.start w S)
     refine ⟨this.1,this.2.mono ?_⟩
     rintro e w' ⟨v,x,S',q',L',nk',rfl,hxv,_,hm,_,rfl⟩
     exact ⟨v,rfl,pure_move hpy hxv,hm.be.below⟩
    have m2:∀w,Calls P f vs.toArray w fun e w'=>∃v,e=.returned v∧okv S y v∧Below w.heap.size w w':=fun w=>by
     have h3:CallsIn Fence.wide 0 P f vs.toArray w _:=(main w).2
     exact callsIn_wide.1 h3
    obtain ⟨v,hv⟩:∃v,okv S y v:=by
     obtain ⟨_,_,_,⟨v,_,hv,_⟩,_⟩:=m2 default []
     exact ⟨v,hv⟩
    refine ⟨v,hv,(main default).1,fun w=>(m2 w).mono ?_⟩
    rintro e w' ⟨v',rfl,hv',hb⟩
    exact ⟨by rw [pure_uniq y hpy hv' hv],hb⟩
def apartT (X:XE) (l:Tr Unit):Tr (List SV→Option SV):=Tr.rec (motive:=fun _=>Tr (List SV→Option SV)) .nil (fun _ k _ _ gl gr=>.node gl k (apart X k) gr) l
theorem apartT_get {X:XE}:∀{l:Tr Unit} {f:Nat} {g:List SV→Option SV},(apartT X l).get f=some g→g=apart X f
 | .nil,f,g,h=>by cases h
 | .node a k v b,f,g,h=>by
  have h:(Tr.node (apartT X a) k (apart X k) (apartT X b)).get f=some g:=h
  rw [Tr.get_c] at h
  split at h
  ·rename_i e;cases h;rw [Nat.eq_of_beq_eq_true e]
  ·split at h
   ·exact apartT_get h
   ·exact apartT_get h
end
end Exe
end Go.Eng
end
section
namespace Go.Proofs.YtmpknfgjfmgleaaGreatDoor
open Go Go.Eng Go.RowKit Go.Eng.Exe
noncomputable section
def pk0:Tr Unit:=(.node (.node (.node (.node (.node (.node (.node .nil 3 () .nil) 4 () .nil) 7 () (.node .nil 9 () .nil)) 10 () (.node (.node .nil 11 () .nil) 13 () (.node .nil 15 () .nil))) 16 () (.node (.node (.node (.node .nil 23 () .nil) 24 () .nil) 25 () (.node .nil 26 () .nil)) 27 () (.node (.node .nil 28 () .nil) 29 () (.node .nil 30 () .nil)))) 31 () (.node (.node (.node (.node (.node .nil 34 () .nil) 37 () .nil) 38 () (.node .nil 39 () .nil)) 40 () (.node (.node .nil 59 () .nil) 60 () (.node .nil 63 () .nil))) 64 () (.node (.node (.node .nil 65 () .nil) 68 () (.node .nil 69 () .nil)) 73 () (.node (.node .nil 74 () .nil) 76 () (.node .nil 78 () .nil))))) 79 () (.node (.node (.node (.node (.node (.node .nil 80 () .nil) 90 () .nil) 98 () (.node .nil 102 () .nil)) 114 () (.node (.node .nil 117 () .nil) 118 () (.node .nil 119 () .nil))) 120 () (.node (.node (.node .nil 121 () .nil) 124 () (.node .nil 125 () .nil)) 126 () (.node (.node .nil 127 () .nil) 128 () (.node .nil 129 () .nil)))) 130 () (.node (.node (.node (.node (.node .nil 134 () .nil) 139 () .nil) 141 () (.node .nil 142 () .nil)) 146 () (.node (.node .nil 155 () .nil) 156 () (.node .nil 159 () .nil))) 160 () (.node (.node (.node .nil 164 () .nil) 168 () (.node .nil 188 () .nil)) 191 () (.node (.node .nil 192 () .nil) 193 () (.node .nil 194 () .nil))))))
def pk1:Tr Unit:=(.node (.node (.node .nil 198 () .nil) 199 () .nil) 202 () (.node (.node .nil 203 () .nil) 204 () .nil))
def pk2:Tr Unit:=(.node (.node (.node (.node (.node (.node (.node .nil 211 () .nil) 216 () .nil) 219 () (.node (.node .nil 222 () .nil) 228 () .nil)) 230 () (.node (.node (.node .nil 232 () .nil) 233 () .nil) 235 () (.node .nil 237 () .nil))) 240 () (.node (.node (.node (.node .nil 245 () .nil) 249 () .nil) 254 () (.node (.node .nil 258 () .nil) 260 () .nil)) 261 () (.node (.node (.node .nil 264 () .nil) 265 () .nil) 270 () (.node .nil 271 () .nil)))) 272 () (.node (.node (.node (.node (.node .nil 273 () .nil) 277 () .nil) 278 () (.node (.node .nil 279 () .nil) 280 () .nil)) 281 () (.node (.node (.node .nil 282 () .nil) 283 () .nil) 284 () (.node .nil 285 () .nil))) 293 () (.node (.node (.node (.node .nil 298 () .nil) 299 () .nil) 300 () (.node (.node .nil 305 () .nil) 306 () .nil)) 309 () (.node (.node (.node .nil 312 () .nil) 313 () .nil) 315 () (.node .nil 316 () .nil))))) 317 () (.node (.node (.node (.node (.node (.node .nil 324 () .nil) 328 () .nil) 330 () (.node (.node .nil 337 () .nil) 348 () .nil)) 349 () (.node (.node (.node .nil 350 () .nil) 351 () .nil) 352 () (.node .nil 353 () .nil))) 354 () (.node (.node (.node (.node .nil 357 () .nil) 358 () .nil) 360 () (.node (.node .nil 362 () .nil) 367 () .nil)) 368 () (.node (.node (.node .nil 370 () .nil) 371 () .nil) 372 () (.node .nil 373 () .nil)))) 374 () (.node (.node (.node (.node (.node .nil 375 () .nil) 387 () .nil) 388 () (.node (.node .nil 389 () .nil) 392 () .nil)) 397 () (.node (.node (.node .nil 398 () .nil) 399 () .nil) 400 () (.node .nil 401 () .nil))) 402 () (.node (.node (.node (.node .nil 406 () .nil) 409 () .nil) 410 () (.node .nil 416 () .nil)) 417 () (.node (.node (.node .nil 418 () .nil) 419 () .nil) 420 () (.node .nil 421 () .nil))))))
def pk3:Tr Unit:=(.node (.node (.node (.node (.node (.node .nil 425 () .nil) 426 () .nil) 440 () (.node .nil 443 () .nil)) 444 () (.node (.node (.node .nil 446 () .nil) 448 () .nil) 452 () (.node .nil 453 () .nil))) 454 () (.node (.node (.node (.node .nil 458 () .nil) 459 () .nil) 462 () (.node .nil 464 () .nil)) 465 () (.node (.node .nil 466 () .nil) 467 () (.node .nil 468 () .nil)))) 469 () (.node (.node (.node (.node (.node .nil 470 () .nil) 473 () .nil) 474 () (.node .nil 478 () .nil)) 481 () (.node (.node .nil 485 () .nil) 487 () (.node .nil 488 () .nil))) 489 () (.node (.node (.node (.node .nil 490 () .nil) 491 () .nil) 494 () (.node .nil 495 () .nil)) 496 () (.node (.node .nil 497 () .nil) 505 () (.node .nil 512 () .nil)))))
theorem tr_ap {X:XE} (hX:XOk Tryz.prog X) (hP:PrimsOk Tryz.prog X) (hB:bodiesOk X.E.FT=true) {l:Tr Unit}:TrAll (apartT X l) (fun f g=>∀(S:Pl) args vs y,okL S args vs→g args=some y→∃v,okv S y v∧((∀w,(callFunc f vs.toArray).run Tryz.prog w=.ok (.value v) w)∨((∀args w,(callFunc f args).run Tryz.prog w=.ok (.enter f args) w)∧∀w,Calls Tryz.prog f vs.toArray w fun e w'=>e=.returned v∧Below w.heap.size w w'))):=by
 intro k g hg S args vs y hvs h
 rw [apartT_get hg] at h
 obtain ⟨v,h1,h2,h3⟩:=apart_ok hX hP hB h hvs
 exact ⟨v,h1,.inr ⟨h2,h3⟩⟩
def extX (X:XE):Tr (List SV→Option SV):=(.node (.node (apartT X pk0) 197 eIdx (apartT X pk1)) 210 eBits (.node (apartT X pk2) 424 eFrom (apartT X pk3)))
theorem extX_ok {X:XE} (hX:XOk Tryz.prog X) (hP:PrimsOk Tryz.prog X) (hB:bodiesOk X.E.FT=true):ExtOk Tryz.prog (extX X):=fun f g hg=>(show TrAll (extX X) (fun f g=>∀(S:Pl) args vs y,okL S args vs→g args=some y→∃v,okv S y v∧((∀w,(callFunc f vs.toArray).run Tryz.prog w=.ok (.value v) w)∨((∀args w,(callFunc f args).run Tryz.prog w=.ok (.enter f args) w)∧∀w,Calls Tryz.prog f vs.toArray w fun e w'=>e=.returned v∧Below w.heap.size w w'))) from (tr_node (tr_node (tr_ap hX hP hB) (eIdx_ok 197 Tryz.func197 (nq9 Tryz.func197) rfl (by kernel_rfl) (by kernel_rfl)) (tr_ap hX hP hB)) (eBits_ok 210 Tryz.func210 (nq9 Tryz.func210) rfl (by kernel_rfl) (by kernel_rfl)) (tr_node (tr_ap hX hP hB) (eFrom_ok 424 Tryz.func424 (nq9 Tryz.func424) rfl (by kernel_rfl) (by kernel_rfl)) (tr_ap hX hP hB)))) f g hg
def XX1:XE:={ XX with ext:=extX XX }
theorem xx1_ok:XOk Tryz.prog XX1:=⟨xx_ok.e,xx_ok.z,extX_ok xx_ok xx_prims xx_bodies⟩
def XX2:XE:={ XX with ext:=extX XX1 }
theorem xx2_ok:XOk Tryz.prog XX2:=⟨xx_ok.e,xx_ok.z,extX_ok xx1_ok xx_prims xx_bodies⟩
def XX3:XE:={ XX with ext:=extX XX2 }
theorem xx3_ok:XOk Tryz.prog XX3:=⟨xx_ok.e,xx_ok.z,extX_ok xx2_ok xx_prims xx_bodies⟩
def XX4:XE:={ XX with ext:=extX XX3 }
theorem xx4_ok:XOk Tryz.prog XX4:=⟨xx_ok.e,xx_ok.z,extX_ok xx3_ok xx_prims xx_bodies⟩
def XX5:XE:={ XX with ext:=extX XX4 }
theorem xx5_ok:XOk Tryz.prog XX5:=⟨xx_ok.e,xx_ok.z,extX_ok xx4_ok xx_prims xx_bodies⟩
def XX6:XE:={ XX with ext:=extX XX5 }
theorem xx6_ok:XOk Tryz.prog XX6:=⟨xx_ok.e,xx_ok.z,extX_ok xx5_ok xx_prims xx_bodies⟩
end
end Go.Proofs.YtmpknfgjfmgleaaGreatDoor
end
section
namespace Go.Proofs.YtmpknfgjfmgleaaGreatDoor
open Go Go.Eng Go.RowKit Go.Eng.Exe
noncomputable section
theorem run7:isTrue (run1 XX6 1000 40 7 [] 0 .lf)=true:=by kernel_rfl
theorem aw7:(∀args w,(callFunc 7 args).run Tryz.prog w=.ok (.enter 7 args) w)∧∀w,Calls Tryz.prog 7 #[] w fun e w'=>e=.returned (.bool true)∧Below w.heap.size w w':=
 closed_true xx6_ok xx_prims xx_bodies (fast_true run7)
end
end Go.Proofs.YtmpknfgjfmgleaaGreatDoor
end
section
namespace Go.Proofs.YtmpknfgjfmgleaaGreatDoor
open Go Go.Eng Go.RowKit Go.Eng.Exe
noncomputable def g7:Option Bool:=some true
noncomputable def k7:Eng.CS:={ f:=7,calm:=true,more:=0,ι:=Bool,ok:=fun i=>g7=some i,rds:=fun _=>[],args:=fun i=>[],res:=fun i=>bS i }
theorem k7_ok:zw Tryz.prog k7:=by
 refine ⟨fun args w=>aw7.1 args w,?_⟩
 rintro w q S r vs hok _ hm hargs
 have hr:true=r:=Option.some.inj (show some true=some r from hok)
 subst hr
 match vs,hargs with
 | [],_=>exact aw7.2 w
end Go.Proofs.YtmpknfgjfmgleaaGreatDoor
end
section
set_option maxRecDepth 8000
set_option maxHeartbeats 4000000
namespace Go.Proofs.YtmpknfgjfmgleaaGreatDoor
open Go Go.Eng
noncomputable def g4 (a0:(Int×ByteArray×Int×Bool×Bool×Bool)):Option ((Int×ByteArray×Int×Bool×Bool×Bool)):=
 ck (0≤(0:Int)∧(0:Int)≤gmin (a0.2.1.size:Int) 300∧gmin (a0.2.1.size:Int) 300≤(a0.2.1.size:Int)) <|
 some (a0.1,a0.2.1.extract (0:Int).toNat (gmin (a0.2.1.size:Int) 300).toNat,a0.2.2.1,a0.2.2.2.1,a0.2.2.2.2.1,a0.2.2.2.2.2)
noncomputable def k4:Eng.CS:={ f:=4,calm:=true,more:=0,ι:=(Int×ByteArray×Int×Bool×Bool×Bool)×(Int×ByteArray×Int×Bool×Bool×Bool),ok:=fun i=>g4 i.1=some i.2,rds:=fun _=>[],args:=fun i=>[.w (.agg [.v (.int .i64 (i.1.1)),.v (.string (i.1.2.1)),.v (.int .i64 (i.1.2.2.1)),bS i.1.2.2.2.1,bS i.1.2.2.2.2.1,bS i.1.2.2.2.2.2])],res:=fun i=>.agg [.v (.int .i64 (i.2.1)),.v (.string (i.2.2.1)),.v (.int .i64 (i.2.2.2.1)),bS i.2.2.2.2.1,bS i.2.2.2.2.2.1,bS i.2.2.2.2.2.2] }
theorem k4_ok:zw Tryz.prog k4:=by
 refine R.calmspec Tryz.func4 (nq9 Tryz.func4) rfl ?_
 rintro ⟨a0,r⟩ hok q _ args hargs
 match args,hargs with
 | [_],hargs=>
 obtain ⟨rfl,_⟩:=hargs
 refine ⟨envC [] false [],6,zk (zm),rfl,(by intro x hx;simp only [List.mem_cons,List.not_mem_nil,or_false] at hx;rcases hx with rfl<;>rfl),?_⟩
 have H:zf (g4 a0) (fun a=>a=r):=⟨r,hok,rfl⟩
 unfold g4 at H
 clear hok
 refine ze H fun h1 H=>?_
 have hfin:=z2 H
 repeat refine zg ?_
 trivial
noncomputable def g3 (a0:(Int×ByteArray×Int×Bool×Bool×Bool)):Option (Bool):=
 (g4 a0).bind fun v2=>
 (g5 v2).bind fun v4=>
 (g6 v2).bind fun v15=>
 if ¬v4.2=v15.2 then
  some false
 else
  (
   ck (zM v4.1) <|
   ck (zM v15.1) <|
   if ¬((zV v4.1).data.toList=(zV v15.1).data.toList) then
    some false
   else
    (
     (g7).bind fun v43=>
     if ¬(v43=true) then
      some false
     else
      (
       if ¬v15.2=0 then
        some true
       else
        (
         (g8 (([]:List Int),false) v4.1).bind fun v48=>
         if ((v48.2.length:Nat):Int)=1 then
          (
           ck (0≤(0:Int)∧0<((v48.2.length:Nat):Int)) <|
           if ((v48.2.getD (0:Int).toNat default).1)=v2.1∧(((v48.2.getD (0:Int).toNat default).2.1).data.toList=v2.2.1.data.toList∧(((v48.2.getD (0:Int).toNat default).2.2.1)=v2.2.2.1∧((((v48.2.getD (0:Int).toNat default).2.2.2.1=true)↔(v2.2.2.2.1=true))∧((((v48.2.getD (0:Int).toNat default).2.2.2.2.1=true)↔(v2.2.2.2.2.1=true))∧((((v48.2.getD (0:Int).toNat default).2.2.2.2.2=true)↔(v2.2.2.2.2.2=true))∧True))))) then
            (
             if ((v48.1.1.length:Nat):Int)=0 then
              some (decide (¬(v48.1.2=true)))
             else
              some false
            )
           else
            some false
          )
         else
          some false
        )
      )
    )
  )
noncomputable def k3:Eng.CS:={ f:=3,calm:=true,more:=0,ι:=(Int×ByteArray×Int×Bool×Bool×Bool)×Bool×Int,ok:=fun i=>g3 i.1=some i.2.1,rds:=fun i=>[(some ⟨0,0,none⟩,[.int .i64 i.2.2])],args:=fun i=>[.w (.agg [.v (.int .i64 (i.1.1)),.v (.string (i.1.2.1)),.v (.int .i64 (i.1.2.2.1)),bS i.1.2.2.2.1,bS i.1.2.2.2.2.1,bS i.1.2.2.2.2.2])],res:=fun i=>bS i.2.1 }
theorem k3_ok:zw Tryz.prog k3:=by
 refine R.calmspec Tryz.func3 (nq9 Tryz.func3) rfl ?_
 rintro ⟨a0,r,mM⟩ hok q hrds args hargs
 obtain ⟨hM,_⟩:=hrds
 match args,hargs with
 | [_],hargs=>
 obtain ⟨rfl,_⟩:=hargs
 refine ⟨envC [k4,k5,k6,k7,k8] false [],6,zk (zd ⟨fun _=>k4_ok,nofun⟩ (zd ⟨nofun,fun _=>k5_ok⟩ (zd ⟨nofun,fun _=>k6_ok⟩ (zd ⟨fun _=>k7_ok,nofun⟩ (zd ⟨nofun,fun _=>k8_ok⟩ (zm)))))),rfl,(by intro x hx;simp only [List.mem_cons,List.not_mem_nil,or_false] at hx;rcases hx with rfl<;>rfl),?_⟩
 have H:zf (g3 a0) (fun a=>a=r):=⟨r,hok,rfl⟩
 unfold g3 at H
 clear hok
 obtain ⟨v2,hv3,H⟩:=zc H
 refine ⟨(a0,v2),⟨hv3⟩,⟨trivial⟩,?_⟩
 iterate 6 refine z8 ?_
 obtain ⟨v4,hv5,H⟩:=zc H
 refine ⟨(v2,v4,mM),⟨hv5⟩,⟨⟨hM,trivial⟩⟩,?_⟩
 iterate 3 refine ⟨⟨rfl⟩,?_⟩
 iterate 3 refine z8 ?_
 intro q6 g7 hq8 hok9 hrd10
 obtain ⟨A11,c12⟩:=g7
 have hc13:=hok9
 obtain ⟨hR14,_⟩:=hrd10
 try dsimp only at hc13 hR14
 obtain ⟨v15,hv16,H⟩:=zc H
 refine ⟨(v2,v15),⟨hv16⟩,⟨trivial⟩,?_⟩
 iterate 3 refine ⟨⟨rfl⟩,?_⟩
 iterate 3 refine z8 ?_
 intro q17 g18 hq19 hok20 hrd21
 obtain ⟨A22,c23⟩:=g18
 have hc24:=hok20
 obtain ⟨hR25,_⟩:=hrd21
 try dsimp only at hc24 hR25
 refine z7 H ?_ ?_<;>intro h39 H
 ·have hfin:=z2 H
  repeat refine zg ?_
  trivial
 ·refine rs_st (Reads.mono hq19 hR14) (by rw [ei_len,Nat.mul_one]) ?_
  refine yA (l:=v4.1) H fun h40 H=>?_
  refine rs_st hR25 (by rw [ei_len,Nat.mul_one]) ?_
  refine yA (l:=v15.1) H fun h41 H=>?_
  refine z7 H ?_ ?_<;>intro h42 H
  ·have hfin:=z2 H
   repeat refine zg ?_
   trivial
  ·obtain ⟨v43,hv44,H⟩:=zc H
   refine ⟨v43,⟨hv44⟩,⟨trivial⟩,?_⟩
   refine z7 H ?_ ?_<;>intro h45 H
   ·have hfin:=z2 H
    repeat refine zg ?_
    trivial
   ·refine z7 H ?_ ?_<;>intro h47 H
    ·have hfin:=z2 H
     repeat refine zg ?_
     trivial
    ·obtain ⟨v48,hv49,H⟩:=zc H
     refine ⟨((([]:List Int),false),v4.1,v48,(((none,0):Option Addr×Nat),(A11,c12))),⟨hv49,Nat.le_refl _,hc13⟩,⟨⟨Reads.nil,(Reads.mono hq19 hR14),trivial⟩⟩,?_⟩
     refine ⟨⟨rfl⟩,?_⟩
     refine z8 ?_
     refine ⟨⟨rfl⟩,?_⟩
     intro q50 g51 hq52 hok53 hrd54
     obtain ⟨⟨A55,c56⟩,⟨A59,c60⟩⟩:=g51
     obtain ⟨hc57,hc61⟩:=hok53
     obtain ⟨hR58,hR62,_⟩:=hrd54
     try dsimp only at hc57 hR58 hc61 hR62
     refine And.intro ⟨by kernel_rfl⟩ ?_
     refine z7 H ?_ ?_<;>intro h63 H
     ·refine yh hR62 (fun h=>ec0 c24_len (by decide) h) H fun h64 H=>?_
      refine zF (e:=(v48.2.getD (0:Int).toNat default).1) (zI hR62 ((ec_get (i:=(0:Int).toNat) (o:=0) c24_len (tn h64) (by decide)).trans rfl)) ?_
      refine ld_str (e:=(v48.2.getD (0:Int).toNat default).2.1) (zI hR62 ((ec_get (i:=(0:Int).toNat) (o:=1) c24_len (tn h64) (by decide)).trans rfl)) ?_
      refine zF (e:=(v48.2.getD (0:Int).toNat default).2.2.1) (zI hR62 ((ec_get (i:=(0:Int).toNat) (o:=2) c24_len (tn h64) (by decide)).trans rfl)) ?_
      refine ld_bool (e:=(v48.2.getD (0:Int).toNat default).2.2.2.1) (zI hR62 ((ec_get (i:=(0:Int).toNat) (o:=3) c24_len (tn h64) (by decide)).trans rfl)) ?_
      refine ld_bool (e:=(v48.2.getD (0:Int).toNat default).2.2.2.2.1) (zI hR62 ((ec_get (i:=(0:Int).toNat) (o:=4) c24_len (tn h64) (by decide)).trans rfl)) ?_
      refine ld_bool (e:=(v48.2.getD (0:Int).toNat default).2.2.2.2.2) (zI hR62 ((ec_get (i:=(0:Int).toNat) (o:=5) c24_len (tn h64) (by decide)).trans rfl)) ?_
      repeat' refine z7 H (fun _ H=>?_) (fun _ H=>?_)
      all_goals
       have hfin:=z2 H
       repeat refine zg ?_
       trivial
     ·have hfin:=z2 H
      repeat refine zg ?_
      trivial
end Go.Proofs.YtmpknfgjfmgleaaGreatDoor
end
section
namespace Go.Proofs.YtmpknfgjfmgleaaGreatDoor
open Go Go.Eng
noncomputable def e187 (n:Nat) (a0:List Int):Option (List Int×Bool):=
 jn (α:=_) (β:=List Int×List Int) (fun k231=>
   (itN n (σ:=List Int×List Int×Int) (ρ:=(Unit) ⊕ (List Int×List Int)) (fun s234=>
     if s234.2.2<((a0.length:Nat):Int) then
      (
       ck (inR .i64 (((s234.1.length:Nat):Int)-1)) <|
       jn (α:=_) (β:=Bool) (fun k350=>
         ck (0≤s234.2.2∧s234.2.2<((a0.length:Nat):Int)) <|
         if (a0.getD s234.2.2.toNat 0)=59 then
          k350 (decide ((((s234.1.length:Nat):Int)-1)=0))
         else
          k350 false
       ) (fun v349=>
        if v349=true then
         (
          ck ((s234.1.length+1) * 8≤140737488355328) <|
          ck ((s234.2.1.length+1) * 8≤140737488355328) <|
          ck (inR .i64 (s234.2.2+1)) <|
          some (.go ((s234.1++[0]),(s234.2.1++[0]),s234.2.2+1))
         )
        else
         (
          jn (α:=_) (β:=Bool) (fun k371=>
            ck (0≤s234.2.2∧s234.2.2<((a0.length:Nat):Int)) <|
            if 48≤(a0.getD s234.2.2.toNat 0) then
             (
              ck (0≤s234.2.2∧s234.2.2<((a0.length:Nat):Int)) <|
              if (a0.getD s234.2.2.toNat 0)≤57 then
               (
                ck (0≤((s234.1.length:Nat):Int)-1∧((s234.1.length:Nat):Int)-1<((s234.2.1.length:Nat):Int)) <|
                k371 (decide ((s234.2.1.getD (((s234.1.length:Nat):Int)-1).toNat 0)<4))
               )
              else
               k371 false
             )
            else
             k371 false
          ) (fun v370=>
           if v370=true then
            (
             ck (0≤((s234.1.length:Nat):Int)-1∧((s234.1.length:Nat):Int)-1<((s234.1.length:Nat):Int)) <|
             ck (inR .i64 (10 * (s234.1.getD (((s234.1.length:Nat):Int)-1).toNat 0))) <|
             ck (0≤s234.2.2∧s234.2.2<((a0.length:Nat):Int)) <|
             ck (inR .u8 ((a0.getD s234.2.2.toNat 0)-48)) <|
             ck (inR .i64 ((a0.getD s234.2.2.toNat 0)-48)) <|
             ck (inR .i64 ((10 * (s234.1.getD (((s234.1.length:Nat):Int)-1).toNat 0))+((a0.getD s234.2.2.toNat 0)-48))) <|
             ck (0≤((s234.1.length:Nat):Int)-1∧((s234.1.length:Nat):Int)-1<((s234.2.1.length:Nat):Int)) <|
             ck (inR .i64 ((s234.2.1.getD (((s234.1.length:Nat):Int)-1).toNat 0)+1)) <|
             ck (0≤((s234.1.length:Nat):Int)-1∧((s234.1.length:Nat):Int)-1<((s234.1.length:Nat):Int)) <|
             ck (0≤((s234.1.length:Nat):Int)-1∧((s234.1.length:Nat):Int)-1<((s234.2.1.length:Nat):Int)) <|
             ck (inR .i64 (s234.2.2+1)) <|
             some (.go ((s234.1.set (((s234.1.length:Nat):Int)-1).toNat ((10 * (s234.1.getD (((s234.1.length:Nat):Int)-1).toNat 0))+((a0.getD s234.2.2.toNat 0)-48))),(s234.2.1.set (((s234.1.length:Nat):Int)-1).toNat ((s234.2.1.getD (((s234.1.length:Nat):Int)-1).toNat 0)+1)),s234.2.2+1))
            )
           else
            some (.out (.inl (())))
          )
         )
       )
      )
     else
      some (.out (.inr ((s234.1,s234.2.1))))
    ) ([0],[0],0)).bind fun o344=>
   sm o344 (fun o399=>
     some (([]:List Int),false)
    ) (fun o400=>
     k231 o400
    )
 ) (fun v230=>
  jn (α:=_) (β:=List Int) (fun k455=>
    (itN n (σ:=List Int×Int) (ρ:=List Int) (fun s458=>
      if s458.2<((s458.1.length:Nat):Int) then
       (
        if s458.2<((v230.2.length:Nat):Int) then
         (
          ck (0≤s458.2∧s458.2<((v230.2.length:Nat):Int)) <|
          if (v230.2.getD s458.2.toNat 0)=0 then
           (
            ck (0≤s458.2∧s458.2<((s458.1.length:Nat):Int)) <|
            ck (inR .i64 (s458.2+1)) <|
            some (.go ((s458.1.set s458.2.toNat 1),s458.2+1))
           )
          else
           (
            ck (inR .i64 (s458.2+1)) <|
            some (.go (s458.1,s458.2+1))
           )
         )
        else
         some (.out s458.1)
       )
      else
       some (.out s458.1)
     ) (v230.1,0)).bind fun o484=>
     k455 o484
  ) (fun v454=>
   some (v454,true)
  )
 )
set_option maxHeartbeats 4000000 in
theorem e187_le (n:Nat) (a0:List Int):Le (e187 n a0) (g187 a0):=by
 unfold e187 g187
 repeat' with_reducible first | refine le_bind ?_ (fun _=>?_) | refine le_ck ?_ | refine le_if ?_ ?_ | refine le_sm (fun _=>?_) (fun _=>?_) | refine le_jn (fun _ _ _=>?_) (fun _=>?_) | refine le_loop (fun _=>?_) | exact le_refl | apply_assumption
noncomputable def e115 (n:Nat) (a0:List Int) (a1:Int):Option ((Int×ByteArray×Int×Bool×Bool×Bool)×Bool):=
 (e187 n a0).bind fun v504=>
 if ¬(v504.2=true) then
  some ((0,(⟨#[]⟩:ByteArray),0,false,false,false),false)
 else
  (
   jn (α:=_) (β:=Int×ByteArray×Int×Bool×Bool×Bool×Bool) (fun k557=>
     if a1=90 then
      some ((4,(⟨#[]⟩:ByteArray),0,false,false,false),(decide (((a0.length:Nat):Int)=0)))
     else
      (
       if a1=126 then
        (
         ck (0≤(0:Int)∧0<((v504.1.length:Nat):Int)) <|
         (g188 (v504.1.getD (0:Int).toNat 0)).bind fun v561=>
         k557 (v561.1.1,v561.1.2.1,v561.1.2.2.1,v561.1.2.2.2.1,v561.1.2.2.2.2.1,v561.1.2.2.2.2.2,v561.2)
        )
       else
        (
         jn (α:=_) (β:=Bool) (fun k565=>
           if 80≤a1 then
            k565 (decide (a1≤83))
           else
            k565 false
         ) (fun v564=>
          if v564=true then
           (
            (g59 a1).bind fun v568=>
            if v568.2=true then
             (
              if ((v504.1.length:Nat):Int)=2 then
               (
                ck (0≤(0:Int)∧0<((v504.1.length:Nat):Int)) <|
                k557 (v568.1.1,v568.1.2.1,v568.1.2.2.1,v568.1.2.2.2.1,v568.1.2.2.2.2.1,v568.1.2.2.2.2.2,(decide ((v504.1.getD (0:Int).toNat 0)=1)))
               )
              else
               k557 (v568.1.1,v568.1.2.1,v568.1.2.2.1,v568.1.2.2.2.1,v568.1.2.2.2.2.1,v568.1.2.2.2.2.2,false)
             )
            else
             k557 (v568.1.1,v568.1.2.1,v568.1.2.2.1,v568.1.2.2.2.1,v568.1.2.2.2.2.1,v568.1.2.2.2.2.2,false)
           )
          else
           (
            (g59 a1).bind fun v573=>
            if v573.2=true then
             (
              ck (0≤(0:Int)∧0<((v504.1.length:Nat):Int)) <|
              k557 (v573.1.1,v573.1.2.1,v573.1.2.2.1,v573.1.2.2.2.1,v573.1.2.2.2.2.1,v573.1.2.2.2.2.2,(decide ((v504.1.getD (0:Int).toNat 0)=1)))
             )
            else
             k557 (v573.1.1,v573.1.2.1,v573.1.2.2.1,v573.1.2.2.2.1,v573.1.2.2.2.2.1,v573.1.2.2.2.2.2,false)
           )
         )
        )
      )
   ) (fun v556=>
    if ¬(v556.2.2.2.2.2.2=true) then
     some ((0,(⟨#[]⟩:ByteArray),0,false,false,false),false)
    else
     (
      if ((v504.1.length:Nat):Int)=2 then
       (
        ck (0≤(1:Int)∧1<((v504.1.length:Nat):Int)) <|
        ck (inR .i64 ((v504.1.getD (1:Int).toNat 0)-1)) <|
        if ((v504.1.getD (1:Int).toNat 0)-1)<0 then
         some ((0,(⟨#[]⟩:ByteArray),0,false,false,false),false)
        else
         (
          if 7<((v504.1.getD (1:Int).toNat 0)-1) then
           some ((0,(⟨#[]⟩:ByteArray),0,false,false,false),false)
          else
           (
            ck (inR .i64 (Int.tdiv ((v504.1.getD (1:Int).toNat 0)-1) 2)) <|
            ck (inR .i64 (Int.tdiv ((v504.1.getD (1:Int).toNat 0)-1) 4)) <|
            some ((v556.1,v556.2.1,v556.2.2.1,(decide ((Int.tmod (Int.tdiv ((v504.1.getD (1:Int).toNat 0)-1) 2) 2)=1)),(decide ((Int.tmod ((v504.1.getD (1:Int).toNat 0)-1) 2)=1)),(decide ((Int.tdiv ((v504.1.getD (1:Int).toNat 0)-1) 4)=1))),true)
           )
         )
       )
      else
       some ((v556.1,v556.2.1,v556.2.2.1,v556.2.2.2.1,v556.2.2.2.2.1,v556.2.2.2.2.2.1),true)
     )
   )
  )
set_option maxHeartbeats 4000000 in
theorem e115_le (n:Nat) (a0:List Int) (a1:Int):Le (e115 n a0 a1) (g115 a0 a1):=by
 unfold e115 g115
 repeat' with_reducible first | exact e187_le _ _ | refine le_bind ?_ (fun _=>?_) | refine le_ck ?_ | refine le_if ?_ ?_ | refine le_sm (fun _=>?_) (fun _=>?_) | refine le_jn (fun _ _ _=>?_) (fun _=>?_) | refine le_loop (fun _=>?_) | exact le_refl | apply_assumption
noncomputable def e58 (n:Nat) (a0:List Int):Option ((Int×Int×ByteArray×Int×Bool×Bool×Bool×Bool×Bool)):=
 jn (α:=_) (β:=Int) (fun k626=>
   (itN n (σ:=Int) (ρ:=Int) (fun s629=>
     if s629<((a0.length:Nat):Int) then
      (
       ck (0≤s629∧s629<((a0.length:Nat):Int)) <|
       if 48≤(a0.getD s629.toNat 0) then
        (
         ck (0≤s629∧s629<((a0.length:Nat):Int)) <|
         if (a0.getD s629.toNat 0)≤63 then
          (
           ck (inR .i64 (s629+1)) <|
           some (.go (s629+1))
          )
         else
          some (.out s629)
        )
       else
        some (.out s629)
      )
     else
      some (.out s629)
    ) 2).bind fun o643=>
    k626 o643
 ) (fun v625=>
  jn (α:=_) (β:=Int) (fun k681=>
    (itN n (σ:=Int) (ρ:=Int) (fun s684=>
      if s684<((a0.length:Nat):Int) then
       (
        ck (0≤s684∧s684<((a0.length:Nat):Int)) <|
        if 32≤(a0.getD s684.toNat 0) then
         (
          ck (0≤s684∧s684<((a0.length:Nat):Int)) <|
          if (a0.getD s684.toNat 0)≤47 then
           (
            ck (inR .i64 (s684+1)) <|
            some (.go (s684+1))
           )
          else
           some (.out s684)
         )
        else
         some (.out s684)
       )
      else
       some (.out s684)
     ) v625).bind fun o698=>
     k681 o698
  ) (fun v680=>
   jn (α:=_) (β:=Unit) (fun k760=>
     if 32≤v680 then
      some (32,0,(⟨#[]⟩:ByteArray),0,false,false,false,false,false)
     else
      (
       if v680=((a0.length:Nat):Int) then
        some (0,0,(⟨#[]⟩:ByteArray),0,false,false,false,false,false)
       else
        (
         jn (α:=_) (β:=Bool) (fun k767=>
           ck (0≤v680∧v680<((a0.length:Nat):Int)) <|
           if (a0.getD v680.toNat 0)<64 then
            k767 true
           else
            (
             ck (0≤v680∧v680<((a0.length:Nat):Int)) <|
             k767 (decide (126<(a0.getD v680.toNat 0)))
            )
         ) (fun v766=>
          if v766=true then
           some (v680,0,(⟨#[]⟩:ByteArray),0,false,false,false,false,false)
          else
           (
            if v625=v680 then
             (
              ck (0≤v680∧v680<((a0.length:Nat):Int)) <|
              if (a0.getD v680.toNat 0)=126 then
               (
                ck (0≤(2:Int)∧(2:Int)≤v680∧v680≤((a0.length:Nat):Int)) <|
                ck (zM ((a0.drop (2:Int).toNat).take (v680.toNat-(2:Int).toNat))) <|
                if (zV ((a0.drop (2:Int).toNat).take (v680.toNat-(2:Int).toNat))).data.toList=(lit [50,48,48]).data.toList then
                 (
                  ck (inR .i64 (v680+1)) <|
                  some (v680+1,0,(⟨#[]⟩:ByteArray),0,false,false,false,false,true)
                 )
                else
                 k760 ()
               )
              else
               k760 ()
             )
            else
             k760 ()
           )
         )
        )
      )
   ) (fun v759=>
    ck (0≤(2:Int)∧(2:Int)≤v680∧v680≤((a0.length:Nat):Int)) <|
    ck (0≤v680∧v680<((a0.length:Nat):Int)) <|
    (e115 n ((a0.drop (2:Int).toNat).take (v680.toNat-(2:Int).toNat)) (a0.getD v680.toNat 0)).bind fun v787=>
    ck (inR .i64 (v680+1)) <|
    some (v680+1,v787.1.1,v787.1.2.1,v787.1.2.2.1,v787.1.2.2.2.1,v787.1.2.2.2.2.1,v787.1.2.2.2.2.2,v787.2,false)
   )
  )
 )
set_option maxHeartbeats 4000000 in
theorem e58_le (n:Nat) (a0:List Int):Le (e58 n a0) (g58 a0):=by
 unfold e58 g58
 repeat' with_reducible first | exact e115_le _ _ _ | refine le_bind ?_ (fun _=>?_) | refine le_ck ?_ | refine le_if ?_ ?_ | refine le_sm (fun _=>?_) (fun _=>?_) | refine le_jn (fun _ _ _=>?_) (fun _=>?_) | refine le_loop (fun _=>?_) | exact le_refl | apply_assumption
noncomputable def e22 (n:Nat) (a0:List Int):Option ((Int×Int×ByteArray×Int×Bool×Bool×Bool×Bool×Bool)):=
 ck (0≤(0:Int)∧0<((a0.length:Nat):Int)) <|
 if ¬(a0.getD (0:Int).toNat 0)=27 then
  (
   (g57 a0).bind fun v796=>
   some v796
  )
 else
  (
   if ((a0.length:Nat):Int)=1 then
    some (0,0,(⟨#[]⟩:ByteArray),0,false,false,false,false,false)
   else
    (
     ck (0≤(1:Int)∧1<((a0.length:Nat):Int)) <|
     if (a0.getD (1:Int).toNat 0)=27 then
      some (1,5,(⟨#[]⟩:ByteArray),0,false,false,false,true,false)
     else
      (
       if (a0.getD (1:Int).toNat 0)=91 then
        (
         (e58 n a0).bind fun v825=>
         some v825
        )
       else
        (
         if (a0.getD (1:Int).toNat 0)=79 then
          (
           if ((a0.length:Nat):Int)=2 then
            some (0,0,(⟨#[]⟩:ByteArray),0,false,false,false,false,false)
           else
            (
             ck (0≤(2:Int)∧2<((a0.length:Nat):Int)) <|
             if (a0.getD (2:Int).toNat 0)<64 then
              some (2,0,(⟨#[]⟩:ByteArray),0,false,false,false,false,false)
             else
              (
               ck (0≤(2:Int)∧2<((a0.length:Nat):Int)) <|
               if 126<(a0.getD (2:Int).toNat 0) then
                some (2,0,(⟨#[]⟩:ByteArray),0,false,false,false,false,false)
               else
                (
                 ck (0≤(2:Int)∧2<((a0.length:Nat):Int)) <|
                 (g59 (a0.getD (2:Int).toNat 0)).bind fun v834=>
                 some (3,v834.1.1,v834.1.2.1,v834.1.2.2.1,v834.1.2.2.2.1,v834.1.2.2.2.2.1,v834.1.2.2.2.2.2,v834.2,false)
                )
              )
            )
          )
         else
          (
           ck (0≤(1:Int)∧(1:Int)≤((a0.length:Nat):Int)∧((a0.length:Nat):Int)≤((a0.length:Nat):Int)) <|
           (g57 ((a0.drop (1:Int).toNat).take (((a0.length:Nat):Int).toNat-(1:Int).toNat))).bind fun v840=>
           if 0<v840.1 then
            (
             ck (inR .i64 (v840.1+1)) <|
             some (v840.1+1,v840.2.1,v840.2.2.1,v840.2.2.2.1,true,v840.2.2.2.2.2.1,v840.2.2.2.2.2.2.1,v840.2.2.2.2.2.2.2.1,v840.2.2.2.2.2.2.2.2)
            )
           else
            some v840
          )
        )
      )
    )
  )
set_option maxHeartbeats 4000000 in
theorem e22_le (n:Nat) (a0:List Int):Le (e22 n a0) (g22 a0):=by
 unfold e22 g22
 repeat' with_reducible first | exact e58_le _ _ | refine le_bind ?_ (fun _=>?_) | refine le_ck ?_ | refine le_if ?_ ?_ | refine le_sm (fun _=>?_) (fun _=>?_) | refine le_jn (fun _ _ _=>?_) (fun _=>?_) | refine le_loop (fun _=>?_) | exact le_refl | apply_assumption
noncomputable def e8 (n:Nat) (a0:(List Int×Bool)) (a1:List Int):Option ((List Int×Bool)×List (Int×ByteArray×Int×Bool×Bool×Bool)):=
 ck ((0+a0.1.length) * 1≤140737488355328) <|
 ck (((([]:List Int)++a0.1).length+a1.length) * 1≤140737488355328) <|
 jn (α:=_) (β:=List Int) (fun k20=>
   k20 ((([]:List Int)++a0.1)++a1)
 ) (fun v19=>
  jn (α:=_) (β:=List Int×Bool×List (Int×ByteArray×Int×Bool×Bool×Bool)) (fun k183=>
    (itN n (σ:=List Int×Bool×List (Int×ByteArray×Int×Bool×Bool×Bool)) (ρ:=(List Int×Bool×List Int×Bool×List (Int×ByteArray×Int×Bool×Bool×Bool)) ⊕ (List Int×Bool×List (Int×ByteArray×Int×Bool×Bool×Bool))) (fun s186=>
      if 0<((s186.1.length:Nat):Int) then
       (
        if s186.2.1=true then
         (
          (g21 s186.1).bind fun v263=>
          if v263<0 then
           some (.out (.inl ((s186.1,s186.2.1,s186.1,s186.2.1,s186.2.2))))
          else
           (
            ck (0≤(0:Int)∧(0:Int)≤gmin v263 65536∧gmin v263 65536≤((s186.1.length:Nat):Int)) <|
            (g14 ((s186.1.drop (0:Int).toNat).take ((gmin v263 65536).toNat-(0:Int).toNat))).bind fun v276=>
            ck ((s186.2.2.length+1) * 40≤140737488355328) <|
            ck (inR .i64 (v263+6)) <|
            ck (0≤v263+6∧v263+6≤((s186.1.length:Nat):Int)∧((s186.1.length:Nat):Int)≤((s186.1.length:Nat):Int)) <|
            some (.go (((s186.1.drop (v263+6).toNat).take (((s186.1.length:Nat):Int).toNat-(v263+6).toNat)),false,(s186.2.2++[(16,v276,0,false,false,false)])))
           )
         )
        else
         (
          (e22 n s186.1).bind fun v288=>
          if v288.1=0 then
           some (.out (.inl ((s186.1,s186.2.1,s186.1,s186.2.1,s186.2.2))))
          else
           (
            ck (0≤v288.1∧v288.1≤((s186.1.length:Nat):Int)∧((s186.1.length:Nat):Int)≤((s186.1.length:Nat):Int)) <|
            if v288.2.2.2.2.2.2.2.1=true then
             (
              ck ((s186.2.2.length+1) * 40≤140737488355328) <|
              some (.go (((s186.1.drop v288.1.toNat).take (((s186.1.length:Nat):Int).toNat-v288.1.toNat)),v288.2.2.2.2.2.2.2.2,(s186.2.2++[(v288.2.1,v288.2.2.1,v288.2.2.2.1,v288.2.2.2.2.1,v288.2.2.2.2.2.1,v288.2.2.2.2.2.2.1)])))
             )
            else
             some (.go (((s186.1.drop v288.1.toNat).take (((s186.1.length:Nat):Int).toNat-v288.1.toNat)),v288.2.2.2.2.2.2.2.2,s186.2.2))
           )
         )
       )
      else
       some (.out (.inr (s186)))
     ) (v19,a0.2,[])).bind fun o260=>
    sm o260 (fun o307=>
      some ((o307.2.2.1,o307.2.2.2.1),o307.2.2.2.2)
     ) (fun o322=>
      k183 o322
     )
  ) (fun v182=>
   some ((v182.1,v182.2.1),v182.2.2)
  )
 )
set_option maxHeartbeats 4000000 in
theorem e8_le (n:Nat) (a0:(List Int×Bool)) (a1:List Int):Le (e8 n a0 a1) (g8 a0 a1):=by
 unfold e8 g8
 repeat' with_reducible first | exact e22_le _ _ | refine le_bind ?_ (fun _=>?_) | refine le_ck ?_ | refine le_if ?_ ?_ | refine le_sm (fun _=>?_) (fun _=>?_) | refine le_jn (fun _ _ _=>?_) (fun _=>?_) | refine le_loop (fun _=>?_) | exact le_refl | apply_assumption
end Go.Proofs.YtmpknfgjfmgleaaGreatDoor
end
section
namespace Go.Proofs.YtmpknfgjfmgleaaGreatDoor.scriptKeys
theorem jq1:(Rows.scriptKeysRow.wf (OpenSpec.ofChange Rows.scriptKeysSpec))=true:=by kernel_rfl
theorem jq2:(laidOutB Tryz.prog)=true:=by kernel_rfl
theorem jq3:(mapsRowed Tryz.prog)=true:=by kernel_rfl
theorem jq4:(Tryz.f3.params.all (Tryz.prog.readableRec ·))=true:=by kernel_rfl
theorem jq5:(namedTie Tryz.prog Rows.scriptKeysRow.named Rows.scriptKeysSpec.vars)=true:=by kernel_rfl
theorem jq6:((Rows.scriptKeysRow.stops == []))=true:=by kernel_rfl
theorem jq7:((Tryz.prog.stops == []))=true:=by kernel_rfl
theorem jq8:((Rows.scriptKeysRow.knobs == []))=true:=by kernel_rfl
theorem jq9:((Tryz.prog.stopKnobs == []))=true:=by kernel_rfl
theorem jq10:((Rows.scriptKeysRow.inPlace == Tryz.prog.inPlace 3))=true:=by kernel_rfl
end Go.Proofs.YtmpknfgjfmgleaaGreatDoor.scriptKeys
end
section
namespace Go.Proofs.YtmpknfgjfmgleaaGreatDoor.scriptKeys
theorem jand {a b:Bool} (x:a=true) (y:b=true):(a && b)=true:=by rw [x,y];rfl
theorem jq11:((Rows.scriptKeysRow.unfollowed == Tryz.prog.unfollowed 3))=true:=by kernel_rfl
theorem jq12:((Rows.scriptKeysRow.recurses == Tryz.prog.recurses 3))=true:=by kernel_rfl
theorem jq13:((Rows.scriptKeysRow.named == Tryz.prog.varsNamed 3))=true:=by kernel_rfl
theorem jq14:((Rows.scriptKeysRow.maps == (Tryz.f3.params.toList++Rows.scriptKeysSpec.plain.varTypes Tryz.prog).any (Tryz.prog.mapsRec ·)))=true:=by kernel_rfl
theorem jq15:((Rows.scriptKeysRow.ifaces == (Tryz.f3.params.toList++Rows.scriptKeysSpec.plain.varTypes Tryz.prog).any (Tryz.prog.ifacesRec ·)))=true:=by kernel_rfl
theorem jq16:((Rows.scriptKeysRow.mapsOut == Tryz.prog.mapsAmong Tryz.f3.resultTypes.toList))=true:=by kernel_rfl
theorem jq17:((Rows.scriptKeysRow.loops == (Tryz.f3.params.toList++Rows.scriptKeysSpec.plain.varTypes Tryz.prog).any (Tryz.prog.loopsFrom ·)))=true:=by kernel_rfl
theorem jq18:((Rows.scriptKeysRow.wideKeys == (Tryz.f3.params.toList++Rows.scriptKeysSpec.plain.varTypes Tryz.prog++Tryz.f3.resultTypes.toList).any (Tryz.prog.wideKeysFrom ·)))=true:=by kernel_rfl
theorem jq19:(Rows.scriptKeysSpec.vars.all (Tryz.prog.varReadable ·))=true:=by kernel_rfl
theorem jq20:(Tryz.f3.resultTypes.all (fun t=>Tryz.prog.readableRec t && decide (t<Tryz.prog.types.size)))=true:=by kernel_rfl
theorem jq21:((Rows.scriptKeysRow.ifacesOut == Tryz.f3.resultTypes.toList.any (Tryz.prog.ifacesRec ·)))=true:=by kernel_rfl
theorem jq22:((Rows.scriptKeysRow.loopsOut == Tryz.f3.resultTypes.toList.any (Tryz.prog.loopsFrom ·)))=true:=by kernel_rfl
theorem jq23:((Rows.scriptKeysRow.plainKeys == Tryz.prog.plainKeys))=true:=by kernel_rfl
theorem jq24:(Rows.scriptKeysRow.shortTexts.isNone)=true:=by kernel_rfl
theorem jq25:(Tryz.prog.stopsHeard)=true:=by kernel_rfl
theorem jq26:(Tryz.prog.mayEnter)=true:=by kernel_rfl
theorem jq27:((Rows.scriptKeysRow.lifted == Tryz.prog.liftsFinal))=true:=by kernel_rfl
theorem jq28:((Tryz.prog.make == some Rows.scriptKeysRow.make))=true:=by kernel_rfl
theorem jq29:((Rows.scriptKeysRow.kinds == (if Rows.scriptKeysRow.domain.isEmpty then [] else Tryz.f3.params.toList.map fun t=>match Tryz.prog.underlying t with | some (.int k)=>some k | _=>none)))=true:=by kernel_rfl
theorem jq30:((Rows.scriptKeysRow.pinned == Rows.scriptKeysRow.pinnedBy))=true:=by kernel_rfl
theorem jq31:((Rows.scriptKeysRow.veiled == (Tryz.f3.params.toList++Rows.scriptKeysSpec.plain.varTypes Tryz.prog++Tryz.f3.resultTypes.toList).any (Tryz.prog.veiledRec ·)))=true:=by kernel_rfl
theorem jq32:(Rows.scriptKeysRow.veiledFits Tryz.prog Tryz.f3.params.toList (Tryz.f3.params.toList++Rows.scriptKeysSpec.plain.varTypes Tryz.prog++Tryz.f3.resultTypes.toList))=true:=by kernel_rfl
set_option maxRecDepth 100000 in
theorem jnr:joinedFacts Tryz.prog 3 Tryz.f3 Rows.scriptKeysSpec Rows.scriptKeysRow=true:=by unfold joinedFacts;exact (jand (jand (jand (jand (jand (jand (jand (jand (jand (jand (jand (jand (jand (jand (jand (jand (jand (jand (jand (jand (jand (jand (jand (jand (jand (jand (jand (jand (jand (jand (jand jq1 jq2) jq3) jq4) jq5) jq6) jq7) jq8) jq9) jq10) jq11) jq12) jq13) jq14) jq15) jq16) jq17) jq18) jq19) jq20) jq21) jq22) jq23) jq24) jq25) jq26) jq27) jq28) jq29) jq30) jq31) jq32)
end Go.Proofs.YtmpknfgjfmgleaaGreatDoor.scriptKeys
end
section
namespace Go.Proofs.YtmpknfgjfmgleaaGreatDoor
open Go Go.Proofs
theorem goes_none {P:Program} (h:P.funcs.any Func.goes=false) (f:FuncId):P.goes f=false:=by
 have hf:∀g:Nat,(P.funcs[g]?).any Func.goes=false:=fun g=>by
  cases hg:P.funcs[g]? with
  | none=>rfl
  | some fn=>
   obtain ⟨hlt,he⟩:=Array.getElem?_eq_some_iff.1 hg
   have:=Array.any_eq_false.1 h g hlt
   rw [he] at this
   simpa using this
 unfold Program.goes
 rw [h,Bool.and_false,Bool.or_false]
 induction P.closure f with
 | nil=>rfl
 | cons x l ih=>rw [List.any_cons,hf,ih];rfl
theorem goesFrom_none {P:Program} (h:P.funcs.any Func.goes=false) (n:String):P.goesFrom n=false:=by
 unfold Program.goesFrom
 cases P.funcNamed n with
 | none=>rfl
 | some f=>exact goes_none h f
theorem anyK:Tryz.prog.funcs.any Func.goes=false:=by kernel_rfl
theorem goesBy_none {P:Program} (h:P.funcs.any Func.goes=false) (c:OpenClaim):false=c.goesBy P:=by
 unfold OpenClaim.goesBy Program.goesAt
 rw [goesFrom_none h,Bool.false_or]
 split
 ·rfl
 ·symm
  rw [List.any_eq_false]
  intro f _
  rw [goes_none h f]
  simp
end Go.Proofs.YtmpknfgjfmgleaaGreatDoor
end
