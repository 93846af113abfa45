/- Texts that the law leans on. -/
import Derived.Test.YticmemgehllacaaGreatDoorSR7
import Derived.Test.YticmemgehllacaaGreatDoorSR5
import Derived.Test.YticmemgehllacaaGreatDoorSR4
import Derived.Test.YticmemgehllacaaGreatDoorSR3
import Derived.Lib.ItoaNum
import Derived.Test.YticmemgehllacaaGreatDoorRows
import Derived.WalkKit
import Derived.ProofKit
import Derived.OpenShut
import Derived.ChangeOld
import Derived.Below
import GoSem.ClaimGoes
import Derived.KernelRfl
set_option linter.unusedVariables false
set_option linter.unusedSimpArgs false
namespace Go.Proofs.YticmemgehllacaaGreatDoor
open Go Go.Eng
namespace KM
theorem rest_eq{c0:Int}{S0:ByteArray}{N0:Int}{al sh ct:Bool}{s:ByteArray}:zf (g66 (c0,S0,N0,al,sh,ct) s) λr=>(∃c S N,Spl s.data.toList al c S N∧r=((c,bl S,N,al,sh,ct),0))∨((∀c S N,¬Spl s.data.toList al c S N)∧r=((0,bl [],0,false,false,false),80)):=by
 unfold g66;dsimp only;refine g_jn (λ_=>∀c S N,¬Spl s.data.toList al c S N) (λk hk=>?_) λv hv=>z7 (.inr ⟨hv,rfl⟩)
 refine y3 (Ω:=λo=>(∃c S N,Spl s.data.toList al c S N∧o=.inl (c,bl S,N,c,bl S,N))∨∃x,o=.inr x∧∀c S N,¬Spl s.data.toList al c S N)
  (yf (λt:Int×ByteArray×Int×Int=>∃n:Nat,t.2.2.2=n∧1≤n∧n≤19∧∀c S N,c<(n:Int)→¬Spl s.data.toList al c S N) (λt=>19-t.2.2.2.toNat) ?_ ⟨1,rfl,by omega,by omega,λc S N h q=>by have:=of_decide_eq_true (Bool.and_eq_true_iff.1 q.1).1;omega⟩) ?_
 ·rintro⟨a1,a2,a3,_⟩ ⟨n,rfl,h1,h2,hno⟩;dsimp only;refine g_if (λhr=>?_) λhr=>?_
  ·refine g_jn (λ_=>∀S N,¬Spl s.data.toList al n S N) (λk1 hk1=>?_) λv hv=>?_
   ·have bad:cand al s.data.toList n=none→∀S N,¬Spl s.data.toList al n S N:=λh S N q=>by rw[spl_cand q] at h;cases h
    refine zh (word_eq h1 ws) (zh (begins_eq _ _) ?_);dsimp only;refine g_if (λh=>hk1 _ (bad (by unfold cand;rw[if_neg h]))) λh=>?_;have h:(cp s.data.toList (wrd n)).2=true:=by simpa using h
    generalize hr1:(cp s.data.toList (wrd n)).1=r1;refine g_jn (λv=>cand al s.data.toList n=some (v.1.data.toList,v.2)) (λk2 hk2=>?_) λv hv=>?_
    ·have fin:¬((n:Int)=1∧al=true)→zf (if (n:Int)=17 then k2 (bl r1,0) else(if (n:Int)=18 then((y7 (σ:=Int×Int) (ρ:=Int) (λs=>if s.2≤12 then(g127 s.2).bind λv=>if v.data.toList=(bl r1).data.toList then ck (inR .i64 (s.2+1)) <| some (.go (s.2,s.2+1)) else ck (inR .i64 (s.2+1)) <| some (.go (s.1,s.2+1)) else some (.out s.1)) (0,1)).bind λo=>k2 ((lit []),o)) else(if ¬((bl r1).data.toList=(lit []).data.toList) then k1 ((lit []),0) else k2 ((lit []),0)))) _:=λq1=>by
      refine g_if (λq=>hk2 _ ?_) λq17=>?_
      ·unfold cand;rw[if_pos h,if_neg q1,if_pos q,hr1,bl_tl]
      refine g_if (λq=>?_) λq18=>?_
      ·refine zh num_gives (hk2 _ ?_);unfold cand;rw[if_pos h,if_neg q1,if_neg q17,if_pos q,hr1,bl_tl];rfl
      rw[bl_tl,show(lit []).data.toList=([]:List UInt8) from rfl];refine g_if (λq=>hk1 _ (bad ?_)) λq=>hk2 _ ?_
      ·unfold cand;rw[if_pos h,if_neg q1,if_neg q17,if_neg q18,hr1,if_neg q]
      have q:r1=[]:=Classical.byContradiction q;unfold cand;rw[if_pos h,if_neg q1,if_neg q17,if_neg q18,hr1,if_pos q];rfl
     refine g_if (λq1=>?_) λq1=>fin λe=>q1 e.1;refine g_if (λqa=>?_) λqa=>fin λe=>qa e.2;refine zh (begins_eq _ _) ?_;rw[bl_tl];dsimp only;refine g_if (λq=>hk1 _ (bad ?_)) λq=>hk2 _ ?_
     ·unfold cand;rw[if_pos h,if_pos ⟨q1,qa⟩,hr1,if_neg q]
     have q:(cp r1 [46]).2=true:=by simpa using q
     unfold cand;rw[if_pos h,if_pos ⟨q1,qa⟩,hr1,if_pos q,bl_tl]
    refine zh (rcheck_eq _) ?_;dsimp only;refine g_if (λq=>zP (.inl ⟨n,v.1.data.toList,v.2,cand_spl hv ?_,by rw[bl_of]⟩)) λq=>hk1 _ λS N hS=>?_
    ·by_cases e:ckK n v.1.data.toList v.2=true
     ·exact e
     rw[if_neg e] at q;cases q
    have:=spl_cand hS;rw[hv] at this;obtain⟨rfl,rfl⟩:=Prod.mk.inj (Option.some.inj this);rw[if_pos hS.1] at q;exact q rfl
   refine zJ ws (g_go ⟨n+1,by show(n:Int)+1=_;omega,by omega,by omega,λc S N hc q=>?_⟩ (by show 19-((n:Int)+1).toNat<19-((n:Int)).toNat;omega));by_cases e:c=(n:Int)
   ·subst e;exact hv S N q
   exact hno c S N ws q
  have:n=19:=by omega
  subst this;exact zP (.inr ⟨_,rfl,λc S N q=>hno c S N (by have:=of_decide_eq_true (Bool.and_eq_true_iff.1 q.1).1;omega) q⟩)
 rintro o ho;rcases ho with ⟨c,S,N,hs,rfl⟩|⟨x,rfl,hx⟩
 ·exact g_sm (λb e=>by cases e;exact z7 (.inl ⟨c,S,N,hs,rfl⟩)) λb e=>by cases e
 exact g_sm (λb e=>by cases e) λb e=>by cases e;exact hk _ hx
theorem rkey_eq(s:ByteArray):g36 s=some (keyP s.data.toList):=by
 refine g_eq ?_;unfold g36;refine zh (begins_eq _ _) ?_;dsimp only;refine zh (begins_eq _ _) ?_;dsimp only;refine zh (begins_eq _ _) ?_;dsimp only;rw[bl_tl,bl_tl];refine y3 rest_eq λr hr=>?_;rw[bl_tl] at hr;rcases hr with ⟨c,S,N,hs,rfl⟩|⟨hs,rfl⟩
 ·exact z7 (key_some (n:=s.data.toList) hs).symm
 exact z7 (key_none (n:=s.data.toList) hs).symm
end KM
abbrev Ev:=Int×(List Int)×Int×Int
def ba(l:List UInt8):ByteArray:=⟨l.toArray⟩
theorem ba_of(s:ByteArray):ba s.data.toList=s:=by cases s;rfl
theorem xt(l:List UInt8):(ba l).size=l.length:=by simp[ba,ByteArray.size]
def emit(n:Int)(cur:List UInt8):List (Int×List UInt8):=if cur=[]∨cur.head?=some 35 then[] else[(n,cur)]
def lns:Int→List UInt8→List UInt8→List (Int×List UInt8)
 |n,cur,[]=>emit n cur
 |n,cur,c::t=>if c=10 then emit n cur++lns (n+1) [] t else lns n (cur++[c]) t
theorem lns_cut:∀(a:List UInt8) (n:Int) (cur b:List UInt8),(10:UInt8) ∉ a→lns n cur (a++10::b)=emit n (cur++a)++lns (n+1) [] b
 |[],n,cur,b,_=>by simp[lns]
 |c::t,n,cur,b,h=>by
  have hc:¬c=10:=λe=>h wS;rw[List.cons_append,lns,if_neg hc,lns_cut t n (cur++[c]) b (λm=>h (List.mem_cons_of_mem _ m)),List.append_assoc,List.singleton_append]
theorem lns_end:∀(a:List UInt8) (n:Int) (cur:List UInt8),(10:UInt8) ∉ a→lns n cur a=emit n (cur++a)
 |[],n,cur,_=>by simp[lns]
 |c::t,n,cur,h=>by
  have hc:¬c=10:=λe=>h wS;rw[lns,if_neg hc,lns_end t n (cur++[c]) (λm=>h (List.mem_cons_of_mem _ m)),List.append_assoc,List.singleton_append]
theorem emit_len(n:Int)(cur:List UInt8):(emit n cur).length≤1:=by unfold emit;split<;>simp
theorem ib_no:∀{l:List UInt8}{c:UInt8},c ∉ l→Lib.indexByte l c=-1
 |[],c,_=>rfl
 |x::t,c,h=>by
  have hx:(x==c)=false:=by rw[beq_eq_false_iff_ne];intro e;exact h wS
  simp[Lib.indexByte,hx,ib_no (λm=>h (List.mem_cons_of_mem _ m))]
theorem ib_at:∀{a:List UInt8}{c:UInt8}{b:List UInt8},c ∉ a→Lib.indexByte (a++c::b) c=a.length
 |[],c,b,_=>by simp[Lib.indexByte]
 |x::t,c,b,h=>by
  have hx:(x==c)=false:=by rw[beq_eq_false_iff_ne];intro e;exact h wS
  have ih:=ib_at (b:=b) (λm=>h (List.mem_cons_of_mem _ m));have hne:((t.length:Int) == -1)=false:=by rw[beq_eq_false_iff_ne];omega
  simp[Lib.indexByte,hx,ih,hne]
theorem at_byte:∀(l:List UInt8) (c:UInt8),c ∉ l∨∃a b,l=a++c::b∧c ∉ a
 |[],c=>.inl wv
 |x::t,c=>by
  by_cases e:x=c
  ·exact .inr ⟨[],t,by rw[e];rfl,by simp⟩
  rcases at_byte t c with h|⟨a,b,h1,h2⟩
  ·exact .inl (by simp[h,Ne.symm e])
  exact .inr ⟨x::a,b,by rw[h1];rfl,by simp[h2,Ne.symm e]⟩
theorem g26_eq(s:ByteArray):g26 s 10=some (Lib.indexByte s.data.toList 10):=by
 unfold g26 g57;rfl
theorem ext_take(s:ByteArray)(k:Nat):(s.extract (0:Int).toNat ((k:Int)).toNat).data.toList=s.data.toList.take k:=by
 rw[ByteArray.data_extract,Array.toList_extract];simp[List.extract]
theorem ext_drop(s:ByteArray)(k:Nat):(s.extract ((k:Int)+1).toNat ((s.size:Int)).toNat).data.toList=s.data.toList.drop (k+1):=by
 have e:((k:Int)+1).toNat=k+1:=by omega
 rw[e,ByteArray.data_extract,Array.toList_extract,Int.toNat_natCast,List.extract];refine List.take_of_length_le ?_;rw[List.length_drop];show s.data.toList.length-_≤s.data.size-_;rw[Array.length_toList];exact Nat.le_refl _
def cutl(s:ByteArray):ByteArray×ByteArray:=if 0≤Lib.indexByte s.data.toList 10 then(ba (s.data.toList.drop ((Lib.indexByte s.data.toList 10).toNat+1)),ba (s.data.toList.take (Lib.indexByte s.data.toList 10).toNat)) else(lit [],s)
theorem cut_step{α:Type}{Φ:α→Prop}{k:ByteArray×ByteArray→Option α}(s:ByteArray)(hs:s.size≤100000)(h:zf (k (cutl s)) Φ):
  zf ((g26 s 10).bind λv=>if 0≤v then ck (0≤(0:Int)∧(0:Int)≤v∧v≤(s.size:Int)) <| ck (inR .i64 (v+1)) <| ck (0≤v+1∧v+1≤(s.size:Int)∧(s.size:Int)≤(s.size:Int)) <| k (s.extract (v+1).toNat (s.size:Int).toNat,s.extract (0:Int).toNat v.toNat) else k (lit [],s)) Φ:=by
 refine zh (g26_eq s) ?_;rcases at_byte s.data.toList 10 with hn|⟨a,b,e,hn⟩
 ·have hi:=ib_no hn;unfold cutl at h;rw[hi] at h ⊢;exact g_f ws (by rw[if_neg ws] at h;exact h)
 have hi:Lib.indexByte s.data.toList 10=a.length:=by rw[e];exact ib_at hn
 have hl:a.length+1≤s.size:=by
  have:s.data.toList.length=s.size:=Array.length_toList;rw[e] at this;simp at this;omega
 have e1:s.extract ((a.length:Int)+1).toNat (s.size:Int).toNat=ba (s.data.toList.drop (a.length+1)):=by
  rw[←ba_of (s.extract _ _),ext_drop]
 have e2:s.extract (0:Int).toNat ((a.length:Int)).toNat=ba (s.data.toList.take a.length):=by
  rw[←ba_of (s.extract _ _),ext_take]
 unfold cutl at h;rw[hi] at h ⊢;rw[if_pos ws,Int.toNat_natCast] at h;refine g_t ws (g_ck ws (zJ ws (g_ck ws ?_)));rw[e1,e2];exact h
theorem cutl_lns(s:ByteArray)(hs:0<s.size)(n:Int):lns n [] s.data.toList=emit n (cutl s).2.data.toList++lns (n+1) [] (cutl s).1.data.toList∧(cutl s).1.size+1≤s.size∧(cutl s).2.size≤s.size:=by
 have hz:s.data.toList.length=s.size:=Array.length_toList;rcases at_byte s.data.toList 10 with hn|⟨a,b,e,hn⟩
 ·have hi:=ib_no hn;unfold cutl;rw[hi,if_neg ws];refine⟨?_,by show 0+1≤_;omega,Nat.le_refl _⟩;rw[lns_end _ _ _ hn];show emit n s.data.toList=emit n s.data.toList++lns (n+1) [] [];rw[show lns (n+1) [] []=[] from rfl,List.append_nil]
 have hi:Lib.indexByte s.data.toList 10=a.length:=by rw[e];exact ib_at hn
 unfold cutl;rw[hi,if_pos ws,Int.toNat_natCast];dsimp only;rw[xt,xt];rw[e] at hz ⊢;have t1:(a++10::b).take a.length=a:=by simp
 have t2:(a++10::b).drop (a.length+1)=b:=by simp
 rw[t1,t2];simp at hz;exact⟨lns_cut a n [] b hn,by omega,by omega⟩
def prs(ev:List UInt8→Ev×Bool):List (Int×List UInt8)→List Ev→List Ev×Int×Int
 |[],acc=>(acc,0,0)
 |(n,l)::t,acc=>if (ev l).2 then prs ev t (acc++[(ev l).1]) else([],n,290)
theorem emit_cases(n:Int)(cur:ByteArray):(cur.data.toList=(lit []).data.toList∧emit n cur.data.toList=[])∨(¬cur.data.toList=(lit []).data.toList∧0<cur.size ∧
  ((((cur.data.toList[(0:Int).toNat]?.getD 0).toNat:Int)=35∧emit n cur.data.toList=[])∨(¬((cur.data.toList[(0:Int).toNat]?.getD 0).toNat:Int)=35∧emit n cur.data.toList=[(n,cur.data.toList)]))):=by
 have hz:cur.data.toList.length=cur.size:=Array.length_toList;generalize cur.data.toList=l at *
 cases l with
 |nil=>exact .inl ⟨rfl,rfl⟩
 |cons c t=>
  refine .inr ⟨by simp[lit],by rw[←hz];simp,?_⟩;have e:(((c::t)[(0:Int).toNat]?.getD 0).toNat:Int)=(c.toNat:Int):=rfl;rw[e];by_cases h:c=35
  ·exact .inl ⟨by rw[h];rfl,by simp[emit,h]⟩
  refine .inr ⟨λhc=>h (UInt8.toNat_inj.1 (by show c.toNat=35;omega)),by simp[emit,h]⟩
set_option maxHeartbeats 1000000 in
theorem parse_eq(ev:List UInt8→Ev×Bool)(s:ByteArray)(hs:s.size≤65536)(hev:∀x∈lns 1 [] s.data.toList,g14 (ba x.2)=some (ev x.2)):
  g5 s=some (if 4096<(lns 1 [] s.data.toList).length then([],0,3) else prs ev (lns 1 [] s.data.toList) []):=by
 refine g_eq ?_;unfold g5;refine g_f ws (g_jn (λv=>v=((lns 1 [] s.data.toList).length:Int)) (λk hk=>?_) λv hv=>?_)
 ·refine y3 (Ω:=λo=>o=((lns 1 [] s.data.toList).length:Int)) (yf (λt:Int×Int×ByteArray=>0≤t.1∧t.1≤t.2.1∧t.2.1+t.2.2.size≤65536∧t.1+(lns (t.2.1+1) [] t.2.2.data.toList).length=(lns 1 [] s.data.toList).length) (λt=>t.2.2.size) ?_ ⟨Int.le_refl _,Int.le_refl _,by show(0:Int)+(s.size:Int)≤_;omega,by show(0:Int)+((lns (0+1) [] s.data.toList).length:Int)=_;rw[Int.zero_add,Int.zero_add]⟩) λo ho=>hk _ ho;rintro⟨m,n,r⟩ ⟨h1,h2,h3,h4⟩;dsimp only at h1 h2 h3 h4 ⊢;refine g_if (λhr=>?_) λhr=>?_
  ·obtain⟨c1,c2,c3⟩:=cutl_lns r ws (n+1);refine g_jn (λv=>v=cutl r) (λk hk=>cut_step r ws (hk _ rfl)) λv hv=>?_;subst hv;rw[c1] at h4;refine zJ ws ?_;rcases emit_cases (n+1) (cutl r).2 with ⟨e1,e2⟩|⟨e1,e0,⟨e3,e2⟩|⟨e3,e2⟩⟩
   ·rw[e2] at h4;exact g_t e1 (g_go ⟨h1,by show m≤n+1;omega,by show n+1+((cutl r).1.size:Int)≤65536;omega,h4⟩ wE)
   ·rw[e2] at h4;exact g_f e1 (g_ck ws (g_t e3 (g_go ⟨h1,by show m≤n+1;omega,by show n+1+((cutl r).1.size:Int)≤65536;omega,h4⟩ wE)))
   rw[e2] at h4;refine g_f e1 (g_ck ws (g_f e3 (zJ ws (g_go ⟨by show 0≤m+1;omega,by show m+1≤n+1;omega,by show n+1+((cutl r).1.size:Int)≤65536;omega,?_⟩ wE))));simp at h4 ⊢;omega
  have hz:r.data.toList=[]:=by
   have:r.data.toList.length=r.size:=Array.length_toList;exact List.eq_nil_of_length_eq_zero ws
  rw[hz] at h4;refine zP ?_;show m=_;rw[show lns (n+1) [] []=[] from rfl] at h4;simp at h4;exact h4
 subst hv;refine g_if (λh=>?_) λh=>?_
 ·rw[if_pos ws];exact z7 rfl
 rw[if_neg ws];have hlen:(lns 1 [] s.data.toList).length≤4096:=by omega
 refine g_jo ?_;refine y3 (Ω:=λo=>prs ev (lns 1 [] s.data.toList) []=sm o (λo=>([],o.1,290)) (λo=>(o,0,0))) (yf (λt:List Ev×Int×ByteArray=>t.1.length+(lns (t.2.1+1) [] t.2.2.data.toList).length=(lns 1 [] s.data.toList).length∧0≤t.2.1∧t.2.1+t.2.2.size≤65536∧(∀x∈lns (t.2.1+1) [] t.2.2.data.toList,g14 (ba x.2)=some (ev x.2))∧prs ev (lns 1 [] s.data.toList) []=prs ev (lns (t.2.1+1) [] t.2.2.data.toList) t.1) (λt=>t.2.2.size) ?_ ⟨by show 0+(lns (0+1) [] s.data.toList).length=_;rw[Nat.zero_add,Int.zero_add],Int.le_refl _,by show(0:Int)+(s.size:Int)≤_;omega,by show ∀x∈lns (0+1) [] s.data.toList,g14 (ba x.2)=some (ev x.2);rw[Int.zero_add];exact hev,by show _=prs ev (lns (0+1) [] s.data.toList) [];rw[Int.zero_add]⟩) ?_
 ·rintro⟨l,n,r⟩ ⟨h1,h2,h3,h4,h5⟩;dsimp only at h1 h2 h3 h4 h5 ⊢;refine g_if (λhr=>?_) λhr=>?_
  ·obtain⟨c1,c2,c3⟩:=cutl_lns r ws (n+1);refine g_jn (λv=>v=cutl r) (λk hk=>cut_step r ws (hk _ rfl)) λv hv=>?_;subst hv;rw[c1] at h1 h4 h5;refine zJ ws ?_;rcases emit_cases (n+1) (cutl r).2 with ⟨e1,e2⟩|⟨e1,e0,⟨e3,e2⟩|⟨e3,e2⟩⟩
   ·rw[e2] at h1 h4 h5;exact g_t e1 (g_go ⟨h1,by show 0≤n+1;omega,by show n+1+((cutl r).1.size:Int)≤65536;omega,h4,h5⟩ wE)
   ·rw[e2] at h1 h4 h5;exact g_f e1 (g_ck ws (g_t e3 (g_go ⟨h1,by show 0≤n+1;omega,by show n+1+((cutl r).1.size:Int)≤65536;omega,h4,h5⟩ wE)))
   rw[e2] at h1 h4 h5;have hg:=h4 (n+1,(cutl r).2.data.toList) wv;dsimp only at hg;rw[ba_of] at hg;refine g_f e1 (g_ck ws (g_f e3 (zh hg ?_)));rw[List.singleton_append,prs] at h5;refine g_if (λhb=>?_) λhb=>?_
   ·rw[if_neg hb] at h5;exact zP h5
   have hb:(ev (cutl r).2.data.toList).2=true:=by
    cases hq:(ev (cutl r).2.data.toList).2 with
    |true=>rfl
    |false=>exact absurd (by rw[hq];simp) hb
   rw[if_pos hb] at h5;refine g_ck (by simp at h1;omega) (g_go ⟨?_,by show 0≤n+1;omega,by show n+1+((cutl r).1.size:Int)≤65536;omega,λx hx=>h4 x (List.mem_append_right _ hx),h5⟩ wE);simp at h1 ⊢;omega
  have hz:r.data.toList=[]:=by
   have:r.data.toList.length=r.size:=Array.length_toList;exact List.eq_nil_of_length_eq_zero ws
  rw[hz,show lns (n+1) [] []=[] from rfl] at h5;exact zP h5
 intro o ho;refine g_sm (λb hb=>?_) λc hc=>?_
 ·subst hb;exact z7 ho.symm
 subst hc;exact z7 ho.symm
theorem tl_len(s:ByteArray):s.data.toList.length=s.size:=Array.length_toList
theorem yd{l:List UInt8}{i:Nat}(h:i<l.length):∃c,l.drop i=c::l.drop (i+1)∧l[i]?=some c:=⟨l[i],List.drop_eq_getElem_cons h,List.getElem?_eq_getElem h⟩
theorem u8_lt(c:UInt8):c.toNat<256:=c.toNat_lt
def vl:Int→List UInt8→Option Int
 |n,[]=>some n
 |n,c::t=>if c.toNat<48∨57<c.toNat then none else vl (n*10+((c.toNat:Int)-48)) t
def sdP(l:List UInt8):Int×Bool:=
 if l.length<1∨3<l.length∨l.head?=some 48 then(0,false) else match vl 0 l with
 |none=>(0,false)
 |some v=>(v,decide (v≤500))
theorem side_eq(s:ByteArray):g59 s=some (sdP s.data.toList):=by
 have hz:=tl_len s;generalize hl:s.data.toList=l at hz;refine g_eq ?_;unfold g59 sdP;rw[hl];refine g_if (λh=>by rw[if_pos (.inl ws)];exact z7 rfl) λh1=>?_;refine g_if (λh=>by rw[if_pos (.inr (.inl ws))];exact z7 rfl) λh2=>?_;obtain⟨c0,h0,h0'⟩:=yd (l:=l) (i:=0) ws;have hh:l.head?=some c0:=by rw[List.head?_eq_getElem?];exact h0'
 refine g_ck ws (g_if (λh=>?_) λh=>?_)
 ·have:l.head?=some 48:=?_
  ·rw[if_pos (.inr (.inr this))];exact z7 rfl
  rw[hh];have e:((l[(0:Int).toNat]?.getD 0).toNat:Int)=c0.toNat:=by rw[show(0:Int).toNat=0 from rfl,h0'];rfl
  rw[e] at h;congr 1;exact UInt8.toNat_inj.1 (by show c0.toNat=48;omega)
 have hn0:¬l.head?=some 48:=by
  rw[hh];intro e;refine h ?_;rw[show(0:Int).toNat=0 from rfl,h0',Option.some.inj e];rfl
 rw[if_neg (by rintro(h|h|h)<;>first|omega|exact hn0 h)];refine g_jo ?_;refine y3 (Ω:=λo=>(match vl 0 l with|none=>((0:Int),false)|some v=>(v,decide (v≤500)))=sm o (λ_=>((0:Int),false)) (λv=>(v,decide (v≤500)))) (yf (λt:Int×Int=>∃i:Nat,t.2=i∧i≤l.length∧0≤t.1∧t.1<10^i∧vl 0 l=vl t.1 (l.drop i)) (λt=>l.length-t.2.toNat) ?_ ⟨0,rfl,Nat.zero_le _,Int.le_refl _,by decide,rfl⟩) ?_
 ·rintro⟨v,_⟩ ⟨i,rfl,hi,hv0,hv1,hv⟩;dsimp only at hv0 hv1 hv ⊢;refine g_if (λhr=>?_) λhr=>?_
  ·obtain⟨c,h3,h4⟩:=yd (l:=l) (i:=i) ws;have e:((l[((i:Int)).toNat]?.getD 0).toNat:Int)=c.toNat:=by rw[Int.toNat_natCast,h4];rfl
   have hc:=u8_lt c;rw[h3,vl] at hv;rw[e];refine g_ck ws (g_if (λh=>?_) λh=>?_)
   ·rw[if_pos (.inl ws)] at hv;exact zP vg
   refine g_ck ws (g_if (λh=>?_) λh=>?_)
   ·rw[if_pos (.inr ws)] at hv;exact zP vg
   rw[if_neg ws] at hv;have hi3:i≤2:=by omega
   have hp:v<1000:=by
    have:(10:Int)^i≤10^2:=by
     rcases(show i=0∨i=1∨i=2 by omega) with h|h|h<;>subst h<;>decide
    omega
   have hp':(10:Int)^(i+1)=10*10^i:=by rw[Int.pow_succ,Int.mul_comm]
   refine zJ ws (g_ck ws (g_u8 ws (zJ ws (zJ ws (zJ ws (g_go ⟨i+1,by show(i:Int)+1=_;omega,by omega,by show 0≤v*10+((c.toNat:Int)-48);omega,by show v*10+((c.toNat:Int)-48)<_;rw[hp'];omega,hv⟩ wB))))))
  have:l.drop i=[]:=by rw[List.drop_eq_nil_iff];omega
  rw[this,vl] at hv;exact zP vg
 intro o ho;rw[ho];refine g_sm (λb hb=>?_) λc hc=>?_
 ·subst hb;exact z7 rfl
 subst hc;exact z7 rfl
def ptP(l:List UInt8):Bool:=l.all (λc=>decide (32≤c.toNat∧c.toNat≤126))&&decide (l≠[])
theorem print_eq(s:ByteArray)(hs:s.size≤140737488355328):g29 s=some (ptP s.data.toList):=by
 have hz:=tl_len s;generalize hl:s.data.toList=l at hz;refine g_eq ?_;unfold g29 ptP;rw[hl];refine g_jo ?_;refine y3 (Ω:=λo=>l.all (λc=>decide (32≤c.toNat∧c.toNat≤126))=sm o (λ_=>false) (λ_=>true)) (yf (λt:Int=>∃i:Nat,t=i∧i≤l.length∧l.all (λc=>decide (32≤c.toNat∧c.toNat≤126))=(l.drop i).all (λc=>decide (32≤c.toNat∧c.toNat≤126))) (λt=>l.length-t.toNat) ?_ ⟨0,rfl,Nat.zero_le _,rfl⟩) ?_
 ·rintro _ ⟨i,rfl,hi,hv⟩;refine g_if (λhr=>?_) λhr=>?_
  ·obtain⟨c,h3,h4⟩:=yd (l:=l) (i:=i) ws;have e:((l[((i:Int)).toNat]?.getD 0).toNat:Int)=c.toNat:=by rw[Int.toNat_natCast,h4];rfl
   rw[h3,List.all_cons] at hv;rw[e];refine g_ck ws (g_if (λh=>?_) λh=>?_)
   ·rw[decide_eq_false ws,Bool.false_and] at hv;exact zP hv
   refine g_ck ws (g_if (λh=>?_) λh=>?_)
   ·rw[decide_eq_false ws,Bool.false_and] at hv;exact zP hv
   rw[decide_eq_true ws,Bool.true_and] at hv;exact zJ ws (g_go ⟨i+1,by omega,by omega,hv⟩ wB)
  have:l.drop i=[]:=by rw[List.drop_eq_nil_iff];omega
  rw[this] at hv;exact zP hv
 intro o ho;rw[ho];refine g_sm (λb hb=>?_) λc hc=>?_
 ·subst hb;exact z7 rfl
 subst hc;refine z7 ?_;show decide (¬l=(lit []).data.toList)=(true&&decide (l≠[]));rfl
def hxd(c:UInt8):Int:=Lib.indexByte [48,49,50,51,52,53,54,55,56,57,97,98,99,100,101,102] c
theorem hxd_rng(c:UInt8):-1≤hxd c∧hxd c≤15:=by
 rcases at_byte [48,49,50,51,52,53,54,55,56,57,97,98,99,100,101,102] c with h|⟨a,b,h1,h2⟩
 ·unfold hxd;rw[ib_no h];omega
 have hl:=congrArg List.length h1;simp at hl;unfold hxd;rw[h1,ib_at h2];omega
theorem hx_call(c:UInt8):g26 (lit [48,49,50,51,52,53,54,55,56,57,97,98,99,100,101,102]) (c.toNat:Int)=some (hxd c):=by
 unfold g26 g57 hxd;have e:((c.toNat:Int)).toNat.toUInt8=c:=by rw[Int.toNat_natCast];exact UInt8.toNat_inj.1 (by simp[Nat.toUInt8])
 rw[e];rfl
def hxl:List UInt8→Option (List Int)
 |a::b::t=>if hxd a<0∨hxd b<0 then none else(hxl t).map λr=>(16*hxd a+hxd b)::r
 |_=>some []
def hxP(l:List UInt8):List Int×Bool:=if l.length%2≠0 then([],false) else match hxl l with|none=>([],false)|some r=>(r,true)
theorem bits_hx:∀a b:Fin 16,IntKind.wrap .u8 (bits .or .i64 (IntKind.wrap .i64 ((a.val:Int)*2^(4:Int).toNat)) (b.val:Int))=16*(a.val:Int)+(b.val:Int):=by decide +kernel
theorem bits_hxi{a b:Int}(ha:0≤a∧a≤15)(hb:0≤b∧b≤15):IntKind.wrap .u8 (bits .or .i64 (IntKind.wrap .i64 (a*2^(4:Int).toNat)) b)=16*a+b:=by
 have:=bits_hx ⟨a.toNat,by omega⟩ ⟨b.toNat,by omega⟩;dsimp only at this
 rwa [Int.toNat_of_nonneg ha.1,Int.toNat_of_nonneg hb.1] at this
theorem hex_eq(s:ByteArray)(hs:s.size≤140737488355328):g30 s=some (hxP s.data.toList):=by
 have hz:=tl_len s;generalize hl:s.data.toList=l at hz;refine g_eq ?_;unfold g30 hxP;rw[hl]
 have hm:Int.tmod (s.size:Int) 2=((l.length%2:Nat):Int):=by
  have:=Int.tmod_eq_emod_of_nonneg (a:=(s.size:Int)) (b:=2) ws;omega
 rw[hm];refine g_if (λh=>by rw[if_pos ws];exact z7 rfl) λh=>?_;rw[if_neg ws];refine g_jo ?_;refine y3 (Ω:=λo=>(match hxl l with|none=>(([]:List Int),false)|some r=>(r,true))=sm o (λ_=>(([]:List Int),false)) (λr=>(r,true))) (yf (λt:List Int×Int=>∃i:Nat,t.2=i∧i≤l.length∧i%2=0∧t.1.length≤i∧hxl l=(hxl (l.drop i)).map (t.1 ++ ·)) (λt=>l.length-t.2.toNat) ?_ ⟨0,rfl,Nat.zero_le _,rfl,Nat.zero_le _,by show hxl l=(hxl l).map λx=>x;cases hxl l<;>rfl⟩) ?_
 ·rintro⟨r,_⟩ ⟨i,rfl,hi,hi2,hr,hv⟩;dsimp only at hr hv ⊢;refine zJ ws (g_if (λhq=>?_) λhq=>?_)
  ·obtain⟨a,h3,h4⟩:=yd (l:=l) (i:=i) ws;obtain⟨b,h5,h6⟩:=yd (l:=l) (i:=i+1) ws;have e1:((l[((i:Int)).toNat]?.getD 0).toNat:Int)=a.toNat:=by rw[Int.toNat_natCast,h4];rfl
   have e2:((l[((i:Int)+1).toNat]?.getD 0).toNat:Int)=b.toNat:=by rw[show((i:Int)+1).toNat=i+1 by omega,h6];rfl
   rw[h3,h5,hxl] at hv;rw[e1,e2];obtain⟨ra1,ra2⟩:=hxd_rng a;obtain⟨rb1,rb2⟩:=hxd_rng b;refine g_ck ws (zh (hx_call a) (zJ ws (g_ck ws (zh (hx_call b) ?_))));refine g_if (λh=>?_) λh=>?_
   ·rw[if_pos (.inl h)] at hv;exact zP vg
   refine g_if (λh=>?_) λh=>?_
   ·rw[if_pos (.inr h)] at hv;exact zP vg
   rw[if_neg ws] at hv;rw[bits_hxi ws ws];refine g_ck ws (zJ ws (g_go ⟨i+2,by show(i:Int)+2=_;omega,by omega,by omega,by show(r++[_]).length≤_;simp;omega,?_⟩ wW));rw[hv,Option.map_map];congr 1;funext x;simp
  have:l.drop i=[]:=by rw[List.drop_eq_nil_iff];omega
  rw[this,show hxl []=some [] from rfl] at hv;refine zP ?_;rw[hv];show(r++[],true)=(r,true);rw[List.append_nil]
 intro o ho;rw[ho];refine g_sm (λb hb=>?_) λc hc=>?_
 ·subst hb;exact z7 rfl
 subst hc;exact z7 rfl
theorem index_one(c:UInt8):∀l:List UInt8,Lib.index l [c]=Lib.indexByte l c
 |[]=>rfl
 |x::t=>by
  rw[Lib.index,Lib.indexByte,index_one c t]
  have e:([c]:List UInt8).isPrefixOf (x::t)=(x==c):=by
   simp[List.isPrefixOf];exact Bool.beq_comm
  rw[e]
theorem cut_at{a b:List UInt8}{c:UInt8}(h:c ∉ a):Lib.cut (a++c::b) [c]=(a,b,true):=by
 unfold Lib.cut;rw[index_one,ib_at h,if_pos ws,Int.toNat_natCast];simp
theorem cut_no{a:List UInt8}{c:UInt8}(h:c ∉ a):Lib.cut a [c]=(a,[],false):=by
 unfold Lib.cut;rw[index_one,ib_no h,if_neg ws]
def rsP(l:List UInt8):Ev×Bool:=((3,([]:List Int),(sdP (Lib.cut l [32]).1).1,(sdP (Lib.cut l [32]).2.1).1),(sdP (Lib.cut l [32]).1).2&&(sdP (Lib.cut l [32]).2.1).2)
theorem cut_sizes(s:ByteArray):(ba (Lib.cut s.data.toList [32]).1).size≤s.size∧(ba (Lib.cut s.data.toList [32]).2.1).size≤s.size:=by
 rw[xt,xt,←tl_len s];rcases at_byte s.data.toList 32 with h|⟨a,b,h1,h2⟩
 ·rw[cut_no h];exact⟨Nat.le_refl _,Nat.zero_le _⟩
 rw[h1,cut_at h2];simp;omega
theorem g27_eq(s:ByteArray)(hs:s.size≤65536):g27 s (lit [32])=some (ba (Lib.cut s.data.toList [32]).1,ba (Lib.cut s.data.toList [32]).2.1,(Lib.cut s.data.toList [32]).2.2):=by
 unfold g27 ck;rw[if_pos ws];rfl
theorem resize_eq(s:ByteArray)(hs:s.size≤65536):g28 s=some (rsP s.data.toList):=by
 refine g_eq ?_;unfold g28 rsP;refine zh (g27_eq s hs) (zh (side_eq _) (zh (side_eq _) ?_));dsimp only[ba];refine g_if (λh=>?_) λh=>?_
 ·rw[h,Bool.true_and];exact z7 rfl
 have h:(sdP (Lib.cut s.data.toList [32]).1).2=false:=by
  cases hq:(sdP (Lib.cut s.data.toList [32]).1).2 with
  |false=>rfl
  |true=>exact absurd hq h
 rw[h,Bool.false_and];exact z7 rfl
def btE(l:List Int):Ev:=(1,l,0,0)
def evP(key:List UInt8→Ev×Bool)(l:List UInt8):Ev×Bool:=
 let x:=Lib.cut l [32]
 if x.1=[116,105,99,107] then((2,[],0,0),!x.2.2)
 else if x.1=[99,108,111,115,101] then((4,[],0,0),!x.2.2)
 else if x.1=[114,101,115,105,122,101] then rsP x.2.1
 else if x.1=[116,121,112,101] then(btE (z6 (ba x.2.1)),ptP x.2.1)
 else if x.1=[98,121,116,101,115] then(btE (hxP x.2.1).1,(hxP x.2.1).2&&(decide (0<(hxP x.2.1).1.length)||!x.2.2))
 else if x.1=[107,101,121] then key x.2.1
 else((0,[],0,0),false)
theorem dec_not(b:Bool):decide (¬(b=true))=!b:=by cases b<;>rfl
theorem event_eq(key:List UInt8→Ev×Bool)(s:ByteArray)(hs:s.size≤65536)(hk:¬(Lib.cut s.data.toList [32]).1=[107,101,121]):g14 s=some (evP key s.data.toList):=by
 obtain⟨z1,z2⟩:=cut_sizes s;refine g_eq ?_;unfold g14 evP;refine zh (g27_eq s hs) ?_;generalize Lib.cut s.data.toList [32]=x at *;dsimp only[ba] at z1 z2 ⊢;refine g_if (λh=>by rw[if_pos (show x.1=[116,105,99,107] from h),dec_not];exact z7 rfl) λh1=>?_;rw[if_neg (show ¬x.1=[116,105,99,107] from h1)];refine g_if (λh=>by rw[if_pos (show x.1=[99,108,111,115,101] from h),dec_not];exact z7 rfl) λh2=>?_;rw[if_neg (show ¬x.1=[99,108,111,115,101] from h2)];refine g_if (λh=>by rw[if_pos (show x.1=[114,101,115,105,122,101] from h)];exact zh (resize_eq _ ws) (z7 rfl)) λh3=>?_;rw[if_neg (show ¬x.1=[114,101,115,105,122,101] from h3)];refine g_if (λh=>by rw[if_pos (show x.1=[116,121,112,101] from h)];exact g_ck ws (zh (print_eq _ ws) (z7 rfl))) λh4=>?_;rw[if_neg (show ¬x.1=[116,121,112,101] from h4)];refine g_if (λh=>?_) λh5=>?_
 ·rw[if_pos (show x.1=[98,121,116,101,115] from h)];refine zh (hex_eq _ ws) ?_;dsimp only;refine g_if (λh=>?_) λh=>?_
  ·rw[h,Bool.true_and];refine g_if (λh6=>?_) λh6=>?_
   ·rw[decide_eq_true (show 0<(hxP x.2.1).1.length by omega),Bool.true_or];exact z7 rfl
   rw[decide_eq_false (show ¬0<(hxP x.2.1).1.length by omega),Bool.false_or,dec_not];exact z7 rfl
  have h:(hxP x.2.1).2=false:=by
   cases hq:(hxP x.2.1).2 with
   |false=>rfl
   |true=>exact absurd hq h
  rw[h,Bool.false_and];exact z7 rfl
 rw[if_neg (show ¬x.1=[98,121,116,101,115] from h5)];refine g_f hk (z7 ?_);rw[if_neg hk]
def decN(n:Nat):List UInt8:=
 if n<10 then[UInt8.ofNat (48+n)] else if n<100 then[UInt8.ofNat (48+n/10),UInt8.ofNat (48+n%10)] else[UInt8.ofNat (48+n/100),UInt8.ofNat (48+n/10%10),UInt8.ofNat (48+n%10)]
theorem dec_side:∀n:Fin 501,1≤n.val→sdP (decN n.val)=((n.val:Int),true):=by decide +kernel
theorem dec_len:∀n:Fin 1000,(decN n.val).length≤3:=by decide +kernel
def hxs(n:Nat):UInt8:=if n<10 then UInt8.ofNat (48+n) else UInt8.ofNat (87+n)
def byt(l:List Int):List UInt8:=l.map λn=>UInt8.ofNat n.toNat
def smE(a b:Ev):Bool:=decide (a.1=b.1)&&(if a.1=3 then decide (a.2.2.1=b.2.2.1∧a.2.2.2=b.2.2.2) else if a.1=1 then decide (byt a.2.1=byt b.2.1) else true)
def smL:List Ev→List Ev→Bool
 |[],[]=>true
 |a::s,b::t=>smE a b&&smL s t
 |_,_=>false
theorem dec_snoc{n:Nat}(h1:10≤n)(h2:n<1000):decN n=decN (n/10)++[UInt8.ofNat (48+n%10)]:=by
 unfold decN;rw[if_neg ws];by_cases h3:n<100
 ·rw[if_pos h3,if_pos ws];rfl
 rw[if_neg h3,if_neg (show ¬n/10<10 by omega),if_pos ws,show n/10/10=n/100 by omega];rfl
theorem ba_app(a b:List UInt8):ba (a++b)=ba a++ba b:=by apply ByteArray.ext;apply Array.ext';simp[ba]
theorem str1(n:Nat):zW [(n:Int)]=ba [UInt8.ofNat n]:=by apply ByteArray.ext;apply Array.ext';simp[zW,ba]
theorem dec_step{n:Nat}(h2:n<1000){f:Int→Option ByteArray}(hf:10≤n→f ((n/10:Nat):Int)=some (ba (decN (n/10)))):
    zf (if (n:Int)<0 then
      (ck (inR .i64 (0-(n:Int))) <| (f (0-(n:Int))).bind λv11=>ck ((lit [45]).size+v11.size≤9223372036854775807) <| some ((lit [45])++v11))
     else (if (n:Int)<10 then (ck (inR .i64 (48+(n:Int))) <| ck (zx ([IntKind.wrap .u8 (48+(n:Int))])) <| some (zW ([IntKind.wrap .u8 (48+(n:Int))])))
      else (ck (inR .i64 (Int.tdiv (n:Int) 10)) <| (f (Int.tdiv (n:Int) 10)).bind fun v18=>ck (inR .i64 (48+(Int.tmod (n:Int) 10))) <| ck (zx ([IntKind.wrap .u8 (48+(Int.tmod (n:Int) 10))])) <| ck (v18.size+(zW ([IntKind.wrap .u8 (48+(Int.tmod (n:Int) 10))])).size≤9223372036854775807) <| some (v18++(zW ([IntKind.wrap .u8 (48+(Int.tmod (n:Int) 10))])))))) (fun b=>b=ba (decN n)):=by
  have hby:∀m:Nat,m<58→zx [((m:Nat):Int)]:=λm hm c hc=>by
    rcases List.mem_cons.1 hc with rfl|hc
    · omega
    · cases hc
  refine g_f ws (g_if (λh=>?_) λh=>?_)
  · have hw:IntKind.wrap .u8 (48+(n:Int))=((48+n:Nat):Int):=by rw[IntKind.wrap_u8];omega
    rw[hw];refine zJ ws (g_ck (hby _ ws) (z7 ?_));rw[str1];unfold decN;rw[if_pos ws]
  · have hd:Int.tdiv (n:Int) 10=((n/10:Nat):Int):=by
      have:=Int.tdiv_eq_ediv_of_nonneg (a:=(n:Int)) (b:=10) ws;omega
    have hm:Int.tmod (n:Int) 10=((n%10:Nat):Int):=by
      have:=Int.tmod_eq_emod_of_nonneg (a:=(n:Int)) (b:=10) ws;omega
    have hw:IntKind.wrap .u8 (48+((n%10:Nat):Int))=((48+n%10:Nat):Int):=by rw[IntKind.wrap_u8];omega
    rw[hd,hm,hw];have hl:=dec_len ⟨n/10,by omega⟩;dsimp only at hl;refine zJ ws (zh (hf ws) (zJ ws (g_ck (hby _ ws) (g_ck ?_ (z7 ?_)))))
    · rw[str1,xt,xt];simp;omega
    · rw[str1,←ba_app,dec_snoc ws h2]
def rsd(l:List UInt8):Int:=match vl 0 l with
 |none=>0
 |some v=>if 3<l.length∨v<1∨500<v∨¬decN v.toNat=l then 0 else v
theorem dg1:∀x:Fin 10,x.val≠0→decN x.val=[UInt8.ofNat (48+x.val)]:=by decide +kernel
theorem dg2:∀x y:Fin 10,x.val≠0→decN (x.val*10+y.val)=[UInt8.ofNat (48+x.val),UInt8.ofNat (48+y.val)]:=by decide +kernel
theorem dg3:∀x y z:Fin 10,x.val≠0→decN ((x.val*10+y.val)*10+z.val)=[UInt8.ofNat (48+x.val),UInt8.ofNat (48+y.val),UInt8.ofNat (48+z.val)]:=by decide +kernel
theorem dg_of{c:UInt8}(h:¬(c.toNat<48∨57<c.toNat)):∃x:Fin 10,c=UInt8.ofNat (48+x.val)∧((c.toNat:Int)-48)=(x.val:Int)∧(c≠48→x.val≠0):=by
 have hc:=u8_lt c;refine⟨⟨c.toNat-48,by omega⟩,?_,?_,?_⟩
 ·refine UInt8.toNat_inj.1 ?_;rw[UInt8.toNat_ofNat'];show c.toNat=(48+(c.toNat-48))%2^8;omega
 ·show _=((c.toNat-48:Nat):Int);omega
 intro hne hz;refine hne (UInt8.toNat_inj.1 ?_);show c.toNat=48;have hz:c.toNat-48=0:=hz;omega
theorem vl_dec{l:List UInt8}(h1:1≤l.length)(h3:l.length≤3)(h0:¬l.head?=some 48){v:Int}(hv:vl 0 l=some v):1≤v∧v<1000∧decN v.toNat=l:=by
 match l,h1,h3,h0,hv with
 |[a],_,_,h0,hv=>
  rw[vl] at hv;split at hv
  ·cases hv
  rename_i ha;obtain⟨x,ex,e1,e2⟩:=dg_of ha;have hx:=e2 λe=>h0 vE;rw[vl,e1] at hv;obtain rfl:=Option.some.inj hv;have e:((0:Int)*10+(x.val:Int)).toNat=x.val:=by omega
  rw[e,dg1 x hx,ex];have:=x.isLt;exact⟨by omega,by omega,rfl⟩
 |[a,b],_,_,h0,hv=>
  rw[vl] at hv;split at hv
  ·cases hv
  rename_i ha;rw[vl] at hv;split at hv
  ·cases hv
  rename_i hb;obtain⟨x,ex,e1,e2⟩:=dg_of ha;obtain⟨y,ey,f1,_⟩:=dg_of hb;have hx:=e2 λe=>h0 vE;rw[vl,e1,f1] at hv;obtain rfl:=Option.some.inj hv;have e:(((0:Int)*10+(x.val:Int))*10+(y.val:Int)).toNat=x.val*10+y.val:=by omega
  rw[e,dg2 x y hx,ex,ey];have:=x.isLt;have:=y.isLt;exact⟨by omega,by omega,rfl⟩
 |[a,b,c],_,_,h0,hv=>
  rw[vl] at hv;split at hv
  ·cases hv
  rename_i ha;rw[vl] at hv;split at hv
  ·cases hv
  rename_i hb;rw[vl] at hv;split at hv
  ·cases hv
  rename_i hc;obtain⟨x,ex,e1,e2⟩:=dg_of ha;obtain⟨y,ey,f1,_⟩:=dg_of hb;obtain⟨z,ez,g1,_⟩:=dg_of hc;have hx:=e2 λe=>h0 vE;rw[vl,e1,f1,g1] at hv;obtain rfl:=Option.some.inj hv;have e:((((0:Int)*10+(x.val:Int))*10+(y.val:Int))*10+(z.val:Int)).toNat=(x.val*10+y.val)*10+z.val:=by omega
  rw[e,dg3 x y z hx,ex,ey,ez];have:=x.isLt;have:=y.isLt;have:=z.isLt;exact⟨by omega,by omega,rfl⟩
 |_::_::_::_::_,_,h3,_,_=>simp at h3
theorem rsd_eq(l:List UInt8):rsd l=(if (sdP l).2=true then(sdP l).1 else 0)∧((sdP l).2=true→1≤(sdP l).1):=by
 by_cases hs:l.length<1∨3<l.length∨l.head?=some 48
 ·have e:sdP l=(0,false):=by unfold sdP;rw[if_pos hs]
  rw[e];refine⟨?_,λh=>by cases h⟩;rw[if_neg wv];unfold rsd
  cases hv:vl 0 l with
  |none=>rfl
  |some v=>
   dsimp only;by_cases hq:3<l.length∨v<1∨500<v∨¬decN v.toNat=l
   ·rw[if_pos hq]
   exfalso;have hd:decN v.toNat=l:=Classical.byContradiction λh=>hq (.inr (.inr (.inr h)));have:=dec_side ⟨v.toNat,by omega⟩ wM;dsimp only at this;rw[hd,e] at this;exact absurd (congrArg Prod.snd this) wv
 have e:sdP l=(match vl 0 l with|none=>(0,false)|some v=>(v,decide (v≤500))):=by unfold sdP;rw[if_neg hs];first|done|(cases vl 0 l<;>rfl)
 rw[e];unfold rsd
 cases hv:vl 0 l with
 |none=>exact⟨rfl,λh=>by cases h⟩
 |some v=>
  dsimp only;obtain⟨h1,h2,h3⟩:=vl_dec ws ws (λh=>hs (.inr (.inr h))) hv;refine⟨?_,λ_=>h1⟩;by_cases h5:v≤500
  ·rw[if_neg (by rintro(h|h|h|h)<;>first|omega|exact h h3),if_pos (decide_eq_true h5)]
  rw[if_pos (.inr (.inr (.inl ws))),if_neg wN]
end Go.Proofs.YticmemgehllacaaGreatDoor
namespace Go.Proofs.YticmemgehllacaaGreatDoor
open Go Go.Eng
open KM (cp)
def rszR(l:List UInt8):Ev×Bool:=if (Lib.cut l [32]).2.2=true then((3,[],rsd (Lib.cut l [32]).1,rsd (Lib.cut l [32]).2.1),decide (0<rsd (Lib.cut l [32]).1)&&decide (0<rsd (Lib.cut l [32]).2.1)) else((0,[],0,0),false)
def prsR(l:List UInt8):Ev×Bool:=(btE (hxP l).1,(hxP l).2&&decide (l≠[]))
def evR(key:List UInt8→Ev×Bool)(l:List UInt8):Ev×Bool:=
 if l=[116,105,99,107] then((2,[],0,0),true)
 else if l=[99,108,111,115,101] then((4,[],0,0),true)
 else if l=[98,121,116,101,115] then(btE [],true)
 else if (cp l [114,101,115,105,122,101,32]).2=true then rszR (cp l [114,101,115,105,122,101,32]).1
 else if (cp l [116,121,112,101,32]).2=true then(btE (z6 (ba (cp l [116,121,112,101,32]).1)),ptP (cp l [116,121,112,101,32]).1)
 else if (cp l [98,121,116,101,115,32]).2=true then prsR (cp l [98,121,116,101,115,32]).1
 else if (cp l [107,101,121,32]).2=true then key (cp l [107,101,121,32]).1
 else((0,[],0,0),false)
theorem cp_none{l w:List UInt8}(h:(32:UInt8) ∉ l):(cp l (w++[32])).2=false:=by
 cases hc:(cp l (w++[32])).2 with
 |false=>rfl
 |true=>exact absurd (by rw[KM.cp_back hc];simp) h
theorem cp_word:∀{a w b:List UInt8},(32:UInt8) ∉ a→(32:UInt8) ∉ w→cp (a++32::b) (w++[32])=if a=w then(b,true) else(a++32::b,false):=by
 intro a w b ha hw;by_cases e:a=w
 ·subst e;rw[if_pos rfl];have:=KM.cp_app (a++[32]) b
  rwa [List.append_assoc] at this
 rw[if_neg e]
 have h2:(cp (a++32::b) (w++[32])).2=false:=by
  cases hc:(cp (a++32::b) (w++[32])).2 with
  |false=>rfl
  |true=>
   exfalso;have hb:=KM.cp_back hc;rw[List.append_assoc] at hb;have h1:(Lib.cut (a++32::b) [32]).1=(Lib.cut (w++([32]++(cp (a++32::b) (w++[32])).1)) [32]).1:=congrArg (λl=>(Lib.cut l [32]).1) hb;rw[cut_at ha] at h1;have:Lib.cut (w++([32]++(cp (a++32::b) (w++[32])).1)) [32]=(w,(cp (a++32::b) (w++[32])).1,true):=cut_at hw;rw[this] at h1;exact e h1
 exact Prod.ext (KM.cp_no h2) h2
theorem hxP_nil:hxP []=([],true):=rfl
theorem hxP_len{l:List UInt8}(h:(hxP l).2=true)(hl:l≠[]):0<(hxP l).1.length:=by
 unfold hxP at h ⊢;by_cases h2:l.length%2≠0
 ·rw[if_pos h2] at h;cases h
 rw[if_neg h2] at h ⊢
 match l,hl,h2 with
 |[_],_,h2=>simp at h2
 |a::b::t,_,_=>
  have e:hxl (a::b::t)=if hxd a<0∨hxd b<0 then none else(hxl t).map λr=>(16*hxd a+hxd b)::r:=by rw[hxl]
  by_cases hq:hxd a<0∨hxd b<0
  ·rw[if_pos hq] at e;rw[e] at h;cases h
  rw[if_neg hq] at e
  cases hx:hxl t with
  |none=>rw[hx] at e;rw[e] at h;cases h
  |some r=>rw[hx] at e;rw[e];simp
theorem ite_snd{p:Prop}[Decidable p]{b x:List UInt8}:((if p then(b,true) else(x,false)):List UInt8×Bool).2=decide p:=by by_cases h:p<;>simp[h]
theorem ite_fst{p:Prop}[Decidable p]{b x:List UInt8}:((if p then(b,true) else(x,false)):List UInt8×Bool).1=if p then b else x:=by by_cases h:p<;>simp[h]
theorem rsz_eq(l:List UInt8):(rszR l).2=(rsP l).2∧((rsP l).2=true→rszR l=rsP l):=by
 obtain⟨a1,a2⟩:=rsd_eq (Lib.cut l [32]).1;obtain⟨b1,b2⟩:=rsd_eq (Lib.cut l [32]).2.1;rcases at_byte l 32 with h|⟨a,b,e,h⟩
 ·have hc:=cut_no h;unfold rszR rsP;rw[hc];dsimp only;have hz:sdP []=(0,false):=rfl;rw[hz,Bool.and_false];exact⟨rfl,λh=>by cases h⟩
 subst e;have hc:=cut_at (b:=b) h;rw[hc] at a1 a2 b1 b2;unfold rszR rsP;rw[hc];dsimp only at a1 a2 b1 b2 ⊢;rw[if_pos rfl,a1,b1]
 cases h1:(sdP a).2 with
 |false=>simp
 |true=>
  cases h2:(sdP b).2 with
  |false=>simp
  |true=>
   have:=a2 h1;have:=b2 h2;have e1:decide (0<(sdP a).1)=true:=decide_eq_true ws;have e2:decide (0<(sdP b).1)=true:=decide_eq_true ws;simp[e1,e2]
theorem ev_eq(key:List UInt8→Ev×Bool)(hk:(key []).2=false)(l:List UInt8):(evR key l).2=(evP key l).2∧((evP key l).2=true→evR key l=evP key l):=by
 rcases at_byte l 32 with h|⟨a,b,e,h⟩
 ·have hc:=cut_no h;have n1:(cp l [114,101,115,105,122,101,32]).2=false:=cp_none (w:=[114,101,115,105,122,101]) h;have n2:(cp l [116,121,112,101,32]).2=false:=cp_none (w:=[116,121,112,101]) h;have n3:(cp l [98,121,116,101,115,32]).2=false:=cp_none (w:=[98,121,116,101,115]) h;have n4:(cp l [107,101,121,32]).2=false:=cp_none (w:=[107,101,121]) h;unfold evR evP;rw[hc,n1,n2,n3,n4];dsimp only;by_cases q1:l=[116,105,99,107]
  ·rw[if_pos q1,if_pos q1];exact⟨rfl,λ_=>rfl⟩
  rw[if_neg q1,if_neg q1];by_cases q2:l=[99,108,111,115,101]
  ·rw[if_pos q2,if_pos q2];exact⟨rfl,λ_=>rfl⟩
  rw[if_neg q2,if_neg q2];by_cases q3:l=[98,121,116,101,115]
  ·subst q3;exact⟨rfl,λ_=>rfl⟩
  rw[if_neg q3];simp only[Bool.false_eq_true,if_false];by_cases q4:l=[114,101,115,105,122,101]
  ·rw[if_pos q4];exact⟨rfl,λh=>by cases h⟩
  rw[if_neg q4];by_cases q5:l=[116,121,112,101]
  ·rw[if_pos q5];exact⟨rfl,λh=>by cases h⟩
  rw[if_neg q5,if_neg q3];by_cases q6:l=[107,101,121]
  ·rw[if_pos q6,hk];exact⟨rfl,λh=>by cases h⟩
  rw[if_neg q6];exact⟨rfl,λh=>by cases h⟩
 subst e;have hc:=cut_at (b:=b) h;have sp:∀w:List UInt8,(32:UInt8) ∉ w→¬(a++32::b=w):=λw hw e=>hw (by rw[←e];simp);have m1:cp (a++32::b) [114,101,115,105,122,101,32]=_:=cp_word (w:=[114,101,115,105,122,101]) h ww;have m2:cp (a++32::b) [116,121,112,101,32]=_:=cp_word (w:=[116,121,112,101]) h ww;have m3:cp (a++32::b) [98,121,116,101,115,32]=_:=cp_word (w:=[98,121,116,101,115]) h ww;have m4:cp (a++32::b) [107,101,121,32]=_:=cp_word (w:=[107,101,121]) h ww;unfold evR evP;rw[hc,m1,m2,m3,m4,if_neg (sp _ ww),if_neg (sp _ ww),if_neg (sp _ ww)];simp only[ite_snd,ite_fst,decide_eq_true_eq];by_cases q1:a=[116,105,99,107]
 ·subst q1;rw[if_pos rfl,if_neg ww,if_neg ww,if_neg ww,if_neg ww];exact⟨rfl,λh=>by cases h⟩
 rw[if_neg q1];by_cases q2:a=[99,108,111,115,101]
 ·subst q2;rw[if_pos rfl,if_neg ww,if_neg ww,if_neg ww,if_neg ww];exact⟨rfl,λh=>by cases h⟩
 rw[if_neg q2];by_cases q3:a=[114,101,115,105,122,101]
 ·subst q3;rw[if_pos rfl,if_pos rfl,if_pos rfl];exact rsz_eq b
 rw[if_neg q3,if_neg q3];by_cases q4:a=[116,121,112,101]
 ·subst q4;rw[if_pos rfl,if_pos rfl,if_pos rfl];exact⟨rfl,λ_=>rfl⟩
 rw[if_neg q4,if_neg q4];by_cases q5:a=[98,121,116,101,115]
 ·subst q5;rw[if_pos rfl,if_pos rfl,if_pos rfl];unfold prsR;dsimp only
  cases hx:(hxP b).2 with
  |false=>simp
  |true=>
   by_cases hb:b=[]
   ·subst hb;simp[hxP_nil]
   have:=hxP_len hx hb;have e1:decide (0<(hxP b).1.length)=true:=decide_eq_true this;simp[hb,e1]
 rw[if_neg q5,if_neg q5];by_cases q6:a=[107,101,121]
 ·subst q6;rw[if_pos rfl,if_pos rfl,if_pos rfl];exact⟨rfl,λ_=>rfl⟩
 rw[if_neg q6,if_neg q6];exact⟨rfl,λh=>by cases h⟩
end Go.Proofs.YticmemgehllacaaGreatDoor
namespace Go.Proofs.YticmemgehllacaaGreatDoor
open Go Go.Eng
theorem keep8:∀n:Int,0≤n→n<2^8→IntKind.u8.wrap n=n:=λn h0 h1=>by rw[IntKind.wrap_u8];omega
theorem band31{c:Int}(h0:0≤c)(h1:c≤255):bits .and .u8 c 31=c%32:=bits_mask .u8 8 ww keep8 5 ww c h0 ws
theorem band15{c:Int}(h0:0≤c)(h1:c≤255):bits .and .u8 c 15=c%16:=bits_mask .u8 8 ww keep8 4 ww c h0 ws
theorem band7{c:Int}(h0:0≤c)(h1:c≤255):bits .and .u8 c 7=c%8:=bits_mask .u8 8 ww keep8 3 ww c h0 ws
theorem band63{c:Int}(h0:0≤c)(h1:c≤255):bits .and .u8 c 63=c%64:=bits_mask .u8 8 ww keep8 6 ww c h0 ws
def zn(c:Int):Int:=if c<128 then 1 else if c<194 then 0 else if c<224 then 2 else if c<240 then 3 else if c≤244 then 4 else 0
def yB(c:Int):Int:=if c<194 then 0 else if c=224 then 160 else if c=240 then 144 else if c≤244 then 128 else 0
def zZ(c:Int):Int:=if c<194 then 0 else if c=237 then 159 else if c=244 then 143 else if c≤244 then 191 else 0
def y4(c:Int):Int:=if c<128 then c else if c<194 then 0 else if c<224 then c%32 else if c<240 then c%16 else if c≤244 then c%8 else 0
def nxGo(n:Int):Nat→Int→Int→Int→List Int→Int×Int×Bool
 |0,_,_,r,_=>(r,n,false)
 |_+1,_,_,_,[]=>(0,0,true)
 |k+1,lo,hi,r,b::t=>if b<lo∨hi<b then(65533,1,false) else nxGo n k 128 191 (r*64+b%64) t
def nx:List Int→Int×Int×Bool
 |[]=>(0,0,true)
 |c::t=>if zn c=0 then(65533,1,false) else nxGo (zn c) (zn c-1).toNat (yB c) (zZ c) (y4 c) t
def Byt(l:List Int):Prop:=∀c∈l,0≤c∧c≤255
def boundR(i r:Int):Prop:=0≤r∧((i=1∧r<128)∨(i=2∧r<8192)∨(i=3∧r<524288)∨(i=4∧r<33554432))
def okN(l:List Int)(m:Int)(lo hi:Int)(i r:Int):Prop:=1≤i∧i≤m∧boundR i r∧nxGo m (m-i).toNat (if i=1 then lo else 128) (if i=1 then hi else 191) r (l.drop i.toNat)=nx l
theorem many_le(c:Int):0≤zn c∧zn c≤4:=by unfold zn;repeat' split<;>omega
theorem bits_lt(c:Int)(h0:0≤c):0≤y4 c∧y4 c<128:=by unfold y4;repeat' split<;>omega
theorem drop_getD{l:List Int}{i:Nat}(h:i<l.length):l.drop i=l.getD i 0::l.drop (i+1):=by
 rw[List.drop_eq_getElem_cons h];simp[h]
theorem next_start{c:Int}{t:List Int}(h0:0≤c)(h:¬zn c=0):okN (c::t) (zn c) (yB c) (zZ c) 1 (y4 c):=by
 have:=many_le c;have:=bits_lt c h0;refine⟨by omega,by show 1≤_;omega,⟨by show 0≤_;omega,.inl ⟨rfl,by show _<_;omega⟩⟩,?_⟩;simp only[nx,if_neg h,if_true];rfl
theorem next_none{c:Int}{t:List Int}(h:zn c=0):nx (c::t)=(65533,1,false):=by simp[nx,h]
theorem next_end{l:List Int}{m lo hi i r:Int}(h:okN l m lo hi i r)(hi:¬i<m):nx l=(r,m,false):=by
 obtain⟨h1,h2,h3,h4⟩:=h;have e:(m-i).toNat=0:=by omega
 rw[←h4,e];rfl
theorem next_short{l:List Int}{m lo hi i r:Int}(h:okN l m lo hi i r)(hi:i<m)(hl:(l.length:Int)≤i):nx l=(0,0,true):=by
 obtain⟨h1,h2,h3,h4⟩:=h;obtain⟨k,e⟩:∃k,(m-i).toNat=k+1:=⟨(m-i).toNat-1,by omega⟩;rw[←h4,e,List.drop_eq_nil_of_le ws];rfl
theorem next_bad{l:List Int}{m lo hi i r:Int}(h:okN l m lo hi i r)(hi':i<m)(hl:i<(l.length:Int))(hb:l.getD i.toNat 0<(if i=1 then lo else 128)∨(if i=1 then hi else 191)<l.getD i.toNat 0):nx l=(65533,1,false):=by
 obtain⟨h1,h2,h3,h4⟩:=h;obtain⟨k,e⟩:∃k,(m-i).toNat=k+1:=⟨(m-i).toNat-1,by omega⟩;rw[←h4,e,drop_getD ws];simp only[nxGo,if_pos hb]
theorem next_more{l:List Int}(hl0:Byt l){m lo hi i r:Int}(hm:m≤4)(h:okN l m lo hi i r)(hi':i<m)(hl:i<(l.length:Int))(hb:¬(l.getD i.toNat 0<(if i=1 then lo else 128)∨(if i=1 then hi else 191)<l.getD i.toNat 0)):
  okN l m lo hi (i+1) (bits .or .i32 (IntKind.i32.wrap (r*64)) (bits .and .u8 (l.getD i.toNat 0) 63))∧(m-(i+1)).toNat<(m-i).toNat:=by
 obtain⟨h1,h2,h3,h4⟩:=h
 have hb0:0≤l.getD i.toNat 0∧l.getD i.toNat 0≤255:=hl0 _ (by
  have:i.toNat<l.length:=by omega
  simp [this])
 obtain⟨h31,h32⟩:=h3;have hr:r<524288:=by omega
 have hw:IntKind.i32.wrap (r*64)=r*64:=by rw[IntKind.wrap_i32];omega
 have he:bits .or .i32 (IntKind.i32.wrap (r*64)) (bits .and .u8 (l.getD i.toNat 0) 63)=r*64+l.getD i.toNat 0%64:=by
  rw[band63 hb0.1 hb0.2,hw];exact bits_join .i32 31 ww (λn h0 h1=>by rw[IntKind.wrap_i32];omega) 6 _ _ ws ws ws ws ws ws
 rw[he];obtain⟨k,e⟩:∃k,(m-i).toNat=k+1:=⟨(m-i).toNat-1,by omega⟩;refine⟨⟨by show 1≤i+1;omega,by show i+1≤m;omega,⟨by show 0≤r*64+_;omega,?_⟩,?_⟩,by omega⟩
 ·show(i+1=1∧_)∨(i+1=2∧r*64+_<_)∨(i+1=3∧r*64+_<_)∨(i+1=4∧r*64+_<_);omega
 rw[e,drop_getD ws] at h4;simp only[nxGo,if_neg hb] at h4;have e1:(m-(i+1)).toNat=k:=by omega
 have e2:(i+1).toNat=i.toNat+1:=by omega
 have e3:¬i+1=1:=by omega
 simp only[e1,e2,if_neg e3];exact h4
theorem g214_eq{c:Int}(h0:0≤c)(h1:c≤255):g214 c=some (zn c,yB c,zZ c,y4 c):=by
 refine g_eq ?_;unfold g214;have b31:=band31 h0 h1;have b15:=band15 h0 h1;have b7:=band7 h0 h1;simp only[zn,yB,zZ,y4,b31,b15,b7]
 repeat' (first|with_reducible refine g_if (λ_=>?_) (λ_=>?_)|refine g_i32 ws ?_)
 all_goals
  refine z7 ?_;simp only[Prod.mk.injEq];refine⟨?_,?_,?_,?_⟩<;>(repeat' split)<;>omega
theorem g138_eq{l:List Int}(hl:Byt l)(hn:l.length≤1000000):g138 l=some (nx l):=by
 refine g_eq ?_;unfold g138;rcases l with _|⟨c,t⟩
 ·exact g_t wv (z7 rfl)
 have hc:=hl c wv;refine g_f vB (g_ck vB ?_);have e0:(c::t).getD (0:Int).toNat 0=c:=rfl;rw[e0];refine zh (g214_eq hc.1 hc.2) ?_;dsimp only;refine g_if (λh=>z7 (next_none h).symm) λh=>?_;have hm:=many_le c;refine g_jo (y3 (yf (R:=λo=>(∃v,o=.inl v∧v=nx (c::t))∨∃r,o=.inr r∧(r,zn c,false)=nx (c::t)) (λs=>okN (c::t) (zn c) (yB c) (zZ c) s.2 s.1) (λs=>(zn c-s.2).toNat) ?_ (next_start hc.1 h)) ?_)
 ·rintro⟨r,i⟩ hs;dsimp only at hs ⊢;refine g_if (λhi=>g_if (λhs2=>zP (.inl ⟨_,rfl,(next_short hs hi hs2).symm⟩)) λhs2=>?_) λhi=>zP (.inr ⟨_,rfl,(next_end hs hi).symm⟩);have hi1:1≤i:=hs.1
  have hbyt:0≤(c::t).getD i.toNat 0∧(c::t).getD i.toNat 0≤255:=hl _ (by
   have:i.toNat<(c::t).length:=by omega
   simp only[List.getD_eq_getElem?_getD,List.getElem?_eq_getElem this,Option.getD_some]
   exact List.getElem_mem _)
  refine g_jn (λv=>v=(if i=1 then yB c else 128,if i=1 then zZ c else 191)) (λk hk=>g_if (λe=>hk _ (by rw[if_pos e,if_pos e])) λe=>hk _ (by rw[if_neg e,if_neg e])) ?_;rintro _ rfl;dsimp only;refine g_ck ws (g_if (λhb=>zP (.inl ⟨_,rfl,(next_bad hs hi ws (.inl hb)).symm⟩)) λhb=>g_ck ws (g_if (λhb'=>zP (.inl ⟨_,rfl,(next_bad hs hi ws (.inr hb')).symm⟩)) λhb'=>?_));refine g_ck ws (g_i32 ?_ (zJ ws ?_))
  ·rw[band63 hbyt.1 hbyt.2];omega
  obtain⟨n1,n2⟩:=next_more hl ws hs hi ws (λhh=>hh.elim hb hb');exact g_go n1 n2
 intro o ho;refine g_sm (λv hv=>?_) λr hr=>?_
 ·rcases ho with ⟨v',e,h'⟩|⟨v',e,h'⟩<;>rw[e] at hv<;>cases hv;exact z7 h'
 rcases ho with ⟨v',e,h'⟩|⟨v',e,h'⟩<;>rw[e] at hr<;>cases hr;exact z7 h'
theorem g208_eq{c:Int}(h0:0≤c)(h1:c≤255):g208 c=some (zn c):=by
 refine g_eq ?_;unfold g208;simp only[zn];refine g_if (λh=>z7 (by rw[if_pos h])) λh=>g_jn (λv=>v=decide (194≤c∧c<224)) (λk hk=>g_if (λh2=>hk _ (by simp[h2])) λh2=>hk _ (by simp[h2])) ?_;rintro _ rfl;simp only[decide_eq_true_eq]
 repeat' with_reducible refine g_if (λ_=>?_) (λ_=>?_)
 all_goals
  refine z7 ?_
  (repeat' split)<;>omega
def tl(l:List Int):Bool:=l.tail.all λc=>decide (128≤c)&&decide (c≤191)
def okT(l:List Int)(i:Int):Prop:=1≤i∧(i=1∨i≤l.length)∧tl l=(l.drop i.toNat).all λc=>decide (128≤c)&&decide (c≤191)
theorem tails_end{l:List Int}{i:Int}(h:okT l i)(hi:¬i<l.length):tl l=true:=by
 obtain⟨h1,h2,h3⟩:=h;rw[h3,List.drop_eq_nil_of_le ws];rfl
theorem tails_bad{l:List Int}{i:Int}(h:okT l i)(hi:i<l.length)(hb:l.getD i.toNat 0<128∨191<l.getD i.toNat 0):tl l=false:=by
 obtain⟨h1,h2,h3⟩:=h;rw[h3,drop_getD ws,List.all_cons];rcases hb with hb|hb
 ·rw[decide_eq_false ws];rfl
 rw[decide_eq_false (p:=l.getD i.toNat 0≤191) ws];simp
theorem tails_more{l:List Int}{i:Int}(h:okT l i)(hi:i<l.length)(hb:¬l.getD i.toNat 0<128)(hb':¬191<l.getD i.toNat 0):okT l (i+1)∧(l.length-(i+1):Int).toNat<(l.length-i:Int).toNat:=by
 obtain⟨h1,h2,h3⟩:=h;refine⟨⟨by show 1≤i+1;omega,.inr (by show i+1≤_;omega),?_⟩,by show(_-(i+1)).toNat<(_-i).toNat;omega⟩;have e:(i+1:Int).toNat=i.toNat+1:=by omega
 show tl l=(l.drop (i+1:Int).toNat).all _;rw[h3,e,drop_getD ws,List.all_cons,decide_eq_true ws,decide_eq_true (p:=l.getD i.toNat 0≤191) ws];rfl
theorem g296_eq{l:List Int}(hn:l.length≤1000000):g296 l=some (tl l):=by
 refine g_eq ?_;unfold g296;refine g_jo (y3 (yf (R:=λo=>(∃u,o=.inl u∧tl l=false)∨∃u,o=.inr u∧tl l=true) (okT l) (λi=>(l.length-i:Int).toNat) ?_ ⟨Int.le_refl _,.inl rfl,by cases l<;>rfl⟩) ?_)
 ·intro i hs;have hi1:=hs.1;refine g_if (λhi=>g_ck ws (g_if (λhb=>zP (.inl ⟨_,rfl,tails_bad hs hi (.inl hb)⟩)) λhb=>g_ck ws (g_if (λhb'=>zP (.inl ⟨_,rfl,tails_bad hs hi (.inr hb')⟩)) λhb'=>zJ ws ?_))) λhi=>zP (.inr ⟨_,rfl,tails_end hs hi⟩);obtain⟨n1,n2⟩:=tails_more hs hi hb hb';exact g_go n1 n2
 intro o ho;refine g_sm (λv hv=>?_) λr hr=>?_
 ·rcases ho with ⟨v',e,h'⟩|⟨v',e,h'⟩<;>rw[e] at hv<;>cases hv;exact z7 h'.symm
 rcases ho with ⟨v',e,h'⟩|⟨v',e,h'⟩<;>rw[e] at hr<;>cases hr;exact z7 h'.symm
def heads:List Int:=[0,0,192,224,240]
def numF(r b:Int):Int:=r*64+b%64
def numR(l:List Int):Int:=if l.length<2∨4<l.length then l.headD 0 else l.tail.foldl numF (l.headD 0-heads.getD l.length 0)
def okM(l:List Int)(i r:Int):Prop:=1≤i∧i≤l.length∧l.length≤4∧((i=1∧-256≤r∧r≤256)∨(i=2∧-16384≤r∧r<16500)∨(i=3∧-1048576≤r∧r<1058000)∨(i=4∧-67108864≤r∧r<68000000))∧numR l=(l.drop i.toNat).foldl numF r
theorem num_short{l:List Int}(h:l.length<2∨4<l.length):numR l=l.headD 0:=by simp only[numR,if_pos h]
theorem num_end{l:List Int}{i r:Int}(h:okM l i r)(hi:¬i<l.length):numR l=r:=by
 obtain⟨h1,h2,h3,h4,h5⟩:=h;rw[h5,List.drop_eq_nil_of_le ws];rfl
theorem heads_le(n:Nat):0≤heads.getD n 0∧heads.getD n 0≤240:=by
 rcases n with _|_|_|_|_|n<;>simp[heads]
theorem num_start{l:List Int}{c:Int}{t:List Int}(hL:l=c::t)(hc:0≤c∧c≤255)(h:¬(l.length:Int)<2)(h':¬4<(l.length:Int)):okM l 1 (IntKind.i32.wrap (c-heads.getD (l.length:Int).toNat 0)):=by
 rw[Int.toNat_natCast];have hk:=heads_le l.length;have e:IntKind.i32.wrap (c-heads.getD l.length 0)=c-heads.getD l.length 0:=by rw[IntKind.wrap_i32];omega
 rw[e];refine⟨Int.le_refl _,by show(1:Int)≤_;omega,by omega,.inl ⟨rfl,by show -256≤c-heads.getD l.length 0;omega,by show c-heads.getD l.length 0≤256;omega⟩,?_⟩;simp only[numR];rw[if_neg ws,hL];rfl
theorem tmod_in{l:List Int}(hl:Byt l){i:Int}(h0:0≤i)(hi:i<l.length):inR .i32 ((l.getD i.toNat 0).tmod 64):=by
 have hb0:0≤l.getD i.toNat 0∧l.getD i.toNat 0≤255:=hl _ (by
  have:i.toNat<l.length:=by omega
  simp [this])
 rw[Int.tmod_eq_emod_of_nonneg hb0.1];simp only[inR];omega
theorem num_more{l:List Int}(hl:Byt l){i r:Int}(h:okM l i r)(hi:i<l.length):
  inR .i32 (r*64)∧inR .i32 (r*64+(l.getD i.toNat 0).tmod 64)∧okM l (i+1) (r*64+(l.getD i.toNat 0).tmod 64)∧(l.length-(i+1):Int).toNat<(l.length-i:Int).toNat:=by
 obtain⟨h1,h2,h3,h4,h5⟩:=h
 have hb0:0≤l.getD i.toNat 0∧l.getD i.toNat 0≤255:=hl _ (by
  have:i.toNat<l.length:=by omega
  simp [this])
 rw[Int.tmod_eq_emod_of_nonneg hb0.1];generalize hb:l.getD i.toNat 0=b at *;refine⟨by simp only[inR];omega,by simp only[inR];omega,⟨by show 1≤i+1;omega,by show i+1≤_;omega,h3,?_,?_⟩,by show(_-(i+1)).toNat<(_-i).toNat;omega⟩
 ·show(i+1=1∧_≤r*64+b%64∧r*64+b%64≤_)∨(i+1=2∧_≤r*64+b%64∧r*64+b%64<_)∨(i+1=3∧_≤r*64+b%64∧r*64+b%64<_)∨(i+1=4∧_≤r*64+b%64∧r*64+b%64<_);omega
 have e:(i+1:Int).toNat=i.toNat+1:=by omega
 show numR l=(l.drop (i+1:Int).toNat).foldl numF _;rw[h5,e,drop_getD ws,hb];rfl
theorem g210_eq{l:List Int}(hl:Byt l)(h1:1≤l.length):g210 l=some (numR l):=by
 refine g_eq ?_;unfold g210;obtain⟨c,t,hL⟩:∃c t,l=c::t:=by cases l with|nil=>simp at h1|cons c t=>exact⟨c,t,rfl⟩
 have hc:0≤c∧c≤255:=hl c (by rw[hL];simp);have e0:l.getD (0:Int).toNat 0=c:=by rw[hL];rfl
 have eh:l.headD 0=c:=by rw[hL];rfl
 simp only[e0];refine g_if (λh=>g_ck ws (g_i32 ws (z7 (by rw[num_short (.inl ws),eh])))) λh=>g_if (λh'=>g_ck ws (g_i32 ws (z7 (by rw[num_short (.inr ws),eh])))) λh'=>?_;have hk:=heads_le (l.length:Int).toNat;refine g_ck ws (zJ ws (g_ck ws (zJ ?_ (g_jo (y3 (yf (R:=λo=>o=numR l) (λs=>okM l s.2 s.1) (λs=>(l.length-s.2:Int).toNat) ?_ (num_start hL hc h h')) ?_)))))
 ·exact⟨by have:=hk.2;show _≤c-heads.getD _ 0;omega,by have:=hk.1;show c-heads.getD _ 0≤_;omega⟩
 ·rintro⟨r,i⟩ hs;dsimp only at hs ⊢;have hi1:=hs.1;refine g_if (λhi=>?_) λhi=>zP (num_end hs hi).symm;obtain⟨m1,m2,m3,m4⟩:=num_more hl hs hi;exact g_ck m1 (g_ck ws (g_ck (tmod_in hl ws hi) (g_ck m2 (zJ ws (g_go m3 m4)))))
 rintro _ rfl;exact z7 rfl
def froms:List Int:=[0,0,128,2048,65536]
def yS(l:List Int)(k:Nat)(x:Int):List Int:=l++List.replicate k x
def bgN(l:List Int):Nat:=(zn (l.headD 0)).toNat-l.length
def bg(l:List Int):Prop:=(l.length:Int)≤zn (l.headD 0)∧tl l=true∧froms.getD (zn (l.headD 0)).toNat 0≤numR (yS l (bgN l) 191)∧numR (yS l (bgN l) 128)≤1114111∧(numR (yS l (bgN l) 128)<55296∨57343<numR (yS l (bgN l) 191))
instance (l:List Int):Decidable (bg l):=by unfold bg;infer_instance
theorem fill_byt{l:List Int}(h:Byt l){k:Nat}{x:Int}(hx:0≤x∧x≤255):Byt (yS l k x):=λc hc=>by
 rcases List.mem_append.1 hc with hc|hc
 ·exact h c hc
 rw[(List.mem_replicate.1 hc).2];exact hx
theorem fill_len{l:List Int}{k:Nat}{x:Int}:(yS l k x).length=l.length+k:=by simp[yS]
theorem bg_iff{l:List Int}{c:Int}(hh:l.headD 0=c){k:Nat}(hs:¬zn c<(l.length:Int))(ht:¬ ¬tl l=true)(hok:(l.length:Int)+k≤zn (l.headD 0))(h:¬((l.length+k:Nat):Int)<zn c):
  bg l↔(froms.getD (zn c).toNat 0≤numR (yS l k 191)∧numR (yS l k 128)≤1114111∧(numR (yS l k 128)<55296∨57343<numR (yS l k 191))):=by
 rw[hh] at hok;have e:bgN l=k:=by unfold bgN;rw[hh];omega
 unfold bg;rw[e,hh];constructor
 ·exact λh=>h.2.2
 exact λh=>⟨by omega,Classical.not_not.1 ht,h⟩
theorem bg_long{l:List Int}{c:Int}(hh:l.headD 0=c)(h:zn c<(l.length:Int)):¬bg l:=by
 unfold bg;rw[hh];intro h';omega
theorem bg_tail{l:List Int}(h:¬tl l=true):¬bg l:=λh'=>h h'.2.1
theorem g209_eq{l:List Int}(hl:Byt l)(h1:1≤l.length)(hn:l.length≤1000000):g209 l=some (decide (bg l)):=by
 refine g_eq ?_;unfold g209;obtain⟨c,t,hL⟩:∃c t,l=c::t:=by cases l with|nil=>simp at h1|cons c t=>exact⟨c,t,rfl⟩
 have hc:0≤c∧c≤255:=hl c (by rw[hL];simp);have e0:l.getD (0:Int).toNat 0=c:=by rw[hL];rfl
 have hh:l.headD 0=c:=by rw[hL];rfl
 simp only[e0];have hm:=many_le c;refine g_ck ws (zh (g208_eq hc.1 hc.2) (g_if (λh=>z7 (by rw[decide_eq_false (bg_long hh h)])) λh=>zh (g296_eq hn) (g_if (λht=>z7 (by rw[decide_eq_false (bg_tail ht)])) λht=>g_ck ws (g_ck ws (g_jo ?_)))));refine y3 (yf (R:=λo=>∃k:Nat,o=(yS l k 128,yS l k 191)∧(l.length:Int)+k≤zn (l.headD 0)∧¬((l.length+k:Nat):Int)<zn c) (λs=>∃k:Nat,s=(yS l k 128,yS l k 191)∧(l.length:Int)+k≤zn (l.headD 0)) (λs=>(zn c-s.1.length).toNat) ?_ ⟨0,by simp[yS],by rw[hh];omega⟩) ?_
 ·rintro _ ⟨k,rfl,hk⟩;dsimp only;rw[hh] at hk;simp only[fill_len];refine g_if (λhi=>g_ck ws (g_ck ws (g_go ⟨k+1,by simp[yS,List.replicate_succ'],by rw[hh];omega⟩ (by simp[fill_len];omega)))) λhi=>zP ⟨k,rfl,by rw[hh];omega,hi⟩
 rintro _ ⟨k,rfl,hok,hi⟩;dsimp only;have hok':=hok;rw[hh] at hok';refine zh (g210_eq (fill_byt hl ws) (by rw[fill_len];omega)) (zh (g210_eq (fill_byt hl ws) (by rw[fill_len];omega)) (g_ck ws ?_));have e:=bg_iff hh h ht hok hi;refine g_if (λa=>g_if (λb=>g_if (λd=>z7 ?_) λd=>z7 ?_) λb=>z7 ?_) λa=>z7 ?_
 ·rw[eq_comm,decide_eq_true_eq,e];exact⟨a,b,.inl d⟩
 ·rw[decide_eq_decide,e];exact⟨λx=>⟨a,b,.inr x⟩,λx=>x.2.2.resolve_left d⟩
 ·rw[eq_comm,decide_eq_false_iff_not,e];exact λx=>b x.2.1
 rw[eq_comm,decide_eq_false_iff_not,e];exact λx=>a x.1
def nr(l:List Int):Int×Int×Bool:=
 if l=[] then(0,0,true) else
 if 0<zn (l.headD 0)∧zn (l.headD 0)≤l.length∧bg (l.take (zn (l.headD 0)).toNat) then(numR (l.take (zn (l.headD 0)).toNat),zn (l.headD 0),false) else
 if 0<zn (l.headD 0)∧l.length<zn (l.headD 0)∧bg l then(0,0,true) else(65533,1,false)
theorem sh_cases(c:Int)(h0:0≤c)(h1:c≤255):(c<128∧zn c=1)∨(((128≤c∧c<194)∨245≤c)∧zn c=0)∨(194≤c∧c<224∧zn c=2)∨(224≤c∧c<240∧zn c=3)∨(240≤c∧c≤244∧zn c=4):=by
 unfold zn
 repeat' split<;>omega
theorem bg_1{c:Int}(e:zn c=1)(h0:0≤c)(h:c<128):bg [c]:=by
 simp[bg,tl,bgN,yS,froms,numR,e];omega
theorem bg_2a{c:Int}(e:zn c=2)(h:194≤c)(h':c<224):bg [c]:=by
 simp[bg,tl,bgN,yS,froms,numR,numF,heads,e];omega
theorem bg_2b{c d:Int}(e:zn c=2)(h:194≤c)(h':c<224):bg [c,d]↔128≤d∧d≤191:=by
 simp[bg,tl,bgN,yS,froms,numR,numF,heads,e];omega
theorem bg_3a{c:Int}(e:zn c=3)(h:224≤c)(h':c<240):bg [c]:=by
 simp[bg,tl,bgN,yS,froms,numR,numF,heads,e];omega
theorem bg_3b{c d:Int}(e:zn c=3)(h:224≤c)(h':c<240):bg [c,d]↔yB c≤d∧d≤zZ c:=by
 simp only[yB,zZ];simp[bg,tl,bgN,yS,froms,numR,numF,heads,e]
 repeat' split<;>omega
theorem bg_3c{c d f:Int}(e:zn c=3)(h:224≤c)(h':c<240):bg [c,d,f]↔(yB c≤d∧d≤zZ c)∧128≤f∧f≤191:=by
 simp only[yB,zZ];simp[bg,tl,bgN,yS,froms,numR,numF,heads,e]
 repeat' split<;>omega
theorem bg_4a{c:Int}(e:zn c=4)(h:240≤c)(h':c≤244):bg [c]:=by
 simp[bg,tl,bgN,yS,froms,numR,numF,heads,e];omega
theorem bg_4b{c d:Int}(e:zn c=4)(h:240≤c)(h':c≤244):bg [c,d]↔yB c≤d∧d≤zZ c:=by
 simp only[yB,zZ];simp[bg,tl,bgN,yS,froms,numR,numF,heads,e]
 repeat' split<;>omega
theorem bg_4c{c d f:Int}(e:zn c=4)(h:240≤c)(h':c≤244):bg [c,d,f]↔(yB c≤d∧d≤zZ c)∧128≤f∧f≤191:=by
 simp only[yB,zZ];simp[bg,tl,bgN,yS,froms,numR,numF,heads,e]
 repeat' split<;>omega
theorem bg_4d{c d f g:Int}(e:zn c=4)(h:240≤c)(h':c≤244):bg [c,d,f,g]↔(yB c≤d∧d≤zZ c)∧(128≤f∧f≤191)∧128≤g∧g≤191:=by
 simp only[yB,zZ];simp[bg,tl,bgN,yS,froms,numR,numF,heads,e]
 repeat' split<;>omega
theorem nr_eq{l:List Int}(hl:Byt l):nr l=nx l:=by
 rcases l with _|⟨c,t⟩
 ·rfl
 have hc:=hl c wv;have hb:∀d∈t,0≤d∧d≤255:=λd hd=>hl d (by simp[hd]);rcases sh_cases c hc.1 hc.2 with ⟨h,e⟩|⟨h,e⟩|⟨h,h',e⟩|⟨h,h',e⟩|⟨h,h',e⟩
 ·have h2:y4 c=c:=by simp[y4,h]
  simp[nr,nx,e,nxGo,numR,bg_1 e hc.1 h,h2];omega
 ·simp[nr,nx,e]
 ·have h2:y4 c=c-192:=by simp only[y4];repeat' split<;>omega
  have h3:yB c=128:=by simp only[yB];repeat' split<;>omega
  have h4:zZ c=191:=by simp only[zZ];repeat' split<;>omega
  rcases t with _|⟨d,t⟩
  ·simp[nr,nx,e,nxGo,bg_2a e h h']
  simp[nr,nx,e,nxGo,h2,h3,h4,bg_2b e h h',numR,heads,numF]
  repeat' split
  all_goals first|rfl|(exfalso;omega)
 ·have h2:y4 c=c-224:=by simp only[y4];repeat' split<;>omega
  rcases t with _|⟨d,_|⟨f,t⟩⟩
  ·simp[nr,nx,e,nxGo,bg_3a e h h']
  ·simp[nr,nx,e,nxGo,h2,bg_3b e h h',numR,heads,numF]
   repeat' split
   all_goals first|rfl|(exfalso;omega)
  simp[nr,nx,e,nxGo,h2,bg_3c e h h',numR,heads,numF]
  repeat' split
  all_goals first|rfl|(exfalso;omega)
 have h2:y4 c=c-240:=by simp only[y4];repeat' split<;>omega
 rcases t with _|⟨d,_|⟨f,_|⟨g,t⟩⟩⟩
 ·simp[nr,nx,e,nxGo,bg_4a e h h']
 ·simp[nr,nx,e,nxGo,h2,bg_4b e h h',numR,heads,numF]
  repeat' split
  all_goals first|rfl|(exfalso;omega)
 ·simp[nr,nx,e,nxGo,h2,bg_4c e h h',numR,heads,numF]
  repeat' split
  all_goals first|rfl|(exfalso;omega)
 simp[nr,nx,e,nxGo,h2,bg_4d e h h',numR,heads,numF]
 repeat' split
 all_goals first|rfl|(exfalso;omega)
theorem nr_nil{l:List Int}(h:(l.length:Int)=0):nr l=(0,0,true):=by
 have:l=[]:=List.eq_nil_of_length_eq_zero ws;subst this;rfl
theorem nr_whole{l:List Int}(h:0<l.length)(h1:0<zn (l.headD 0))(h2:zn (l.headD 0)≤l.length)(h3:bg (l.take ((zn (l.headD 0)).toNat-Int.toNat 0))):nr l=(numR (l.take ((zn (l.headD 0)).toNat-Int.toNat 0)),zn (l.headD 0),false):=by
 unfold nr;rw[if_neg (λe=>by subst e;simp at h),if_pos ⟨h1,h2,h3⟩];rfl
theorem nr_part{l:List Int}(h:0<l.length)(h1:0<zn (l.headD 0))(h2:l.length<zn (l.headD 0))(h3:bg l):nr l=(0,0,true):=by
 unfold nr;rw[if_neg (λe=>by subst e;simp at h),if_neg (λh=>by omega),if_pos ⟨h1,h2,h3⟩]
theorem nr_bad{l:List Int}(h:0<l.length)(h1:¬(0<zn (l.headD 0)∧zn (l.headD 0)≤l.length∧bg (l.take ((zn (l.headD 0)).toNat-Int.toNat 0))))(h2:¬(0<zn (l.headD 0)∧l.length<zn (l.headD 0)∧bg l)):nr l=(65533,1,false):=by
 unfold nr;rw[if_neg (λe=>by subst e;simp at h),if_neg (show ¬(0<zn (l.headD 0)∧zn (l.headD 0)≤l.length∧bg (l.take (zn (l.headD 0)).toNat)) from h1),if_neg h2]
theorem take_byt{l:List Int}(h:Byt l){n:Nat}:Byt (l.take n):=λc hc=>h c (List.mem_of_mem_take hc)
theorem g129_eq{l:List Int}(hl:Byt l)(hn:l.length≤1000000):g129 l=some (nx l):=by
 rw[←nr_eq hl];refine g_eq ?_;unfold g129;refine g_if (λh=>z7 (nr_nil h).symm) λh=>?_;have h1:1≤l.length:=by omega
 obtain⟨c,t,hL⟩:∃c t,l=c::t:=by cases l with|nil=>simp at h1|cons c t=>exact⟨c,t,rfl⟩
 have hc:0≤c∧c≤255:=hl c (by rw[hL];simp);have e0:l.getD (0:Int).toNat 0=c:=by rw[hL];rfl
 have hh:l.headD 0=c:=by rw[hL];rfl
 simp only[e0];have hm:=many_le c;refine g_ck ws (zh (g208_eq hc.1 hc.2) ?_);have hd:l.drop (0:Int).toNat=l:=rfl;rw[hd];refine g_jn (λv=>v=decide (0<zn c∧zn c≤l.length∧bg (l.take ((zn c).toNat-(0:Int).toNat)))) (λk hk=>g_if (λa=>g_if (λb=>g_ck ws (zh (g209_eq (take_byt hl) wY (by rw[List.length_take];omega)) (hk _ (by simp[a,b])))) λb=>hk _ (by simp[b])) λa=>hk _ (by simp[a])) ?_;rintro _ rfl;simp only[decide_eq_true_eq];refine g_if (λa=>g_ck ws (zh (g210_eq (take_byt hl) wY) (z7 ?_))) λa=>?_
 ·rw[←hh] at a ⊢;exact(nr_whole ws a.1 a.2.1 a.2.2).symm
 have bad:¬(0<zn (l.headD 0)∧l.length<zn (l.headD 0)∧bg l)→(65533,1,false)=nr l:=λh2=>(nr_bad ws (by rw[hh];exact a) h2).symm;refine g_if (λb=>g_if (λd=>zh (g209_eq hl h1 hn) (g_if (λf=>z7 ?_) λf=>z7 (bad λx=>f (by simpa using x.2.2)))) λd=>z7 (bad λx=>d (by rw[hh] at x;exact x.2.1))) λb=>z7 (bad λx=>b (by rw[hh] at x;exact x.1));exact(nr_part ws (by rw[hh];exact b) (by rw[hh];exact d) (by simpa using f)).symm
def isR(r:Int):Prop:=0≤r∧r≤1114111∧(r<55296∨57343<r)
instance (r:Int):Decidable (isR r):=by unfold isR;infer_instance
theorem g215_eq(r:Int):g215 r=some (decide (isR r)):=by
 refine g_eq ?_;unfold g215;refine g_if (λa=>g_if (λb=>g_if (λc=>z7 ?_) λc=>z7 ?_) λb=>z7 ?_) λa=>z7 ?_
 ·rw[eq_comm,decide_eq_true_eq];exact⟨a,b,.inl c⟩
 ·rw[decide_eq_decide];exact⟨λx=>⟨a,b,.inr x⟩,λx=>x.2.2.resolve_left c⟩
 ·rw[eq_comm,decide_eq_false_iff_not];exact λx=>b x.2.1
 rw[eq_comm,decide_eq_false_iff_not];exact λx=>a x.1
theorem g211_eq(r:Int):g211 r=some (decide (isR r)):=g215_eq r
def norm(r:Int):Int:=if isR r then r else 65533
theorem norm_r(r:Int):isR (norm r):=by
 unfold norm;split
 ·assumption
 exact⟨by omega,by omega,.inr ws⟩
def enc(v:Int):List Int:=
 if v<128 then[v] else if v<2048 then[192+v/64,128+v%64] else if v<65536 then[224+v/4096,128+v/64%64,128+v%64] else[240+v/262144,128+v/4096%64,128+v/64%64,128+v%64]
theorem bor8(x y:Int)(i:Nat)(hx₀:0≤x)(hx:x%2^i=0)(hx₁:x<256)(hy₀:0≤y)(hy:y<2^i)(hy₁:y<256):bits .or .u8 x y=x+y:=bits_join .u8 8 ww keep8 i x y hx₀ hx hx₁ hy₀ hy hy₁
theorem wrap8(n:Int):IntKind.u8.wrap n=n%256:=by rw[IntKind.wrap_u8]
theorem tailB(x:Int):bits .or .u8 128 (bits .and .u8 (IntKind.u8.wrap x) 63)=128+x%64:=by
 rw[wrap8,band63 ws ws,bor8 128 _ 6 ws ws ws ws ws ws];omega
theorem g216_0(v:Int):g216 v 0=some (128+v%64):=by
 refine g_eq ?_;unfold g216;refine g_ck ww (z7 ?_);rw[tailB];simp
theorem g216_6(v:Int):g216 v 6=some (128+v/64%64):=by
 refine g_eq ?_;unfold g216;refine g_ck ww (z7 ?_);rw[tailB];rfl
theorem g216_12(v:Int):g216 v 12=some (128+v/4096%64):=by
 refine g_eq ?_;unfold g216;refine g_ck ww (z7 ?_);rw[tailB];rfl
theorem g139_eq(r:Int):g139 r=some (enc (norm r)):=by
 refine g_eq ?_;unfold g139;refine g_jn (λv=>v=norm r) (λk hk=>zh (g215_eq r) (g_if (λh=>hk _ ve) λh=>hk _ vf)) ?_;rintro _ rfl;obtain⟨h0,h1,h2⟩:=norm_r r;generalize norm r=v at *;unfold enc;have p6:(2:Int)^(6:Int).toNat=64:=rfl;have p12:(2:Int)^(12:Int).toNat=4096:=rfl;have p18:(2:Int)^(18:Int).toNat=262144:=rfl;refine g_if (λa=>z7 ?_) λa=>g_if (λb=>zh (g216_0 v) (z7 ?_)) λb=>g_if (λc=>zh (g216_6 v) (zh (g216_0 v) (z7 ?_))) λc=>zh (g216_12 v) (zh (g216_6 v) (zh (g216_0 v) (z7 ?_)))
 ·rw[if_pos a,wrap8];congr 1;omega
 ·rw[if_neg a,if_pos b,wrap8,p6,bor8 192 _ 6 ws ws ws ws ws ws];congr 1;omega
 ·rw[if_neg a,if_neg b,if_pos c,wrap8,p12,bor8 224 _ 4 ws ws ws ws ws ws];congr 1;omega
 rw[if_neg a,if_neg b,if_neg c,wrap8,p18,bor8 240 _ 3 ws ws ws ws ws ws];congr 1;omega
theorem g212_eq{v:Int}(h:0≤v):g212 v=some (128+v%64):=by
 refine g_eq ?_;unfold g212;rw[Int.tmod_eq_emod_of_nonneg h];refine g_i32 ws (z7 ?_);rw[wrap8];omega
theorem g130_eq(r:Int):g130 r=some (enc (norm r)):=by
 refine g_eq ?_;unfold g130;refine g_jn (λv=>v=norm r) (λk hk=>zh (g211_eq r) (g_if (λh=>hk _ ve) λh=>hk _ vf)) ?_;rintro _ rfl;obtain⟨h0,h1,h2⟩:=norm_r r;generalize norm r=v at *;unfold enc;rw[Int.tdiv_eq_ediv_of_nonneg h0,Int.tdiv_eq_ediv_of_nonneg h0,Int.tdiv_eq_ediv_of_nonneg h0];refine g_if (λa=>z7 ?_) λa=>g_if (λb=>g_i32 ws (g_i32 ws (zh (g212_eq h0) (z7 ?_)))) λb=>g_if (λc=>g_i32 ws (g_i32 ws (g_i32 ws (zh (g212_eq ws) (zh (g212_eq h0) (z7 ?_)))))) λc=>g_i32 ws (g_i32 ws (g_i32 ws (zh (g212_eq ws) (g_i32 ws (zh (g212_eq ws) (zh (g212_eq h0) (z7 ?_)))))))
 ·rw[if_pos a,wrap8];congr 1;omega
 ·rw[if_neg a,if_pos b,wrap8];congr 1;omega
 ·rw[if_neg a,if_neg b,if_pos c,wrap8];congr 1;omega
 rw[if_neg a,if_neg b,if_neg c,wrap8];congr 1;omega
theorem enc_byt{v:Int}(h:isR v):Byt (enc v):=by
 obtain⟨h0,h1,h2⟩:=h;unfold enc;intro c hc
 repeat' split at hc
 all_goals simp only[List.mem_cons,List.not_mem_nil,or_false] at hc;omega
theorem enc_len{v:Int}:1≤(enc v).length∧(enc v).length≤4:=by
 unfold enc
 repeat' split
 all_goals simp
theorem nx_enc{v:Int}(h:isR v)(t:List Int):nx (enc v++t)=(v,((enc v).length:Int),false):=by
 obtain⟨h0,h1,h2⟩:=h;unfold enc;split
 ·rename_i a;have e1:zn v=1:=by simp only[zn];rw[if_pos a]
  have e2:y4 v=v:=by simp only[y4];rw[if_pos a]
  simp[nx,e1,e2,nxGo]
 split
 ·rename_i a b;have e1:zn (192+v/64)=2:=by simp only[zn];repeat' split<;>omega
  have e2:y4 (192+v/64)=v/64:=by simp only[y4];repeat' split<;>omega
  have e3:yB (192+v/64)=128:=by simp only[yB];repeat' split<;>omega
  have e4:zZ (192+v/64)=191:=by simp only[zZ];repeat' split<;>omega
  simp only[nx,e1,e2,e3,e4,nxGo,List.cons_append,List.nil_append,show(2-1:Int).toNat=1 from rfl];rw[if_neg ws,if_neg ws];simp;omega
 split
 ·rename_i a b c;have e1:zn (224+v/4096)=3:=by simp only[zn];repeat' split<;>omega
  have e2:y4 (224+v/4096)=v/4096:=by simp only[y4];repeat' split<;>omega
  have e3:yB (224+v/4096)≤128+v/64%64:=by simp only[yB];repeat' split<;>omega
  have e4:128+v/64%64≤zZ (224+v/4096):=by simp only[zZ];repeat' split<;>omega
  simp only[nx,e1,e2,nxGo,List.cons_append,List.nil_append,show(3-1:Int).toNat=2 from rfl];rw[if_neg ws,if_neg ws,if_neg ws];simp;omega
 rename_i a b c;have e1:zn (240+v/262144)=4:=by simp only[zn];repeat' split<;>omega
 have e2:y4 (240+v/262144)=v/262144:=by simp only[y4];repeat' split<;>omega
 have e3:yB (240+v/262144)≤128+v/4096%64:=by simp only[yB];repeat' split<;>omega
 have e4:128+v/4096%64≤zZ (240+v/262144):=by simp only[zZ];repeat' split<;>omega
 simp only[nx,e1,e2,nxGo,List.cons_append,List.nil_append,show(4-1:Int).toNat=3 from rfl];rw[if_neg ws,if_neg ws,if_neg ws,if_neg ws];simp;omega
theorem xK{l:List Int}(h:Byt l){n:Nat}:Byt (l.drop n):=λc hc=>h c (List.mem_of_mem_drop hc)
theorem nx_inv{l:List Int}(hl:Byt l){r n:Int}(h:nx l=(r,n,false)):(r=65533∧n=1∧1≤l.length)∨(isR r∧l=enc r++l.drop n.toNat∧n=((enc r).length:Int)):=by
 cases l with
 |nil=>simp[nx] at h
 |cons c t=>
  have hc:=hl c List.mem_cons_self;rcases sh_cases c hc.1 hc.2 with ⟨a,e⟩|⟨a,e⟩|⟨a,a',e⟩|⟨a,a',e⟩|⟨a,a',e⟩
  ·have e2:y4 c=c:=by simp only[y4];rw[if_pos a]
   simp[nx,e,e2,nxGo] at h;obtain⟨rfl,rfl⟩:=h;right;refine⟨⟨by omega,by omega,.inl ws⟩,?_,?_⟩
   ·unfold enc;rw[if_pos a];rfl
   unfold enc;rw[if_pos a];rfl
  ·simp[nx,e] at h;obtain⟨rfl,rfl⟩:=h;exact .inl ⟨rfl,rfl,by simp⟩
  ·have e2:y4 c=c%32:=by simp only[y4];repeat' split<;>omega
   have e3:yB c=128:=by simp only[yB];repeat' split<;>omega
   have e4:zZ c=191:=by simp only[zZ];repeat' split<;>omega
   cases t with
   |nil=>simp[nx,e,nxGo] at h
   |cons d t=>
    have hd:=hl d wv;simp only[nx,e,e2,e3,e4,nxGo,show(2-1:Int).toNat=1 from rfl] at h;rw[if_neg ws] at h;split at h
    ·cases h;exact .inl ⟨rfl,rfl,by simp⟩
    cases h;right
    have q:enc (c%32*64+d%64)=[c,d]:=by
     unfold enc;rw[if_neg ws,if_pos ws];congr 1
     ·omega
     congr 1;omega
    exact⟨⟨by omega,by omega,.inl ws⟩,by rw[q];rfl,by rw[q];rfl⟩
  ·have e2:y4 c=c%16:=by simp only[y4];repeat' split<;>omega
   have e3:(c=224∧yB c=160)∨(c≠224∧yB c=128):=by simp only[yB];repeat' split<;>omega
   have e4:(c=237∧zZ c=159)∨(c≠237∧zZ c=191):=by simp only[zZ];repeat' split<;>omega
   cases t with
   |nil=>simp[nx,e,nxGo] at h
   |cons d t=>
    have hd:=hl d wv;simp only[nx,e,e2,nxGo,show(3-1:Int).toNat=2 from rfl] at h;rw[if_neg ws] at h;split at h
    ·cases h;exact .inl ⟨rfl,rfl,by simp⟩
    cases t with
    |nil=>simp[nxGo] at h
    |cons f t=>
     have hf:=hl f wv;simp only[nxGo] at h;split at h
     ·cases h;exact .inl ⟨rfl,rfl,by simp⟩
     cases h;right
     have q:enc ((c%16*64+d%64)*64+f%64)=[c,d,f]:=by
      unfold enc;rw[if_neg ws,if_neg ws,if_pos ws];congr 1
      ·omega
      congr 1
      ·omega
      congr 1;omega
     exact⟨⟨by omega,by omega,by omega⟩,by rw[q];rfl,by rw[q];rfl⟩
  have e2:y4 c=c%8:=by simp only[y4];repeat' split<;>omega
  have e3:(c=240∧yB c=144)∨(c≠240∧yB c=128):=by simp only[yB];repeat' split<;>omega
  have e4:(c=244∧zZ c=143)∨(c≠244∧zZ c=191):=by simp only[zZ];repeat' split<;>omega
  cases t with
  |nil=>simp[nx,e,nxGo] at h
  |cons d t=>
   have hd:=hl d wv;simp only[nx,e,e2,nxGo,show(4-1:Int).toNat=3 from rfl] at h;rw[if_neg ws] at h;split at h
   ·cases h;exact .inl ⟨rfl,rfl,by simp⟩
   cases t with
   |nil=>simp[nxGo] at h
   |cons f t=>
    have hf:=hl f wv;simp only[nxGo] at h;split at h
    ·cases h;exact .inl ⟨rfl,rfl,by simp⟩
    cases t with
    |nil=>simp[nxGo] at h
    |cons g t=>
     have hg:=hl g wv;simp only[nxGo] at h;split at h
     ·cases h;exact .inl ⟨rfl,rfl,by simp⟩
     cases h;right
     have q:enc (((c%8*64+d%64)*64+f%64)*64+g%64)=[c,d,f,g]:=by
      unfold enc;rw[if_neg ws,if_neg ws,if_neg ws];congr 1
      ·omega
      congr 1
      ·omega
      congr 1
      ·omega
      congr 1;omega
     exact⟨⟨by omega,by omega,by omega⟩,by rw[q];rfl,by rw[q];rfl⟩
def stp(l:List Int):Int×Int:=if (nx l).2.2=true then(65533,1) else((nx l).1,(nx l).2.1)
theorem stp_pos{l:List Int}(hl:Byt l):isR (stp l).1∧1≤(stp l).2∧(stp l).2≤4∧(1≤l.length→(stp l).2≤l.length):=by
 have hb:isR 65533:=⟨by omega,by omega,.inr ws⟩;unfold stp;by_cases h:(nx l).2.2=true
 ·rw[if_pos h];exact⟨hb,by simp,by simp,λh=>by dsimp only;omega⟩
 rw[if_neg h]
 have e:nx l=((nx l).1,(nx l).2.1,false):=by
  have:(nx l).2.2=false:=by simpa using h
  rw[←this]
 rcases nx_inv hl e with ⟨h1,h2,h3⟩|⟨h1,h2,h3⟩
 ·dsimp only;rw[h1,h2];exact⟨hb,by omega,by omega,λh=>by omega⟩
 have:=enc_len (v:=(nx l).1);have hlen:=congrArg List.length h2;rw[List.length_append,List.length_drop] at hlen;dsimp only;exact⟨h1,by omega,by omega,λh=>by omega⟩
theorem stp_good{l:List Int}(hl:Byt l):l=enc (stp l).1++l.drop (stp l).2.toNat↔((nx l).2.2=false∧((nx l).1≠65533∨(nx l).2.1=3)):=by
 constructor
 ·intro h;have hp:=stp_pos hl;have h':=nx_enc hp.1 (l.drop (stp l).2.toNat);rw[←h] at h';refine⟨by rw[h'],?_⟩;rw[h'];by_cases q:(stp l).1=65533
  ·right;rw[q];rfl
  left;exact q
 rintro⟨h1,h2⟩;have e:nx l=((nx l).1,(nx l).2.1,false):=by rw[←h1]
 have e':stp l=((nx l).1,(nx l).2.1):=by unfold stp;rw[if_neg (by simp[h1])]
 rw[e'];rcases nx_inv hl e with ⟨h3,h4,h5⟩|⟨h3,h4,h5⟩
 ·omega
 exact h4
def ps(l:List Int):Nat→Nat
 |0=>0
 |k+1=>ps l k+(stp (l.drop (ps l k))).2.toNat
def rn(l:List Int)(k:Nat):Int:=(stp (l.drop (ps l k))).1
def rs(l:List Int)(k:Nat):List Int:=(List.range k).map (rn l)
def pp(l:List Int)(k:Nat):List Int:=(List.range k).map λi=>(ps l i:Int)
def tx(l:List Int)(k:Nat):List Int:=(List.range k).flatMap λi=>enc (rn l i)
theorem rs_succ(l:List Int)(k:Nat):rs l (k+1)=rs l k++[rn l k]:=by simp[rs,List.range_succ]
theorem pp_succ(l:List Int)(k:Nat):pp l (k+1)=pp l k++[(ps l k:Int)]:=by simp[pp,List.range_succ]
theorem tx_succ(l:List Int)(k:Nat):tx l (k+1)=tx l k++enc (rn l k):=by simp[tx,List.range_succ]
theorem rs_len(l:List Int)(k:Nat):(rs l k).length=k:=by simp[rs]
theorem pp_len(l:List Int)(k:Nat):(pp l k).length=k:=by simp[pp]
theorem rn_R{l:List Int}(hl:Byt l)(k:Nat):isR (rn l k):=(stp_pos (xK hl)).1
theorem tx_len{l:List Int}:∀k,(tx l k).length≤4*k
 |0=>by simp[tx]
 |k+1=>by
  have:=tx_len (l:=l) k;have:=enc_len (v:=rn l k);rw[tx_succ,List.length_append];omega
theorem tx_byt{l:List Int}(hl:Byt l):∀k,Byt (tx l k)
 |0=>λc hc=>by simp[tx] at hc
 |k+1=>λc hc=>by
  rw[tx_succ] at hc;rcases List.mem_append.1 hc with h|h
  ·exact tx_byt hl k c h
  exact enc_byt (rn_R hl k) c h
theorem ps_step{l:List Int}(hl:Byt l)(k:Nat):ps l k<ps l (k+1)∧ps l (k+1)≤ps l k+4∧(ps l k<l.length→ps l (k+1)≤l.length):=by
 have h:=stp_pos (xK hl (n:=ps l k));rw[ps];refine⟨by omega,by omega,λhk=>?_⟩;have:=h.2.2.2 wR;rw[List.length_drop] at this;omega
theorem ps_lt{l:List Int}(hl:Byt l):∀(j i:Nat),ps l i+j≤ps l (i+j)
 |0,i=>Nat.le_refl _
 |j+1,i=>by
  have:=ps_lt hl j i;have:=(ps_step hl (i+j)).1;rw[show i+(j+1)=(i+j)+1 by omega];omega
theorem ps_ge{l:List Int}(hl:Byt l)(k:Nat):k≤ps l k:=by have:=ps_lt hl k 0;simp[ps] at this;omega
theorem ps_mono{l:List Int}(hl:Byt l){i k:Nat}(h:i<k):ps l i<ps l k:=by have:=ps_lt hl (k-i) i;rw[show i+(k-i)=k by omega] at this;omega
theorem ps_lt_iff{l:List Int}(hl:Byt l){i k:Nat}:ps l i<ps l k↔i<k:=by
 refine⟨λh=>?_,ps_mono hl⟩;by_cases q:i<k
 ·exact q
 by_cases e:i=k
 ·subst e;omega
 have:=ps_mono hl (show k<i by omega);omega
theorem ps_inj{l:List Int}(hl:Byt l){i k:Nat}(h:ps l i=ps l k):i=k:=by
 have a:¬i<k:=λq=>by have:=ps_mono hl q;omega
 have b:¬k<i:=λq=>by have:=ps_mono hl q;omega
 omega
def goodAt(l:List Int)(i:Nat):Prop:=l.drop (ps l i)=enc (rn l i)++l.drop (ps l (i+1))
theorem goodAt_iff{l:List Int}(hl:Byt l)(i:Nat):goodAt l i↔((nx (l.drop (ps l i))).2.2=false∧((nx (l.drop (ps l i))).1≠65533∨(nx (l.drop (ps l i))).2.1=3)):=by
 rw[←stp_good (xK hl)];unfold goodAt rn;rw[ps,List.drop_drop]
theorem tx_split(l:List Int){i:Nat}:∀{N:Nat},i<N→∃R,tx l N=tx l i++(enc (rn l i)++R)
 |0,h=>by omega
 |N+1,h=>by
  by_cases e:i=N
  ·subst e;exact⟨[],by rw[tx_succ,List.append_nil]⟩
  obtain⟨R,hR⟩:=tx_split l (i:=i) (N:=N) ws;exact⟨R++enc (rn l N),by rw[tx_succ,hR];simp only[List.append_assoc]⟩
theorem tx_pre{l:List Int}:∀k,(∀i,i<k→goodAt l i)→l=tx l k++l.drop (ps l k)
 |0,_=>by simp[tx,ps]
 |k+1,h=>by
  have ih:=tx_pre k λi hi=>h i ws;have g:=h k ws;rw[tx_succ,List.append_assoc,←g];exact ih
theorem tx_good{l:List Int}(hl:Byt l){N:Nat}(hN:ps l N=l.length):tx l N=l↔∀i,i<N→goodAt l i:=by
 constructor
 ·intro h i
  induction i using Nat.strongRecOn with
  |_ i ih=>
   intro hi;have p:=tx_pre i λj hj=>ih j hj ws;obtain⟨R,hR⟩:=tx_split l hi
   have e:l.drop (ps l i)=enc (rn l i)++R:=by
    have q:tx l i++l.drop (ps l i)=tx l i++(enc (rn l i)++R):=by rw[←p,←hR,h]
    exact List.append_cancel_left q
   have hx:=nx_enc (rn_R hl i) R;rw[←e] at hx
   have hs:(stp (l.drop (ps l i))).2=((enc (rn l i)).length:Int):=by
    have e2:stp (l.drop (ps l i))=((nx (l.drop (ps l i))).1,(nx (l.drop (ps l i))).2.1):=by
     unfold stp;rw[if_neg v8]
    rw[e2,hx]
   unfold goodAt;rw[ps,hs,←List.drop_drop,e,Int.toNat_natCast,List.drop_left]
 intro h;have p:=tx_pre N h;rw[hN,List.drop_length,List.append_nil] at p;exact p.symm
theorem bytes_str{l:List Int}(hl:Byt l):z6 (zW l)=l:=by
 unfold z6 zW;simp only[List.map_map]
 conv=>rhs;rw[←List.map_id l]
 refine List.map_congr_left λc hc=>?_;have:=hl c hc;simp only[Function.comp,UInt8.toNat_ofNat',id];omega
theorem str_size(l:List Int):(zW l).size=l.length:=by simp[zW,ByteArray.size]
theorem str_eq{a b:List Int}(ha:Byt a)(hb:Byt b):(zW a).data.toList=(zW b).data.toList↔a=b:=by
 constructor
 ·intro h;have e:z6 (zW a)=z6 (zW b):=by unfold z6;rw[h]
  rwa [bytes_str ha,bytes_str hb] at e
 rintro rfl;rfl
theorem drop_all{l:List Int}{k:Nat}:(l.drop k).take (l.length-k)=l.drop k:=List.take_of_length_le wR
theorem stp_more{l:List Int}(h:(nx l).2.2=true):stp l=(65533,1):=by unfold stp;rw[if_pos h]
theorem stp_else{l:List Int}(h:¬(nx l).2.2=true):stp l=((nx l).1,(nx l).2.1):=by unfold stp;rw[if_neg h]
theorem ps_more{l:List Int}{k:Nat}(h:(nx (l.drop (ps l k))).2.2=true):rn l k=65533∧(ps l k:Int)+1=(ps l (k+1):Nat):=by
 unfold rn;rw[ps,stp_more h];exact⟨rfl,by simp⟩
theorem ps_else{l:List Int}(hl:Byt l){k:Nat}(h:¬(nx (l.drop (ps l k))).2.2=true):rn l k=(nx (l.drop (ps l k))).1∧(ps l k:Int)+(nx (l.drop (ps l k))).2.1=(ps l (k+1):Nat):=by
 have p:=stp_pos (xK hl (n:=ps l k));unfold rn;rw[ps];rw[stp_else h] at p ⊢;exact⟨rfl,by dsimp only at p ⊢;omega⟩
theorem runes_gives{β:Type}{l:List Int}{K:List Int×List Int→Option β}{Φ:β→Prop}(hl:Byt l)(hn:l.length≤1000000){n:Nat}(e:n=l.length)
  (hk:∀N,ps l N=l.length→zf (K (rs l N,pp l N)) Φ) :
  zf ((y7 (σ:=List Int×List Int×Int) (ρ:=List Int×List Int) (fun s657=>
     if s657.2.2<((n:Nat):Int) then
      (
       ck (0≤s657.2.2∧s657.2.2≤((n:Nat):Int)∧((n:Nat):Int)≤((n:Nat):Int)) <|
       (g129 ((l.drop s657.2.2.toNat).take (((n:Nat):Int).toNat-s657.2.2.toNat))).bind λv687=>
       if v687.2.2=true then
        (
         ck ((s657.1.length+1)*4≤140737488355328) <|
         ck ((s657.2.1.length+1)*8≤140737488355328) <|
         ck (inR .i64 (s657.2.2+1)) <|
         some (.go ((s657.1++[65533]),(s657.2.1++[s657.2.2]),s657.2.2+1))
        )
       else
        (
         ck ((s657.1.length+1)*4≤140737488355328) <|
         ck ((s657.2.1.length+1)*8≤140737488355328) <|
         ck (inR .i64 (s657.2.2+v687.2.1)) <|
         some (.go ((s657.1++[v687.1]),(s657.2.1++[s657.2.2]),s657.2.2+v687.2.1))
        )
      )
     else
      some (.out (s657.1,s657.2.1))
    ) ([],[],0)).bind fun o683=>K (o683.1,o683.2)) Φ:=by
 subst e;refine y3 (Ω:=λo=>∃N,ps l N=l.length∧o=(rs l N,pp l N)) (yf (λs:List Int×List Int×Int=>∃k:Nat,s=(rs l k,pp l k,(ps l k:Int))∧ps l k≤l.length) (λs=>((l.length:Int)-s.2.2).toNat) ?_ ⟨0,rfl,Nat.zero_le _⟩) ?_
 ·rintro _ ⟨k,rfl,hk⟩;dsimp only;have st:=ps_step hl k;have kl:=ps_ge hl k;refine g_if (λhlt=>g_ck ws ?_) λhge=>zP ⟨k,by omega,rfl⟩;simp only[Int.toNat_natCast,drop_all];refine zh (g129_eq (xK hl) wR) (g_if (λh=>?_) λh=>?_)
  ·obtain⟨r1,r2⟩:=ps_more h;rw[r2];exact g_ck (by rw[rs_len];omega) (g_ck (by rw[pp_len];omega) (zJ ws (g_go ⟨k+1,by rw[rs_succ,pp_succ,r1],by omega⟩ wM)))
  obtain⟨r1,r2⟩:=ps_else hl h;rw[r2];exact g_ck (by rw[rs_len];omega) (g_ck (by rw[pp_len];omega) (zJ ws (g_go ⟨k+1,by rw[rs_succ,pp_succ,r1],by omega⟩ wM)))
 rintro _ ⟨N,h,rfl⟩;exact hk N h
theorem norm_of{v:Int}(h:isR v):norm v=v:=by unfold norm;rw[if_pos h]
theorem flat_gives {β : Type} {l : List Int} {K : List Int → Option β} {Φ : β → Prop} (hl : Byt l) {N : Nat} (hN : N ≤ 1000000) (hk : zf (K (tx l N)) Φ) {n : Nat} (e : n = N) :
    zf ((y7 (σ := List Int × Int) (ρ := List Int) (fun s730 =>
            if s730.2 < ((n : Nat) : Int) then
              (
                ck (0 ≤ s730.2 ∧ s730.2 < ((n : Nat) : Int)) <|
                (g130 ((rs l N).getD s730.2.toNat 0)).bind fun v747 =>
                ck ((s730.1.length + v747.length) * 1 ≤ 140737488355328) <|
                ck (inR .i64 (s730.2 + 1)) <|
                some (.go ((s730.1 ++ v747), s730.2 + 1))
              )
            else
              some (.out s730.1)
          ) ([], 0)).bind fun o744 => K o744) Φ := by
  subst e
  refine y3 (Ω := fun o => o = tx l n) (yf (fun s : List Int × Int => ∃ k : Nat, s = (tx l k, (k : Int)) ∧ k ≤ n) (fun s => ((n : Int) - s.2).toNat) ?_ ⟨0, rfl, Nat.zero_le _⟩) fun o ho => ho ▸ hk
  rintro _ ⟨k, rfl, hk⟩
  dsimp only
  refine g_if (fun hlt => g_ck ws ?_) fun hge => zP (by rw [show k = n by omega])
  have e1 : (rs l n).getD (k : Int).toNat 0 = rn l k := by
    simp [rs, List.getD_eq_getElem?_getD, show k < n by omega]
  rw [e1]
  have t1 := tx_len (l := l) k
  have t2 := enc_len (v := rn l k)
  refine zh (g130_eq _) ?_
  rw [norm_of (rn_R hl k)]
  exact g_ck ws (zJ ws (g_go ⟨k + 1, by rw [tx_succ]; rfl, by omega⟩ (by dsimp only; omega)))
theorem ref_runes{l:List Int}(hl:Byt l)(hn:l.length≤1000000):zf (g133 l) λv=>∃N,ps l N=l.length∧v=(rs l N,pp l N):=by
 unfold g133;refine g_jn (λv=>∃N,ps l N=l.length∧v=(rs l N,pp l N)) (λk hk=>runes_gives (K:=λo=>k (o.1,o.2)) hl hn rfl λN h=>hk _ ⟨N,h,rfl⟩) λv hv=>z7 hv
theorem ref_text{l:List Int}(hl:Byt l)(hn:l.length≤1000000):∃N,ps l N=l.length∧g69 l=some (zW (tx l N)):=by
 obtain⟨v,e,N,hN,rfl⟩:=ref_runes hl hn;refine⟨N,hN,g_eq ?_⟩;unfold g69;have hk:=ps_ge hl N;refine zh e (g_jn (λv=>v=tx l N) (λk hk'=>flat_gives (K:=k) hl (N:=N) ws (hk' _ rfl) (rs_len l N)) λv hv=>?_);subst hv;exact g_ck (tx_byt hl N) (z7 rfl)
theorem g375_eq{l:List Int}(hl:Byt l)(hn:l.length≤1000000):g375 l=some (stp l):=by
 unfold g375;rw[g138_eq hl hn];show(if (nx l).2.2=true then _ else _)=_;unfold stp;split<;>rfl
theorem count_gives{l:List Int}(hl:Byt l)(hn:l.length≤1000000){N:Nat}(hN:ps l N=l.length):zf (g137 (zW l)) λv=>v=N:=by
 unfold g137;rw[str_size,bytes_str hl];refine g_jn (λv=>v=(N:Int)) (λk hk=>g_ck ws ?_) λv hv=>z7 hv;refine y3 (Ω:=λo=>o=(N:Int)) (yf (λs:Int×Int=>∃k:Nat,s=((k:Int),(ps l k:Int))∧ps l k≤l.length) (λs=>((l.length:Int)-s.2).toNat) ?_ ⟨0,rfl,Nat.zero_le _⟩) λo ho=>hk _ ho;rintro _ ⟨k,rfl,hk⟩;dsimp only;have st:=ps_step hl k;have kl:=ps_ge hl k;refine g_if (λhlt=>g_ck ws ?_) λhge=>zP (by rw[ps_inj hl (show ps l k=ps l N by omega)]);simp only[Int.toNat_natCast,drop_all];refine zh (g375_eq (xK hl) wR) ?_;have p:=stp_pos (xK hl (n:=ps l k))
 have e:(ps l k:Int)+(stp (l.drop (ps l k))).2=(ps l (k+1):Nat):=by
  rw[ps];omega
 rw[e];exact zJ ws (zJ ws (g_go ⟨k+1,rfl,by omega⟩ wM))
theorem enc_bad:enc (norm 65533)=[239,191,189]:=rfl
theorem valid_gives{l:List Int}(hl:Byt l)(hn:l.length≤1000000){N:Nat}(hN:ps l N=l.length):zf (g75 (zW l)) λr=>(r=true↔tx l N=l):=by
 unfold g75;rw[str_size,bytes_str hl];refine g_ck ws (g_jn (λ_=>tx l N=l) (λk hk=>?_) λv hv=>z7 (by simpa using hv));refine y3 (Ω:=λo:Unit ⊕ Unit=>(o=.inl ()∧¬tx l N=l)∨(o=.inr ()∧tx l N=l)) (yf (λs:Int=>∃k:Nat,s=(ps l k:Int)∧ps l k≤l.length∧∀i,i<k→goodAt l i) (λs=>((l.length:Int)-s).toNat) ?_ ⟨0,rfl,Nat.zero_le _,λi hi=>by omega⟩) ?_
 ·rintro _ ⟨k,rfl,hk,hg⟩;have st:=ps_step hl k;have kl:=ps_ge hl k;refine g_if (λhlt=>g_ck ws ?_) λhge=>zP (.inr ⟨rfl,(tx_good hl hN).2 (by rw[←ps_inj hl (show ps l k=ps l N by omega)];exact hg)⟩);have kN:k<N:=(ps_lt_iff hl).1 ws;simp only[Int.toNat_natCast,drop_all];have bad:¬goodAt l k→¬tx l N=l:=λh h'=>h ((tx_good hl hN).1 h' k kN);have gi:=goodAt_iff hl k
  have next:¬(nx (l.drop (ps l k))).2.2=true→goodAt l k→zf (ck (inR .i64 ((ps l k:Int)+(nx (l.drop (ps l k))).2.1)) (some (.go ((ps l k:Int)+(nx (l.drop (ps l k))).2.1)))) (rnd (λs:Int=>∃k:Nat,s=(ps l k:Int)∧ps l k≤l.length∧∀i,i<k→goodAt l i) (λs=>((l.length:Int)-s).toNat) ((l.length:Int)-(ps l k:Int)).toNat (λo:Unit ⊕ Unit=>(o=.inl ()∧¬tx l N=l)∨(o=.inr ()∧tx l N=l))):=λh g=>by
   obtain⟨r1,r2⟩:=ps_else hl h;rw[r2];refine zJ ws (g_go ⟨k+1,rfl,by omega,λi hi=>?_⟩ ws);by_cases q:i=k
   ·subst q;exact g
   exact hg i ws
  refine zh (g138_eq (xK hl) wR) (g_if (λh=>zP (.inl ⟨rfl,bad λg=>by rw[gi] at g;simp[h] at g⟩)) λh=>g_if (λh1=>next h (gi.2 ⟨by simpa using h,.inl h1⟩)) λh1=>zh (g139_eq _) ?_);rw[enc_bad];refine g_if (λh2=>zP (.inl ⟨rfl,bad λg=>?_⟩)) λh2=>next h (gi.2 ⟨by simpa using h,.inr ?_⟩)
  ·rw[gi] at g;simp only[List.length_cons,List.length_nil] at h2;omega
  simp only[List.length_cons,List.length_nil] at h2;omega
 rintro _ (⟨rfl,h⟩|⟨rfl,h⟩)
 ·exact g_sm (λw e=>z7 wX) λw e=>by cases e
 exact g_sm (λw e=>by cases e) λw e=>hk _ h
end Go.Proofs.YticmemgehllacaaGreatDoor
section
namespace Go.Proofs.YticmemgehllacaaGreatDoor
open Go Go.Eng
noncomputable section
abbrev Ky:Type:=Int×ByteArray×Int×Bool×Bool×Bool
def KeyOk(k:Ky):Prop:=∃b e,g17 k=some (b,e)∧g37 k=some (b,e)∧zx b
def eqIl(a b:List Int):Bool:=decide (a=b)
def runKy(k:Ky):Bool:=
 match g17 k,g37 k with
 |some (b,e),some (b',e')=>eqIl b b'&&(decide (e=e')&&b.all (λc=>decide (0≤c∧c≤255)))
 |_,_=>false
theorem runKy_ok{k:Ky}(h:runKy k=true):KeyOk k:=by
 unfold runKy at h;split at h;rotate_left
 ·cases h
 rename_i b e b' e' h5 h6;simp only[Bool.and_eq_true,eqIl,decide_eq_true_iff] at h;obtain⟨rfl,rfl,hb⟩:=h;exact⟨b,e,h5,h6,λc hc=>of_decide_eq_true (List.all_eq_true.1 hb c hc)⟩
end
end Go.Proofs.YticmemgehllacaaGreatDoor
end
namespace Go.Proofs.YticmemgehllacaaGreatDoor
open Go Go.Eng
theorem key_bad{k:Ky}(h5:g17 k=some ([],290))(h6:g37 k=some ([],290)):KeyOk k:=
 ⟨[],290,h5,h6,(by intro c hc;cases hc)⟩
theorem g68_eq(c:Int)(S:ByteArray)(N:Int)(al sh ct:Bool):g68 (c,S,N,al,sh,ct)=some (!al&&(!sh&&!ct)):=by
 cases al<;>cases sh<;>cases ct<;>rfl
theorem g134_no{c:Int}(h:c≠8∧c≠9∧c≠10∧c≠11∧c≠12∧c≠13):g134 c=some 0:=by
 simp[g134,h]
theorem g135_no{c:Int}{S:ByteArray}{N:Int}{al sh ct:Bool}(h:c≠18∧c≠7∧c≠14∧c≠15):g135 (c,S,N,al,sh,ct)=some 0:=by
 simp[g135,jn,h]
theorem g78_no{c:Int}(h:c≠8∧c≠9∧c≠10∧c≠11∧c≠12∧c≠13):g78 c=some 0:=by
 simp[g78,h]
theorem g71_no{c:Int}{S:ByteArray}{N:Int}{al sh ct:Bool}(h:c≠8∧c≠9∧c≠10∧c≠11∧c≠12∧c≠13)(h':c≠18∧c≠7∧c≠14∧c≠15)(h4:c≠4):g71 (c,S,N,al,sh,ct)=some (lit []):=by
 simp[g71,jn,g134_no h,g135_no h',g68_eq,h4]
theorem g37_seq{c:Int}{S:ByteArray}{N:Int}{al sh ct:Bool}(h12:g67 (c,S,N,al,sh,ct)=some [])(h:c≠16)(h16:g71 (c,S,N,al,sh,ct)=some (lit [])):g37 (c,S,N,al,sh,ct)=some ([],290):=by
 simp[g37,h12,h,h16]
theorem g17_seq{c:Int}{S:ByteArray}{N:Int}{al sh ct:Bool}(h:c≠1∧c≠2∧c≠3∧c≠6∧c≠17∧c≠16∧c≠4)(h11:g40 (c,S,N,al,sh,ct)=some (lit [])):g17 (c,S,N,al,sh,ct)=some ([],290):=by
 simp[g17,jn,h,h11]
theorem g17_plain{c:Int}{S:ByteArray}{N:Int}{al sh ct:Bool}(h:c=1∨c=2∨c=3∨c=6∨c=17)(h9:g38 (c,S,N,al,sh,ct)=some (lit [])):g17 (c,S,N,al,sh,ct)=some ([],290):=by
 rcases h with rfl|rfl|rfl|rfl|rfl<;>simp[g17,jn,h9]
theorem g67_no{c:Int}{S:ByteArray}{N:Int}{al sh ct:Bool}(h:c≠1∧c≠2∧c≠3∧c≠6∧c≠17):g67 (c,S,N,al,sh,ct)=some []:=by
 simp[g67,h]
theorem g77_ex(c:Int)(S:ByteArray)(N:Int)(al sh ct:Bool):∃m,g77 (c,S,N,al,sh,ct)=some m:=by
 have e:∀c S N,g77 (c,S,N,al,sh,ct)=g77 (0,⟨#[]⟩,0,al,sh,ct):=λ_ _ _=>rfl;rw[e]
 have:∀al sh ct,(g77 (0,⟨#[]⟩,0,al,sh,ct)).isSome=true:=by
  intro al sh ct;cases al<;>cases sh<;>cases ct<;>kernel_rfl
 obtain⟨m,hm⟩:=Option.isSome_iff_exists.1 (this al sh ct);exact⟨m,hm⟩
theorem key_none{c:Int}{S:ByteArray}{N:Int}{al sh ct:Bool}(h:c≠1∧c≠2∧c≠3∧c≠6∧c≠17∧c≠16∧c≠4)(hl:c≠8∧c≠9∧c≠10∧c≠11∧c≠12∧c≠13)
  (h30:g79 (c,S,N,al,sh,ct)=some 0) (h38:g135 (c,S,N,al,sh,ct)=some 0):KeyOk (c,S,N,al,sh,ct):=by
 have h12:g67 (c,S,N,al,sh,ct)=some []:=g67_no ws
 have h16:g71 (c,S,N,al,sh,ct)=some (lit []):=by
  simp[g71,jn,g134_no hl,h38,g68_eq,h]
 obtain⟨m,h28⟩:=g77_ex c S N al sh ct
 have h11:g40 (c,S,N,al,sh,ct)=some (lit []):=by
  simp[g40,h28,g78_no hl,h30]
 exact key_bad (g17_seq ws h11) (g37_seq h12 ws h16)
theorem str_bytes(s:ByteArray):zW (z6 s)=s:=by
 apply ByteArray.ext;unfold zW z6;apply Array.ext';simp only[List.map_map]
 conv=>rhs;rw[←List.map_id s.data.toList]
 refine List.map_congr_left λc _=>?_;simp
theorem bytes_byt(s:ByteArray):Byt (z6 s):=λc hc=>by
 obtain⟨x,_,rfl⟩:=List.mem_map.1 hc;have:=x.toNat_lt;omega
theorem bytes_app(a b:ByteArray):z6 (a++b)=z6 a++z6 b:=by
 unfold z6;rw[ByteArray.data_append,Array.toList_append,List.map_append]
theorem byte0(s:ByteArray):((s.data.toList[(0:Int).toNat]?.getD 0).toNat:Int)=(z6 s).getD 0 0:=by
 unfold z6;show((s.data.toList[0]?.getD 0).toNat:Int)=_;cases s.data.toList<;>simp
theorem toList_bytes{s:ByteArray}{l:List UInt8}:s.data.toList=l↔z6 s=l.map λc=>(c.toNat:Int):=by
 unfold z6;constructor
 ·intro h;rw[h]
 intro h;refine(List.map_inj_right λa b h=>?_).1 h;exact UInt8.toNat_inj.1 ws
theorem enc_head{r:Int}(h:isR r):∃b t,enc r=b::t∧(r<128→b=r∧t=[])∧(¬r<128→192≤b∧b≤255):=by
 obtain⟨h0,h1,_⟩:=h;unfold enc;by_cases a:r<128
 ·exact⟨r,[],by rw[if_pos a],λ_=>⟨rfl,rfl⟩,λh=>(h a).elim⟩
 rw[if_neg a];split
 ·exact⟨_,_,rfl,λh=>(a h).elim,λ_=>by omega⟩
 split
 ·exact⟨_,_,rfl,λh=>(a h).elim,λ_=>by omega⟩
 exact⟨_,_,rfl,λh=>(a h).elim,λ_=>by omega⟩
theorem enc_inj{r r':Int}(hr:isR r)(hr':isR r')(h:enc r=enc r'):r=r':=by
 have a:=nx_enc hr [];have b:=nx_enc hr' [];rw[h] at a;exact congrArg (λx=>x.1) (a.symm.trans b)
def typed(r:Int):Prop:=isR r∧32≤r∧r≠127
theorem one_iff{l:List Int}(hl:Byt l){N:Nat}(hN:ps l N=l.length):(tx l N=l∧N=1)↔∃r,isR r∧l=enc r:=by
 constructor
 ·rintro⟨h,rfl⟩;refine⟨rn l 0,rn_R hl 0,?_⟩
  conv=>lhs;rw[←h]
  rw[tx_succ l 0];rfl
 rintro⟨r,hr,rfl⟩;have h0:=nx_enc hr [];rw[List.append_nil] at h0;have h1:stp (enc r)=(r,((enc r).length:Int)):=by rw[stp_else (by rw[h0];simp),h0]
 have h2:ps (enc r) 1=(enc r).length:=by
  show ps (enc r) 0+(stp ((enc r).drop (ps (enc r) 0))).2.toNat=_;show 0+(stp ((enc r).drop 0)).2.toNat=_;rw[List.drop_zero,h1];simp
 have h3:N=1:=ps_inj hl (hN.trans h2.symm);subst h3;refine⟨?_,rfl⟩
 have h4:rn (enc r) 0=r:=by
  show(stp ((enc r).drop 0)).1=r;rw[List.drop_zero,h1]
 have h5:=tx_succ (enc r) 0;rw[h4] at h5;exact h5
theorem g72_gives{S:ByteArray}(hn:S.size≤1000000):zf (g72 S) λv=>((∃r,typed r∧z6 S=enc r)→v=S)∧((¬ ∃r,typed r∧z6 S=enc r)→v=lit []):=by
 have hb:=bytes_byt S;have hln:=zq S;obtain⟨⟨_,_⟩,_,N,hN,_⟩:=ref_runes hb ws;have e1:=valid_gives hb ws hN;have e2:=count_gives hb ws hN;rw[str_bytes] at e1 e2;have io:=one_iff hb hN;unfold g72;refine y3 e1 λv hv=>g_if (λh=>z7 ?_) λh=>?_
 ·have:¬tx (z6 S) N=z6 S:=λe=>h (hv.2 e);exact⟨λ⟨r,hr,he⟩=>(this (io.2 ⟨r,hr.1,he⟩).1).elim,λ_=>rfl⟩
 have ht:tx (z6 S) N=z6 S:=hv.1 wX;refine y3 e2 λw hw=>g_if (λh1=>z7 ?_) λh1=>?_
 ·refine⟨λ⟨r,hr,he⟩=>?_,λ_=>rfl⟩;have:=(io.2 ⟨r,hr.1,he⟩).2;omega
 have hN1:N=1:=by omega
 obtain⟨r,hr,he⟩:=io.1 ⟨ht,hN1⟩;obtain⟨b,t,hbt,hlo,hhi⟩:=enc_head hr;have hsz:1≤S.size:=by rw[←hln,he,hbt];simp
 have hg:(z6 S).getD 0 0=b:=by rw[he,hbt];rfl
 rw[byte0,hg,he];have uq:(∃r',typed r'∧enc r=enc r')→32≤r∧r≠127:=λ⟨r',hr',h'⟩=>by rw[enc_inj hr hr'.1 h'];exact hr'.2
 refine g_ck ws (g_if (λh=>z7 ⟨λh'=>?_,λ_=>rfl⟩) λh=>g_ck ws (g_if (λh2=>z7 ⟨λh'=>?_,λ_=>rfl⟩) λh2=>z7 ⟨λ_=>rfl,λh'=>?_⟩))
 ·have:=uq h';by_cases q:r<128
  ·have:=(hlo q).1;omega
  have:=hhi q;omega
 ·have:=uq h';by_cases q:r<128
  ·have:=(hlo q).1;omega
  have:=hhi q;omega
 refine(h' ⟨r,⟨hr,?_,?_⟩,rfl⟩).elim
 ·by_cases q:r<128
  ·have:=(hlo q).1;omega
  omega
 intro e;have:=(hlo ws).1;omega
theorem g67_gives{S:ByteArray}{N:Int}{al sh ct:Bool}(hn:S.size≤100000):zf (g67 (1,S,N,al,sh,ct)) λv=>((N=0∧∃r,typed r∧z6 S=enc r)→v=z6 S)∧((¬(N=0∧∃r,typed r∧z6 S=enc r))→v=[]):=by
 have hb:=bytes_byt S;have hln:=zq S;have e0:z6 (S++lit [0])=z6 S++[0]:=bytes_app _ _
 have hb0:Byt (z6 S++[0]):=λc hc=>by
  rcases List.mem_append.1 hc with h|h
  ·exact hb c h
  simp at h;omega
 have hl0:(lit [0]).size=1:=rfl
 have key:(∃r,typed r∧z6 S=enc r)→(nx (z6 S++[0])).2.2=false∧(nx (z6 S++[0])).2.1=(S.size:Int)∧32≤(nx (z6 S++[0])).1∧(nx (z6 S++[0])).1≠127∧enc (norm (nx (z6 S++[0])).1)=z6 S:=λ⟨r,hr,he⟩=>by
  rw[←hln,he,nx_enc hr.1 [0]];exact⟨rfl,rfl,hr.2.1,hr.2.2,by rw[norm_of hr.1]⟩
 unfold g67;refine g_t rfl (g_ck wM (g_ck ?_ ?_))
 ·show(S++lit [0]).size≤_;rw[ByteArray.size_append];omega
 show zf ((g129 (z6 (S++lit [0]))).bind _) _;rw[e0];refine zh (g129_eq hb0 (by rw[List.length_append,hln];simp;omega)) ?_;refine g_jn (λv=>v=true↔(N=0∧∃r,typed r∧z6 S=enc r)) (λk hk=>?_) λv hv=>?_
 ·refine g_if (λh1=>?_) λh1=>hk _ ⟨λh=>absurd h Bool.false_ne_true,λh=>(h1 h.1).elim⟩;have h1:N=0:=h1;refine g_if (λh2=>?_) λh2=>hk _ ⟨λh=>absurd h Bool.false_ne_true,λh=>(h2 (by rw[(key h.2).1];simp)).elim⟩;refine g_if (λh3=>?_) λh3=>hk _ ⟨λh=>absurd h Bool.false_ne_true,λh=>(h3 (key h.2).2.1).elim⟩;refine g_if (λh4=>?_) λh4=>hk _ ⟨λh=>absurd h Bool.false_ne_true,λh=>(h4 (key h.2).2.2.1).elim⟩;refine g_if (λh5=>?_) λh5=>hk _ ⟨λh=>absurd h Bool.false_ne_true,λh=>(h5 (key h.2).2.2.2.1).elim⟩;have hiR:=norm_r (nx (z6 S++[0])).1;refine zh (g130_eq _) (g_ck (enc_byt hiR) (hk _ ?_));rw[decide_eq_true_iff];show(zW (enc (norm (nx (z6 S++[0])).1))).data.toList=S.data.toList↔_;have e3:=str_eq (enc_byt hiR) hb;rw[str_bytes] at e3;rw[e3];refine⟨λh=>⟨h1,norm (nx (z6 S++[0])).1,⟨hiR,?_⟩,h.symm⟩,λh=>(key h.2).2.2.2.2⟩;have e4:=nx_enc hiR [0];rw[h] at e4;have e5:(nx (z6 S++[0])).1=norm (nx (z6 S++[0])).1:=congrArg (λx=>x.1) e4;rw[←e5];exact⟨h4,h5⟩
 refine g_if (λh=>g_ck wM (z7 ⟨λ_=>rfl,λh'=>(h' (hv.1 h)).elim⟩)) λh=>z7 ⟨λh'=>(h (hv.2 h')).elim,λ_=>rfl⟩
theorem typed_head{r:Int}(h:typed r):∃b t,enc r=b::t∧32≤b∧b≠127∧(b=91→r=91)∧(b=79→r=79):=by
 obtain⟨b,t,e,h1,h2⟩:=enc_head h.1;refine⟨b,t,e,?_⟩;obtain⟨_,h3,h4⟩:=h;by_cases q:r<128
 ·have:=h1 q;omega
 have:=h2 q;omega
theorem lit_iff(S:ByteArray)(x:UInt8):S.data.toList=(lit [x]).data.toList↔z6 S=[(x.toNat:Int)]:=toList_bytes
theorem key_text{S:ByteArray}{N:Int}{al sh ct:Bool}(hn:S.size≤100000):KeyOk (1,S,N,al,sh,ct):=by
 obtain⟨v,h23,v1,v2⟩:=g72_gives (S:=S) ws;obtain⟨u,h12,u1,u2⟩:=g67_gives (S:=S) (N:=N) (al:=al) (sh:=sh) (ct:=ct) ws;have hg16:g71 (1,S,N,al,sh,ct)=some (lit []):=g71_no ws ws ws;have hln:=zq S;by_cases hN:N=0;rotate_left
 ·have h9:g38 (1,S,N,al,sh,ct)=some (lit []):=by
   cases sh<;>cases ct<;>simp[g38,hN]
  have:u=[]:=u2 λh=>hN h.1;subst this;exact key_bad (g17_plain ws h9) (g37_seq h12 ws hg16)
 subst hN;by_cases hT:∃r,typed r∧z6 S=enc r;rotate_left
 ·have:u=[]:=u2 λh=>hT h.2;subst this;have:v=lit []:=v2 hT;subst this
  have h9:g38 (1,S,0,al,sh,ct)=some (lit []):=by
   cases sh<;>cases ct<;>cases al<;>simp[g38,jn,h23]
  exact key_bad (g17_plain ws h9) (g37_seq h12 ws hg16)
 have:v=S:=v1 hT;subst this;have:u=z6 v:=u1 ⟨rfl,hT⟩;subst this;obtain⟨r,hr,he⟩:=hT;obtain⟨b,t,hbt,_,_,q91,q79⟩:=typed_head hr;have hl:=enc_len (v:=r)
 have hS0:v.data.toList≠(lit []).data.toList:=λe=>by
  have:=toList_bytes.1 e;rw[he,hbt] at this;cases this
 have hne:z6 v≠[]:=by rw[he,hbt];simp
 have hpos:0<((z6 v).length:Int):=by rw[he];omega
 cases hs:(sh||ct) with
 |true=>
  have h9:g38 (1,v,0,al,sh,ct)=some (lit []):=by
   cases sh
   ·have:ct=true:=by simpa using hs
    subst this;simp[g38]
   simp[g38]
  refine key_bad (g17_plain ws h9) ?_;unfold g37;refine(g_eq (a:=(([]:List Int),(290:Int))) ?_);refine zh h12 (g_t hpos (g_jn (λw=>w=true) (λk hk=>?_) λw hw=>g_t hw (z7 rfl)));refine g_if (λ_=>hk _ rfl) λh1=>g_t ?_ (hk _ rfl);cases sh
  ·simpa using hs
  exact(h1 rfl).elim
 |false=>
 simp only[Bool.or_eq_false_iff] at hs;obtain⟨rfl,rfl⟩:=hs
 cases al with
 |false=>
  have h9:g38 (1,v,0,false,false,false)=some v:=by
   simp only[g38,jn,h23];simp[hS0];intro h;exact(hS0 (by rw[h])).elim
  have h5:g17 (1,v,0,false,false,false)=some (z6 v,0):=by
   refine g_eq ?_;unfold g17;refine g_jn (λw=>w=v) (λk hk=>?_) λw hw=>?_
   ·exact g_jn (λw=>w=true) (λk hk=>g_t rfl (hk _ rfl)) λw hw=>g_t hw (zh h9 (hk _ rfl))
   subst hw;exact g_f hS0 (g_ck ws (z7 rfl))
  have h6:g37 (1,v,0,false,false,false)=some (z6 v,0):=by
   refine g_eq ?_;unfold g37;refine zh h12 (g_t hpos (g_jn (λw=>w=false) (λk hk=>g_f wv (g_f wv (g_f wv (hk _ rfl)))) λw hw=>?_));subst hw;exact g_f wv (g_f wv (z7 rfl))
  exact⟨_,_,h5,h6,bytes_byt v⟩
 |true=>
  by_cases hx:v.data.toList=(lit [91]).data.toList∨v.data.toList=(lit [79]).data.toList
  ·have h9:g38 (1,v,0,true,false,false)=some (lit []):=by
    refine g_eq ?_;unfold g38;refine g_f wv (g_f wv (g_f wv (g_jo (g_t rfl (g_t rfl (g_if (λ_=>z7 rfl) λh=>g_t ?_ (z7 rfl)))))));rcases hx with hx|hx
    ·exact(h hx).elim
    exact hx
   refine key_bad (g17_plain ws h9) ?_;refine g_eq ?_;unfold g37;refine zh h12 (g_t hpos (g_jn (λw=>w=true) (λk hk=>g_f wv (g_f wv (g_t rfl (g_t rfl (g_if (λ_=>hk _ rfl) λh=>hk _ ?_))))) λw hw=>g_t hw (z7 rfl)));rw[decide_eq_true_iff];rcases hx with hx|hx
   ·exact(h hx).elim
   exact hx
  have hx1:¬v.data.toList=(lit [91]).data.toList:=λh=>hx (.inl h);have hx2:¬v.data.toList=(lit [79]).data.toList:=λh=>hx (.inr h)
  have r91:r≠91:=λe=>by
   subst e;exact hx1 ((lit_iff _ _).2 he)
  have r79:r≠79:=λe=>by
   subst e;exact hx2 ((lit_iff _ _).2 he)
  have h9:g38 (1,v,0,true,false,false)=some (lit [27]++v):=by
   refine g_eq ?_;unfold g38;refine g_f wv (g_f wv (g_f wv (g_jn (λw=>w=v) (λk hk=>g_t rfl (g_t rfl (g_f hx1 (g_f hx2 (zh h23 (hk _ rfl)))))) λw hw=>?_)));subst hw;refine g_jn (λ_=>True) (λk hk=>g_f hS0 (g_f wv (hk _ trivial))) λ_ _=>g_t rfl (g_ck ?_ (z7 rfl));have:(lit [27]).size=1:=rfl;omega
  have h5:g17 (1,v,0,true,false,false)=some (27::z6 v,0):=by
   refine g_eq ?_;unfold g17;have e27:z6 (lit [27]++v)=27::z6 v:=bytes_app _ _;refine g_jn (λw=>w=lit [27]++v) (λk hk=>?_) λw hw=>?_
   ·exact g_jn (λw=>w=true) (λk hk=>g_t rfl (hk _ rfl)) λw hw=>g_t hw (zh h9 (hk _ rfl))
   subst hw;refine g_f ?_ (g_ck ?_ (z7 (by rw[e27])))
   ·intro e;have:=toList_bytes.1 e;rw[e27] at this;cases this
   have:(lit [27]).size=1:=rfl;rw[ByteArray.size_append];omega
  have h6:g37 (1,v,0,true,false,false)=some (27::z6 v,0):=by
   refine g_eq ?_;unfold g37;refine zh h12 (g_t hpos (g_jn (λw=>w=false) (λk hk=>g_f wv (g_f wv (g_t rfl (g_t rfl (g_f hx1 (hk _ (by rw[decide_eq_false_iff_not];exact hx2))))))) λw hw=>?_));subst hw;exact g_f wv (g_t rfl (g_ck ws (z7 rfl)))
  refine⟨_,_,h5,h6,λc hc=>?_⟩;rcases List.mem_cons.1 hc with rfl|hc
  ·omega
  exact bytes_byt v c hc
end Go.Proofs.YticmemgehllacaaGreatDoor
section
namespace Go.Proofs.YticmemgehllacaaGreatDoor
open Go Go.Eng
open KM (bl)
noncomputable section
def sgs:List Nat:=((List.range 26).map (97 + ·))++[64,91,92,93,94,95]
def finK(a s t:Bool):List Ky:=(([0,2,3,4,5,6,7,8,9,10,11,12,13,14,15]:List Int).map λc=>(c,⟨#[]⟩,0,a,s,t))++(sgs.map λx:Nat=>(17,⟨#[UInt8.ofNat x]⟩,0,a,s,t))++((List.range 13).map λn:Nat=>(18,⟨#[]⟩,(n:Int),a,s,t))++(if a||(s||t) then[(16,⟨#[]⟩,0,a,s,t)] else[])
theorem fin_run:∀a s t,(finK a s t).all runKy=true:=by
 have h:((finK false false false).all runKy&&((finK false false true).all runKy&&((finK false true false).all runKy&&((finK false true true).all runKy&&((finK true false false).all runKy&&((finK true false true).all runKy&&((finK true true false).all runKy&&(finK true true true).all runKy)))))))=true:=by kernel_rfl
 obtain⟨h1,h⟩:=Bool.and_eq_true_iff.1 h;obtain⟨h2,h⟩:=Bool.and_eq_true_iff.1 h;obtain⟨h3,h⟩:=Bool.and_eq_true_iff.1 h;obtain⟨h4,h⟩:=Bool.and_eq_true_iff.1 h;obtain⟨h5,h⟩:=Bool.and_eq_true_iff.1 h;obtain⟨h6,h⟩:=Bool.and_eq_true_iff.1 h;obtain⟨h7,h8⟩:=Bool.and_eq_true_iff.1 h;intro a s t
 match a,s,t with
 |false,false,false=>exact h1
 |false,false,true=>exact h2
 |false,true,false=>exact h3
 |false,true,true=>exact h4
 |true,false,false=>exact h5
 |true,false,true=>exact h6
 |true,true,false=>exact h7
 |true,true,true=>exact h8
theorem fin_ok{a s t:Bool}{k:Ky}(h:k∈finK a s t):KeyOk k:=runKy_ok (List.all_eq_true.1 (fin_run a s t) k h)
theorem valid0:g75 ⟨#[]⟩=some true:=by
 obtain⟨r,h1,h2⟩:=valid_gives (l:=[]) (N:=0) (λc hc=>by cases hc) wv rfl;exact h1.trans (congrArg some (h2.2 rfl))
theorem text0:g69 []=some ⟨#[]⟩:=by
 have hl:Byt []:=λc hc=>by cases hc
 obtain⟨N,h1,h2⟩:=ref_text hl wv;have:=ps_ge hl N;rw[h1] at this;have:N=0:=Nat.le_zero.1 this;subst this;exact h2
theorem stands0:g70 (lit [27,91,50,48,49,126]) ⟨#[]⟩=some false:=by
 refine g_eq ?_;unfold g70;refine g_jo (y3 (Ω:=λo=>o=.inr ()) (yf (λt:Int=>t=0) (λ_=>0) (λt ht=>?_) rfl) λo ho=>?_)
 ·subst ht;exact g_ck (show(-9223372036854775808:Int)≤0+6∧(0+6:Int)≤9223372036854775807 by omega) (g_f (show ¬((0:Int)+6≤0) by omega) (zP rfl))
 subst ho;exact z7 rfl
theorem paste0:KeyOk (16,⟨#[]⟩,0,false,false,false):=by
 refine⟨z6 (((lit [27,91,50,48,48,126])++⟨#[]⟩)++(lit [27,91,50,48,49,126])),0,?_,?_,?_⟩
 ·have h39:g39 (16,⟨#[]⟩,0,false,false,false)=some (((lit [27,91,50,48,48,126])++⟨#[]⟩)++(lit [27,91,50,48,49,126])):=by
   unfold g39;dsimp only;rw[valid0];kernel_rfl
  refine g_eq ?_;unfold g17;refine g_jn (λv=>v=((lit [27,91,50,48,48,126])++⟨#[]⟩)++(lit [27,91,50,48,49,126])) (λk hk=>g_jn (λv=>v=false) (λk2 hk2=>g_f ww (g_f ww (g_f ww (g_f ww (hk2 _ rfl))))) λv hv=>?_) λv hv=>?_
  ·subst hv;exact g_f ww (g_t rfl (zh h39 (hk _ rfl)))
  subst hv;exact g_f ww (g_ck ww (z7 rfl))
 ·unfold g37;dsimp only;rw[show z6 (⟨#[]⟩:ByteArray)=[] from rfl,text0,stands0];kernel_rfl
 intro c hc;obtain⟨b,_,rfl⟩:=List.mem_map.1 hc;have:=b.toNat_lt;omega
theorem sgn_in:∀c:Fin 256,KM.sgn [UInt8.ofNat c.val]=true→c.val∈sgs:=by decide +kernel
theorem key_spl{c:Int}{S:List UInt8}{N:Int}{al sh ct:Bool}(hk:KM.ckK c S N=true)(hS:¬(c=1∧al=true)→¬c=17→S=[]):KeyOk (c,bl S,N,al,sh,ct):=by
 obtain⟨h1,h2⟩:=Bool.and_eq_true_iff.1 hk;have h1:=of_decide_eq_true h1;by_cases q1:c=1
 ·subst q1;rw[if_pos (.inl rfl)] at h2;have:=(of_decide_eq_true h2).1;exact key_text (by rw[KM.bl_size];omega)
 by_cases q17:c=17
 ·subst q17;rw[if_neg ws,if_pos rfl,Bool.and_eq_true_iff] at h2;obtain⟨h3,h4⟩:=h2;have h4:=of_decide_eq_true h4;subst h4
  match S,h3 with
  |[x],h3=>
   have:=sgn_in ⟨x.toNat,x.toNat_lt⟩;dsimp only at this;rw[UInt8.ofNat_toNat] at this;have hx:=this h3;refine fin_ok (a:=al) (s:=sh) (t:=ct) (List.mem_append_left _ (List.mem_append_left _ (List.mem_append_right _ (List.mem_map.2 ⟨x.toNat,hx,?_⟩))));rw[UInt8.ofNat_toNat];rfl
 obtain rfl:=hS (λe=>q1 e.1) q17;by_cases q18:c=18
 ·subst q18;rw[if_neg ws,if_neg ws,if_pos rfl] at h2;obtain⟨_,n1,n2⟩:=of_decide_eq_true h2;exact fin_ok (a:=al) (s:=sh) (t:=ct) (List.mem_append_left _ (List.mem_append_right _ (List.mem_map.2 ⟨N.toNat,List.mem_range.2 ws,by rw[Int.toNat_of_nonneg ws];rfl⟩)))
 have hN:N=0:=by
  by_cases q:c=1∨c=16
  ·rw[if_pos q] at h2;exact(of_decide_eq_true h2).2
  rw[if_neg q,if_neg q17,if_neg q18] at h2;exact(of_decide_eq_true h2).2
 subst hN;by_cases q16:c=16
 ·subst q16;by_cases hf:(al||(sh||ct))=true
  ·exact fin_ok (a:=al) (s:=sh) (t:=ct) (List.mem_append_right _ (by rw[if_pos hf];exact List.mem_singleton.2 rfl))
  obtain⟨rfl,rfl,rfl⟩:al=false∧sh=false∧ct=false:=by revert hf;cases al<;>cases sh<;>cases ct<;>simp
  exact paste0
 refine fin_ok (a:=al) (s:=sh) (t:=ct) (List.mem_append_left _ (List.mem_append_left _ (List.mem_append_left _ (List.mem_map.2 ⟨c,?_,rfl⟩))));simp only[List.mem_cons,List.not_mem_nil,or_false];omega
theorem key_zero:KeyOk (0,bl [],0,false,false,false):=fin_ok (a:=false) (s:=false) (t:=false) (List.mem_append_left _ (List.mem_append_left _ (List.mem_append_left _ (List.mem_map.2 ⟨0,by simp,rfl⟩))))
end
end Go.Proofs.YticmemgehllacaaGreatDoor
end
namespace Go.Proofs.YticmemgehllacaaGreatDoor
open Go Go.Eng
section
theorem dec1{n:Nat}(h:n<10):g55a (n:Int)=some (ba (decN n)):=by
 refine g_eq ?_;unfold g55a;refine g_f ws (g_t ws ?_);have hw:IntKind.wrap .u8 (48+(n:Int))=((48+n:Nat):Int):=by rw[IntKind.wrap_u8];omega
 rw[hw];refine zJ ws (g_ck (λc hc=>?_) (z7 ?_))
 ·rcases List.mem_cons.1 hc with rfl|hc
  ·omega
  cases hc
 rw[str1];unfold decN;rw[if_pos h]
theorem dec2{n:Nat}(h:n<100):g55b (n:Int)=some (ba (decN n)):=by
 refine g_eq ?_;unfold g55b;exact dec_step ws λ_=>dec1 ws
theorem dec_eq{n:Nat}(h:n<1000):g55 (n:Int)=some (ba (decN n)):=by
 refine g_eq ?_;unfold g55;exact dec_step h λ_=>dec2 ws
theorem seen_eq(s:ByteArray)(hs:s.size≤140737488355328):g34 s=some (ptP s.data.toList):=by
 have hz:=tl_len s;generalize hl:s.data.toList=l at hz;refine g_eq ?_;unfold g34 ptP;rw[hl];refine g_jo ?_;refine y3 (Ω:=λo=>l.all (λc=>decide (32≤c.toNat∧c.toNat≤126))=sm o (λ_=>false) (λ_=>true)) (yf (λt:Int=>∃i:Nat,t=i∧i≤l.length∧l.all (λc=>decide (32≤c.toNat∧c.toNat≤126))=(l.drop i).all (λc=>decide (32≤c.toNat∧c.toNat≤126))) (λt=>l.length-t.toNat) ?_ ⟨0,rfl,Nat.zero_le _,rfl⟩) ?_
 ·rintro _ ⟨i,rfl,hi,hv⟩;refine g_if (λhr=>?_) λhr=>?_
  ·obtain⟨c,h3,h4⟩:=yd (l:=l) (i:=i) ws;have e:((l[((i:Int)).toNat]?.getD 0).toNat:Int)=c.toNat:=by rw[Int.toNat_natCast,h4];rfl
   rw[h3,List.all_cons] at hv;rw[e];refine g_ck ws (g_if (λh=>?_) λh=>?_)
   ·rw[decide_eq_false ws,Bool.false_and] at hv;exact zP hv
   refine g_ck ws (g_if (λh=>?_) λh=>?_)
   ·rw[decide_eq_false ws,Bool.false_and] at hv;exact zP hv
   rw[decide_eq_true ws,Bool.true_and] at hv;exact zJ ws (g_go ⟨i+1,by omega,by omega,hv⟩ wB)
  have:l.drop i=[]:=by rw[List.drop_eq_nil_iff];omega
  rw[this] at hv;exact zP hv
 intro o ho;rw[ho];refine g_sm (λb hb=>?_) λc hc=>?_
 ·subst hb;exact z7 rfl
 subst hc;refine z7 ?_;show decide (¬l=(lit []).data.toList)=(true&&decide (l≠[]));rfl
open KM (cp bl)
theorem behind_of(s p:ByteArray):g32 s p=(g65 s p).map λr=>if r.2=true then r else(lit [],false):=by
 unfold g32 g65 ck;by_cases h1:(s.size:Int)<p.size
 ·rw[if_pos h1,if_pos h1];rfl
 have e1:0≤(0:Int)∧(0:Int)≤(p.size:Int)∧(p.size:Int)≤s.size:=by omega
 have e2:0≤(p.size:Int)∧(p.size:Int)≤s.size∧(s.size:Int)≤s.size:=by omega
 rw[if_neg h1,if_neg h1,if_pos e1,if_pos e1,if_pos e2];by_cases h2:¬((s.extract (0:Int).toNat (p.size:Int).toNat).data.toList=p.data.toList)
 ·rw[if_pos h2,if_pos h2];rfl
 rw[if_neg h2,if_neg h2];rfl
theorem behind_eq(s:ByteArray)(p:List UInt8):g32 s (lit p)=some (if (cp s.data.toList p).2=true then ba (cp s.data.toList p).1 else lit [],(cp s.data.toList p).2):=by
 rw[behind_of,KM.begins_eq];dsimp only[Option.map];cases(cp s.data.toList p).2<;>rfl
theorem hx_spec:∀c:Fin 256,hxd (UInt8.ofNat c.val)=(if 48≤c.val∧c.val≤57 then(c.val:Int)-48 else if 97≤c.val∧c.val≤102 then(c.val:Int)-97+10 else -1):=by decide +kernel
theorem rhex_eq(c:UInt8):g64 (c.toNat:Int)=some (hxd c):=by
 have h:=hx_spec ⟨c.toNat,u8_lt c⟩;dsimp only at h;rw[UInt8.ofNat_toNat] at h;rw[h];have hc:=u8_lt c;refine g_eq ?_;unfold g64;refine g_jn (λv=>v=decide (48≤c.toNat∧c.toNat≤57)) (λk hk=>?_) λv hv=>?_
 ·exact g_if (λq=>hk _ (decide_eq_decide.2 ws)) λq=>hk _ (decide_eq_false ws).symm
 subst hv;refine g_if (λq=>?_) λq=>?_
 ·have q:=of_decide_eq_true q;rw[if_pos q];exact g_u8 ws (zJ ws (z7 rfl))
 have q:¬(48≤c.toNat∧c.toNat≤57):=λe=>q (decide_eq_true e);rw[if_neg q];refine g_if (λq2=>g_if (λq3=>?_) λq3=>?_) λq2=>?_
 ·rw[if_pos ws];exact g_u8 ws (zJ ws (zJ ws (z7 rfl)))
 ·rw[if_neg ws];exact z7 rfl
 rw[if_neg ws];exact z7 rfl
theorem rside_eq(s:ByteArray):g63 s=some (rsd s.data.toList):=by
 have hz:=tl_len s;generalize hl:s.data.toList=l at hz;refine g_eq ?_;unfold g63;rw[hl];refine g_jn (λv=>vl 0 l=some v∧l.length≤3) (λk hk=>?_) λv hv=>?_
 ·refine y3 (Ω:=λo=>(∃u,o=.inl u∧(3<l.length∨vl 0 l=none))∨∃v,o=.inr v∧vl 0 l=some v∧l.length≤3) (yf (λt:Int×Int=>∃i:Nat,t.2=i∧i≤l.length∧i≤3∧0≤t.1∧t.1<10^i∧vl 0 l=vl t.1 (l.drop i)) (λt=>l.length-t.2.toNat) ?_ ⟨0,rfl,Nat.zero_le _,by omega,Int.le_refl _,by decide,rfl⟩) ?_
  ·rintro⟨v,_⟩ ⟨i,rfl,hi,hi3,hv0,hv1,hv⟩;dsimp only at hv0 hv1 hv ⊢;refine g_if (λhr=>?_) λhr=>?_
   ·obtain⟨c,h3,h4⟩:=yd (l:=l) (i:=i) ws;have e:((l[((i:Int)).toNat]?.getD 0).toNat:Int)=c.toNat:=by rw[Int.toNat_natCast,h4];rfl
    have hc:=u8_lt c;rw[h3,vl] at hv;rw[e];refine g_ck ws (g_if (λh=>?_) λh=>?_)
    ·rw[if_pos (.inl ws)] at hv;exact zP (.inl ⟨_,rfl,.inr hv⟩)
    refine g_ck ws (g_if (λh=>?_) λh=>?_)
    ·rw[if_pos (.inr ws)] at hv;exact zP (.inl ⟨_,rfl,.inr hv⟩)
    refine g_if (λh=>zP (.inl ⟨_,rfl,.inl ws⟩)) λh=>?_;rw[if_neg ws] at hv;have hi2:i≤2:=by omega
    have hp:v<1000:=by
     have:(10:Int)^i≤10^2:=by
      rcases(show i=0∨i=1∨i=2 by omega) with h|h|h<;>subst h<;>decide
     omega
    have hp':(10:Int)^(i+1)=10*10^i:=by rw[Int.pow_succ,Int.mul_comm]
    refine zJ ws (g_ck ws (g_u8 ws (zJ ws (zJ ws (zJ ws (g_go ⟨i+1,by show(i:Int)+1=_;omega,by omega,by omega,by show 0≤10*v+((c.toNat:Int)-48);omega,by show 10*v+((c.toNat:Int)-48)<_;rw[hp'];omega,by rw[hv,Int.mul_comm]⟩ wB))))))
   have:l.drop i=[]:=by rw[List.drop_eq_nil_iff];omega
   rw[this,vl] at hv;exact zP (.inr ⟨_,rfl,hv,by omega⟩)
  rintro o (⟨u,rfl,ho⟩|⟨v,rfl,ho,h3⟩)
  ·refine g_sm (λb hb=>z7 ?_) λc hc=>by cases hc
   unfold rsd;rcases ho with h|h
   ·cases vl 0 l with
    |none=>rfl
    |some v=>dsimp only;rw[if_pos (.inl h)]
   rw[h]
  exact g_sm (λb hb=>by cases hb) λc hc=>by cases hc;exact hk _ ⟨ho,h3⟩
 obtain⟨h1,h2⟩:=hv;have e:rsd l=if 3<l.length∨v<1∨500<v∨¬decN v.toNat=l then 0 else v:=by unfold rsd;rw[h1]
 rw[e];refine g_if (λh=>by rw[if_pos (.inr (.inl h))];exact z7 rfl) λh3=>?_;refine g_if (λh=>by rw[if_pos (.inr (.inr (.inl h)))];exact z7 rfl) λh4=>?_;obtain⟨n,rfl⟩:=Int.eq_ofNat_of_zero_le (show 0≤v by omega);refine zh (dec_eq (n:=n) ws) ?_;rw[show(ba (decN n)).data.toList=decN n by simp[ba],Int.toNat_natCast];refine g_if (λh=>by rw[if_pos (.inr (.inr (.inr h)))];exact z7 rfl) λh5=>?_;rw[if_neg (by rintro(h|h|h|h)<;>first|omega|exact h5 h)];exact z7 rfl
end
end Go.Proofs.YticmemgehllacaaGreatDoor
namespace Go.Proofs.YticmemgehllacaaGreatDoor
open Go Go.Eng
open KM (cp bl keyP Spl ckK)
theorem ba_tl(l:List UInt8):(ba l).data.toList=l:=by simp[ba]
theorem ext_take'(s:ByteArray)(k:Nat):s.extract (0:Int).toNat ((k:Int)).toNat=ba (s.data.toList.take k):=by rw[←ba_of (s.extract _ _),ext_take]
theorem ext_drop'(s:ByteArray)(k:Nat):s.extract ((k:Int)+1).toNat ((s.size:Int)).toNat=ba (s.data.toList.drop (k+1)):=by rw[←ba_of (s.extract _ _),ext_drop]
theorem rsz_call(s:ByteArray)(hs:s.size≤100000):g33 s=some (rszR s.data.toList):=by
 have hz:=tl_len s;have x1:=ext_take' s;have x2:=ext_drop' s;generalize hl:s.data.toList=l at hz x1 x2;refine g_eq ?_;unfold g33;rw[hl];refine g_jo ?_;refine y3 (Ω:=λo=>(∃b,o=.inl b∧rszR l=((3,[],b.1,b.2.1),b.2.2))∨(∃c,o=.inr c∧(32:UInt8) ∉ l)) (yf (λt:Int=>∃i:Nat,t=i∧i≤l.length∧(32:UInt8) ∉ l.take i) (λt=>l.length-t.toNat) ?_ ⟨0,rfl,Nat.zero_le _,by simp⟩) ?_
 ·rintro _ ⟨i,rfl,hi,hv⟩;refine g_if (λhr=>?_) λhr=>?_
  ·obtain⟨c,h3,h4⟩:=yd (l:=l) (i:=i) ws;have e:((l[((i:Int)).toNat]?.getD 0).toNat:Int)=c.toNat:=by rw[Int.toNat_natCast,h4];rfl
   have hc:=u8_lt c;rw[e];refine g_ck ws (g_if (λh=>?_) λh=>?_)
   ·have hc32:c=32:=UInt8.toNat_inj.1 (by show c.toNat=32;omega);subst hc32
    have hcut:Lib.cut l [32]=(l.take i,l.drop (i+1),true):=by
     have hh:l=l.take i++32::l.drop (i+1):=by rw[←h3,List.take_append_drop]
     exact(congrArg (λx=>Lib.cut x [32]) hh).trans (cut_at hv)
    have er:rszR l=((3,[],rsd (l.take i),rsd (l.drop (i+1))),decide (0<rsd (l.take i))&&decide (0<rsd (l.drop (i+1)))):=by unfold rszR;rw[hcut,if_pos rfl]
    rw[x1,x2];refine g_ck ws (zh (rside_eq _) (zJ ws (g_ck ws (zh (rside_eq _) ?_))));rw[ba_tl,ba_tl];refine g_if (λq=>zP (.inl ⟨_,rfl,?_⟩)) λq=>zP (.inl ⟨_,rfl,?_⟩)
    ·rw[er,decide_eq_true q,Bool.true_and]
    rw[er,decide_eq_false q,Bool.false_and]
   refine zJ ws (g_go ⟨i+1,by omega,by omega,?_⟩ wB)
   have:l.take (i+1)=l.take i++[c]:=by
    rw[List.take_add_one,h4];rfl
   rw[this];intro hm;rcases List.mem_append.1 hm with hm|hm
   ·exact hv hm
   rw[←List.mem_singleton.1 hm] at h;exact h ww
  exact zP (.inr ⟨_,rfl,by rwa [List.take_of_length_le ws] at hv⟩)
 rintro o (⟨b,rfl,ho⟩|⟨c,rfl,ho⟩)
 ·exact g_sm (λx hx=>by cases hx;exact z7 ho.symm) λx hx=>by cases hx
 refine g_sm (λx hx=>by cases hx) λx hx=>z7 ?_;unfold rszR;rw[cut_no ho];rfl
theorem pair_wrap{a b:Int}(ha:0≤a∧a≤15)(hb:0≤b∧b≤15):IntKind.wrap .u8 (16*a+b)=16*a+b:=by rw[IntKind.wrap_u8];omega
theorem hxl_even:∀{l:List UInt8}{r:List Int},hxl l=some r→zx r
 |[],r,h=>by cases h;intro c hc;cases hc
 |[_],r,h=>by cases h;intro c hc;cases hc
 |a::b::t,r,h=>by
  rw[hxl] at h;by_cases q:hxd a<0∨hxd b<0
  ·rw[if_pos q] at h;cases h
  rw[if_neg q] at h
  cases ht:hxl t with
  |none=>rw[ht] at h;cases h
  |some r'=>
   rw[ht] at h;cases h;obtain⟨ra1,ra2⟩:=hxd_rng a;obtain⟨rb1,rb2⟩:=hxd_rng b;intro c hc;rcases List.mem_cons.1 hc with rfl|hc
   ·omega
   exact hxl_even ht c hc
theorem pairs_call(s:ByteArray)(hs:s.size≤100000):zf (g35 s) λr=>r.2=(prsR s.data.toList).2∧(r.2=true→r=prsR s.data.toList):=by
 have hz:=tl_len s;generalize hl:s.data.toList=l at hz;unfold g35;rw[hl];have e0:(lit []).data.toList=([]:List UInt8):=rfl;rw[e0]
 have hm:Int.tmod (s.size:Int) 2=((l.length%2:Nat):Int):=by
  have:=Int.tmod_eq_emod_of_nonneg (a:=(s.size:Int)) (b:=2) ws;omega
 rw[hm];refine g_if (λh=>?_) λh0=>?_
 ·refine z7 ⟨?_,λe=>by cases e⟩;unfold prsR;rw[decide_eq_false (λe=>e h),Bool.and_false]
 refine g_if (λh=>?_) λh=>?_
 ·refine z7 ⟨?_,λe=>by cases e⟩;have:hxP l=([],false):=by unfold hxP;rw[if_pos ws]
  unfold prsR;rw[this];rfl
 have hp:prsR l=match hxl l with|none=>(btE [],false)|some r=>(btE r,true):=by
  unfold prsR hxP;rw[if_neg ws,decide_eq_true h0];cases hxl l<;>rfl
 refine g_jo ?_;refine y3 (Ω:=λo=>(∃x,o=.inl x∧hxl l=none)∨(∃r,o=.inr r∧hxl l=some r)) (yf (λt:List Int×Int=>∃i:Nat,t.2=i∧i≤l.length∧i%2=0∧t.1.length≤i∧hxl l=(hxl (l.drop i)).map (t.1 ++ ·)) (λt=>l.length-t.2.toNat) ?_ ⟨0,rfl,Nat.zero_le _,rfl,Nat.zero_le _,by show hxl l=(hxl l).map λx=>x;cases hxl l<;>rfl⟩) ?_
 ·rintro⟨r,_⟩ ⟨i,rfl,hi,hi2,hr,hv⟩;dsimp only at hr hv ⊢;refine zJ ws (g_if (λhq=>?_) λhq=>?_)
  ·obtain⟨a,h3,h4⟩:=yd (l:=l) (i:=i) ws;obtain⟨b,h5,h6⟩:=yd (l:=l) (i:=i+1) ws;have e1:((l[((i:Int)).toNat]?.getD 0).toNat:Int)=a.toNat:=by rw[Int.toNat_natCast,h4];rfl
   have e2:((l[((i:Int)+1).toNat]?.getD 0).toNat:Int)=b.toNat:=by rw[show((i:Int)+1).toNat=i+1 by omega,h6];rfl
   rw[h3,h5,hxl] at hv;rw[e1,e2];obtain⟨ra1,ra2⟩:=hxd_rng a;obtain⟨rb1,rb2⟩:=hxd_rng b;refine g_ck ws (zh (rhex_eq a) (zJ ws (g_ck ws (zh (rhex_eq b) ?_))));refine g_if (λh=>?_) λh=>?_
   ·rw[if_pos (.inl h)] at hv;exact zP (.inl ⟨_,rfl,by rw[hv];rfl⟩)
   refine g_if (λh=>?_) λh=>?_
   ·rw[if_pos (.inr h)] at hv;exact zP (.inl ⟨_,rfl,by rw[hv];rfl⟩)
   rw[if_neg ws] at hv;rw[pair_wrap ws ws];refine zJ ws (zJ ws (g_ck ws (zJ ws (g_go ⟨i+2,by show(i:Int)+2=_;omega,by omega,by omega,by show(r++[_]).length≤_;simp;omega,?_⟩ wW))));rw[hv,Option.map_map];congr 1;funext x;simp
  have:l.drop i=[]:=by rw[List.drop_eq_nil_iff];omega
  rw[this,show hxl []=some [] from rfl] at hv;refine zP (.inr ⟨_,rfl,?_⟩);rw[hv];show some (r++[])=some r;rw[List.append_nil]
 rintro o (⟨x,rfl,ho⟩|⟨r,rfl,ho⟩)
 ·refine g_sm (λb hb=>z7 ?_) λc hc=>by cases hc
  rw[hp,ho];exact⟨rfl,λe=>by cases e⟩
 refine g_sm (λx hx=>by cases hx) λc hc=>?_;cases hc;refine z7 ?_;rw[hp,ho];exact⟨rfl,λ_=>rfl⟩
noncomputable def keyE(l:List UInt8):Ev×Bool:=if (keyP l).2=0 then(match g17 (keyP l).1 with|some v=>((1,v.1,0,0),decide (v.2=0))|none=>((0,[],0,0),false)) else((0,[],0,0),false)
theorem keyP_ok(l:List UInt8):KeyOk (keyP l).1:=by
 by_cases h:∃c S N,Spl (KM.ksh l).1 (KM.kal l).2 c S N
 ·obtain⟨c,S,N,h⟩:=h;rw[KM.key_some h];exact key_spl h.1 h.2.1
 rw[KM.key_none λc S N q=>h ⟨c,S,N,q⟩];exact key_zero
theorem keyE_bytes(l:List UInt8):zx (keyE l).1.2.1:=by
 obtain⟨b,e,h1,h2,h3⟩:=keyP_ok l;unfold keyE;by_cases h:(keyP l).2=0
 ·rw[if_pos h,h1];exact h3
 rw[if_neg h];intro c hc;cases hc
theorem keyE_nil:(keyE []).2=false:=by
 have:¬(keyP []).2=0:=by decide +kernel
 unfold keyE;rw[if_neg this]
theorem event_all(s:ByteArray)(hs:s.size≤65536):g14 s=some (evP keyE s.data.toList):=by
 by_cases hk:(Lib.cut s.data.toList [32]).1=[107,101,121]
 case neg=>exact event_eq keyE s hs hk
 obtain⟨z1,z2⟩:=cut_sizes s;refine g_eq ?_;unfold g14 evP;refine zh (g27_eq s hs) ?_;generalize Lib.cut s.data.toList [32]=x at *;dsimp only at z1 z2 ⊢;rw[ba_tl,hk];refine g_f ww (g_f ww (g_f ww (g_f ww (g_f ww (g_t ww ?_)))));rw[if_neg ww,if_neg ww,if_neg ww,if_neg ww,if_neg ww,if_pos rfl];refine zh (KM.key_eq _ ws) ?_;rw[ba_tl];obtain⟨b,e,h1,h2,h3⟩:=keyP_ok x.2.1;refine g_if (λh=>?_) λh=>?_
 ·unfold keyE;rw[if_neg h];exact z7 rfl
 unfold keyE;rw[if_pos (Classical.byContradiction h),h1];exact zh (b:=(b,e)) rfl (z7 rfl)
theorem revent_all(s:ByteArray)(hs:s.size≤65536):zf (g15 s) λr=>r.2=(evR keyE s.data.toList).2∧(r.2=true→r=evR keyE s.data.toList):=by
 have hz:=tl_len s;unfold g15 evR;generalize hl:s.data.toList=l at hz;have same:∀{x:Ev×Bool},zf (some x) λr=>r.2=x.2∧(r.2=true→r=x):=λ{x}=>z7 ⟨rfl,λ_=>rfl⟩;refine g_if (λh=>by rw[if_pos (show l=[116,105,99,107] from h)];exact same) λh1=>?_;rw[if_neg (show ¬l=[116,105,99,107] from h1)];refine g_if (λh=>by rw[if_pos (show l=[99,108,111,115,101] from h)];exact same) λh1=>?_;rw[if_neg (show ¬l=[99,108,111,115,101] from h1)];refine g_if (λh=>by rw[if_pos (show l=[98,121,116,101,115] from h)];exact same) λh1=>?_;rw[if_neg (show ¬l=[98,121,116,101,115] from h1)];refine zh (behind_eq _ _) ?_;rw[hl];have hl1:=KM.cp_len l [114,101,115,105,122,101,32];have hl2:=KM.cp_len l [116,121,112,101,32];have hl3:=KM.cp_len l [98,121,116,101,115,32];have hl4:=KM.cp_len l [107,101,121,32];refine g_if (λh=>?_) λh=>?_
 ·dsimp only at h ⊢;rw[if_pos h,if_pos h];refine zh (rsz_call _ vG) ?_;rw[ba_tl];exact same
 rw[if_neg h];refine zh (behind_eq _ _) ?_;rw[hl];refine g_if (λh=>?_) λh=>?_
 ·dsimp only at h ⊢;rw[if_pos h,if_pos h];refine g_ck vG (zh (seen_eq _ vG) ?_);rw[ba_tl];exact same
 rw[if_neg h];refine zh (behind_eq _ _) ?_;rw[hl];refine g_if (λh=>?_) λh=>?_
 ·dsimp only at h ⊢;rw[if_pos h,if_pos h];refine y3 (pairs_call _ vG) λr hr=>?_;rw[ba_tl] at hr;exact z7 hr
 rw[if_neg h];refine zh (behind_eq _ _) ?_;rw[hl];refine g_if (λh=>?_) λh=>?_
 ·dsimp only at h ⊢;rw[if_neg h];exact same
 have h:(cp l [107,101,121,32]).2=true:=Classical.byContradiction h;dsimp only;rw[if_pos h,if_pos h];refine zh (KM.rkey_eq _) ?_;rw[ba_tl];obtain⟨b,e,h1,h2,h3⟩:=keyP_ok (cp l [107,101,121,32]).1;refine zh (b:=(b,e)) h2 ?_;refine g_if (λq=>?_) λq=>?_
 ·have:keyE (cp l [107,101,121,32]).1=((1,b,0,0),decide (e=0)):=by unfold keyE;rw[if_pos q,h1]
  rw[this];exact same
 have:keyE (cp l [107,101,121,32]).1=((0,[],0,0),false):=by unfold keyE;rw[if_neg q]
 rw[this];exact z7 ⟨rfl,λe=>by cases e⟩
end Go.Proofs.YticmemgehllacaaGreatDoor
namespace Go.Proofs.YticmemgehllacaaGreatDoor
open Go Go.Eng
open KM (cp bl)
theorem strB(l:List Int):zW l=ba (byt l):=rfl
theorem getD_in{l:List Ev}{i:Nat}(h:i<l.length):l.getD i default∈l:=by
 rw[List.getD_eq_getElem?_getD,List.getElem?_eq_getElem h];exact List.getElem_mem h
theorem str_byt(l:List Int):(zW l).data.toList=byt l:=by rw[strB];simp[ba]
theorem same_one{a b:Ev}(ha:zx a.2.1)(hb:zx b.2.1):g16 a b=some (smE a b):=by
 obtain⟨w,l,W,H⟩:=a;obtain⟨w',l',W',H'⟩:=b;dsimp only at ha hb;refine g_eq ?_;unfold g16 smE;dsimp only;refine g_if (λh=>z7 (by rw[decide_eq_false h,Bool.false_and])) λh=>?_;have h:w=w':=Classical.byContradiction h;subst h;rw[decide_eq_true rfl,Bool.true_and];refine g_if (λh3=>?_) λh3=>?_
 ·rw[if_pos h3];exact g_if (λq=>z7 (decide_eq_decide.2 ⟨λe=>⟨q,e⟩,λe=>e.2⟩)) λq=>z7 (decide_eq_false λe=>q e.1).symm
 rw[if_neg h3];refine g_if (λh1=>?_) λh1=>?_
 ·rw[if_neg h1];exact z7 rfl
 rw[if_pos (Classical.byContradiction h1)];refine g_ck ha (g_ck hb (z7 ?_));rw[str_byt,str_byt]
theorem smL_iff:∀{a b:List Ev},smL a b=true↔a.length=b.length∧∀i,i<a.length→smE (a.getD i default) (b.getD i default)=true
 |[],[]=>by simp[smL]
 |[],_::_=>by simp[smL]
 |_::_,[]=>by simp[smL]
 |x::s,y::t=>by
  rw[smL,Bool.and_eq_true,smL_iff];constructor
  ·rintro⟨h1,h2,h3⟩;refine⟨by simp[h2],λi hi=>?_⟩
   cases i with
   |zero=>exact h1
   |succ i=>exact h3 i (by simpa using hi)
  rintro⟨h1,h2⟩;exact⟨h2 0 wv,by simpa using h1,λi hi=>h2 (i+1) (by simpa using hi)⟩
theorem same_eq{a b:List Ev}(ha:∀e∈a,zx e.2.1)(hb:∀e∈b,zx e.2.1)(hn:a.length≤100000):g8 a b=some (smL a b):=by
 refine g_eq ?_;unfold g8;refine g_if (λh=>z7 ?_) λh=>?_
 ·cases hq:smL a b with
  |false=>rfl
  |true=>exact absurd (smL_iff.1 hq).1 ws
 have hl:a.length=b.length:=by omega
 refine g_jo ?_;refine y3 (Ω:=λo=>smL a b=sm o (λ_=>false) (λ_=>true)) (yf (λt:Int=>∃i:Nat,t=i∧i≤a.length∧∀j,j<i→smE (a.getD j default) (b.getD j default)=true) (λt=>a.length-t.toNat) ?_ ⟨0,rfl,Nat.zero_le _,λj hj=>by omega⟩) ?_
 ·rintro _ ⟨i,rfl,hi,hv⟩;refine g_if (λhr=>?_) λhr=>?_
  ·have hi':i<a.length:=by omega
   rw[Int.toNat_natCast];refine g_ck ws (g_ck ws (zh (same_one (a:=a.getD i default) (b:=b.getD i default) (ha _ (getD_in hi')) (hb _ (getD_in ws))) ?_));refine g_if (λq=>zP ?_) λq=>?_
   ·cases hq:smL a b with
    |false=>rfl
    |true=>exact absurd ((smL_iff.1 hq).2 i hi') q
   have q:smE (a.getD i default) (b.getD i default)=true:=Classical.byContradiction q;refine zJ ws (g_go ⟨i+1,by omega,by omega,λj hj=>?_⟩ (by show a.length-((i:Int)+1).toNat<a.length-((i:Int)).toNat;omega));by_cases e:j=i
   ·subst e;exact q
   exact hv j ws
  exact zP (smL_iff.2 ⟨hl,λj hj=>hv j ws⟩)
 intro o ho;rw[ho];refine g_sm (λx hb=>?_) λc hc=>?_
 ·subst hb;exact z7 rfl
 subst hc;exact z7 rfl
theorem smE_refl(e:Ev):smE e e=true:=by
 unfold smE;rw[decide_eq_true rfl,Bool.true_and];split
 ·exact decide_eq_true ⟨rfl,rfl⟩
 split
 ·exact decide_eq_true rfl
 rfl
theorem smL_refl:∀l:List Ev,smL l l=true
 |[]=>rfl
 |e::t=>by rw[smL,smE_refl,smL_refl t];rfl
def row(x:Int×List UInt8):Int×ByteArray:=(x.1,ba x.2)
theorem lns_step{l:List UInt8}{i:Nat}{c:UInt8}{n:Int}{cur:List UInt8}(h:l.drop i=c::l.drop (i+1)):lns n cur (l.drop i)=if c=10 then emit n cur++lns (n+1) [] (l.drop (i+1)) else lns n (cur++[c]) (l.drop (i+1)):=by rw[h,lns]
theorem emit_seg{l:List UInt8}{k i:Nat}{n:Int}(hk:k≤i)(hi:i≤l.length):(k=i→emit n ((l.drop k).take (i-k))=[])∧(k<i→∀c,l[k]?=some c→(c=35→emit n ((l.drop k).take (i-k))=[])∧(¬c=35→emit n ((l.drop k).take (i-k))=[(n,(l.drop k).take (i-k))])):=by
 refine⟨λe=>?_,λhlt c hc=>?_⟩
 ·subst e;rw[Nat.sub_self,List.take_zero];rfl
 have hd:l.drop k=c::l.drop (k+1):=by
  obtain⟨c',h1,h2⟩:=yd (l:=l) (i:=k) ws;rw[hc] at h2;cases h2;exact h1
 have ht:(l.drop k).take (i-k)=c::(l.drop (k+1)).take (i-k-1):=by
  obtain⟨m,hm⟩:∃m,i-k=m+1:=⟨i-k-1,by omega⟩;rw[hd,hm,List.take_succ_cons];rfl
 rw[ht];refine⟨λe=>?_,λe=>?_⟩
 ·subst e;unfold emit;rw[if_pos (.inr rfl)]
 unfold emit;rw[if_neg];rintro(h|h)
 ·cases h
 exact e (Option.some.inj h)
theorem ext_seg(s:ByteArray)(k i:Nat):s.extract ((k:Int)).toNat ((i:Int)).toNat=ba ((s.data.toList.drop k).take (i-k)):=by
 rw[←ba_of (s.extract _ _),ByteArray.data_extract,Array.toList_extract,Int.toNat_natCast,Int.toNat_natCast]
def LQ(l:List UInt8)(t:List (Int×ByteArray)×Int×Int×Int):Prop:=∃(dn:List (Int×List UInt8)) (n k i:Nat),t=(dn.map row,(n:Int),(k:Int),(i:Int))∧dn.length≤i∧1≤n∧n≤i+1∧k≤i∧(i≤l.length∧lns 1 [] l=dn++lns n ((l.drop k).take (i-k)) (l.drop i)∨i=l.length+1∧lns 1 [] l=dn)
theorem lines_eq(s:ByteArray)(hs:s.size≤100000):g7 s=some ((lns 1 [] s.data.toList).map row):=by
 have hz:=tl_len s;have hx:=ext_seg s;generalize hl:s.data.toList=l at hz hx;refine g_eq ?_;unfold g7;rw[hl];refine g_jn (λv=>v=(lns 1 [] l).map row) (λk hk=>?_) λv hv=>by subst hv;exact z7 rfl
 refine y3 (Ω:=λo=>o=(lns 1 [] l).map row) (yf (LQ l) (λt=>l.length+1-t.2.2.2.toNat) ?_ ⟨[],1,0,0,rfl,Nat.le_refl _,Nat.le_refl _,Nat.le_refl _,Nat.le_refl _,.inl ⟨Nat.zero_le _,rfl⟩⟩) λo ho=>hk _ ho;rintro _ ⟨dn,n,k,i,rfl,hd,hn1,hn2,hki,hv⟩;dsimp only;refine g_if (λhr=>?_) λhr=>?_
 ·rcases hv with ⟨hi,hv⟩|⟨hi,hv⟩
  case inr=>omega
  refine g_jn (λ_=>lns 1 [] l=dn++(emit n ((l.drop k).take (i-k))++(if i<l.length then lns ((n:Int)+1) [] (l.drop (i+1)) else[]))) (λk1 hk1=>?_) λv hv=>?_
  ·refine g_if (λhq=>?_) λhq=>?_
   ·obtain⟨c,h3,h4⟩:=yd (l:=l) (i:=i) ws;have e:((l[((i:Int)).toNat]?.getD 0).toNat:Int)=c.toNat:=by rw[Int.toNat_natCast,h4];rfl
    rw[lns_step h3] at hv;rw[e];refine g_ck ws (g_if (λh=>?_) λh=>?_)
    ·rw[if_neg (λe=>h vE)] at hv;refine zJ ws (g_go ⟨dn,n,k,i+1,rfl,by omega,hn1,by omega,by omega,.inl ⟨by omega,?_⟩⟩ wV);rw[hv,show i+1-k=(i-k)+1 by omega,List.take_add_one,List.getElem?_drop,show k+(i-k)=i by omega,h4];rfl
    have:c=10:=UInt8.toNat_inj.1 (by show c.toNat=10;omega);rw[if_pos this] at hv;exact hk1 _ (by rw[hv,if_pos ws])
   have:l.drop i=[]:=by rw[List.drop_eq_nil_iff];omega
   rw[this,lns] at hv;exact hk1 _ (by rw[hv,if_neg ws,List.append_nil])
  have fin:∀(e:List (Int×List UInt8)),e.length≤1→emit n ((l.drop k).take (i-k))=e→zf (ck (inR .i64 ((n:Int)+1)) <| ck (inR .i64 ((i:Int)+1)) <| ck (inR .i64 ((i:Int)+1)) <| some (St1.go ((dn++e).map row,(n:Int)+1,(i:Int)+1,(i:Int)+1))) (rnd (LQ l) (λt=>l.length+1-t.2.2.2.toNat) (l.length+1-((i:Int)).toNat) (λo=>o=(lns 1 [] l).map row)):=λe he hem=>by
   rw[hem] at hv;refine zJ ws (zJ ws (zJ ws (g_go ⟨dn++e,n+1,i+1,i+1,rfl,by rw[List.length_append];omega,by omega,by omega,Nat.le_refl _,?_⟩ wV)));by_cases hq:i<l.length
   ·rw[if_pos hq] at hv;refine .inl ⟨by omega,?_⟩;rw[hv,Nat.sub_self,List.take_zero,←List.append_assoc];rfl
   rw[if_neg hq] at hv;exact .inr ⟨by omega,by rw[hv,List.append_nil]⟩
  obtain⟨s1,s2⟩:=emit_seg (l:=l) (n:=n) hki hi;refine g_if (λhq=>?_) λhq=>?_
  ·obtain⟨c,h3,h4⟩:=yd (l:=l) (i:=k) ws;obtain⟨s3,s4⟩:=s2 ws c h4;have e:((l[((k:Int)).toNat]?.getD 0).toNat:Int)=c.toNat:=by rw[Int.toNat_natCast,h4];rfl
   rw[e];refine g_ck ws (g_if (λh=>?_) λh=>?_)
   ·have h:=s4 (λe=>h vE);rw[hx];refine g_ck ws (g_ck (by rw[List.length_map];omega) ?_);have:=fin _ (Nat.le_refl _) h;rw[List.map_append] at this;exact this
   have h:=s3 (UInt8.toNat_inj.1 (by show c.toNat=35;omega));have:=fin [] (Nat.zero_le _) h;rw[List.append_nil] at this;exact this
  have h:=s1 ws;have:=fin [] (Nat.zero_le _) h;rw[List.append_nil] at this;exact this
 rcases hv with ⟨hi,hv⟩|⟨hi,hv⟩
 ·omega
 exact zP (by rw[hv])
theorem row_getD{L:List (Int×List UInt8)}{i:Nat}(h:i<L.length):(L.map row).getD i default=row (L[i]):=by
 rw[List.getD_eq_getElem?_getD,List.getElem?_eq_getElem (by rw[List.length_map];exact h),List.getElem_map];rfl
theorem drop_get{α:Type}{L:List α}{i:Nat}(h:i<L.length):L.drop i=L[i]::L.drop (i+1):=List.drop_eq_getElem_cons h
theorem rparse_eq{ev:List UInt8→Ev×Bool}{s:ByteArray}(hs:s.size≤65536)(hev:∀x∈lns 1 [] s.data.toList,zf (g15 (ba x.2)) λr=>r.2=(ev x.2).2∧(r.2=true→r=ev x.2)):
  g6 s=some (if 4096<(lns 1 [] s.data.toList).length then([],0,3) else prs ev (lns 1 [] s.data.toList) []):=by
 refine g_eq ?_;unfold g6;refine g_f ws (zh (lines_eq s ws) ?_);generalize lns 1 [] s.data.toList=L at *;rw[List.length_map];refine g_if (λh=>by rw[if_pos ws];exact z7 rfl) λh=>?_;rw[if_neg ws];have hlen:L.length≤4096:=by omega
 refine g_jo ?_;refine y3 (Ω:=λo=>prs ev L []=sm o (λo=>([],o,290)) (λo=>(o,0,0))) (yf (λt:List Ev×Int=>∃i:Nat,t.2=i∧i≤L.length∧t.1.length≤i∧prs ev L []=prs ev (L.drop i) t.1) (λt=>L.length-t.2.toNat) ?_ ⟨0,rfl,Nat.zero_le _,Nat.zero_le _,rfl⟩) ?_
 ·rintro⟨acc,_⟩ ⟨i,rfl,hi,ha,hv⟩;dsimp only at ha hv ⊢;refine g_if (λhr=>?_) λhr=>?_
  ·have hi':i<L.length:=by omega
   rw[Int.toNat_natCast,row_getD hi'];rw[drop_get hi'] at hv;refine g_ck ws (y3 (hev (L[i]) (List.getElem_mem hi')) λr hr2=>?_);obtain⟨r1,r2⟩:=hr2;generalize hx:L[i]=x at *;obtain⟨n,l⟩:=x;dsimp only[row] at r1 r2 ⊢;rw[prs] at hv;refine g_if (λhb=>?_) λhb=>?_
   ·refine g_ck ws (zP ?_);rw[if_neg (λe=>hb (by rw[r1,e]))] at hv;exact hv
   have hb:r.2=true:=Classical.byContradiction hb;have hr:=r2 hb;subst hr;rw[if_pos hb] at hv;exact g_ck ws (zJ ws (g_go ⟨i+1,by show(i:Int)+1=_;omega,by omega,by show(acc++[_]).length≤_;rw[List.length_append,List.length_singleton];omega,hv⟩ (by show L.length-((i:Int)+1).toNat<L.length-((i:Int)).toNat;omega)))
  have:L.drop i=[]:=by rw[List.drop_eq_nil_iff];omega
  rw[this] at hv;exact zP hv
 intro o ho;refine g_sm (λb hb=>?_) λc hc=>?_
 ·subst hb;exact z7 ho.symm
 subst hc;exact z7 ho.symm
theorem lns_small:∀(s:List UInt8) (n:Int) (cur:List UInt8) (x:Int×List UInt8),x∈lns n cur s→x.2.length≤cur.length+s.length
 |[],n,cur,x,h=>by
  rw[lns] at h;unfold emit at h;split at h
  ·cases h
  rw[List.mem_singleton.1 h];simp
 |c::t,n,cur,x,h=>by
  rw[lns] at h;split at h
  ·rcases List.mem_append.1 h with h|h
   ·unfold emit at h;split at h
    ·cases h
    rw[List.mem_singleton.1 h];simp
   have:=lns_small t (n+1) [] x h;simp at this ⊢;omega
  have:=lns_small t n (cur++[c]) x h;simp at this ⊢;omega
theorem prs_bytes{ev:List UInt8→Ev×Bool}(hb:∀l,(ev l).2=true→zx (ev l).1.2.1):∀(L:List (Int×List UInt8)) (acc:List Ev),(∀e∈acc,zx e.2.1)→∀e∈(prs ev L acc).1,zx e.2.1
 |[],acc,h=>h
 |(n,l)::t,acc,h=>by
  rw[prs];split
  ·rename_i q;refine prs_bytes hb t _ λe he=>?_;rcases List.mem_append.1 he with he|he
   ·exact h e he
   rw[List.mem_singleton.1 he];exact hb l q
  intro e he;cases he
theorem prs_len{ev:List UInt8→Ev×Bool}:∀(L:List (Int×List UInt8)) (acc:List Ev),(prs ev L acc).1.length≤acc.length+L.length
 |[],acc=>Nat.le_refl _
 |(n,l)::t,acc=>by
  rw[prs];split
  ·have:=prs_len t (acc++[(ev l).1]) (ev:=ev);simp at this ⊢;omega
  exact Nat.zero_le _
theorem bytes_of(s:ByteArray):zx (z6 s):=λc hc=>by
 obtain⟨b,_,rfl⟩:=List.mem_map.1 hc;have:=b.toNat_lt;omega
theorem xZ:zx []:=λc hc=>by cases hc
theorem evP_bytes(l:List UInt8):zx (evP keyE l).1.2.1:=by
 unfold evP;dsimp only;split
 ·exact xZ
 split
 ·exact xZ
 split
 ·exact xZ
 split
 ·exact bytes_of _
 split
 ·show zx (hxP _).1;unfold hxP;split
  ·exact xZ
  split
  ·exact xZ
  rename_i r h;exact hxl_even h
 split
 ·exact keyE_bytes _
 exact xZ
theorem told_eq{s:ByteArray}(hs:s.size≤100000){a:Int}(ha:0≤a):g9 s ((lns 1 [] s.data.toList).map row) a=some true:=by
 refine g_eq ?_;unfold g9;generalize hL:lns 1 [] s.data.toList=L;rw[List.length_map];refine g_jn (λv=>v=gmin a L.length) (λk hk=>?_) λv hv=>by subst hv;exact z7 (decide_eq_true rfl)
 refine y3 (Ω:=λo:Int ⊕ (Int ⊕ Int)=>o=.inl (gmin a L.length)∨o=.inr (.inr (gmin a L.length))) (yf (λt:Int×Int×ByteArray=>∃k n:Nat,t.1=k∧t.2.1=n∧(k:Int)≤a∧k≤n∧k≤L.length∧n+t.2.2.size≤100000∧L.drop k=lns ((n:Int)+1) [] t.2.2.data.toList) (λt=>t.2.2.size) ?_ ⟨0,0,rfl,rfl,ha,Nat.le_refl _,Nat.zero_le _,by show 0+s.size≤_;omega,hL.symm⟩) ?_
 ·rintro⟨_,_,r⟩ ⟨k,n,rfl,rfl,h1,h2,h3,h4,h5⟩;dsimp only at h4 h5 ⊢;refine g_if (λhr=>?_) λhr=>?_
  ·obtain⟨c1,c2,c3⟩:=cutl_lns r ws ((n:Int)+1);refine g_jn (λv=>v=cutl r) (λk hk=>cut_step r ws (hk _ rfl)) λv hv=>?_;subst hv;rw[c1] at h5;refine zJ ws ?_;rcases emit_cases ((n:Int)+1) (cutl r).2 with ⟨e1,e2⟩|⟨e1,e0,⟨e3,e2⟩|⟨e3,e2⟩⟩
   ·rw[e2] at h5;exact g_t e1 (g_go ⟨k,n+1,rfl,by show(n:Int)+1=_;omega,h1,by omega,h3,by show n+1+(cutl r).1.size≤_;omega,h5⟩ wE)
   ·rw[e2] at h5;exact g_f e1 (g_ck ws (g_t e3 (g_go ⟨k,n+1,rfl,by show(n:Int)+1=_;omega,h1,by omega,h3,by show n+1+(cutl r).1.size≤_;omega,h5⟩ wE)))
   rw[e2] at h5
   have hk':k<L.length:=by
    by_cases q:k<L.length
    ·exact q
    rw[List.drop_eq_nil_iff.2 ws] at h5;cases h5
   rw[drop_get hk',List.singleton_append] at h5;obtain⟨h6,h7⟩:=List.cons.inj h5;refine g_f e1 (g_ck ws (g_f e3 ?_));refine g_if (λq=>zP (.inl ?_)) λq=>?_
   ·have:gmin a L.length=(k:Int):=by unfold gmin;split<;>omega
    rw[this]
   rw[Int.toNat_natCast,row_getD hk',h6];refine g_f ws (g_ck ws ?_);dsimp only[row];refine g_f (λe=>e rfl) (g_ck ws ?_);refine g_f (λe=>e (ba_tl _).symm) (zJ ws ?_);exact g_go ⟨k+1,n+1,by show(k:Int)+1=_;omega,by show(n:Int)+1=_;omega,by omega,by omega,by omega,by show n+1+(cutl r).1.size≤_;omega,h7⟩ wE
  have hz:r.data.toList=[]:=by
   have:r.data.toList.length=r.size:=Array.length_toList;exact List.eq_nil_of_length_eq_zero ws
  rw[hz,show lns ((n:Int)+1) [] []=[] from rfl,List.drop_eq_nil_iff] at h5;refine zP (.inr ?_);have:gmin a L.length=(k:Int):=by unfold gmin;split<;>omega
  rw[this]
 rintro o (rfl|rfl)
 ·exact g_sm (λb hb=>by cases hb;exact hk _ rfl) λc hc=>by cases hc
 exact g_sm (λb hb=>by cases hb) λc hc=>by cases hc;exact g_sm (λb hb=>by cases hb) λc hc=>by cases hc;exact hk _ rfl
theorem parses_give{s:ByteArray}{a:Int}(h0:0≤a)(h1:a≤255):zf (g3 s a) λr=>r=true:=by
 unfold g3;have hm:0≤gmin (s.size:Int) 70000∧gmin (s.size:Int) 70000≤70000∧gmin (s.size:Int) 70000≤s.size:=by unfold gmin;split<;>omega
 refine g_ck ws ?_
 have ht:(s.extract (0:Int).toNat (gmin (s.size:Int) 70000).toNat).size≤70000:=by
  rw[ByteArray.size_extract];omega
 generalize s.extract (0:Int).toNat (gmin (s.size:Int) 70000).toNat=t at *
 have last:zf (ck (inR .i64 a) <| (g9 t ((lns 1 [] t.data.toList).map row) a).bind λv942=>if v942=true then(ck (inR .i64 (((((lns 1 [] t.data.toList).map row).length:Nat):Int)+1)) <| (g9 t ((lns 1 [] t.data.toList).map row) (((((lns 1 [] t.data.toList).map row).length:Nat):Int)+1)).bind λv946=>if v946=true then((g10).bind λv949=>some v949) else some false) else some false) λr=>r=true:=by
  have hl:((lns 1 [] t.data.toList).map row).length≤100000:=by
   have:=lines_eq t ws;rw[List.length_map]
   have hh:∀(s:List UInt8) (n:Int) (cur:List UInt8),(lns n cur s).length≤s.length+1:=by
    intro s
    induction s with
    |nil=>intro n cur;rw[lns];have:=emit_len n cur;simp;omega
    |cons c t ih=>
     intro n cur;rw[lns];split
     ·have:=emit_len n cur;have:=ih (n+1) [];simp;omega
     have:=ih n (cur++[c]);simp;omega
   have:=hh t.data.toList 1 [];rw[tl_len] at this;omega
  exact zJ ws (zh (told_eq ws h0) (g_t rfl (zJ ws (zh (told_eq ws ws) (g_t rfl (zh (b:=true) rfl (z7 rfl)))))))
 by_cases hz:t.size≤65536
 ·have small:∀x∈lns 1 [] t.data.toList,(ba x.2).size≤65536:=λx hx=>by
   have:=lns_small _ _ _ x hx;rw[tl_len] at this;rw[xt];simp at this;omega
  refine zh (parse_eq (evP keyE) t hz λx hx=>?_) ?_
  ·have:=event_all (ba x.2) (small x hx)
   rwa [ba_tl] at this
  refine zh (rparse_eq (ev:=evP keyE) hz λx hx=>?_) ?_
  ·refine g_mono (revent_all (ba x.2) (small x hx)) λr hr=>?_;rw[ba_tl] at hr;obtain⟨q1,q2⟩:=ev_eq keyE keyE_nil x.2;exact⟨hr.1.trans q1,λe=>(hr.2 e).trans (q2 (by rw[←q1,←hr.1];exact e))⟩
  refine zh (lines_eq t ws) ?_;generalize hv:(if 4096<(lns 1 [] t.data.toList).length then(([]:List Ev),(0:Int),(3:Int)) else prs (evP keyE) (lns 1 [] t.data.toList) [])=v
  have hb:∀e∈v.1,zx e.2.1:=by
   rw[←hv];split
   ·intro e he;cases he
   exact prs_bytes (λl _=>evP_bytes l) _ _ λe he=>by cases he
  have hn:v.1.length≤100000:=by
   rw[←hv];split
   ·exact Nat.zero_le _
   have:=prs_len (ev:=evP keyE) (lns 1 [] t.data.toList) [];simp at this;omega
  refine zh (same_eq hb hb hn) ?_;rw[smL_refl];exact g_t rfl (g_t rfl (g_t rfl last))
 have e5:g5 t=some ([],0,2):=by unfold g5;rw[if_pos ws]
 have e6:g6 t=some ([],0,2):=by unfold g6;rw[if_pos ws]
 refine zh e5 (zh e6 (zh (lines_eq t ws) (zh (same_eq (a:=[]) (b:=[]) (λe he=>by cases he) (λe he=>by cases he) (Nat.zero_le _)) ?_)));rw[smL_refl];exact g_t rfl (g_t rfl (g_t rfl last))
end Go.Proofs.YticmemgehllacaaGreatDoor
namespace Go.Proofs.YticmemgehllacaaGreatDoor.scriptParses
theorem jq1:(Rows.scriptParsesRow.wf (OpenSpec.ofChange Rows.scriptParsesSpec))=true:=by kernel_rfl
theorem jq2:(laidOutB Tryz.prog)=true:=by kernel_rfl
theorem jq3:(mapsRowed Tryz.prog)=true:=by kernel_rfl
theorem jq4:(Tryz.f3.params.all (Tryz.prog.readableRec ·))=true:=by kernel_rfl
theorem jq5:(namedTie Tryz.prog Rows.scriptParsesRow.named Rows.scriptParsesSpec.vars)=true:=by kernel_rfl
theorem jq6:((Rows.scriptParsesRow.stops==[]))=true:=by kernel_rfl
theorem jq7:((Tryz.prog.stops==[]))=true:=by kernel_rfl
theorem jq8:((Rows.scriptParsesRow.knobs==[]))=true:=by kernel_rfl
theorem jq9:((Tryz.prog.stopKnobs==[]))=true:=by kernel_rfl
theorem jq10:((Rows.scriptParsesRow.inPlace==Tryz.prog.inPlace 3))=true:=by kernel_rfl
theorem jand{a b:Bool}(x:a=true)(y:b=true):(a&&b)=true:=by rw[x,y];rfl
theorem jq11:((Rows.scriptParsesRow.unfollowed==Tryz.prog.unfollowed 3))=true:=by kernel_rfl
theorem jq12:((Rows.scriptParsesRow.recurses==Tryz.prog.recurses 3))=true:=by kernel_rfl
theorem jq13:((Rows.scriptParsesRow.named==Tryz.prog.varsNamed 3))=true:=by kernel_rfl
theorem jq14:((Rows.scriptParsesRow.maps==(Tryz.f3.params.toList++Rows.scriptParsesSpec.plain.varTypes Tryz.prog).any (Tryz.prog.mapsRec ·)))=true:=by kernel_rfl
theorem jq15:((Rows.scriptParsesRow.ifaces==(Tryz.f3.params.toList++Rows.scriptParsesSpec.plain.varTypes Tryz.prog).any (Tryz.prog.ifacesRec ·)))=true:=by kernel_rfl
theorem jq16:((Rows.scriptParsesRow.mapsOut==Tryz.prog.mapsAmong Tryz.f3.resultTypes.toList))=true:=by kernel_rfl
theorem jq17:((Rows.scriptParsesRow.loops==(Tryz.f3.params.toList++Rows.scriptParsesSpec.plain.varTypes Tryz.prog).any (Tryz.prog.loopsFrom ·)))=true:=by kernel_rfl
theorem jq18:((Rows.scriptParsesRow.wideKeys==(Tryz.f3.params.toList++Rows.scriptParsesSpec.plain.varTypes Tryz.prog++Tryz.f3.resultTypes.toList).any (Tryz.prog.wideKeysFrom ·)))=true:=by kernel_rfl
theorem jq19:(Rows.scriptParsesSpec.vars.all (Tryz.prog.varReadable ·))=true:=by kernel_rfl
theorem jq20:(Tryz.f3.resultTypes.all (λt=>Tryz.prog.readableRec t&&decide (t<Tryz.prog.types.size)))=true:=by kernel_rfl
theorem jq21:((Rows.scriptParsesRow.ifacesOut==Tryz.f3.resultTypes.toList.any (Tryz.prog.ifacesRec ·)))=true:=by kernel_rfl
theorem jq22:((Rows.scriptParsesRow.loopsOut==Tryz.f3.resultTypes.toList.any (Tryz.prog.loopsFrom ·)))=true:=by kernel_rfl
theorem jq23:((Rows.scriptParsesRow.plainKeys==Tryz.prog.plainKeys))=true:=by kernel_rfl
theorem jq24:(Rows.scriptParsesRow.shortTexts.isNone)=true:=by kernel_rfl
theorem jq25:(Tryz.prog.stopsHeard)=true:=by kernel_rfl
theorem jq26:(Tryz.prog.mayEnter)=true:=by kernel_rfl
theorem jq27:((Rows.scriptParsesRow.lifted==Tryz.prog.liftsFinal))=true:=by kernel_rfl
theorem jq28:((Tryz.prog.make==some Rows.scriptParsesRow.make))=true:=by kernel_rfl
theorem jq29:((Rows.scriptParsesRow.kinds==(if Rows.scriptParsesRow.domain.isEmpty then[] else Tryz.f3.params.toList.map λt=>match Tryz.prog.underlying t with|some (.int k)=>some k|_=>none)))=true:=by kernel_rfl
theorem jq30:((Rows.scriptParsesRow.pinned==Rows.scriptParsesRow.pinnedBy))=true:=by kernel_rfl
theorem jq31:((Rows.scriptParsesRow.veiled==(Tryz.f3.params.toList++Rows.scriptParsesSpec.plain.varTypes Tryz.prog++Tryz.f3.resultTypes.toList).any (Tryz.prog.veiledRec ·)))=true:=by kernel_rfl
theorem jq32:(Rows.scriptParsesRow.veiledFits Tryz.prog Tryz.f3.params.toList (Tryz.f3.params.toList++Rows.scriptParsesSpec.plain.varTypes Tryz.prog++Tryz.f3.resultTypes.toList))=true:=by kernel_rfl
set_option maxRecDepth 100000 in
theorem jnr:joinedFacts Tryz.prog 3 Tryz.f3 Rows.scriptParsesSpec Rows.scriptParsesRow=true:=by unfold joinedFacts;exact(jand (jand (jand (jand (jand (jand (jand (jand (jand (jand (jand (jand (jand (jand (jand (jand (jand (jand (jand (jand (jand (jand (jand (jand (jand (jand (jand (jand (jand (jand (jand jq1 jq2) jq3) jq4) jq5) jq6) jq7) jq8) jq9) jq10) jq11) jq12) jq13) jq14) jq15) jq16) jq17) jq18) jq19) jq20) jq21) jq22) jq23) jq24) jq25) jq26) jq27) jq28) jq29) jq30) jq31) jq32)
end Go.Proofs.YticmemgehllacaaGreatDoor.scriptParses
namespace Go.Proofs.YticmemgehllacaaGreatDoor
open Go Go.Proofs
theorem goes_none{P:Program}(h:P.funcs.any Func.goes=false)(f:FuncId):P.goes f=false:=by
 have hf:∀g:Nat,(P.funcs[g]?).any Func.goes=false:=λg=>by
  cases hg:P.funcs[g]? with
  |none=>rfl
  |some fn=>
   obtain⟨hlt,he⟩:=Array.getElem?_eq_some_iff.1 hg;have:=Array.any_eq_false.1 h g hlt;rw[he] at this;simpa using this
 unfold Program.goes;rw[h,Bool.and_false,Bool.or_false]
 induction P.closure f with
 |nil=>rfl
 |cons x l ih=>rw[List.any_cons,hf,ih];rfl
theorem goesFrom_none{P:Program}(h:P.funcs.any Func.goes=false)(n:String):P.goesFrom n=false:=by
 unfold Program.goesFrom
 cases P.funcNamed n with
 |none=>rfl
 |some f=>exact goes_none h f
theorem anyP:Tryz.prog.funcs.any Func.goes=false:=by kernel_rfl
theorem goesBy_none{P:Program}(h:P.funcs.any Func.goes=false)(c:OpenClaim):false=c.goesBy P:=by
 unfold OpenClaim.goesBy Program.goesAt;rw[goesFrom_none h,Bool.false_or];split
 ·rfl
 symm;rw[List.any_eq_false];intro f _;rw[goes_none h f];simp
end Go.Proofs.YticmemgehllacaaGreatDoor
