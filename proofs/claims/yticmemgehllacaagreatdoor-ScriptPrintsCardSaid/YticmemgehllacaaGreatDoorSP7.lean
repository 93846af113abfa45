/- Texts that the law leans on. -/
import Derived.Test.YticmemgehllacaaGreatDoorSP6
import Derived.Test.YticmemgehllacaaGreatDoorSP3
import Derived.Test.YticmemgehllacaaGreatDoorRows
import Derived.WalkKit
import Derived.ProofKit
import Derived.OpenShut
import Derived.ChangeOld
import Derived.Below
import GoSem.ClaimGoes
import Derived.KernelRfl
set_option linter.unusedVariables false
set_option linter.unusedSimpArgs false
section
namespace Go.Proofs.YticmemgehllacaaGreatDoor
open Go Go.Eng
theorem dec1 {n:Nat} (h:n<10):g55a (n:Int)=some (ba (decN n)):=by
 refine g_eq ?_
 unfold g55a
 refine g_f (by omega) (g_t (by omega) ?_)
 have hw:IntKind.wrap .u8 (48+(n:Int))=((48+n:Nat):Int):=by rw [IntKind.wrap_u8];omega
 rw [hw]
 refine g_i64 (by omega) (g_ck (fun c hc=>?_) (g_some ?_))
 ·rcases List.mem_cons.1 hc with rfl | hc
  ·omega
  ·cases hc
 ·rw [str1];unfold decN;rw [if_pos h]
theorem dec2 {n:Nat} (h:n<100):g55b (n:Int)=some (ba (decN n)):=by
 refine g_eq ?_
 unfold g55b
 exact dec_step (by omega) fun _=>dec1 (by omega)
theorem dec_eq {n:Nat} (h:n<1000):g55 (n:Int)=some (ba (decN n)):=by
 refine g_eq ?_
 unfold g55
 exact dec_step h fun _=>dec2 (by omega)
theorem ito_eq {n:Nat} (h:n<1000):g52 (n:Int)=some (ba (decN n)):=by
 unfold g52 ck
 rw [if_pos ⟨by omega,by omega⟩,Int.toNat_natCast,dec_lib h]
 rfl
theorem seen_eq (s:ByteArray) (hs:s.size≤140737488355328):g34 s=some (ptP s.data.toList):=by
 have hz:=tl_len s
 generalize hl:s.data.toList=l at hz
 refine g_eq ?_
 unfold g34 ptP
 rw [hl]
 refine g_jo ?_
 refine g_bind (Ω:=fun o=>l.all (fun c=>decide (32≤c.toNat∧c.toNat≤126))=sm o (fun _=>false) (fun _=>true)) (g_loop (fun t:Int=>∃i:Nat,t=i∧i≤l.length∧l.all (fun c=>decide (32≤c.toNat∧c.toNat≤126))=(l.drop i).all (fun c=>decide (32≤c.toNat∧c.toNat≤126))) (fun t=>l.length-t.toNat) ?_ ⟨0,rfl,Nat.zero_le _,rfl⟩) ?_
 ·rintro _ ⟨i,rfl,hi,hv⟩
  refine g_if (fun hr=>?_) fun hr=>?_
  ·obtain ⟨c,h3,h4⟩:=byte_drop (l:=l) (i:=i) (by omega)
   have e:((l[((i:Int)).toNat]?.getD 0).toNat:Int)=c.toNat:=by rw [Int.toNat_natCast,h4];rfl
   rw [h3,List.all_cons] at hv
   rw [e]
   refine g_ck (by omega) (g_if (fun h=>?_) fun h=>?_)
   ·rw [decide_eq_false (by omega),Bool.false_and] at hv;exact g_out hv
   refine g_ck (by omega) (g_if (fun h=>?_) fun h=>?_)
   ·rw [decide_eq_false (by omega),Bool.false_and] at hv;exact g_out hv
   rw [decide_eq_true (by omega),Bool.true_and] at hv
   exact g_i64 (by omega) (g_go ⟨i+1,by omega,by omega,hv⟩ (by show l.length-((i:Int)+1).toNat<l.length-((i:Int)).toNat;omega))
  ·have:l.drop i=[]:=by rw [List.drop_eq_nil_iff];omega
   rw [this] at hv
   exact g_out hv
 ·intro o ho
  rw [ho]
  refine g_sm (fun b hb=>?_) fun c hc=>?_
  ·subst hb;exact g_some rfl
  ·subst hc;refine g_some ?_
   show decide (¬l=(lit []).data.toList)=(true && decide (l≠[]))
   rfl
theorem dgs_app (a b:List UInt8):dgs (a++b)=dgs a++dgs b:=by
 induction a with
 | nil=>rfl
 | cons c t ih=>rw [List.cons_append,dgs,dgs,ih];rfl
def bIn (l:List UInt8):List Int:=l.map fun c=>(c.toNat:Int)
theorem bIn_str (l:List UInt8):strOf (bIn l)=ba l:=by
 apply ByteArray.ext;apply Array.ext'
 simp only [strOf,bIn,ba,List.map_map]
 refine (List.map_congr_left (g:=id) (fun c _=>?_)).trans (List.map_id _)
 exact UInt8.toNat_inj.1 (by simp)
theorem bIn_ok (l:List UInt8):isBytes (bIn l):=fun c hc=>by
 obtain ⟨x,_,rfl⟩:=List.mem_map.1 hc
 have:=x.toNat_lt
 omega
theorem hex_at {i:Int} (h:0≤i∧i<16):(((lit [48,49,50,51,52,53,54,55,56,57,97,98,99,100,101,102]).data.toList[i.toNat]?.getD 0).toNat:Int)=((hxs i.toNat).toNat:Int):=by
 have:=hxB_at ⟨i.toNat,by omega⟩
 dsimp only at this
 have e:(lit [48,49,50,51,52,53,54,55,56,57,97,98,99,100,101,102]).data.toList[i.toNat]?=some (hxs i.toNat):=this
 rw [e];rfl
theorem digits_eq {l:List Int} (hb:isBytes l) (hn:l.length≤100000):g56 l=some (ba (dgs (byt l))):=by
 refine g_eq ?_
 unfold g56
 refine g_jn (fun v=>v=bIn (dgs (byt l))) (fun k hk=>?_) fun v hv=>?_
 ·refine g_bind (Ω:=fun o=>o=bIn (dgs (byt l))) (g_loop (fun t:List Int×Int=>∃i:Nat,t.2=i∧i≤l.length∧t.1=bIn (dgs (byt (l.take i)))) (fun t=>l.length-t.2.toNat) ?_ ⟨0,rfl,Nat.zero_le _,by rw [List.take_zero];rfl⟩) fun o ho=>hk _ ho
  rintro ⟨_,_⟩ ⟨i,rfl,hi,rfl⟩
  dsimp only
  refine g_if (fun hr=>?_) fun hr=>?_
  ·have hi':i<l.length:=by omega
   have hx:0≤l.getD i 0∧l.getD i 0≤255:=hb _ (by rw [List.getD_eq_getElem?_getD,List.getElem?_eq_getElem hi'];exact List.getElem_mem hi')
   have e:l.take (i+1)=l.take i++[l.getD i 0]:=by
    rw [List.take_add_one,List.getD_eq_getElem?_getD,List.getElem?_eq_getElem hi'];rfl
   rw [Int.toNat_natCast]
   generalize l.getD i 0=X at hx e
   have hd:Int.tdiv X 16=X / 16:=Int.tdiv_eq_ediv_of_nonneg hx.1
   have hm:Int.tmod X 16=X % 16:=Int.tmod_eq_emod_of_nonneg hx.1
   rw [hd,hm]
   have hsz:((lit [48,49,50,51,52,53,54,55,56,57,97,98,99,100,101,102]).size:Int)=16:=rfl
   rw [hsz,hex_at (by omega),hex_at (by omega)]
   have hln:(bIn (dgs (byt (l.take i)))).length≤2 * i:=by
    unfold bIn;rw [List.length_map,dgs_len,byt_len,List.length_take];omega
   refine g_ck (by omega) (g_u8 (by omega) (g_ck (by omega) (g_ck (by omega) (g_ck (by omega) (g_ck (by omega) (g_i64 (by omega) (g_go ⟨i+1,by show (i:Int)+1=_;omega,by omega,?_⟩ (by show l.length-((i:Int)+1).toNat<l.length-((i:Int)).toNat;omega))))))))
   show bIn _++[((hxs (X / 16).toNat).toNat:Int),((hxs (X % 16).toNat).toNat:Int)]=_
   have eb:byt (l.take i++[X])=byt (l.take i)++[UInt8.ofNat X.toNat]:=by simp [byt]
   have en:(UInt8.ofNat X.toNat).toNat=X.toNat:=by rw [UInt8.toNat_ofNat'];omega
   rw [e,eb,dgs_app]
   unfold bIn
   rw [List.map_append]
   congr 1
   show _=[((hxs ((UInt8.ofNat X.toNat).toNat / 16)).toNat:Int),((hxs ((UInt8.ofNat X.toNat).toNat % 16)).toNat:Int)]
   rw [en,show (X / 16).toNat=X.toNat / 16 by omega,show (X % 16).toNat=X.toNat % 16 by omega]
  ·refine g_out ?_
   rw [List.take_of_length_le (by omega)]
 ·subst hv
  exact g_ck (bIn_ok _) (g_some (bIn_str _))
theorem line_ref {e:Ev} (hb:isBytes e.2.1) (hn:e.2.1.length≤1000):g24 e=some (ba (lineP e).1,(lineP e).2):=by
 obtain ⟨w,l,W,H⟩:=e
 dsimp only at hb hn
 refine g_eq ?_
 unfold g24 lineP
 dsimp only
 refine g_if (fun h=>by rw [if_pos h];exact g_some rfl) fun h2=>?_
 rw [if_neg h2]
 refine g_if (fun h=>by rw [if_pos h];exact g_some rfl) fun h4=>?_
 rw [if_neg h4]
 refine g_if (fun h3=>?_) fun h3=>?_
 ·rw [if_pos h3]
  refine g_jn (fun v=>v=decide (¬(W<1∨500<W∨H<1∨500<H))) (fun k hk=>?_) fun v hv=>?_
  ·refine g_if (fun q1=>g_if (fun q2=>g_if (fun q3=>hk _ (decide_eq_decide.2 (by omega))) fun q3=>hk _ (decide_eq_false (by omega)).symm) fun q2=>hk _ (decide_eq_false (by omega)).symm) fun q1=>hk _ (decide_eq_false (by omega)).symm
  subst hv
  refine g_if (fun h=>?_) fun h=>?_
  ·have h:W<1∨500<W∨H<1∨500<H:=Classical.byContradiction fun q=>h (decide_eq_true q)
   rw [if_pos h];exact g_some rfl
  ·have h:¬(W<1∨500<W∨H<1∨500<H):=fun q=>h (by rw [decide_eq_false (fun x=>x q)];simp)
   rw [if_neg h]
   obtain ⟨a,rfl⟩:=Int.eq_ofNat_of_zero_le (show 0≤W by omega)
   obtain ⟨b,rfl⟩:=Int.eq_ofNat_of_zero_le (show 0≤H by omega)
   have la:=dec_len ⟨a,by omega⟩
   have lb:=dec_len ⟨b,by omega⟩
   dsimp only at la lb
   refine g_call (dec_eq (n:=a) (by omega)) (g_ck (by rw [ba_size];simp [lit,ByteArray.size];omega) (g_ck (by rw [ByteArray.size_append,ba_size];simp [lit,ByteArray.size];omega) (g_call (dec_eq (n:=b) (by omega)) (g_ck (by rw [ByteArray.size_append,ByteArray.size_append,ba_size,ba_size];simp [lit,ByteArray.size];omega) (g_some ?_)))))
   rw [Int.toNat_natCast,Int.toNat_natCast,ba_app,ba_app,ba_app]
   rfl
 rw [if_neg h3]
 refine g_if (fun h1=>?_) fun h1=>?_
 ·rw [if_pos h1]
  have hp:=seen_eq (strOf l) (by rw [strB,ba_size,byt_len];omega)
  have ht:(strOf l).data.toList=byt l:=by rw [strB];simp [ba]
  rw [ht] at hp
  refine g_ck hb (g_call hp ?_)
  refine g_if (fun q=>?_) fun q=>?_
  ·rw [if_pos q]
   refine g_ck hb (g_ck (by rw [strB,ba_size,byt_len];simp [lit,ByteArray.size];omega) (g_some ?_))
   rw [strB,ba_app];rfl
  rw [if_neg q]
  refine g_if (fun q0=>?_) fun q0=>?_
  ·rw [if_pos (by omega)];exact g_some rfl
  rw [if_neg (by omega)]
  refine g_call (digits_eq hb (by omega)) (g_ck (by rw [ba_size,dgs_len,byt_len];simp [lit,ByteArray.size];omega) (g_some ?_))
  rw [ba_app];rfl
 ·rw [if_neg h1];exact g_some rfl
theorem line_prog {e:Ev} (hb:isBytes e.2.1) (hn:e.2.1.length≤1000):g20 e=some (ba (lineP e).1,(lineP e).2):=by
 obtain ⟨w,l,W,H⟩:=e
 dsimp only at hb hn
 refine g_eq ?_
 unfold g20 lineP
 dsimp only
 refine g_if (fun h=>by rw [if_pos h];exact g_some rfl) fun h2=>?_
 rw [if_neg h2]
 refine g_if (fun h=>by rw [if_pos h];exact g_some rfl) fun h4=>?_
 rw [if_neg h4]
 refine g_if (fun h3=>?_) fun h3=>?_
 ·rw [if_pos h3]
  refine g_if (fun h=>by rw [if_pos (by omega)];exact g_some rfl) fun q1=>?_
  refine g_if (fun h=>by rw [if_pos (by omega)];exact g_some rfl) fun q2=>?_
  refine g_if (fun h=>by rw [if_pos (by omega)];exact g_some rfl) fun q3=>?_
  refine g_if (fun h=>by rw [if_pos (by omega)];exact g_some rfl) fun q4=>?_
  rw [if_neg (by omega)]
  obtain ⟨a,rfl⟩:=Int.eq_ofNat_of_zero_le (show 0≤W by omega)
  obtain ⟨b,rfl⟩:=Int.eq_ofNat_of_zero_le (show 0≤H by omega)
  have la:=dec_len ⟨a,by omega⟩
  have lb:=dec_len ⟨b,by omega⟩
  dsimp only at la lb
  refine g_call (ito_eq (n:=a) (by omega)) (g_ck (by rw [ba_size];simp [lit,ByteArray.size];omega) (g_ck (by rw [ByteArray.size_append,ba_size];simp [lit,ByteArray.size];omega) (g_call (ito_eq (n:=b) (by omega)) (g_ck (by rw [ByteArray.size_append,ByteArray.size_append,ba_size,ba_size];simp [lit,ByteArray.size];omega) (g_some ?_)))))
  rw [Int.toNat_natCast,Int.toNat_natCast,ba_app,ba_app,ba_app]
  rfl
 rw [if_neg h3]
 refine g_if (fun h1=>?_) fun h1=>?_
 ·rw [if_pos h1]
  have:g53 l=some (ba (bytesP l)):=by unfold g53 ck;rw [if_pos ⟨hb,by omega⟩]
  exact g_call this (g_some rfl)
 ·rw [if_neg h1];exact g_some rfl
end Go.Proofs.YticmemgehllacaaGreatDoor
end
section
namespace Go.Proofs.YticmemgehllacaaGreatDoor
open Go Go.Eng
def FewE (l:List Ev):Prop:=l.length≤60∧∀e∈l,isBytes e.2.1∧e.2.1.length≤200
theorem getD_in {l:List Ev} {i:Nat} (h:i<l.length):l.getD i default∈l:=by
 rw [List.getD_eq_getElem?_getD,List.getElem?_eq_getElem h];exact List.getElem_mem h
theorem take_next {l:List Ev} {i:Nat} (h:i<l.length):l.take (i+1)=l.take i++[l.getD i default]:=by
 rw [List.take_add_one,List.getD_eq_getElem?_getD,List.getElem?_eq_getElem h];rfl
theorem few_len {l:List Ev} (h:FewE l) (i:Nat):(txt (l.take i)).length≤24900:=by
 have:=txt_len (l.take i) 200 fun e he=>(h.2 e (List.mem_of_mem_take he)).2
 have hl:(l.take i).length≤60:=by rw [List.length_take];have:=h.1;omega
 have:(l.take i).length * (2 * 200+15)≤60 * 415:=Nat.mul_le_mul hl (Nat.le_refl _)
 omega
theorem all_next {l:List Ev} {i:Nat} (h:i<l.length) (h1:(l.take i).all (fun e=>(lineP e).2)=true) (h2:(lineP (l.getD i default)).2=true):(l.take (i+1)).all (fun e=>(lineP e).2)=true:=by
 rw [take_next h,List.all_append,h1,List.all_cons,h2]
 rfl
theorem pr_bad {l:List Ev} {i:Nat} (h:i<l.length) (h2:(lineP (l.getD i default)).2=false):prP l=(ba [],290):=by
 unfold prP
 rw [if_neg]
 intro ha
 have:=List.all_eq_true.1 ha _ (getD_in h)
 rw [h2] at this
 cases this
theorem pr_good {l:List Ev} {i:Nat} (h:¬i<l.length) (h1:(l.take i).all (fun e=>(lineP e).2)=true):prP l=(ba (txt (l.take i)),0):=by
 rw [List.take_of_length_le (by omega)] at h1 ⊢
 unfold prP
 rw [if_pos h1]
theorem print_ref {l:List Ev} (h:FewE l):g12 l=some (prP l):=by
 refine g_eq ?_
 unfold g12
 refine g_jo ?_
 refine g_bind (Ω:=fun o=>prP l=sm o (fun _=>(ba [],(290:Int))) (fun s=>(s,0))) (g_loop (fun t:ByteArray×Int=>∃i:Nat,t.2=i∧i≤l.length∧t.1=ba (txt (l.take i))∧(l.take i).all (fun e=>(lineP e).2)=true) (fun t=>l.length-t.2.toNat) ?_ ⟨0,rfl,Nat.zero_le _,by rw [List.take_zero];rfl,by rw [List.take_zero];rfl⟩) ?_
 ·rintro ⟨_,_⟩ ⟨i,rfl,hi,rfl,ha⟩
  dsimp only
  have hln:=few_len h i
  refine g_if (fun hr=>?_) fun hr=>?_
  ·have hi':i<l.length:=by omega
   have hm:=getD_in hi'
   obtain ⟨hb,h2⟩:=h.2 _ hm
   have hl60:=h.1
   rw [Int.toNat_natCast]
   have hll:=line_len (l.getD i default)
   refine g_ck (by omega) (g_call (line_ref (e:=l.getD i default) hb (by omega)) ?_)
   dsimp only
   refine g_if (fun q=>g_out ?_) fun q=>?_
   ·exact pr_bad hi' (by cases hq:(lineP (l.getD i default)).2 with | false=>rfl | true=>exact absurd hq q)
   ·have q:(lineP (l.getD i default)).2=true:=Classical.byContradiction q
    refine g_ck (by rw [ba_size,ba_size];omega) (g_ck (by rw [ByteArray.size_append,ba_size,ba_size,show (lit [10]).size=1 from rfl];omega) (g_i64 (by omega) (g_go ⟨i+1,by show (i:Int)+1=_;omega,by omega,?_,all_next hi' ha q⟩ (by show l.length-((i:Int)+1).toNat<l.length-((i:Int)).toNat;omega))))
    rw [take_next hi',txt_snoc,ba_app,ba_app]
    show (ba _++ba _)++ba [10]=_
    rw [←ba_app,←ba_app,←ba_app,←ba_app,List.append_assoc]
  ·exact g_out (pr_good (by omega) ha)
 ·intro o ho
  rw [ho]
  refine g_sm (fun b hb=>?_) fun c hc=>?_
  ·subst hb;exact g_some rfl
  ·subst hc;exact g_some rfl
theorem bIn_app (a b:List UInt8):bIn (a++b)=bIn a++bIn b:=by simp [bIn]
theorem bIn_ba (l:List UInt8):bytesOf (ba l)=bIn l:=by simp [bytesOf,bIn,ba]
theorem bIn_len (l:List UInt8):(bIn l).length=l.length:=by simp [bIn]
theorem g23_str (l:List UInt8):g23 (bIn l)=some (ba l):=by
 refine g_eq ?_
 unfold g23
 exact g_ck (bIn_ok l) (g_some (bIn_str l))
theorem print_prog {l:List Ev} (h:FewE l):g11 l=some (prP l):=by
 refine g_eq ?_
 unfold g11
 refine g_jo ?_
 refine g_bind (Ω:=fun o=>(∃x,o=.inl x∧prP l=(ba [],290))∨(∃s,o=.inr (bIn s)∧prP l=(ba s,0))) (g_loop (fun t:List Int×Int=>∃i:Nat,t.2=i∧i≤l.length∧t.1=bIn (txt (l.take i))∧(l.take i).all (fun e=>(lineP e).2)=true) (fun t=>l.length-t.2.toNat) ?_ ⟨0,rfl,Nat.zero_le _,by rw [List.take_zero];rfl,by rw [List.take_zero];rfl⟩) ?_
 ·rintro ⟨_,_⟩ ⟨i,rfl,hi,rfl,ha⟩
  dsimp only
  have hln:=few_len h i
  refine g_if (fun hr=>?_) fun hr=>?_
  ·have hi':i<l.length:=by omega
   have hm:=getD_in hi'
   obtain ⟨hb,h2⟩:=h.2 _ hm
   have hl60:=h.1
   rw [Int.toNat_natCast]
   have hll:=line_len (l.getD i default)
   refine g_ck (by omega) (g_call (line_prog (e:=l.getD i default) hb (by omega)) ?_)
   dsimp only
   refine g_if (fun q=>g_out (.inl ⟨_,rfl,?_⟩)) fun q=>?_
   ·exact pr_bad hi' (by cases hq:(lineP (l.getD i default)).2 with | false=>rfl | true=>exact absurd hq q)
   ·have q:(lineP (l.getD i default)).2=true:=Classical.byContradiction q
    have e1:bIn (txt (l.take i))++bytesOf (ba (lineP (l.getD i default)).1)=bIn (txt (l.take i)++(lineP (l.getD i default)).1):=by rw [bIn_ba,bIn_app]
    refine g_call (show g54 _=some _ from rfl) (g_ck (by rw [bIn_len,ba_size];omega) ?_)
    rw [e1]
    refine g_call (show g54 _=some _ from rfl) (g_ck (by rw [bIn_len,List.length_append];omega) (g_i64 (by omega) (g_go ⟨i+1,by show (i:Int)+1=_;omega,by omega,?_,all_next hi' ha q⟩ (by show l.length-((i:Int)+1).toNat<l.length-((i:Int)).toNat;omega))))
    rw [take_next hi',txt_snoc,←List.append_assoc,bIn_app _ [10]]
    rfl
  ·exact g_out (.inr ⟨_,rfl,pr_good (by omega) ha⟩)
 ·rintro o (⟨x,rfl,hp⟩ | ⟨s,rfl,hp⟩)
  ·rw [hp];exact g_some rfl
  ·rw [hp];exact g_call (g23_str s) (g_some rfl)
theorem str_byt (l:List Int):(strOf l).data.toList=byt l:=by rw [strB];simp [ba]
theorem same_one {a b:Ev} (ha:isBytes a.2.1) (hb:isBytes b.2.1):g16 a b=some (smE a b):=by
 obtain ⟨w,l,W,H⟩:=a
 obtain ⟨w',l',W',H'⟩:=b
 dsimp only at ha hb
 refine g_eq ?_
 unfold g16 smE
 dsimp only
 refine g_if (fun h=>g_some (by rw [decide_eq_false h,Bool.false_and])) fun h=>?_
 have h:w=w':=Classical.byContradiction h
 subst h
 rw [decide_eq_true rfl,Bool.true_and]
 refine g_if (fun h3=>?_) fun h3=>?_
 ·rw [if_pos h3]
  exact g_if (fun q=>g_some (decide_eq_decide.2 ⟨fun e=>⟨q,e⟩,fun e=>e.2⟩)) fun q=>g_some (decide_eq_false fun e=>q e.1).symm
 rw [if_neg h3]
 refine g_if (fun h1=>?_) fun h1=>?_
 ·rw [if_neg h1];exact g_some rfl
 ·rw [if_pos (Classical.byContradiction h1)]
  refine g_ck ha (g_ck hb (g_some ?_))
  rw [str_byt,str_byt]
theorem smL_iff:∀{a b:List Ev},smL a b=true↔a.length=b.length∧∀i,i<a.length→smE (a.getD i default) (b.getD i default)=true
 | [],[]=>by simp [smL]
 | [],_::_=>by simp [smL]
 | _::_,[]=>by simp [smL]
 | x::s,y::t=>by
  rw [smL,Bool.and_eq_true,smL_iff]
  constructor
  ·rintro ⟨h1,h2,h3⟩
   refine ⟨by simp [h2],fun i hi=>?_⟩
   cases i with
   | zero=>exact h1
   | succ i=>exact h3 i (by simpa using hi)
  ·rintro ⟨h1,h2⟩
   exact ⟨h2 0 (by simp),by simpa using h1,fun i hi=>h2 (i+1) (by simpa using hi)⟩
theorem same_eq {a b:List Ev} (ha:∀e∈a,isBytes e.2.1) (hb:∀e∈b,isBytes e.2.1) (hn:a.length≤100000):g8 a b=some (smL a b):=by
 refine g_eq ?_
 unfold g8
 refine g_if (fun h=>g_some ?_) fun h=>?_
 ·cases hq:smL a b with
  | false=>rfl
  | true=>exact absurd (smL_iff.1 hq).1 (by omega)
 have hl:a.length=b.length:=by omega
 refine g_jo ?_
 refine g_bind (Ω:=fun o=>smL a b=sm o (fun _=>false) (fun _=>true)) (g_loop (fun t:Int=>∃i:Nat,t=i∧i≤a.length∧∀j,j<i→smE (a.getD j default) (b.getD j default)=true) (fun t=>a.length-t.toNat) ?_ ⟨0,rfl,Nat.zero_le _,fun j hj=>by omega⟩) ?_
 ·rintro _ ⟨i,rfl,hi,hv⟩
  refine g_if (fun hr=>?_) fun hr=>?_
  ·have hi':i<a.length:=by omega
   rw [Int.toNat_natCast]
   refine g_ck (by omega) (g_ck (by omega) (g_call (same_one (a:=a.getD i default) (b:=b.getD i default) (ha _ (getD_in hi')) (hb _ (getD_in (by omega)))) ?_))
   refine g_if (fun q=>g_out ?_) fun q=>?_
   ·cases hq:smL a b with
    | false=>rfl
    | true=>exact absurd ((smL_iff.1 hq).2 i hi') q
   ·have q:smE (a.getD i default) (b.getD i default)=true:=Classical.byContradiction q
    refine g_i64 (by omega) (g_go ⟨i+1,by omega,by omega,fun j hj=>?_⟩ (by show a.length-((i:Int)+1).toNat<a.length-((i:Int)).toNat;omega))
    by_cases e:j=i
    ·subst e;exact q
    ·exact hv j (by omega)
  ·exact g_out (smL_iff.2 ⟨hl,fun j hj=>hv j (by omega)⟩)
 ·intro o ho
  rw [ho]
  refine g_sm (fun x hb=>?_) fun c hc=>?_
  ·subst hb;exact g_some rfl
  ·subst hc;exact g_some rfl
theorem prints_give {a:List Ev} (ha:∀e∈a,isBytes e.2.1):Gives (g4 a) fun r=>r=true:=by
 unfold g4
 refine g_jn FewE (fun k hk=>?_) fun v hv=>?_
 ·refine g_bind (Ω:=FewE) (g_loop (fun t:List Ev×Int=>∃i:Nat,t.2=i∧i≤60∧i≤a.length∧t.1.length=i∧∀e∈t.1,isBytes e.2.1∧e.2.1.length≤200) (fun t=>60-t.2.toNat) ?_ ⟨0,rfl,by omega,Nat.zero_le _,rfl,fun e he=>by cases he⟩) fun o ho=>hk _ ho
  rintro ⟨t,_⟩ ⟨i,rfl,h60,hi,hl,ht⟩
  dsimp only at hl ht ⊢
  refine g_if (fun hr=>?_) fun hr=>g_out ⟨by omega,ht⟩
  refine g_if (fun hs=>?_) fun hs=>g_out ⟨by omega,ht⟩
  have hi':i<a.length:=by omega
  have hx:=getD_in hi'
  have hxb:=ha _ hx
  rw [Int.toNat_natCast]
  generalize a.getD i default=x at hxb
  have hg:0≤gmin ((x.2.1.length:Nat):Int) 200∧gmin ((x.2.1.length:Nat):Int) 200≤((x.2.1.length:Nat):Int)∧gmin ((x.2.1.length:Nat):Int) 200≤200:=by rw [gmin_eq];omega
  refine g_ck (by omega) (g_ck ⟨by omega,hg.1,hg.2.1⟩ (g_ck (by rw [hl];omega) (g_i64 (by omega) (g_go ⟨i+1,by show (i:Int)+1=_;omega,by omega,by omega,by show (t++[_]).length=_;rw [List.length_append,hl];rfl,fun e he=>?_⟩ (by show 60-((i:Int)+1).toNat<60-((i:Int)).toNat;omega)))))
  rcases List.mem_append.1 he with he | he
  ·exact ht e he
  ·rcases List.mem_cons.1 he with rfl | he
   ·dsimp only
    refine ⟨fun c hc=>hxb c (List.mem_of_mem_drop (List.mem_of_mem_take hc)),?_⟩
    rw [List.length_take]
    omega
   ·cases he
 refine g_call (print_prog hv) (g_call (print_ref hv) ?_)
 refine g_f (fun h=>h rfl) (g_f (fun h=>h rfl) (g_call (show g10=some true from rfl) (g_f (fun h=>h rfl) ?_)))
 refine g_if (fun _=>g_some rfl) fun hz=>?_
 have hz:(prP v).2=0:=Classical.byContradiction hz
 have hall:v.all (fun e=>(lineP e).2)=true:=by
  unfold prP at hz
  by_cases q:v.all (fun e=>(lineP e).2)=true
  ·exact q
  ·rw [if_neg q] at hz;cases hz
 have hp:prP v=(ba (txt v),0):=by unfold prP;rw [if_pos hall]
 rw [hp]
 have hok:∀e∈v,isBytes e.2.1∧(lineP e).2=true:=fun e he=>⟨(hv.2 e he).1,List.all_eq_true.1 hall e he⟩
 have hlen:=few_len hv v.length
 rw [List.take_of_length_le (Nat.le_refl _)] at hlen
 refine g_call (parse_txt v hok (by omega) (by have:=hv.1;omega)) (g_t rfl (g_t rfl (g_call (same_eq (fun e he=>?_) (fun e he=>(hv.2 e he).1) (by rw [List.length_map];have:=hv.1;omega)) (g_some (sm_norms v fun e he=>(hok e he).2)))))
 obtain ⟨x,hx,rfl⟩:=List.mem_map.1 he
 have hb:=(hv.2 x hx).1
 unfold norm
 split
 ·intro c hc;cases hc
 ·split
  ·exact hb
  ·intro c hc;cases hc
end Go.Proofs.YticmemgehllacaaGreatDoor
end
section
namespace Go.Proofs.YticmemgehllacaaGreatDoor.scriptPrints
theorem jq1:(Rows.scriptPrintsRow.wf (OpenSpec.ofChange Rows.scriptPrintsSpec))=true:=by kernel_rfl
theorem jq2:(laidOutB Tryz.prog)=true:=by kernel_rfl
theorem jq3:(mapsRowed Tryz.prog)=true:=by kernel_rfl
theorem jq4:(Tryz.f4.params.all (Tryz.prog.readableRec ·))=true:=by kernel_rfl
theorem jq5:(namedTie Tryz.prog Rows.scriptPrintsRow.named Rows.scriptPrintsSpec.vars)=true:=by kernel_rfl
theorem jq6:((Rows.scriptPrintsRow.stops == []))=true:=by kernel_rfl
theorem jq7:((Tryz.prog.stops == []))=true:=by kernel_rfl
theorem jq8:((Rows.scriptPrintsRow.knobs == []))=true:=by kernel_rfl
theorem jq9:((Tryz.prog.stopKnobs == []))=true:=by kernel_rfl
theorem jq10:((Rows.scriptPrintsRow.inPlace == Tryz.prog.inPlace 4))=true:=by kernel_rfl
end Go.Proofs.YticmemgehllacaaGreatDoor.scriptPrints
end
section
namespace Go.Proofs.YticmemgehllacaaGreatDoor.scriptPrints
theorem jand {a b:Bool} (x:a=true) (y:b=true):(a && b)=true:=by rw [x,y];rfl
theorem jq11:((Rows.scriptPrintsRow.unfollowed == Tryz.prog.unfollowed 4))=true:=by kernel_rfl
theorem jq12:((Rows.scriptPrintsRow.recurses == Tryz.prog.recurses 4))=true:=by kernel_rfl
theorem jq13:((Rows.scriptPrintsRow.named == Tryz.prog.varsNamed 4))=true:=by kernel_rfl
theorem jq14:((Rows.scriptPrintsRow.maps == (Tryz.f4.params.toList++Rows.scriptPrintsSpec.plain.varTypes Tryz.prog).any (Tryz.prog.mapsRec ·)))=true:=by kernel_rfl
theorem jq15:((Rows.scriptPrintsRow.ifaces == (Tryz.f4.params.toList++Rows.scriptPrintsSpec.plain.varTypes Tryz.prog).any (Tryz.prog.ifacesRec ·)))=true:=by kernel_rfl
theorem jq16:((Rows.scriptPrintsRow.mapsOut == Tryz.prog.mapsAmong Tryz.f4.resultTypes.toList))=true:=by kernel_rfl
theorem jq17:((Rows.scriptPrintsRow.loops == (Tryz.f4.params.toList++Rows.scriptPrintsSpec.plain.varTypes Tryz.prog).any (Tryz.prog.loopsFrom ·)))=true:=by kernel_rfl
theorem jq18:((Rows.scriptPrintsRow.wideKeys == (Tryz.f4.params.toList++Rows.scriptPrintsSpec.plain.varTypes Tryz.prog++Tryz.f4.resultTypes.toList).any (Tryz.prog.wideKeysFrom ·)))=true:=by kernel_rfl
theorem jq19:(Rows.scriptPrintsSpec.vars.all (Tryz.prog.varReadable ·))=true:=by kernel_rfl
theorem jq20:(Tryz.f4.resultTypes.all (fun t=>Tryz.prog.readableRec t && decide (t<Tryz.prog.types.size)))=true:=by kernel_rfl
theorem jq21:((Rows.scriptPrintsRow.ifacesOut == Tryz.f4.resultTypes.toList.any (Tryz.prog.ifacesRec ·)))=true:=by kernel_rfl
theorem jq22:((Rows.scriptPrintsRow.loopsOut == Tryz.f4.resultTypes.toList.any (Tryz.prog.loopsFrom ·)))=true:=by kernel_rfl
theorem jq23:((Rows.scriptPrintsRow.plainKeys == Tryz.prog.plainKeys))=true:=by kernel_rfl
theorem jq24:(Rows.scriptPrintsRow.shortTexts.isNone)=true:=by kernel_rfl
theorem jq25:(Tryz.prog.stopsHeard)=true:=by kernel_rfl
theorem jq26:(Tryz.prog.mayEnter)=true:=by kernel_rfl
theorem jq27:((Rows.scriptPrintsRow.lifted == Tryz.prog.liftsFinal))=true:=by kernel_rfl
theorem jq28:((Tryz.prog.make == some Rows.scriptPrintsRow.make))=true:=by kernel_rfl
theorem jq29:((Rows.scriptPrintsRow.kinds == (if Rows.scriptPrintsRow.domain.isEmpty then [] else Tryz.f4.params.toList.map fun t=>match Tryz.prog.underlying t with | some (.int k)=>some k | _=>none)))=true:=by kernel_rfl
theorem jq30:((Rows.scriptPrintsRow.pinned == Rows.scriptPrintsRow.pinnedBy))=true:=by kernel_rfl
theorem jq31:((Rows.scriptPrintsRow.veiled == (Tryz.f4.params.toList++Rows.scriptPrintsSpec.plain.varTypes Tryz.prog++Tryz.f4.resultTypes.toList).any (Tryz.prog.veiledRec ·)))=true:=by kernel_rfl
theorem jq32:(Rows.scriptPrintsRow.veiledFits Tryz.prog Tryz.f4.params.toList (Tryz.f4.params.toList++Rows.scriptPrintsSpec.plain.varTypes Tryz.prog++Tryz.f4.resultTypes.toList))=true:=by kernel_rfl
set_option maxRecDepth 100000 in
theorem jnr:joinedFacts Tryz.prog 4 Tryz.f4 Rows.scriptPrintsSpec Rows.scriptPrintsRow=true:=by unfold joinedFacts;exact (jand (jand (jand (jand (jand (jand (jand (jand (jand (jand (jand (jand (jand (jand (jand (jand (jand (jand (jand (jand (jand (jand (jand (jand (jand (jand (jand (jand (jand (jand (jand jq1 jq2) jq3) jq4) jq5) jq6) jq7) jq8) jq9) jq10) jq11) jq12) jq13) jq14) jq15) jq16) jq17) jq18) jq19) jq20) jq21) jq22) jq23) jq24) jq25) jq26) jq27) jq28) jq29) jq30) jq31) jq32)
end Go.Proofs.YticmemgehllacaaGreatDoor.scriptPrints
end
section
namespace Go.Proofs.YticmemgehllacaaGreatDoor
open Go Go.Proofs
theorem goes_none {P:Program} (h:P.funcs.any Func.goes=false) (f:FuncId):P.goes f=false:=by
 have hf:∀g:Nat,(P.funcs[g]?).any Func.goes=false:=fun g=>by
  cases hg:P.funcs[g]? with
  | none=>rfl
  | some fn=>
   obtain ⟨hlt,he⟩:=Array.getElem?_eq_some_iff.1 hg
   have:=Array.any_eq_false.1 h g hlt
   rw [he] at this
   simpa using this
 unfold Program.goes
 rw [h,Bool.and_false,Bool.or_false]
 induction P.closure f with
 | nil=>rfl
 | cons x l ih=>rw [List.any_cons,hf,ih];rfl
theorem goesFrom_none {P:Program} (h:P.funcs.any Func.goes=false) (n:String):P.goesFrom n=false:=by
 unfold Program.goesFrom
 cases P.funcNamed n with
 | none=>rfl
 | some f=>exact goes_none h f
theorem anyP:Tryz.prog.funcs.any Func.goes=false:=by kernel_rfl
theorem goesBy_none {P:Program} (h:P.funcs.any Func.goes=false) (c:OpenClaim):false=c.goesBy P:=by
 unfold OpenClaim.goesBy Program.goesAt
 rw [goesFrom_none h,Bool.false_or]
 split
 ·rfl
 ·symm
  rw [List.any_eq_false]
  intro f _
  rw [goes_none h f]
  simp
end Go.Proofs.YticmemgehllacaaGreatDoor
end
