/- Texts that the law leans on. -/
import Derived.Test.YtmpknfgjfmgleaaGreatDoorSK4
import Derived.Test.YtmpknfgjfmgleaaGreatDoorSK3
import Derived.Test.YtmpknfgjfmgleaaGreatDoorSK7
set_option linter.unusedVariables false
set_option linter.unusedSimpArgs false
section
namespace Go.Proofs.YtmpknfgjfmgleaaGreatDoor
open Go Go.Eng
theorem keep8:∀n:Int,0≤n→n<2 ^ 8→IntKind.u8.wrap n=n:=fun n h0 h1=>by rw [IntKind.wrap_u8];omega
theorem band31 {c:Int} (h0:0≤c) (h1:c≤255):bits .and .u8 c 31=c % 32:=bits_mask .u8 8 (by decide) keep8 5 (by decide) c h0 (by omega)
theorem band15 {c:Int} (h0:0≤c) (h1:c≤255):bits .and .u8 c 15=c % 16:=bits_mask .u8 8 (by decide) keep8 4 (by decide) c h0 (by omega)
theorem band7 {c:Int} (h0:0≤c) (h1:c≤255):bits .and .u8 c 7=c % 8:=bits_mask .u8 8 (by decide) keep8 3 (by decide) c h0 (by omega)
theorem band63 {c:Int} (h0:0≤c) (h1:c≤255):bits .and .u8 c 63=c % 64:=bits_mask .u8 8 (by decide) keep8 6 (by decide) c h0 (by omega)
def zj (c:Int):Int:=if c<128 then 1 else if c<194 then 0 else if c<224 then 2 else if c<240 then 3 else if c≤244 then 4 else 0
def yq (c:Int):Int:=if c<194 then 0 else if c=224 then 160 else if c=240 then 144 else if c≤244 then 128 else 0
def zR (c:Int):Int:=if c<194 then 0 else if c=237 then 159 else if c=244 then 143 else if c≤244 then 191 else 0
def zU (c:Int):Int:=if c<128 then c else if c<194 then 0 else if c<224 then c % 32 else if c<240 then c % 16 else if c≤244 then c % 8 else 0
def nxGo (n:Int):Nat→Int→Int→Int→List Int→Int×Int×Bool
 | 0,_,_,r,_=>(r,n,false)
 | _+1,_,_,_,[]=>(0,0,true)
 | k+1,lo,hi,r,b::t=>if b<lo∨hi<b then (65533,1,false) else nxGo n k 128 191 (r * 64+b % 64) t
def nx:List Int→Int×Int×Bool
 | []=>(0,0,true)
 | c::t=>if zj c=0 then (65533,1,false) else nxGo (zj c) (zj c-1).toNat (yq c) (zR c) (zU c) t
def Byt (l:List Int):Prop:=∀c∈l,0≤c∧c≤255
def boundR (i r:Int):Prop:=0≤r∧((i=1∧r<128)∨(i=2∧r<8192)∨(i=3∧r<524288)∨(i=4∧r<33554432))
def okN (l:List Int) (m:Int) (lo hi:Int) (i r:Int):Prop:=1≤i∧i≤m∧boundR i r∧nxGo m (m-i).toNat (if i=1 then lo else 128) (if i=1 then hi else 191) r (l.drop i.toNat)=nx l
theorem many_le (c:Int):0≤zj c∧zj c≤4:=by unfold zj;repeat' split<;>omega
theorem bits_lt (c:Int) (h0:0≤c):0≤zU c∧zU c<128:=by unfold zU;repeat' split<;>omega
theorem drop_getD {l:List Int} {i:Nat} (h:i<l.length):l.drop i=l.getD i 0::l.drop (i+1):=by
 rw [List.drop_eq_getElem_cons h];simp [h]
theorem next_start {c:Int} {t:List Int} (h0:0≤c) (h:¬zj c=0):okN (c::t) (zj c) (yq c) (zR c) 1 (zU c):=by
 have:=many_le c
 have:=bits_lt c h0
 refine ⟨by omega,by show 1≤_;omega,⟨by show 0≤_;omega,.inl ⟨rfl,by show _<_;omega⟩⟩,?_⟩
 simp only [nx,if_neg h,if_true]
 rfl
theorem next_none {c:Int} {t:List Int} (h:zj c=0):nx (c::t)=(65533,1,false):=by simp [nx,h]
theorem next_end {l:List Int} {m lo hi i r:Int} (h:okN l m lo hi i r) (hi:¬i<m):nx l=(r,m,false):=by
 obtain ⟨h1,h2,h3,h4⟩:=h
 have e:(m-i).toNat=0:=by omega
 rw [←h4,e]
 rfl
theorem next_short {l:List Int} {m lo hi i r:Int} (h:okN l m lo hi i r) (hi:i<m) (hl:(l.length:Int)≤i):nx l=(0,0,true):=by
 obtain ⟨h1,h2,h3,h4⟩:=h
 obtain ⟨k,e⟩:∃k,(m-i).toNat=k+1:=⟨(m-i).toNat-1,by omega⟩
 rw [←h4,e,List.drop_eq_nil_of_le (by omega)]
 rfl
theorem next_bad {l:List Int} {m lo hi i r:Int} (h:okN l m lo hi i r) (hi':i<m) (hl:i<(l.length:Int)) (hb:l.getD i.toNat 0<(if i=1 then lo else 128)∨(if i=1 then hi else 191)<l.getD i.toNat 0):nx l=(65533,1,false):=by
 obtain ⟨h1,h2,h3,h4⟩:=h
 obtain ⟨k,e⟩:∃k,(m-i).toNat=k+1:=⟨(m-i).toNat-1,by omega⟩
 rw [←h4,e,drop_getD (by omega)]
 simp only [nxGo,if_pos hb]
theorem next_more {l:List Int} (hl0:Byt l) {m lo hi i r:Int} (hm:m≤4) (h:okN l m lo hi i r) (hi':i<m) (hl:i<(l.length:Int)) (hb:¬(l.getD i.toNat 0<(if i=1 then lo else 128)∨(if i=1 then hi else 191)<l.getD i.toNat 0)) :
  okN l m lo hi (i+1) (bits .or .i32 (IntKind.i32.wrap (r * 64)) (bits .and .u8 (l.getD i.toNat 0) 63))∧(m-(i+1)).toNat<(m-i).toNat:=by
 obtain ⟨h1,h2,h3,h4⟩:=h
 have hb0:0≤l.getD i.toNat 0∧l.getD i.toNat 0≤255:=hl0 _ (by
  have:i.toNat<l.length:=by omega
  simp [this])
 obtain ⟨h31,h32⟩:=h3
 have hr:r<524288:=by omega
 have hw:IntKind.i32.wrap (r * 64)=r * 64:=by rw [IntKind.wrap_i32];omega
 have he:bits .or .i32 (IntKind.i32.wrap (r * 64)) (bits .and .u8 (l.getD i.toNat 0) 63)=r * 64+l.getD i.toNat 0 % 64:=by
  rw [band63 hb0.1 hb0.2,hw]
  exact bits_join .i32 31 (by decide) (fun n h0 h1=>by rw [IntKind.wrap_i32];omega) 6 _ _ (by omega) (by omega) (by omega) (by omega) (by omega) (by omega)
 rw [he]
 obtain ⟨k,e⟩:∃k,(m-i).toNat=k+1:=⟨(m-i).toNat-1,by omega⟩
 refine ⟨⟨by show 1≤i+1;omega,by show i+1≤m;omega,⟨by show 0≤r * 64+_;omega,?_⟩,?_⟩,by omega⟩
 ·show (i+1=1∧_)∨(i+1=2∧r * 64+_<_)∨(i+1=3∧r * 64+_<_)∨(i+1=4∧r * 64+_<_)
  omega
 ·rw [e,drop_getD (by omega)] at h4
  simp only [nxGo,if_neg hb] at h4
  have e1:(m-(i+1)).toNat=k:=by omega
  have e2:(i+1).toNat=i.toNat+1:=by omega
  have e3:¬i+1=1:=by omega
  simp only [e1,e2,if_neg e3]
  exact h4
theorem g117_eq {c:Int} (h0:0≤c) (h1:c≤255):g117 c=some (zj c,yq c,zR c,zU c):=by
 refine g_eq ?_
 unfold g117
 have b31:=band31 h0 h1;have b15:=band15 h0 h1;have b7:=band7 h0 h1
 simp only [zj,yq,zR,zU,b31,b15,b7]
 repeat' (first | with_reducible refine g_if (fun _=>?_) (fun _=>?_) | refine g_i32 (by omega) ?_)
 all_goals
  refine zh ?_
  simp only [Prod.mk.injEq]
  refine ⟨?_,?_,?_,?_⟩<;>(repeat' split)<;>omega
theorem g61_eq {l:List Int} (hl:Byt l) (hn:l.length≤1000000):g61 l=some (nx l):=by
 refine g_eq ?_
 unfold g61
 rcases l with _ | ⟨c,t⟩
 ·exact g_t (by simp) (zh rfl)
 have hc:=hl c (by simp)
 refine g_f (by simp only [List.length_cons];omega) (g_ck (by simp only [List.length_cons];omega) ?_)
 have e0:(c::t).getD (0:Int).toNat 0=c:=rfl
 rw [e0]
 refine zn (g117_eq hc.1 hc.2) ?_
 dsimp only
 refine g_if (fun h=>zh (next_none h).symm) fun h=>?_
 have hm:=many_le c
 refine g_jo (x7 (g_loop (R:=fun o=>(∃v,o=.inl v∧v=nx (c::t))∨∃r,o=.inr r∧(r,zj c,false)=nx (c::t)) (fun s=>okN (c::t) (zj c) (yq c) (zR c) s.2 s.1) (fun s=>(zj c-s.2).toNat) ?_ (next_start hc.1 h)) ?_)
 ·rintro ⟨r,i⟩ hs
  dsimp only at hs ⊢
  refine g_if (fun hi=>g_if (fun hs2=>g_out (.inl ⟨_,rfl,(next_short hs hi hs2).symm⟩)) fun hs2=>?_) fun hi=>g_out (.inr ⟨_,rfl,(next_end hs hi).symm⟩)
  have hi1:1≤i:=hs.1
  have hbyt:0≤(c::t).getD i.toNat 0∧(c::t).getD i.toNat 0≤255:=hl _ (by
   have:i.toNat<(c::t).length:=by omega
   simp only [List.getD_eq_getElem?_getD,List.getElem?_eq_getElem this,Option.getD_some]
   exact List.getElem_mem _)
  refine g_jn (fun v=>v=(if i=1 then yq c else 128,if i=1 then zR c else 191)) (fun k hk=>g_if (fun e=>hk _ (by rw [if_pos e,if_pos e])) fun e=>hk _ (by rw [if_neg e,if_neg e])) ?_
  rintro _ rfl
  dsimp only
  refine g_ck (by omega) (g_if (fun hb=>g_out (.inl ⟨_,rfl,(next_bad hs hi (by omega) (.inl hb)).symm⟩)) fun hb=>g_ck (by omega) (g_if (fun hb'=>g_out (.inl ⟨_,rfl,(next_bad hs hi (by omega) (.inr hb')).symm⟩)) fun hb'=>?_))
  refine g_ck (by omega) (g_i32 ?_ (g_i64 (by omega) ?_))
  ·rw [band63 hbyt.1 hbyt.2];omega
  ·obtain ⟨n1,n2⟩:=next_more hl (by omega) hs hi (by omega) (fun hh=>hh.elim hb hb')
   exact g_go n1 n2
 ·intro o ho
  refine g_sm (fun v hv=>?_) fun r hr=>?_
  ·rcases ho with ⟨v',e,h'⟩ | ⟨v',e,h'⟩<;>rw [e] at hv<;>cases hv
   exact zh h'
  ·rcases ho with ⟨v',e,h'⟩ | ⟨v',e,h'⟩<;>rw [e] at hr<;>cases hr
   exact zh h'
end Go.Proofs.YtmpknfgjfmgleaaGreatDoor
end
section
namespace Go.Proofs.YtmpknfgjfmgleaaGreatDoor
open Go Go.Eng
theorem g65_eq {c:Int} (h0:0≤c) (h1:c≤255):g65 c=some (zj c):=by
 refine g_eq ?_
 unfold g65
 simp only [zj]
 refine g_if (fun h=>zh (by rw [if_pos h])) fun h=>g_jn (fun v=>v=decide (194≤c∧c<224)) (fun k hk=>g_if (fun h2=>hk _ (by simp [h2])) fun h2=>hk _ (by simp [h2])) ?_
 rintro _ rfl
 simp only [decide_eq_true_eq]
 repeat' with_reducible refine g_if (fun _=>?_) (fun _=>?_)
 all_goals
  refine zh ?_
  (repeat' split)<;>omega
def tl (l:List Int):Bool:=l.tail.all fun c=>decide (128≤c) && decide (c≤191)
def okT (l:List Int) (i:Int):Prop:=1≤i∧(i=1∨i≤l.length)∧tl l=(l.drop i.toNat).all fun c=>decide (128≤c) && decide (c≤191)
theorem tails_end {l:List Int} {i:Int} (h:okT l i) (hi:¬i<l.length):tl l=true:=by
 obtain ⟨h1,h2,h3⟩:=h
 rw [h3,List.drop_eq_nil_of_le (by omega)]
 rfl
theorem tails_bad {l:List Int} {i:Int} (h:okT l i) (hi:i<l.length) (hb:l.getD i.toNat 0<128∨191<l.getD i.toNat 0):tl l=false:=by
 obtain ⟨h1,h2,h3⟩:=h
 rw [h3,drop_getD (by omega),List.all_cons]
 rcases hb with hb | hb
 ·rw [decide_eq_false (by omega)];rfl
 ·rw [decide_eq_false (p:=l.getD i.toNat 0≤191) (by omega)];simp
theorem tails_more {l:List Int} {i:Int} (h:okT l i) (hi:i<l.length) (hb:¬l.getD i.toNat 0<128) (hb':¬191<l.getD i.toNat 0):okT l (i+1)∧(l.length-(i+1):Int).toNat<(l.length-i:Int).toNat:=by
 obtain ⟨h1,h2,h3⟩:=h
 refine ⟨⟨by show 1≤i+1;omega,.inr (by show i+1≤_;omega),?_⟩,by show (_-(i+1)).toNat<(_-i).toNat;omega⟩
 have e:(i+1:Int).toNat=i.toNat+1:=by omega
 show tl l=(l.drop (i+1:Int).toNat).all _
 rw [h3,e,drop_getD (by omega),List.all_cons,decide_eq_true (by omega),decide_eq_true (p:=l.getD i.toNat 0≤191) (by omega)]
 rfl
theorem g122_eq {l:List Int} (hn:l.length≤1000000):g122 l=some (tl l):=by
 refine g_eq ?_
 unfold g122
 refine g_jo (x7 (g_loop (R:=fun o=>(∃u,o=.inl u∧tl l=false)∨∃u,o=.inr u∧tl l=true) (okT l) (fun i=>(l.length-i:Int).toNat) ?_ ⟨Int.le_refl _,.inl rfl,by cases l<;>rfl⟩) ?_)
 ·intro i hs
  have hi1:=hs.1
  refine g_if (fun hi=>g_ck (by omega) (g_if (fun hb=>g_out (.inl ⟨_,rfl,tails_bad hs hi (.inl hb)⟩)) fun hb=>g_ck (by omega) (g_if (fun hb'=>g_out (.inl ⟨_,rfl,tails_bad hs hi (.inr hb')⟩)) fun hb'=>g_i64 (by omega) ?_))) fun hi=>g_out (.inr ⟨_,rfl,tails_end hs hi⟩)
  obtain ⟨n1,n2⟩:=tails_more hs hi hb hb'
  exact g_go n1 n2
 ·intro o ho
  refine g_sm (fun v hv=>?_) fun r hr=>?_
  ·rcases ho with ⟨v',e,h'⟩ | ⟨v',e,h'⟩<;>rw [e] at hv<;>cases hv
   exact zh h'.symm
  ·rcases ho with ⟨v',e,h'⟩ | ⟨v',e,h'⟩<;>rw [e] at hr<;>cases hr
   exact zh h'.symm
def heads:List Int:=[0,0,192,224,240]
def numF (r b:Int):Int:=r * 64+b % 64
def numR (l:List Int):Int:=if l.length<2∨4<l.length then l.headD 0 else l.tail.foldl numF (l.headD 0-heads.getD l.length 0)
def okM (l:List Int) (i r:Int):Prop:=1≤i∧i≤l.length∧l.length≤4∧((i=1∧-256≤r∧r≤256)∨(i=2∧-16384≤r∧r<16500)∨(i=3∧-1048576≤r∧r<1058000)∨(i=4∧-67108864≤r∧r<68000000))∧numR l=(l.drop i.toNat).foldl numF r
theorem num_short {l:List Int} (h:l.length<2∨4<l.length):numR l=l.headD 0:=by simp only [numR,if_pos h]
theorem num_end {l:List Int} {i r:Int} (h:okM l i r) (hi:¬i<l.length):numR l=r:=by
 obtain ⟨h1,h2,h3,h4,h5⟩:=h
 rw [h5,List.drop_eq_nil_of_le (by omega)]
 rfl
theorem heads_le (n:Nat):0≤heads.getD n 0∧heads.getD n 0≤240:=by
 rcases n with _ | _ | _ | _ | _ | n<;>simp [heads]
theorem num_start {l:List Int} {c:Int} {t:List Int} (hL:l=c::t) (hc:0≤c∧c≤255) (h:¬(l.length:Int)<2) (h':¬4<(l.length:Int)):okM l 1 (IntKind.i32.wrap (c-heads.getD (l.length:Int).toNat 0)):=by
 rw [Int.toNat_natCast]
 have hk:=heads_le l.length
 have e:IntKind.i32.wrap (c-heads.getD l.length 0)=c-heads.getD l.length 0:=by rw [IntKind.wrap_i32];omega
 rw [e]
 refine ⟨Int.le_refl _,by show (1:Int)≤_;omega,by omega,.inl ⟨rfl,by show -256≤c-heads.getD l.length 0;omega,by show c-heads.getD l.length 0≤256;omega⟩,?_⟩
 simp only [numR]
 rw [if_neg (by omega),hL]
 rfl
theorem tmod_in {l:List Int} (hl:Byt l) {i:Int} (h0:0≤i) (hi:i<l.length):inR .i32 ((l.getD i.toNat 0).tmod 64):=by
 have hb0:0≤l.getD i.toNat 0∧l.getD i.toNat 0≤255:=hl _ (by
  have:i.toNat<l.length:=by omega
  simp [this])
 rw [Int.tmod_eq_emod_of_nonneg hb0.1]
 simp only [inR]
 omega
theorem num_more {l:List Int} (hl:Byt l) {i r:Int} (h:okM l i r) (hi:i<l.length) :
  inR .i32 (r * 64)∧inR .i32 (r * 64+(l.getD i.toNat 0).tmod 64)∧okM l (i+1) (r * 64+(l.getD i.toNat 0).tmod 64)∧(l.length-(i+1):Int).toNat<(l.length-i:Int).toNat:=by
 obtain ⟨h1,h2,h3,h4,h5⟩:=h
 have hb0:0≤l.getD i.toNat 0∧l.getD i.toNat 0≤255:=hl _ (by
  have:i.toNat<l.length:=by omega
  simp [this])
 rw [Int.tmod_eq_emod_of_nonneg hb0.1]
 generalize hb:l.getD i.toNat 0=b at *
 refine ⟨by simp only [inR];omega,by simp only [inR];omega,⟨by show 1≤i+1;omega,by show i+1≤_;omega,h3,?_,?_⟩,by show (_-(i+1)).toNat<(_-i).toNat;omega⟩
 ·show (i+1=1∧_≤r * 64+b % 64∧r * 64+b % 64≤_)∨(i+1=2∧_≤r * 64+b % 64∧r * 64+b % 64<_)∨(i+1=3∧_≤r * 64+b % 64∧r * 64+b % 64<_)∨(i+1=4∧_≤r * 64+b % 64∧r * 64+b % 64<_)
  omega
 ·have e:(i+1:Int).toNat=i.toNat+1:=by omega
  show numR l=(l.drop (i+1:Int).toNat).foldl numF _
  rw [h5,e,drop_getD (by omega),hb]
  rfl
theorem g67_eq {l:List Int} (hl:Byt l) (h1:1≤l.length):g67 l=some (numR l):=by
 refine g_eq ?_
 unfold g67
 obtain ⟨c,t,hL⟩:∃c t,l=c::t:=by cases l with | nil=>simp at h1 | cons c t=>exact ⟨c,t,rfl⟩
 have hc:0≤c∧c≤255:=hl c (by rw [hL];simp)
 have e0:l.getD (0:Int).toNat 0=c:=by rw [hL];rfl
 have eh:l.headD 0=c:=by rw [hL];rfl
 simp only [e0]
 refine g_if (fun h=>g_ck (by omega) (g_i32 (by omega) (zh (by rw [num_short (.inl (by omega)),eh])))) fun h=>g_if (fun h'=>g_ck (by omega) (g_i32 (by omega) (zh (by rw [num_short (.inr (by omega)),eh])))) fun h'=>?_
 have hk:=heads_le (l.length:Int).toNat
 refine g_ck (by omega) (g_i64 (by omega) (g_ck (by omega) (g_i64 ?_ (g_jo (x7 (g_loop (R:=fun o=>o=numR l) (fun s=>okM l s.2 s.1) (fun s=>(l.length-s.2:Int).toNat) ?_ (num_start hL hc h h')) ?_)))))
 ·exact ⟨by have:=hk.2;show _≤c-heads.getD _ 0;omega,by have:=hk.1;show c-heads.getD _ 0≤_;omega⟩
 ·rintro ⟨r,i⟩ hs
  dsimp only at hs ⊢
  have hi1:=hs.1
  refine g_if (fun hi=>?_) fun hi=>g_out (num_end hs hi).symm
  obtain ⟨m1,m2,m3,m4⟩:=num_more hl hs hi
  exact g_ck m1 (g_ck (by omega) (g_ck (tmod_in hl (by omega) hi) (g_ck m2 (g_i64 (by omega) (g_go m3 m4)))))
 ·rintro _ rfl
  exact zh rfl
def froms:List Int:=[0,0,128,2048,65536]
def yG (l:List Int) (k:Nat) (x:Int):List Int:=l++List.replicate k x
def bgN (l:List Int):Nat:=(zj (l.headD 0)).toNat-l.length
def bg (l:List Int):Prop:=(l.length:Int)≤zj (l.headD 0)∧tl l=true∧froms.getD (zj (l.headD 0)).toNat 0≤numR (yG l (bgN l) 191)∧numR (yG l (bgN l) 128)≤1114111∧(numR (yG l (bgN l) 128)<55296∨57343<numR (yG l (bgN l) 191))
instance (l:List Int):Decidable (bg l):=by unfold bg;infer_instance
theorem fill_byt {l:List Int} (h:Byt l) {k:Nat} {x:Int} (hx:0≤x∧x≤255):Byt (yG l k x):=fun c hc=>by
 rcases List.mem_append.1 hc with hc | hc
 ·exact h c hc
 ·rw [(List.mem_replicate.1 hc).2];exact hx
theorem fill_len {l:List Int} {k:Nat} {x:Int}:(yG l k x).length=l.length+k:=by simp [yG]
theorem bg_iff {l:List Int} {c:Int} (hh:l.headD 0=c) {k:Nat} (hs:¬zj c<(l.length:Int)) (ht:¬ ¬tl l=true) (hok:(l.length:Int)+k≤zj (l.headD 0)) (h:¬((l.length+k:Nat):Int)<zj c) :
  bg l↔(froms.getD (zj c).toNat 0≤numR (yG l k 191)∧numR (yG l k 128)≤1114111∧(numR (yG l k 128)<55296∨57343<numR (yG l k 191))):=by
 rw [hh] at hok
 have e:bgN l=k:=by unfold bgN;rw [hh];omega
 unfold bg
 rw [e,hh]
 constructor
 ·exact fun h=>h.2.2
 ·exact fun h=>⟨by omega,Classical.not_not.1 ht,h⟩
theorem bg_long {l:List Int} {c:Int} (hh:l.headD 0=c) (h:zj c<(l.length:Int)):¬bg l:=by
 unfold bg
 rw [hh]
 intro h'
 omega
theorem bg_tail {l:List Int} (h:¬tl l=true):¬bg l:=fun h'=>h h'.2.1
theorem g66_eq {l:List Int} (hl:Byt l) (h1:1≤l.length) (hn:l.length≤1000000):g66 l=some (decide (bg l)):=by
 refine g_eq ?_
 unfold g66
 obtain ⟨c,t,hL⟩:∃c t,l=c::t:=by cases l with | nil=>simp at h1 | cons c t=>exact ⟨c,t,rfl⟩
 have hc:0≤c∧c≤255:=hl c (by rw [hL];simp)
 have e0:l.getD (0:Int).toNat 0=c:=by rw [hL];rfl
 have hh:l.headD 0=c:=by rw [hL];rfl
 simp only [e0]
 have hm:=many_le c
 refine g_ck (by omega) (zn (g65_eq hc.1 hc.2) (g_if (fun h=>zh (by rw [decide_eq_false (bg_long hh h)])) fun h=>zn (g122_eq hn) (g_if (fun ht=>zh (by rw [decide_eq_false (bg_tail ht)])) fun ht=>g_ck (by omega) (g_ck (by omega) (g_jo ?_)))))
 refine x7 (g_loop (R:=fun o=>∃k:Nat,o=(yG l k 128,yG l k 191)∧(l.length:Int)+k≤zj (l.headD 0)∧¬((l.length+k:Nat):Int)<zj c) (fun s=>∃k:Nat,s=(yG l k 128,yG l k 191)∧(l.length:Int)+k≤zj (l.headD 0)) (fun s=>(zj c-s.1.length).toNat) ?_ ⟨0,by simp [yG],by rw [hh];omega⟩) ?_
 ·rintro _ ⟨k,rfl,hk⟩
  dsimp only
  rw [hh] at hk
  simp only [fill_len]
  refine g_if (fun hi=>g_ck (by omega) (g_ck (by omega) (g_go ⟨k+1,by simp [yG,List.replicate_succ'],by rw [hh];omega⟩ (by simp [fill_len];omega)))) fun hi=>g_out ⟨k,rfl,by rw [hh];omega,hi⟩
 ·rintro _ ⟨k,rfl,hok,hi⟩
  dsimp only
  have hok':=hok
  rw [hh] at hok'
  refine zn (g67_eq (fill_byt hl (by omega)) (by rw [fill_len];omega)) (zn (g67_eq (fill_byt hl (by omega)) (by rw [fill_len];omega)) (g_ck (by omega) ?_))
  have e:=bg_iff hh h ht hok hi
  refine g_if (fun a=>g_if (fun b=>g_if (fun d=>zh ?_) fun d=>zh ?_) fun b=>zh ?_) fun a=>zh ?_
  ·rw [eq_comm,decide_eq_true_eq,e];exact ⟨a,b,.inl d⟩
  ·rw [decide_eq_decide,e];exact ⟨fun x=>⟨a,b,.inr x⟩,fun x=>x.2.2.resolve_left d⟩
  ·rw [eq_comm,decide_eq_false_iff_not,e];exact fun x=>b x.2.1
  ·rw [eq_comm,decide_eq_false_iff_not,e];exact fun x=>a x.1
def nr (l:List Int):Int×Int×Bool:=
 if l=[] then (0,0,true) else
 if 0<zj (l.headD 0)∧zj (l.headD 0)≤l.length∧bg (l.take (zj (l.headD 0)).toNat) then (numR (l.take (zj (l.headD 0)).toNat),zj (l.headD 0),false) else
 if 0<zj (l.headD 0)∧l.length<zj (l.headD 0)∧bg l then (0,0,true) else (65533,1,false)
theorem sh_cases (c:Int) (h0:0≤c) (h1:c≤255):(c<128∧zj c=1)∨(((128≤c∧c<194)∨245≤c)∧zj c=0)∨(194≤c∧c<224∧zj c=2)∨(224≤c∧c<240∧zj c=3)∨(240≤c∧c≤244∧zj c=4):=by
 unfold zj
 repeat' split<;>omega
theorem bg_1 {c:Int} (e:zj c=1) (h0:0≤c) (h:c<128):bg [c]:=by
 simp [bg,tl,bgN,yG,froms,numR,e]
 omega
theorem bg_2a {c:Int} (e:zj c=2) (h:194≤c) (h':c<224):bg [c]:=by
 simp [bg,tl,bgN,yG,froms,numR,numF,heads,e]
 omega
theorem bg_2b {c d:Int} (e:zj c=2) (h:194≤c) (h':c<224):bg [c,d]↔128≤d∧d≤191:=by
 simp [bg,tl,bgN,yG,froms,numR,numF,heads,e]
 omega
theorem bg_3a {c:Int} (e:zj c=3) (h:224≤c) (h':c<240):bg [c]:=by
 simp [bg,tl,bgN,yG,froms,numR,numF,heads,e]
 omega
theorem bg_3b {c d:Int} (e:zj c=3) (h:224≤c) (h':c<240):bg [c,d]↔yq c≤d∧d≤zR c:=by
 simp only [yq,zR]
 simp [bg,tl,bgN,yG,froms,numR,numF,heads,e]
 repeat' split<;>omega
theorem bg_3c {c d f:Int} (e:zj c=3) (h:224≤c) (h':c<240):bg [c,d,f]↔(yq c≤d∧d≤zR c)∧128≤f∧f≤191:=by
 simp only [yq,zR]
 simp [bg,tl,bgN,yG,froms,numR,numF,heads,e]
 repeat' split<;>omega
theorem bg_4a {c:Int} (e:zj c=4) (h:240≤c) (h':c≤244):bg [c]:=by
 simp [bg,tl,bgN,yG,froms,numR,numF,heads,e]
 omega
theorem bg_4b {c d:Int} (e:zj c=4) (h:240≤c) (h':c≤244):bg [c,d]↔yq c≤d∧d≤zR c:=by
 simp only [yq,zR]
 simp [bg,tl,bgN,yG,froms,numR,numF,heads,e]
 repeat' split<;>omega
theorem bg_4c {c d f:Int} (e:zj c=4) (h:240≤c) (h':c≤244):bg [c,d,f]↔(yq c≤d∧d≤zR c)∧128≤f∧f≤191:=by
 simp only [yq,zR]
 simp [bg,tl,bgN,yG,froms,numR,numF,heads,e]
 repeat' split<;>omega
theorem bg_4d {c d f g:Int} (e:zj c=4) (h:240≤c) (h':c≤244):bg [c,d,f,g]↔(yq c≤d∧d≤zR c)∧(128≤f∧f≤191)∧128≤g∧g≤191:=by
 simp only [yq,zR]
 simp [bg,tl,bgN,yG,froms,numR,numF,heads,e]
 repeat' split<;>omega
theorem nr_eq {l:List Int} (hl:Byt l):nr l=nx l:=by
 rcases l with _ | ⟨c,t⟩
 ·rfl
 have hc:=hl c (by simp)
 have hb:∀d∈t,0≤d∧d≤255:=fun d hd=>hl d (by simp [hd])
 rcases sh_cases c hc.1 hc.2 with ⟨h,e⟩ | ⟨h,e⟩ | ⟨h,h',e⟩ | ⟨h,h',e⟩ | ⟨h,h',e⟩
 ·have h2:zU c=c:=by simp [zU,h]
  simp [nr,nx,e,nxGo,numR,bg_1 e hc.1 h,h2]
  omega
 ·simp [nr,nx,e]
 ·have h2:zU c=c-192:=by simp only [zU];repeat' split<;>omega
  have h3:yq c=128:=by simp only [yq];repeat' split<;>omega
  have h4:zR c=191:=by simp only [zR];repeat' split<;>omega
  rcases t with _ | ⟨d,t⟩
  ·simp [nr,nx,e,nxGo,bg_2a e h h']
  ·simp [nr,nx,e,nxGo,h2,h3,h4,bg_2b e h h',numR,heads,numF]
   repeat' split
   all_goals first | rfl | (exfalso;omega)
 ·have h2:zU c=c-224:=by simp only [zU];repeat' split<;>omega
  rcases t with _ | ⟨d,_ | ⟨f,t⟩⟩
  ·simp [nr,nx,e,nxGo,bg_3a e h h']
  ·simp [nr,nx,e,nxGo,h2,bg_3b e h h',numR,heads,numF]
   repeat' split
   all_goals first | rfl | (exfalso;omega)
  ·simp [nr,nx,e,nxGo,h2,bg_3c e h h',numR,heads,numF]
   repeat' split
   all_goals first | rfl | (exfalso;omega)
 ·have h2:zU c=c-240:=by simp only [zU];repeat' split<;>omega
  rcases t with _ | ⟨d,_ | ⟨f,_ | ⟨g,t⟩⟩⟩
  ·simp [nr,nx,e,nxGo,bg_4a e h h']
  ·simp [nr,nx,e,nxGo,h2,bg_4b e h h',numR,heads,numF]
   repeat' split
   all_goals first | rfl | (exfalso;omega)
  ·simp [nr,nx,e,nxGo,h2,bg_4c e h h',numR,heads,numF]
   repeat' split
   all_goals first | rfl | (exfalso;omega)
  ·simp [nr,nx,e,nxGo,h2,bg_4d e h h',numR,heads,numF]
   repeat' split
   all_goals first | rfl | (exfalso;omega)
theorem nr_nil {l:List Int} (h:(l.length:Int)=0):nr l=(0,0,true):=by
 have:l=[]:=List.eq_nil_of_length_eq_zero (by omega)
 subst this
 rfl
theorem nr_whole {l:List Int} (h:0<l.length) (h1:0<zj (l.headD 0)) (h2:zj (l.headD 0)≤l.length) (h3:bg (l.take ((zj (l.headD 0)).toNat-Int.toNat 0))):nr l=(numR (l.take ((zj (l.headD 0)).toNat-Int.toNat 0)),zj (l.headD 0),false):=by
 unfold nr
 rw [if_neg (fun e=>by subst e;simp at h),if_pos ⟨h1,h2,h3⟩]
 rfl
theorem nr_part {l:List Int} (h:0<l.length) (h1:0<zj (l.headD 0)) (h2:l.length<zj (l.headD 0)) (h3:bg l):nr l=(0,0,true):=by
 unfold nr
 rw [if_neg (fun e=>by subst e;simp at h),if_neg (fun h=>by omega),if_pos ⟨h1,h2,h3⟩]
theorem nr_bad {l:List Int} (h:0<l.length) (h1:¬(0<zj (l.headD 0)∧zj (l.headD 0)≤l.length∧bg (l.take ((zj (l.headD 0)).toNat-Int.toNat 0)))) (h2:¬(0<zj (l.headD 0)∧l.length<zj (l.headD 0)∧bg l)):nr l=(65533,1,false):=by
 unfold nr
 rw [if_neg (fun e=>by subst e;simp at h),if_neg (show ¬(0<zj (l.headD 0)∧zj (l.headD 0)≤l.length∧bg (l.take (zj (l.headD 0)).toNat)) from h1),if_neg h2]
theorem take_byt {l:List Int} (h:Byt l) {n:Nat}:Byt (l.take n):=fun c hc=>h c (List.mem_of_mem_take hc)
theorem g32_eq {l:List Int} (hl:Byt l) (hn:l.length≤1000000):g32 l=some (nx l):=by
 rw [←nr_eq hl]
 refine g_eq ?_
 unfold g32
 refine g_if (fun h=>zh (nr_nil h).symm) fun h=>?_
 have h1:1≤l.length:=by omega
 obtain ⟨c,t,hL⟩:∃c t,l=c::t:=by cases l with | nil=>simp at h1 | cons c t=>exact ⟨c,t,rfl⟩
 have hc:0≤c∧c≤255:=hl c (by rw [hL];simp)
 have e0:l.getD (0:Int).toNat 0=c:=by rw [hL];rfl
 have hh:l.headD 0=c:=by rw [hL];rfl
 simp only [e0]
 have hm:=many_le c
 refine g_ck (by omega) (zn (g65_eq hc.1 hc.2) ?_)
 have hd:l.drop (0:Int).toNat=l:=rfl
 rw [hd]
 refine g_jn (fun v=>v=decide (0<zj c∧zj c≤l.length∧bg (l.take ((zj c).toNat-(0:Int).toNat)))) (fun k hk=>g_if (fun a=>g_if (fun b=>g_ck (by omega) (zn (g66_eq (take_byt hl) (by rw [List.length_take];simp only [Int.toNat_zero];omega) (by rw [List.length_take];omega)) (hk _ (by simp [a,b])))) fun b=>hk _ (by simp [b])) fun a=>hk _ (by simp [a])) ?_
 rintro _ rfl
 simp only [decide_eq_true_eq]
 refine g_if (fun a=>g_ck (by omega) (zn (g67_eq (take_byt hl) (by rw [List.length_take];simp only [Int.toNat_zero];omega)) (zh ?_))) fun a=>?_
 ·rw [←hh] at a ⊢
  exact (nr_whole (by omega) a.1 a.2.1 a.2.2).symm
 ·have bad:¬(0<zj (l.headD 0)∧l.length<zj (l.headD 0)∧bg l)→(65533,1,false)=nr l:=fun h2=>(nr_bad (by omega) (by rw [hh];exact a) h2).symm
  refine g_if (fun b=>g_if (fun d=>zn (g66_eq hl h1 hn) (g_if (fun f=>zh ?_) fun f=>zh (bad fun x=>f (by simpa using x.2.2)))) fun d=>zh (bad fun x=>d (by rw [hh] at x;exact x.2.1))) fun b=>zh (bad fun x=>b (by rw [hh] at x;exact x.1))
  exact (nr_part (by omega) (by rw [hh];exact b) (by rw [hh];exact d) (by simpa using f)).symm
end Go.Proofs.YtmpknfgjfmgleaaGreatDoor
end
section
namespace Go.Proofs.YtmpknfgjfmgleaaGreatDoor
open Go Go.Eng
def isR (r:Int):Prop:=0≤r∧r≤1114111∧(r<55296∨57343<r)
instance (r:Int):Decidable (isR r):=by unfold isR;infer_instance
theorem g118_eq (r:Int):g118 r=some (decide (isR r)):=by
 refine g_eq ?_
 unfold g118
 refine g_if (fun a=>g_if (fun b=>g_if (fun c=>zh ?_) fun c=>zh ?_) fun b=>zh ?_) fun a=>zh ?_
 ·rw [eq_comm,decide_eq_true_eq];exact ⟨a,b,.inl c⟩
 ·rw [decide_eq_decide];exact ⟨fun x=>⟨a,b,.inr x⟩,fun x=>x.2.2.resolve_left c⟩
 ·rw [eq_comm,decide_eq_false_iff_not];exact fun x=>b x.2.1
 ·rw [eq_comm,decide_eq_false_iff_not];exact fun x=>a x.1
theorem g68_eq (r:Int):g68 r=some (decide (isR r)):=g118_eq r
def norm (r:Int):Int:=if isR r then r else 65533
theorem norm_r (r:Int):isR (norm r):=by
 unfold norm
 split
 ·assumption
 ·exact ⟨by omega,by omega,.inr (by omega)⟩
def enc (v:Int):List Int:=
 if v<128 then [v] else if v<2048 then [192+v / 64,128+v % 64] else if v<65536 then [224+v / 4096,128+v / 64 % 64,128+v % 64] else [240+v / 262144,128+v / 4096 % 64,128+v / 64 % 64,128+v % 64]
theorem bor8 (x y:Int) (i:Nat) (hx₀:0≤x) (hx:x % 2 ^ i=0) (hx₁:x<256) (hy₀:0≤y) (hy:y<2 ^ i) (hy₁:y<256):bits .or .u8 x y=x+y:=bits_join .u8 8 (by decide) keep8 i x y hx₀ hx hx₁ hy₀ hy hy₁
theorem wrap8 (n:Int):IntKind.u8.wrap n=n % 256:=by rw [IntKind.wrap_u8]
theorem tailB (x:Int):bits .or .u8 128 (bits .and .u8 (IntKind.u8.wrap x) 63)=128+x % 64:=by
 rw [wrap8,band63 (by omega) (by omega),bor8 128 _ 6 (by omega) (by omega) (by omega) (by omega) (by omega) (by omega)]
 omega
theorem g119_0 (v:Int):g119 v 0=some (128+v % 64):=by
 refine g_eq ?_
 unfold g119
 refine g_ck (by decide) (zh ?_)
 rw [tailB]
 simp
theorem g119_6 (v:Int):g119 v 6=some (128+v / 64 % 64):=by
 refine g_eq ?_
 unfold g119
 refine g_ck (by decide) (zh ?_)
 rw [tailB]
 rfl
theorem g119_12 (v:Int):g119 v 12=some (128+v / 4096 % 64):=by
 refine g_eq ?_
 unfold g119
 refine g_ck (by decide) (zh ?_)
 rw [tailB]
 rfl
theorem g62_eq (r:Int):g62 r=some (enc (norm r)):=by
 refine g_eq ?_
 unfold g62
 refine g_jn (fun v=>v=norm r) (fun k hk=>zn (g118_eq r) (g_if (fun h=>hk _ (by unfold norm;rw [if_neg (by simpa using h)])) fun h=>hk _ (by unfold norm;rw [if_pos (by simpa using h)]))) ?_
 rintro _ rfl
 obtain ⟨h0,h1,h2⟩:=norm_r r
 generalize norm r=v at *
 unfold enc
 have p6:(2:Int) ^ (6:Int).toNat=64:=rfl
 have p12:(2:Int) ^ (12:Int).toNat=4096:=rfl
 have p18:(2:Int) ^ (18:Int).toNat=262144:=rfl
 refine g_if (fun a=>zh ?_) fun a=>g_if (fun b=>zn (g119_0 v) (zh ?_)) fun b=>g_if (fun c=>zn (g119_6 v) (zn (g119_0 v) (zh ?_))) fun c=>zn (g119_12 v) (zn (g119_6 v) (zn (g119_0 v) (zh ?_)))
 ·rw [if_pos a,wrap8]
  congr 1;omega
 ·rw [if_neg a,if_pos b,wrap8,p6,bor8 192 _ 6 (by omega) (by omega) (by omega) (by omega) (by omega) (by omega)]
  congr 1;omega
 ·rw [if_neg a,if_neg b,if_pos c,wrap8,p12,bor8 224 _ 4 (by omega) (by omega) (by omega) (by omega) (by omega) (by omega)]
  congr 1;omega
 ·rw [if_neg a,if_neg b,if_neg c,wrap8,p18,bor8 240 _ 3 (by omega) (by omega) (by omega) (by omega) (by omega) (by omega)]
  congr 1;omega
theorem g69_eq {v:Int} (h:0≤v):g69 v=some (128+v % 64):=by
 refine g_eq ?_
 unfold g69
 rw [Int.tmod_eq_emod_of_nonneg h]
 refine g_i32 (by omega) (zh ?_)
 rw [wrap8]
 omega
theorem g33_eq (r:Int):g33 r=some (enc (norm r)):=by
 refine g_eq ?_
 unfold g33
 refine g_jn (fun v=>v=norm r) (fun k hk=>zn (g68_eq r) (g_if (fun h=>hk _ (by unfold norm;rw [if_neg (by simpa using h)])) fun h=>hk _ (by unfold norm;rw [if_pos (by simpa using h)]))) ?_
 rintro _ rfl
 obtain ⟨h0,h1,h2⟩:=norm_r r
 generalize norm r=v at *
 unfold enc
 rw [Int.tdiv_eq_ediv_of_nonneg h0,Int.tdiv_eq_ediv_of_nonneg h0,Int.tdiv_eq_ediv_of_nonneg h0]
 refine g_if (fun a=>zh ?_) fun a=>g_if (fun b=>g_i32 (by omega) (g_i32 (by omega) (zn (g69_eq h0) (zh ?_)))) fun b=>g_if (fun c=>g_i32 (by omega) (g_i32 (by omega) (g_i32 (by omega) (zn (g69_eq (by omega)) (zn (g69_eq h0) (zh ?_)))))) fun c=>g_i32 (by omega) (g_i32 (by omega) (g_i32 (by omega) (zn (g69_eq (by omega)) (g_i32 (by omega) (zn (g69_eq (by omega)) (zn (g69_eq h0) (zh ?_)))))))
 ·rw [if_pos a,wrap8]
  congr 1;omega
 ·rw [if_neg a,if_pos b,wrap8]
  congr 1;omega
 ·rw [if_neg a,if_neg b,if_pos c,wrap8]
  congr 1;omega
 ·rw [if_neg a,if_neg b,if_neg c,wrap8]
  congr 1;omega
theorem enc_byt {v:Int} (h:isR v):Byt (enc v):=by
 obtain ⟨h0,h1,h2⟩:=h
 unfold enc
 intro c hc
 repeat' split at hc
 all_goals simp only [List.mem_cons,List.not_mem_nil,or_false] at hc;omega
theorem enc_len {v:Int}:1≤(enc v).length∧(enc v).length≤4:=by
 unfold enc
 repeat' split
 all_goals simp
theorem nx_enc {v:Int} (h:isR v) (t:List Int):nx (enc v++t)=(v,((enc v).length:Int),false):=by
 obtain ⟨h0,h1,h2⟩:=h
 unfold enc
 split
 ·rename_i a
  have e1:zj v=1:=by simp only [zj];rw [if_pos a]
  have e2:zU v=v:=by simp only [zU];rw [if_pos a]
  simp [nx,e1,e2,nxGo]
 split
 ·rename_i a b
  have e1:zj (192+v / 64)=2:=by simp only [zj];repeat' split<;>omega
  have e2:zU (192+v / 64)=v / 64:=by simp only [zU];repeat' split<;>omega
  have e3:yq (192+v / 64)=128:=by simp only [yq];repeat' split<;>omega
  have e4:zR (192+v / 64)=191:=by simp only [zR];repeat' split<;>omega
  simp only [nx,e1,e2,e3,e4,nxGo,List.cons_append,List.nil_append,show (2-1:Int).toNat=1 from rfl]
  rw [if_neg (by omega),if_neg (by omega)]
  simp
  omega
 split
 ·rename_i a b c
  have e1:zj (224+v / 4096)=3:=by simp only [zj];repeat' split<;>omega
  have e2:zU (224+v / 4096)=v / 4096:=by simp only [zU];repeat' split<;>omega
  have e3:yq (224+v / 4096)≤128+v / 64 % 64:=by simp only [yq];repeat' split<;>omega
  have e4:128+v / 64 % 64≤zR (224+v / 4096):=by simp only [zR];repeat' split<;>omega
  simp only [nx,e1,e2,nxGo,List.cons_append,List.nil_append,show (3-1:Int).toNat=2 from rfl]
  rw [if_neg (by omega),if_neg (by omega),if_neg (by omega)]
  simp
  omega
 ·rename_i a b c
  have e1:zj (240+v / 262144)=4:=by simp only [zj];repeat' split<;>omega
  have e2:zU (240+v / 262144)=v / 262144:=by simp only [zU];repeat' split<;>omega
  have e3:yq (240+v / 262144)≤128+v / 4096 % 64:=by simp only [yq];repeat' split<;>omega
  have e4:128+v / 4096 % 64≤zR (240+v / 262144):=by simp only [zR];repeat' split<;>omega
  simp only [nx,e1,e2,nxGo,List.cons_append,List.nil_append,show (4-1:Int).toNat=3 from rfl]
  rw [if_neg (by omega),if_neg (by omega),if_neg (by omega),if_neg (by omega)]
  simp
  omega
end Go.Proofs.YtmpknfgjfmgleaaGreatDoor
end
section
namespace Go.Proofs.YtmpknfgjfmgleaaGreatDoor
open Go Go.Eng
theorem xc {l:List Int} (h:Byt l) {n:Nat}:Byt (l.drop n):=fun c hc=>h c (List.mem_of_mem_drop hc)
theorem nx_inv {l:List Int} (hl:Byt l) {r n:Int} (h:nx l=(r,n,false)):(r=65533∧n=1∧1≤l.length)∨(isR r∧l=enc r++l.drop n.toNat∧n=((enc r).length:Int)):=by
 cases l with
 | nil=>simp [nx] at h
 | cons c t=>
  have hc:=hl c List.mem_cons_self
  rcases sh_cases c hc.1 hc.2 with ⟨a,e⟩ | ⟨a,e⟩ | ⟨a,a',e⟩ | ⟨a,a',e⟩ | ⟨a,a',e⟩
  ·have e2:zU c=c:=by simp only [zU];rw [if_pos a]
   simp [nx,e,e2,nxGo] at h
   obtain ⟨rfl,rfl⟩:=h
   right
   refine ⟨⟨by omega,by omega,.inl (by omega)⟩,?_,?_⟩
   ·unfold enc;rw [if_pos a];rfl
   ·unfold enc;rw [if_pos a];rfl
  ·simp [nx,e] at h
   obtain ⟨rfl,rfl⟩:=h
   exact .inl ⟨rfl,rfl,by simp⟩
  ·have e2:zU c=c % 32:=by simp only [zU];repeat' split<;>omega
   have e3:yq c=128:=by simp only [yq];repeat' split<;>omega
   have e4:zR c=191:=by simp only [zR];repeat' split<;>omega
   cases t with
   | nil=>simp [nx,e,nxGo] at h
   | cons d t=>
    have hd:=hl d (by simp)
    simp only [nx,e,e2,e3,e4,nxGo,show (2-1:Int).toNat=1 from rfl] at h
    rw [if_neg (by omega)] at h
    split at h
    ·cases h;exact .inl ⟨rfl,rfl,by simp⟩
    ·cases h
     right
     have q:enc (c % 32 * 64+d % 64)=[c,d]:=by
      unfold enc
      rw [if_neg (by omega),if_pos (by omega)]
      congr 1
      ·omega
      ·congr 1;omega
     exact ⟨⟨by omega,by omega,.inl (by omega)⟩,by rw [q];rfl,by rw [q];rfl⟩
  ·have e2:zU c=c % 16:=by simp only [zU];repeat' split<;>omega
   have e3:(c=224∧yq c=160)∨(c≠224∧yq c=128):=by simp only [yq];repeat' split<;>omega
   have e4:(c=237∧zR c=159)∨(c≠237∧zR c=191):=by simp only [zR];repeat' split<;>omega
   cases t with
   | nil=>simp [nx,e,nxGo] at h
   | cons d t=>
    have hd:=hl d (by simp)
    simp only [nx,e,e2,nxGo,show (3-1:Int).toNat=2 from rfl] at h
    rw [if_neg (by omega)] at h
    split at h
    ·cases h;exact .inl ⟨rfl,rfl,by simp⟩
    ·cases t with
     | nil=>simp [nxGo] at h
     | cons f t=>
      have hf:=hl f (by simp)
      simp only [nxGo] at h
      split at h
      ·cases h;exact .inl ⟨rfl,rfl,by simp⟩
      ·cases h
       right
       have q:enc ((c % 16 * 64+d % 64) * 64+f % 64)=[c,d,f]:=by
        unfold enc
        rw [if_neg (by omega),if_neg (by omega),if_pos (by omega)]
        congr 1
        ·omega
        ·congr 1
         ·omega
         ·congr 1;omega
       exact ⟨⟨by omega,by omega,by omega⟩,by rw [q];rfl,by rw [q];rfl⟩
  ·have e2:zU c=c % 8:=by simp only [zU];repeat' split<;>omega
   have e3:(c=240∧yq c=144)∨(c≠240∧yq c=128):=by simp only [yq];repeat' split<;>omega
   have e4:(c=244∧zR c=143)∨(c≠244∧zR c=191):=by simp only [zR];repeat' split<;>omega
   cases t with
   | nil=>simp [nx,e,nxGo] at h
   | cons d t=>
    have hd:=hl d (by simp)
    simp only [nx,e,e2,nxGo,show (4-1:Int).toNat=3 from rfl] at h
    rw [if_neg (by omega)] at h
    split at h
    ·cases h;exact .inl ⟨rfl,rfl,by simp⟩
    ·cases t with
     | nil=>simp [nxGo] at h
     | cons f t=>
      have hf:=hl f (by simp)
      simp only [nxGo] at h
      split at h
      ·cases h;exact .inl ⟨rfl,rfl,by simp⟩
      ·cases t with
       | nil=>simp [nxGo] at h
       | cons g t=>
        have hg:=hl g (by simp)
        simp only [nxGo] at h
        split at h
        ·cases h;exact .inl ⟨rfl,rfl,by simp⟩
        ·cases h
         right
         have q:enc (((c % 8 * 64+d % 64) * 64+f % 64) * 64+g % 64)=[c,d,f,g]:=by
          unfold enc
          rw [if_neg (by omega),if_neg (by omega),if_neg (by omega)]
          congr 1
          ·omega
          ·congr 1
           ·omega
           ·congr 1
            ·omega
            ·congr 1;omega
         exact ⟨⟨by omega,by omega,by omega⟩,by rw [q];rfl,by rw [q];rfl⟩
def stp (l:List Int):Int×Int:=if (nx l).2.2=true then (65533,1) else ((nx l).1,(nx l).2.1)
theorem stp_pos {l:List Int} (hl:Byt l):isR (stp l).1∧1≤(stp l).2∧(stp l).2≤4∧(1≤l.length→(stp l).2≤l.length):=by
 have hb:isR 65533:=⟨by omega,by omega,.inr (by omega)⟩
 unfold stp
 by_cases h:(nx l).2.2=true
 ·rw [if_pos h];exact ⟨hb,by simp,by simp,fun h=>by dsimp only;omega⟩
 ·rw [if_neg h]
  have e:nx l=((nx l).1,(nx l).2.1,false):=by
   have:(nx l).2.2=false:=by simpa using h
   rw [←this]
  rcases nx_inv hl e with ⟨h1,h2,h3⟩ | ⟨h1,h2,h3⟩
  ·dsimp only
   rw [h1,h2]
   exact ⟨hb,by omega,by omega,fun h=>by omega⟩
  ·have:=enc_len (v:=(nx l).1)
   have hlen:=congrArg List.length h2
   rw [List.length_append,List.length_drop] at hlen
   dsimp only
   exact ⟨h1,by omega,by omega,fun h=>by omega⟩
theorem stp_good {l:List Int} (hl:Byt l):l=enc (stp l).1++l.drop (stp l).2.toNat↔((nx l).2.2=false∧((nx l).1≠65533∨(nx l).2.1=3)):=by
 constructor
 ·intro h
  have hp:=stp_pos hl
  have h':=nx_enc hp.1 (l.drop (stp l).2.toNat)
  rw [←h] at h'
  refine ⟨by rw [h'],?_⟩
  rw [h']
  by_cases q:(stp l).1=65533
  ·right;rw [q];rfl
  ·left;exact q
 ·rintro ⟨h1,h2⟩
  have e:nx l=((nx l).1,(nx l).2.1,false):=by rw [←h1]
  have e':stp l=((nx l).1,(nx l).2.1):=by unfold stp;rw [if_neg (by simp [h1])]
  rw [e']
  rcases nx_inv hl e with ⟨h3,h4,h5⟩ | ⟨h3,h4,h5⟩
  ·omega
  ·exact h4
def ps (l:List Int):Nat→Nat
 | 0=>0
 | k+1=>ps l k+(stp (l.drop (ps l k))).2.toNat
def rn (l:List Int) (k:Nat):Int:=(stp (l.drop (ps l k))).1
def rs (l:List Int) (k:Nat):List Int:=(List.range k).map (rn l)
def pp (l:List Int) (k:Nat):List Int:=(List.range k).map fun i=>(ps l i:Int)
def tx (l:List Int) (k:Nat):List Int:=(List.range k).flatMap fun i=>enc (rn l i)
theorem rs_succ (l:List Int) (k:Nat):rs l (k+1)=rs l k++[rn l k]:=by simp [rs,List.range_succ]
theorem pp_succ (l:List Int) (k:Nat):pp l (k+1)=pp l k++[(ps l k:Int)]:=by simp [pp,List.range_succ]
theorem tx_succ (l:List Int) (k:Nat):tx l (k+1)=tx l k++enc (rn l k):=by simp [tx,List.range_succ]
theorem rs_len (l:List Int) (k:Nat):(rs l k).length=k:=by simp [rs]
theorem pp_len (l:List Int) (k:Nat):(pp l k).length=k:=by simp [pp]
theorem rn_R {l:List Int} (hl:Byt l) (k:Nat):isR (rn l k):=(stp_pos (xc hl)).1
theorem tx_len {l:List Int}:∀k,(tx l k).length≤4 * k
 | 0=>by simp [tx]
 | k+1=>by
  have:=tx_len (l:=l) k
  have:=enc_len (v:=rn l k)
  rw [tx_succ,List.length_append];omega
theorem tx_byt {l:List Int} (hl:Byt l):∀k,Byt (tx l k)
 | 0=>fun c hc=>by simp [tx] at hc
 | k+1=>fun c hc=>by
  rw [tx_succ] at hc
  rcases List.mem_append.1 hc with h | h
  ·exact tx_byt hl k c h
  ·exact enc_byt (rn_R hl k) c h
theorem ps_step {l:List Int} (hl:Byt l) (k:Nat):ps l k<ps l (k+1)∧ps l (k+1)≤ps l k+4∧(ps l k<l.length→ps l (k+1)≤l.length):=by
 have h:=stp_pos (xc hl (n:=ps l k))
 rw [ps]
 refine ⟨by omega,by omega,fun hk=>?_⟩
 have:=h.2.2.2 (by rw [List.length_drop];omega)
 rw [List.length_drop] at this
 omega
theorem ps_lt {l:List Int} (hl:Byt l):∀(j i:Nat),ps l i+j≤ps l (i+j)
 | 0,i=>Nat.le_refl _
 | j+1,i=>by
  have:=ps_lt hl j i
  have:=(ps_step hl (i+j)).1
  rw [show i+(j+1)=(i+j)+1 by omega]
  omega
theorem ps_ge {l:List Int} (hl:Byt l) (k:Nat):k≤ps l k:=by have:=ps_lt hl k 0;simp [ps] at this;omega
theorem ps_mono {l:List Int} (hl:Byt l) {i k:Nat} (h:i<k):ps l i<ps l k:=by have:=ps_lt hl (k-i) i;rw [show i+(k-i)=k by omega] at this;omega
theorem ps_lt_iff {l:List Int} (hl:Byt l) {i k:Nat}:ps l i<ps l k↔i<k:=by
 refine ⟨fun h=>?_,ps_mono hl⟩
 by_cases q:i<k
 ·exact q
 ·by_cases e:i=k
  ·subst e;omega
  ·have:=ps_mono hl (show k<i by omega);omega
theorem ps_inj {l:List Int} (hl:Byt l) {i k:Nat} (h:ps l i=ps l k):i=k:=by
 have a:¬i<k:=fun q=>by have:=ps_mono hl q;omega
 have b:¬k<i:=fun q=>by have:=ps_mono hl q;omega
 omega
def goodAt (l:List Int) (i:Nat):Prop:=l.drop (ps l i)=enc (rn l i)++l.drop (ps l (i+1))
theorem goodAt_iff {l:List Int} (hl:Byt l) (i:Nat):goodAt l i↔((nx (l.drop (ps l i))).2.2=false∧((nx (l.drop (ps l i))).1≠65533∨(nx (l.drop (ps l i))).2.1=3)):=by
 rw [←stp_good (xc hl)]
 unfold goodAt rn
 rw [ps,List.drop_drop]
theorem tx_split (l:List Int) {i:Nat}:∀{N:Nat},i<N→∃R,tx l N=tx l i++(enc (rn l i)++R)
 | 0,h=>by omega
 | N+1,h=>by
  by_cases e:i=N
  ·subst e;exact ⟨[],by rw [tx_succ,List.append_nil]⟩
  ·obtain ⟨R,hR⟩:=tx_split l (i:=i) (N:=N) (by omega)
   exact ⟨R++enc (rn l N),by rw [tx_succ,hR];simp only [List.append_assoc]⟩
theorem tx_pre {l:List Int}:∀k,(∀i,i<k→goodAt l i)→l=tx l k++l.drop (ps l k)
 | 0,_=>by simp [tx,ps]
 | k+1,h=>by
  have ih:=tx_pre k fun i hi=>h i (by omega)
  have g:=h k (by omega)
  rw [tx_succ,List.append_assoc,←g]
  exact ih
theorem tx_good {l:List Int} (hl:Byt l) {N:Nat} (hN:ps l N=l.length):tx l N=l↔∀i,i<N→goodAt l i:=by
 constructor
 ·intro h i
  induction i using Nat.strongRecOn with
  | _ i ih=>
   intro hi
   have p:=tx_pre i fun j hj=>ih j hj (by omega)
   obtain ⟨R,hR⟩:=tx_split l hi
   have e:l.drop (ps l i)=enc (rn l i)++R:=by
    have q:tx l i++l.drop (ps l i)=tx l i++(enc (rn l i)++R):=by rw [←p,←hR,h]
    exact List.append_cancel_left q
   have hx:=nx_enc (rn_R hl i) R
   rw [←e] at hx
   have hs:(stp (l.drop (ps l i))).2=((enc (rn l i)).length:Int):=by
    have e2:stp (l.drop (ps l i))=((nx (l.drop (ps l i))).1,(nx (l.drop (ps l i))).2.1):=by
     unfold stp
     rw [if_neg (by rw [hx];simp)]
    rw [e2,hx]
   unfold goodAt
   rw [ps,hs,←List.drop_drop,e,Int.toNat_natCast,List.drop_left]
 ·intro h
  have p:=tx_pre N h
  rw [hN,List.drop_length,List.append_nil] at p
  exact p.symm
theorem bytes_str {l:List Int} (hl:Byt l):z6 (zV l)=l:=by
 unfold z6 zV
 simp only [List.map_map]
 conv=>rhs;rw [←List.map_id l]
 refine List.map_congr_left fun c hc=>?_
 have:=hl c hc
 simp only [Function.comp,UInt8.toNat_ofNat',id]
 omega
theorem str_size (l:List Int):(zV l).size=l.length:=by simp [zV,ByteArray.size]
theorem str_eq {a b:List Int} (ha:Byt a) (hb:Byt b):(zV a).data.toList=(zV b).data.toList↔a=b:=by
 constructor
 ·intro h
  have e:z6 (zV a)=z6 (zV b):=by unfold z6;rw [h]
  rwa [bytes_str ha,bytes_str hb] at e
 ·rintro rfl;rfl
end Go.Proofs.YtmpknfgjfmgleaaGreatDoor
end
section
namespace Go.Proofs.YtmpknfgjfmgleaaGreatDoor
open Go Go.Eng
theorem drop_all {l:List Int} {k:Nat}:(l.drop k).take (l.length-k)=l.drop k:=List.take_of_length_le (by rw [List.length_drop];omega)
theorem stp_more {l:List Int} (h:(nx l).2.2=true):stp l=(65533,1):=by unfold stp;rw [if_pos h]
theorem stp_else {l:List Int} (h:¬(nx l).2.2=true):stp l=((nx l).1,(nx l).2.1):=by unfold stp;rw [if_neg h]
theorem ps_more {l:List Int} {k:Nat} (h:(nx (l.drop (ps l k))).2.2=true):rn l k=65533∧(ps l k:Int)+1=(ps l (k+1):Nat):=by
 unfold rn;rw [ps,stp_more h];exact ⟨rfl,by simp⟩
theorem ps_else {l:List Int} (hl:Byt l) {k:Nat} (h:¬(nx (l.drop (ps l k))).2.2=true):rn l k=(nx (l.drop (ps l k))).1∧(ps l k:Int)+(nx (l.drop (ps l k))).2.1=(ps l (k+1):Nat):=by
 have p:=stp_pos (xc hl (n:=ps l k))
 unfold rn;rw [ps]
 rw [stp_else h] at p ⊢
 exact ⟨rfl,by dsimp only at p ⊢;omega⟩
theorem runes_gives {β:Type} {l:List Int} {K:List Int×List Int→Option β} {Φ:β→Prop} (hl:Byt l) (hn:l.length≤1000000) {n:Nat} (e:n=l.length)
  (hk:∀N,ps l N=l.length→zf (K (rs l N,pp l N)) Φ) :
  zf ((yr (σ:=List Int×List Int×Int) (ρ:=List Int×List Int) (fun s657=>
     if s657.2.2<((n:Nat):Int) then
      (
       ck (0≤s657.2.2∧s657.2.2≤((n:Nat):Int)∧((n:Nat):Int)≤((n:Nat):Int)) <|
       (g32 ((l.drop s657.2.2.toNat).take (((n:Nat):Int).toNat-s657.2.2.toNat))).bind fun v687=>
       if v687.2.2=true then
        (
         ck ((s657.1.length+1) * 4≤140737488355328) <|
         ck ((s657.2.1.length+1) * 8≤140737488355328) <|
         ck (inR .i64 (s657.2.2+1)) <|
         some (.go ((s657.1++[65533]),(s657.2.1++[s657.2.2]),s657.2.2+1))
        )
       else
        (
         ck ((s657.1.length+1) * 4≤140737488355328) <|
         ck ((s657.2.1.length+1) * 8≤140737488355328) <|
         ck (inR .i64 (s657.2.2+v687.2.1)) <|
         some (.go ((s657.1++[v687.1]),(s657.2.1++[s657.2.2]),s657.2.2+v687.2.1))
        )
      )
     else
      some (.out (s657.1,s657.2.1))
    ) ([],[],0)).bind fun o683=>K (o683.1,o683.2)) Φ:=by
 subst e
 refine x7 (Ω:=fun o=>∃N,ps l N=l.length∧o=(rs l N,pp l N)) (g_loop (fun s:List Int×List Int×Int=>∃k:Nat,s=(rs l k,pp l k,(ps l k:Int))∧ps l k≤l.length) (fun s=>((l.length:Int)-s.2.2).toNat) ?_ ⟨0,rfl,Nat.zero_le _⟩) ?_
 ·rintro _ ⟨k,rfl,hk⟩
  dsimp only
  have st:=ps_step hl k
  have kl:=ps_ge hl k
  refine g_if (fun hlt=>g_ck (by omega) ?_) fun hge=>g_out ⟨k,by omega,rfl⟩
  simp only [Int.toNat_natCast,drop_all]
  refine zn (g32_eq (xc hl) (by rw [List.length_drop];omega)) (g_if (fun h=>?_) fun h=>?_)
  ·obtain ⟨r1,r2⟩:=ps_more h
   rw [r2]
   exact g_ck (by rw [rs_len];omega) (g_ck (by rw [pp_len];omega) (g_i64 (by omega) (g_go ⟨k+1,by rw [rs_succ,pp_succ,r1],by omega⟩ (by dsimp only;omega))))
  ·obtain ⟨r1,r2⟩:=ps_else hl h
   rw [r2]
   exact g_ck (by rw [rs_len];omega) (g_ck (by rw [pp_len];omega) (g_i64 (by omega) (g_go ⟨k+1,by rw [rs_succ,pp_succ,r1],by omega⟩ (by dsimp only;omega))))
 ·rintro _ ⟨N,h,rfl⟩
  exact hk N h
theorem norm_of {v:Int} (h:isR v):norm v=v:=by unfold norm;rw [if_pos h]
theorem flat_gives {β : Type} {l : List Int} {K : List Int → Option β} {Φ : β → Prop} (hl : Byt l) {N : Nat} (hN : N ≤ 1000000) (hk : zf (K (tx l N)) Φ) {n : Nat} (e : n = N) :
    zf ((yr (σ := List Int × Int) (ρ := List Int) (fun s730 =>
            if s730.2 < ((n : Nat) : Int) then
              (
                ck (0 ≤ s730.2 ∧ s730.2 < ((n : Nat) : Int)) <|
                (g33 ((rs l N).getD s730.2.toNat 0)).bind fun v747 =>
                ck ((s730.1.length + v747.length) * 1 ≤ 140737488355328) <|
                ck (inR .i64 (s730.2 + 1)) <|
                some (.go ((s730.1 ++ v747), s730.2 + 1))
              )
            else
              some (.out s730.1)
          ) ([], 0)).bind fun o744 => K o744) Φ := by
  subst e
  refine x7 (Ω := fun o => o = tx l n) (g_loop (fun s : List Int × Int => ∃ k : Nat, s = (tx l k, (k : Int)) ∧ k ≤ n) (fun s => ((n : Int) - s.2).toNat) ?_ ⟨0, rfl, Nat.zero_le _⟩) fun o ho => ho ▸ hk
  rintro _ ⟨k, rfl, hk⟩
  dsimp only
  refine g_if (fun hlt => g_ck (by omega) ?_) fun hge => g_out (by rw [show k = n by omega])
  have e1 : (rs l n).getD (k : Int).toNat 0 = rn l k := by
    simp [rs, List.getD_eq_getElem?_getD, show k < n by omega]
  rw [e1]
  have t1 := tx_len (l := l) k
  have t2 := enc_len (v := rn l k)
  refine zn (g33_eq _) ?_
  rw [norm_of (rn_R hl k)]
  exact g_ck (by omega) (g_i64 (by omega) (g_go ⟨k + 1, by rw [tx_succ]; rfl, by omega⟩ (by dsimp only; omega)))
theorem ref_runes {l:List Int} (hl:Byt l) (hn:l.length≤1000000):zf (g36 l) fun v=>∃N,ps l N=l.length∧v=(rs l N,pp l N):=by
 unfold g36
 refine g_jn (fun v=>∃N,ps l N=l.length∧v=(rs l N,pp l N)) (fun k hk=>runes_gives (K:=fun o=>k (o.1,o.2)) hl hn rfl fun N h=>hk _ ⟨N,h,rfl⟩) fun v hv=>zh hv
theorem ref_text {l:List Int} (hl:Byt l) (hn:l.length≤1000000):∃N,ps l N=l.length∧g14 l=some (zV (tx l N)):=by
 obtain ⟨v,e,N,hN,rfl⟩:=ref_runes hl hn
 refine ⟨N,hN,g_eq ?_⟩
 unfold g14
 have hk:=ps_ge hl N
 refine zn e (g_jn (fun v=>v=tx l N) (fun k hk'=>flat_gives (K:=k) hl (N:=N) (by omega) (hk' _ rfl) (rs_len l N)) fun v hv=>?_)
 subst hv
 exact g_ck (tx_byt hl N) (zh rfl)
theorem g276_eq {l:List Int} (hl:Byt l) (hn:l.length≤1000000):g276 l=some (stp l):=by
 unfold g276
 rw [g61_eq hl hn]
 show (if (nx l).2.2=true then _ else _)=_
 unfold stp
 split<;>rfl
theorem count_gives {l:List Int} (hl:Byt l) (hn:l.length≤1000000) {N:Nat} (hN:ps l N=l.length):zf (g60 (zV l)) fun v=>v=N:=by
 unfold g60
 rw [str_size,bytes_str hl]
 refine g_jn (fun v=>v=(N:Int)) (fun k hk=>g_ck (by omega) ?_) fun v hv=>zh hv
 refine x7 (Ω:=fun o=>o=(N:Int)) (g_loop (fun s:Int×Int=>∃k:Nat,s=((k:Int),(ps l k:Int))∧ps l k≤l.length) (fun s=>((l.length:Int)-s.2).toNat) ?_ ⟨0,rfl,Nat.zero_le _⟩) fun o ho=>hk _ ho
 rintro _ ⟨k,rfl,hk⟩
 dsimp only
 have st:=ps_step hl k
 have kl:=ps_ge hl k
 refine g_if (fun hlt=>g_ck (by omega) ?_) fun hge=>g_out (by rw [ps_inj hl (show ps l k=ps l N by omega)])
 simp only [Int.toNat_natCast,drop_all]
 refine zn (g276_eq (xc hl) (by rw [List.length_drop];omega)) ?_
 have p:=stp_pos (xc hl (n:=ps l k))
 have e:(ps l k:Int)+(stp (l.drop (ps l k))).2=(ps l (k+1):Nat):=by
  rw [ps]
  omega
 rw [e]
 exact g_i64 (by omega) (g_i64 (by omega) (g_go ⟨k+1,rfl,by omega⟩ (by dsimp only;omega)))
theorem enc_bad:enc (norm 65533)=[239,191,189]:=rfl
theorem valid_gives {l:List Int} (hl:Byt l) (hn:l.length≤1000000) {N:Nat} (hN:ps l N=l.length):zf (g26 (zV l)) fun r=>(r=true↔tx l N=l):=by
 unfold g26
 rw [str_size,bytes_str hl]
 refine g_ck (by omega) (g_jn (fun _=>tx l N=l) (fun k hk=>?_) fun v hv=>zh (by simpa using hv))
 refine x7 (Ω:=fun o:Unit ⊕ Unit=>(o=.inl ()∧¬tx l N=l)∨(o=.inr ()∧tx l N=l)) (g_loop (fun s:Int=>∃k:Nat,s=(ps l k:Int)∧ps l k≤l.length∧∀i,i<k→goodAt l i) (fun s=>((l.length:Int)-s).toNat) ?_ ⟨0,rfl,Nat.zero_le _,fun i hi=>by omega⟩) ?_
 ·rintro _ ⟨k,rfl,hk,hg⟩
  have st:=ps_step hl k
  have kl:=ps_ge hl k
  refine g_if (fun hlt=>g_ck (by omega) ?_) fun hge=>g_out (.inr ⟨rfl,(tx_good hl hN).2 (by rw [←ps_inj hl (show ps l k=ps l N by omega)];exact hg)⟩)
  have kN:k<N:=(ps_lt_iff hl).1 (by omega)
  simp only [Int.toNat_natCast,drop_all]
  have bad:¬goodAt l k→¬tx l N=l:=fun h h'=>h ((tx_good hl hN).1 h' k kN)
  have gi:=goodAt_iff hl k
  have next:¬(nx (l.drop (ps l k))).2.2=true→goodAt l k→zf (ck (inR .i64 ((ps l k:Int)+(nx (l.drop (ps l k))).2.1)) (some (.go ((ps l k:Int)+(nx (l.drop (ps l k))).2.1)))) (rnd (fun s:Int=>∃k:Nat,s=(ps l k:Int)∧ps l k≤l.length∧∀i,i<k→goodAt l i) (fun s=>((l.length:Int)-s).toNat) ((l.length:Int)-(ps l k:Int)).toNat (fun o:Unit ⊕ Unit=>(o=.inl ()∧¬tx l N=l)∨(o=.inr ()∧tx l N=l))):=fun h g=>by
   obtain ⟨r1,r2⟩:=ps_else hl h
   rw [r2]
   refine g_i64 (by omega) (g_go ⟨k+1,rfl,by omega,fun i hi=>?_⟩ (by omega))
   by_cases q:i=k
   ·subst q;exact g
   ·exact hg i (by omega)
  refine zn (g61_eq (xc hl) (by rw [List.length_drop];omega)) (g_if (fun h=>g_out (.inl ⟨rfl,bad fun g=>by rw [gi] at g;simp [h] at g⟩)) fun h=>g_if (fun h1=>next h (gi.2 ⟨by simpa using h,.inl h1⟩)) fun h1=>zn (g62_eq _) ?_)
  rw [enc_bad]
  refine g_if (fun h2=>g_out (.inl ⟨rfl,bad fun g=>?_⟩)) fun h2=>next h (gi.2 ⟨by simpa using h,.inr ?_⟩)
  ·rw [gi] at g
   simp only [List.length_cons,List.length_nil] at h2
   omega
  ·simp only [List.length_cons,List.length_nil] at h2
   omega
 ·rintro _ (⟨rfl,h⟩ | ⟨rfl,h⟩)
  ·exact g_sm (fun w e=>zh (by simpa using h)) fun w e=>by cases e
  ·exact g_sm (fun w e=>by cases e) fun w e=>hk _ h
end Go.Proofs.YtmpknfgjfmgleaaGreatDoor
end
section
namespace Go.Proofs.YtmpknfgjfmgleaaGreatDoor
open Go Go.Eng
noncomputable section
abbrev Ky:Type:=Int×ByteArray×Int×Bool×Bool×Bool
def KeyOk (k:Ky):Prop:=∃b e,g5 k=some (b,e)∧g6 k=some (b,e)∧zM b∧(e=0→∃k':Ky,g8 (([]:List Int),false) b=some (([],false),[k'])∧k'.1=k.1∧k'.2.1.data.toList=k.2.1.data.toList∧k'.2.2=k.2.2)
def eqBl (a b:ByteArray):Bool:=decide (a.data.toList=b.data.toList)
def eqIl (a b:List Int):Bool:=decide (a=b)
def eqKy (a b:Ky):Bool:=decide (a.1=b.1) && (eqBl a.2.1 b.2.1 && decide (a.2.2=b.2.2))
def runKy (k:Ky):Bool:=
 match g5 k,g6 k with
 | some (b,e),some (b',e')=>eqIl b b' && (decide (e=e') && (b.all (fun c=>decide (0≤c∧c≤255)) && (decide (e≠0) || (match e8 40 (([]:List Int),false) b with
  | some ((d,p),[k'])=>eqIl d [] && (!p && eqKy k' k)
  | _=>false))))
 | _,_=>false
theorem runKy_ok {k:Ky} (h:runKy k=true):KeyOk k:=by
 unfold runKy at h
 split at h
 rotate_left
 ·cases h
 rename_i b e b' e' h5 h6
 simp only [Bool.and_eq_true,eqIl,decide_eq_true_iff] at h
 obtain ⟨rfl,rfl,hb,h⟩:=h
 refine ⟨b,e,h5,h6,fun c hc=>of_decide_eq_true (List.all_eq_true.1 hb c hc),fun he=>?_⟩
 subst he
 simp only [ne_eq,not_true_eq_false,decide_false,Bool.false_or] at h
 split at h
 rotate_left
 ·cases h
 rename_i d p k' h8
 simp only [Bool.and_eq_true,decide_eq_true_iff,Bool.not_eq_true',eqKy,eqBl] at h
 obtain ⟨rfl,rfl,q1,q2,q3⟩:=h
 exact ⟨k',e8_le _ _ _ _ h8,q1,q2,q3⟩
def bools:List Bool:=[false,true]
def table:List Ky:=
 (([8,9,10,11,12,13,7,14,15].map fun c=>((c,0):Int×Int))++([1,2,3,4,5,6,7,8,9,10,11,12].map fun n=>((18,n):Int×Int))).flatMap fun c=>bools.flatMap fun a=>bools.flatMap fun s=>bools.map fun t=>(c.1,⟨#[]⟩,c.2,a,s,t)
def table2:List Ky:=[2,3,6].flatMap fun c=>bools.map fun a=>(c,⟨#[]⟩,0,a,false,false)
def table3:List Ky:=(List.range 256).flatMap fun x=>bools.map fun a=>(17,⟨#[UInt8.ofNat x]⟩,0,a,false,false)
theorem table_run:table.all runKy=true:=by kernel_rfl
theorem table2_run:((4,⟨#[]⟩,0,false,false,false)::table2).all runKy=true:=by kernel_rfl
theorem table3_run:table3.all runKy=true:=by kernel_rfl
end
end Go.Proofs.YtmpknfgjfmgleaaGreatDoor
end
section
namespace Go.Proofs.YtmpknfgjfmgleaaGreatDoor
open Go Go.Eng
theorem y9 {k:Ky} (h5:g5 k=some ([],290)) (h6:g6 k=some ([],290)):KeyOk k:=
 ⟨[],290,h5,h6,(by intro c hc;cases hc),(by intro h;cases h)⟩
theorem bytes0 {S:ByteArray} (h:S.data.toList=[]):S=⟨#[]⟩:=by
 cases S with | mk d=>congr;exact Array.toList_inj.1 (by simpa using h)
theorem lit0:(lit []).data.toList=[]:=rfl
theorem all_ok {l:List Ky} (h:l.all runKy=true) {k:Ky} (hk:k∈l):KeyOk k:=runKy_ok (List.all_eq_true.1 h k hk)
theorem bmem (b:Bool):b∈bools:=by cases b<;>simp [bools]
theorem g25_eq (c:Int) (S:ByteArray) (N:Int) (al sh ct:Bool):g25 (c,S,N,al,sh,ct)=some (decide (S.data.toList=[]∧N=0)):=by
 by_cases h:S.data.toList=[]<;>simp [g25,lit0,h]
theorem g34_eq (c:Int) (S:ByteArray) (N:Int) (al sh ct:Bool):g34 (c,S,N,al,sh,ct)=some (decide (S.data.toList=[]∧N=0)):=by
 by_cases h:S.data.toList=[]<;>simp [g34,lit0,h]
theorem g13_eq (c:Int) (S:ByteArray) (N:Int) (al sh ct:Bool):g13 (c,S,N,al,sh,ct)=some (!al && (!sh && !ct)):=by
 cases al<;>cases sh<;>cases ct<;>rfl
theorem g37_no {c:Int} (h:c≠8∧c≠9∧c≠10∧c≠11∧c≠12∧c≠13):g37 c=some 0:=by
 simp [g37,h]
theorem g38_no {c:Int} {S:ByteArray} {N:Int} {al sh ct:Bool} (h:c≠18∧c≠7∧c≠14∧c≠15):g38 (c,S,N,al,sh,ct)=some 0:=by
 simp [g38,jn,h]
theorem g29_no {c:Int} (h:c≠8∧c≠9∧c≠10∧c≠11∧c≠12∧c≠13):g29 c=some 0:=by
 simp [g29,h]
theorem g30_no {c:Int} {S:ByteArray} {N:Int} {al sh ct:Bool} (h:c≠18∧c≠7∧c≠14∧c≠15):g30 (c,S,N,al,sh,ct)=some 0:=by
 simp [g30,jn,h]
theorem g16_no {c:Int} {S:ByteArray} {N:Int} {al sh ct:Bool} (h:c≠8∧c≠9∧c≠10∧c≠11∧c≠12∧c≠13) (h':c≠18∧c≠7∧c≠14∧c≠15) (h4:c≠4):g16 (c,S,N,al,sh,ct)=some (lit []):=by
 simp [g16,jn,g37_no h,g38_no h',g13_eq,h4]
theorem g16_S {c:Int} {S:ByteArray} {N:Int} {al sh ct:Bool} (hS:S.data.toList≠[]) {v:Int} (h37:g37 c=some v) {u:Int} (h38:g38 (c,S,N,al,sh,ct)=some u):g16 (c,S,N,al,sh,ct)=some (lit []):=by
 simp [g16,h37,h38,lit0,hS]
theorem g11_S {c:Int} {S:ByteArray} {N:Int} {al sh ct:Bool} (hS:S.data.toList≠[]):g11 (c,S,N,al,sh,ct)=some (lit []):=by
 simp [g11,lit0,hS]
theorem g6_seq {c:Int} {S:ByteArray} {N:Int} {al sh ct:Bool} (h12:g12 (c,S,N,al,sh,ct)=some []) (h:c≠16) (h16:g16 (c,S,N,al,sh,ct)=some (lit [])):g6 (c,S,N,al,sh,ct)=some ([],290):=by
 simp [g6,h12,h,h16]
theorem g5_seq {c:Int} {S:ByteArray} {N:Int} {al sh ct:Bool} (h:c≠1∧c≠2∧c≠3∧c≠6∧c≠17∧c≠16∧c≠4) (h11:g11 (c,S,N,al,sh,ct)=some (lit [])):g5 (c,S,N,al,sh,ct)=some ([],290):=by
 simp [g5,jn,h,h11]
theorem g5_plain {c:Int} {S:ByteArray} {N:Int} {al sh ct:Bool} (h:c=1∨c=2∨c=3∨c=6∨c=17) (h9:g9 (c,S,N,al,sh,ct)=some (lit [])):g5 (c,S,N,al,sh,ct)=some ([],290):=by
 rcases h with rfl | rfl | rfl | rfl | rfl<;>simp [g5,jn,h9]
theorem g12_no {c:Int} {S:ByteArray} {N:Int} {al sh ct:Bool} (h:c≠1∧c≠2∧c≠3∧c≠6∧c≠17):g12 (c,S,N,al,sh,ct)=some []:=by
 simp [g12,h]
theorem key_bare {c:Int} {S:ByteArray} {N:Int} {al sh ct:Bool} (h:c=2∨c=3∨c=6):KeyOk (c,S,N,al,sh,ct):=by
 have n1:c≠8∧c≠9∧c≠10∧c≠11∧c≠12∧c≠13:=by omega
 have n2:c≠18∧c≠7∧c≠14∧c≠15:=by omega
 have n3:c≠4:=by omega
 have n4:c≠16:=by omega
 by_cases hb:S.data.toList=[]∧N=0
 ·obtain ⟨hS,rfl⟩:=hb
  have:=bytes0 hS
  subst this
  cases hsh:(sh || ct) with
  | false=>
   simp only [Bool.or_eq_false_iff] at hsh
   obtain ⟨rfl,rfl⟩:=hsh
   refine all_ok table2_run (List.mem_cons_of_mem _ (List.mem_flatMap.2 ⟨c,by simpa using h,List.mem_map.2 ⟨al,bmem al,rfl⟩⟩))
  | true=>
   have h9:g9 (c,⟨#[]⟩,0,al,sh,ct)=some (lit []):=by
    cases sh
    ·have:ct=true:=by simpa using hsh
     subst this;simp [g9]
    ·simp [g9]
   have h12:∃x,g12 (c,⟨#[]⟩,0,al,sh,ct)=some [x]:=by
    rcases h with rfl | rfl | rfl
    ·exact ⟨13,by simp [g12,g34_eq]⟩
    ·exact ⟨9,by simp [g12,g34_eq]⟩
    ·exact ⟨127,by simp [g12,g34_eq]⟩
   obtain ⟨x,h12⟩:=h12
   refine y9 (g5_plain (by omega) h9) ?_
   have hc1:c≠1:=by omega
   cases sh
   ·have:ct=true:=by simpa using hsh
    subst this
    simp [g6,h12,jn]
   ·simp [g6,h12,jn]
 ·have h9:g9 (c,S,N,al,sh,ct)=some (lit []):=by
   cases sh
   ·cases ct
    ·by_cases hN:N=0
     ·subst hN
      have hS:S.data.toList≠[]:=fun e=>hb ⟨e,rfl⟩
      rcases h with rfl | rfl | rfl<;>simp [g9,jn,g25_eq,hS,lit]
     ·simp [g9,hN]
    ·simp [g9]
   ·simp [g9]
  have h12:g12 (c,S,N,al,sh,ct)=some []:=by
   rcases h with rfl | rfl | rfl<;>simp only [g12,g34_eq,hb]<;>simp
  exact y9 (g5_plain (by omega) h9) (g6_seq h12 n4 (g16_no n1 n2 n3))
theorem key_ctrl {S:ByteArray} {N:Int} {al sh ct:Bool}:KeyOk (17,S,N,al,sh,ct):=by
 have hg16:g16 (17,S,N,al,sh,ct)=some (lit []):=g16_no (by omega) (by omega) (by omega)
 by_cases hb:S.data.toList.length=1∧N=0
 ·obtain ⟨hS,rfl⟩:=hb
  obtain ⟨x,hx⟩:=List.length_eq_one_iff.1 hS
  have hSx:S=⟨#[x]⟩:=by
   cases S with | mk d=>congr;exact Array.toList_inj.1 (by simpa using hx)
  subst hSx
  cases hsh:(sh || ct) with
  | false=>
   simp only [Bool.or_eq_false_iff] at hsh
   obtain ⟨rfl,rfl⟩:=hsh
   refine all_ok table3_run (List.mem_flatMap.2 ⟨x.toNat,List.mem_range.2 x.toNat_lt,List.mem_map.2 ⟨al,bmem al,?_⟩⟩)
   rw [UInt8.ofNat_toNat]
  | true=>
   have h9:g9 (17,⟨#[x]⟩,0,al,sh,ct)=some (lit []):=by
    cases sh
    ·have:ct=true:=by simpa using hsh
     subst this;simp [g9]
    ·simp [g9]
   obtain ⟨v,hv⟩:∃v,g12 (17,⟨#[x]⟩,0,al,sh,ct)=some v:=by
    have h0:0≤(x.toNat:Int)∧(x.toNat:Int)≤255:=⟨by omega,by have:=x.toNat_lt;omega⟩
    obtain ⟨u,hu,_⟩:zf (g35 (x.toNat:Int)) fun _=>True:=by
     unfold g35
     refine g_jn (fun _=>True) (fun k hk=>?_) fun v _=>?_
     ·repeat' (first | with_reducible refine g_if (fun _=>?_) (fun _=>?_) | exact hk _ trivial)
     ·refine g_if (fun _=>zh trivial) fun _=>?_
      refine g_jn (fun v=>v=true→97≤(x.toNat:Int)∧(x.toNat:Int)≤122) (fun k hk=>g_if (fun h1=>hk _ (fun h=>⟨h1,by simpa using h⟩)) fun _=>hk _ (by simp)) fun v hv=>?_
      refine g_if (fun h=>?_) fun _=>?_
      ·have:=hv h
       exact g_ck (by show (0:Int)≤_∧_≤(255:Int);omega) (zh trivial)
      ·repeat' (first | with_reducible refine g_if (fun _=>?_) (fun _=>?_) | exact zh trivial | exact g_ck (by show (0:Int)≤_∧_≤(255:Int);omega) (zh trivial))
    refine ⟨u,?_⟩
    have e0:(((⟨#[x]⟩:ByteArray).data.toList[(0:Int).toNat]?.getD 0).toNat:Int)=(x.toNat:Int):=rfl
    have e2:(((⟨#[x]⟩:ByteArray).size:Nat):Int)=1:=rfl
    unfold g12
    rw [if_neg (by decide:¬(17:Int)=1),if_neg (by decide:¬(17:Int)=2),if_neg (by decide:¬(17:Int)=3),if_neg (by decide:¬(17:Int)=6),if_pos rfl,if_pos rfl,e0,e2,if_pos rfl,hu]
    rfl
   refine y9 (g5_plain (by omega) h9) ?_
   by_cases hl:v=[]
   ·subst hl;exact g6_seq hv (by omega) hg16
   ·have:0<v.length:=List.length_pos_iff.2 hl
    cases sh
    ·have:ct=true:=by simpa using hsh
     subst this
     simp [g6,hv,jn,hl]
    ·simp [g6,hv,jn,hl]
 ·have h12:g12 (17,S,N,al,sh,ct)=some []:=by
   by_cases hN:N=0
   ·have hS:S.data.toList.length≠1:=fun e=>hb ⟨e,hN⟩
    have hS':(S.size:Int)≠1:=by
     have:S.size=S.data.toList.length:=Array.length_toList.symm
     omega
    unfold g12
    rw [if_neg (by decide:¬(17:Int)=1),if_neg (by decide:¬(17:Int)=2),if_neg (by decide:¬(17:Int)=3),if_neg (by decide:¬(17:Int)=6),if_pos rfl,if_pos hN,if_neg hS']
   ·unfold g12
    rw [if_neg (by decide:¬(17:Int)=1),if_neg (by decide:¬(17:Int)=2),if_neg (by decide:¬(17:Int)=3),if_neg (by decide:¬(17:Int)=6),if_pos rfl,if_neg hN]
  have h9:g9 (17,S,N,al,sh,ct)=some (lit []):=by
   cases sh
   ·cases ct
    ·by_cases hN:N=0
     ·subst hN
      have hS:S.data.toList.length≠1:=fun e=>hb ⟨e,rfl⟩
      have hS':(S.size:Int)≠1:=by
       have:S.size=S.data.toList.length:=Array.length_toList.symm
       omega
      have hn:∀x:UInt8,¬S.data.toList=(lit [x]).data.toList:=fun x e=>hS (by rw [e];simp [lit])
      have h24:g24 S=some (lit []):=by simp only [g24,jn,hn,hS',if_false,decide_false,Bool.false_eq_true,not_false_eq_true,if_true]
      simp [g9,jn,h24]
     ·simp [g9,hN]
    ·simp [g9]
   ·simp [g9]
  exact y9 (g5_plain (by omega) h9) (g6_seq h12 (by omega) hg16)
theorem key_letter {c:Int} {S:ByteArray} {N:Int} {al sh ct:Bool} (h:c=8∨c=9∨c=10∨c=11∨c=12∨c=13):KeyOk (c,S,N,al,sh,ct):=by
 have h12:g12 (c,S,N,al,sh,ct)=some []:=g12_no (by omega)
 have h38:g38 (c,S,N,al,sh,ct)=some 0:=g38_no (by omega)
 have h37:∃v,g37 c=some v:=by rcases h with rfl | rfl | rfl | rfl | rfl | rfl<;>exact ⟨_,rfl⟩
 obtain ⟨v,h37⟩:=h37
 by_cases hS:S.data.toList=[]
 ·by_cases hN:N=0
  ·have:=bytes0 hS
   subst this hN
   refine all_ok table_run (List.mem_flatMap.2 ⟨(c,0),?_,List.mem_flatMap.2 ⟨al,bmem al,List.mem_flatMap.2 ⟨sh,bmem sh,List.mem_map.2 ⟨ct,bmem ct,rfl⟩⟩⟩⟩)
   rcases h with rfl | rfl | rfl | rfl | rfl | rfl<;>simp
  ·have:=bytes0 hS
   subst this
   have h16:g16 (c,⟨#[]⟩,N,al,sh,ct)=some (lit []):=by
    simp [g16,h37,h38,jn,hN,show c≠4 by omega]
   have h28:∃m,g28 (c,⟨#[]⟩,N,al,sh,ct)=some m:=by
    have e:∀c N,g28 (c,⟨#[]⟩,N,al,sh,ct)=g28 (0,⟨#[]⟩,0,al,sh,ct):=fun _ _=>rfl
    rw [e]
    have:∀al sh ct,(g28 (0,⟨#[]⟩,0,al,sh,ct)).isSome=true:=by
     intro al sh ct;cases al<;>cases sh<;>cases ct<;>kernel_rfl
    obtain ⟨m,hm⟩:=Option.isSome_iff_exists.1 (this al sh ct)
    exact ⟨m,hm⟩
   obtain ⟨m,h28⟩:=h28
   have h29:∃v,g29 c=some v∧v≠0:=by rcases h with rfl | rfl | rfl | rfl | rfl | rfl<;>exact ⟨_,rfl,by decide⟩
   obtain ⟨u,h29,hu⟩:=h29
   have h11:g11 (c,⟨#[]⟩,N,al,sh,ct)=some (lit []):=by
    simp [g11,h28,h29,hu,hN,lit]
   exact y9 (g5_seq (by omega) h11) (g6_seq h12 (by omega) h16)
 ·exact y9 (g5_seq (by omega) (g11_S hS)) (g6_seq h12 (by omega) (g16_S hS h37 h38))
theorem g28_ex (c:Int) (S:ByteArray) (N:Int) (al sh ct:Bool):∃m,g28 (c,S,N,al,sh,ct)=some m:=by
 have e:∀c S N,g28 (c,S,N,al,sh,ct)=g28 (0,⟨#[]⟩,0,al,sh,ct):=fun _ _ _=>rfl
 rw [e]
 have:∀al sh ct,(g28 (0,⟨#[]⟩,0,al,sh,ct)).isSome=true:=by
  intro al sh ct;cases al<;>cases sh<;>cases ct<;>kernel_rfl
 obtain ⟨m,hm⟩:=Option.isSome_iff_exists.1 (this al sh ct)
 exact ⟨m,hm⟩
theorem key_none {c:Int} {S:ByteArray} {N:Int} {al sh ct:Bool} (h:c≠1∧c≠2∧c≠3∧c≠6∧c≠17∧c≠16∧c≠4) (hl:c≠8∧c≠9∧c≠10∧c≠11∧c≠12∧c≠13)
  (h30:g30 (c,S,N,al,sh,ct)=some 0) (h38:g38 (c,S,N,al,sh,ct)=some 0):KeyOk (c,S,N,al,sh,ct):=by
 have h12:g12 (c,S,N,al,sh,ct)=some []:=g12_no (by omega)
 have h16:g16 (c,S,N,al,sh,ct)=some (lit []):=by
  simp [g16,jn,g37_no hl,h38,g13_eq,h]
 obtain ⟨m,h28⟩:=g28_ex c S N al sh ct
 have h11:g11 (c,S,N,al,sh,ct)=some (lit []):=by
  simp [g11,h28,g29_no hl,h30]
 exact y9 (g5_seq (by omega) h11) (g6_seq h12 (by omega) h16)
theorem key_number {c:Int} {S:ByteArray} {N:Int} {al sh ct:Bool} (h:c=7∨c=14∨c=15):KeyOk (c,S,N,al,sh,ct):=by
 by_cases hN:N=0
 ·subst hN
  by_cases hS:S.data.toList=[]
  ·have:=bytes0 hS
   subst this
   refine all_ok table_run (List.mem_flatMap.2 ⟨(c,0),?_,List.mem_flatMap.2 ⟨al,bmem al,List.mem_flatMap.2 ⟨sh,bmem sh,List.mem_map.2 ⟨ct,bmem ct,rfl⟩⟩⟩⟩)
   rcases h with rfl | rfl | rfl<;>simp
  ·have h38:∃v,g38 (c,S,0,al,sh,ct)=some v:=by rcases h with rfl | rfl | rfl<;>exact ⟨_,rfl⟩
   obtain ⟨v,h38⟩:=h38
   exact y9 (g5_seq (by omega) (g11_S hS)) (g6_seq (g12_no (by omega)) (by omega) (g16_S hS (g37_no (by omega)) h38))
 ·refine key_none (by omega) (by omega) ?_ ?_
  ·simp [g30,hN,show c≠18 by omega]
  ·simp [g38,jn,hN,show c≠18 by omega]
theorem key_func {S:ByteArray} {N:Int} {al sh ct:Bool} (hr:inR .i64 N):KeyOk (18,S,N,al,sh,ct):=by
 by_cases hN:1≤N∧N≤12
 ·by_cases hS:S.data.toList=[]
  ·have:=bytes0 hS
   subst this
   refine all_ok table_run (List.mem_flatMap.2 ⟨(18,N),?_,List.mem_flatMap.2 ⟨al,bmem al,List.mem_flatMap.2 ⟨sh,bmem sh,List.mem_map.2 ⟨ct,bmem ct,rfl⟩⟩⟩⟩)
   have:N=1∨N=2∨N=3∨N=4∨N=5∨N=6∨N=7∨N=8∨N=9∨N=10∨N=11∨N=12:=by omega
   rcases this with rfl | rfl | rfl | rfl | rfl | rfl | rfl | rfl | rfl | rfl | rfl | rfl<;>simp
  ·have h38:∃v,g38 (18,S,N,al,sh,ct)=some v:=by
    have:N=1∨N=2∨N=3∨N=4∨N=5∨N=6∨N=7∨N=8∨N=9∨N=10∨N=11∨N=12:=by omega
    rcases this with rfl | rfl | rfl | rfl | rfl | rfl | rfl | rfl | rfl | rfl | rfl | rfl<;>exact ⟨_,rfl⟩
   obtain ⟨v,h38⟩:=h38
   exact y9 (g5_seq (by omega) (g11_S hS)) (g6_seq (g12_no (by omega)) (by omega) (g16_S hS (g37_no (by omega)) h38))
 ·refine key_none (by omega) (by omega) ?_ ?_
  ·have a1:¬(1≤N∧N≤5):=by omega
   have a2:¬(6≤N∧N≤10):=by omega
   by_cases b1:1≤N<;>by_cases b2:6≤N<;>simp [g30,jn,b1,b2,show ¬N=11 by omega,show ¬N=12 by omega,show 1≤N→¬N≤5 by omega,show 6≤N→¬N≤10 by omega]<;>omega
  ·by_cases b1:1≤N<;>by_cases b2:6≤N<;>simp [g38,jn,b1,b2,show ¬N=11 by omega,show ¬N=12 by omega,show 1≤N→¬N≤5 by omega,show 6≤N→¬N≤10 by omega]<;>omega
theorem key_back {S:ByteArray} {N:Int} {al sh ct:Bool}:KeyOk (4,S,N,al,sh,ct):=by
 by_cases hb:S.data.toList=[]∧N=0∧al=false∧sh=false∧ct=false
 ·obtain ⟨hS,rfl,rfl,rfl,rfl⟩:=hb
  have:=bytes0 hS
  subst this
  exact all_ok table2_run (.head _)
 ·have h12:g12 (4,S,N,al,sh,ct)=some []:=g12_no (by omega)
  have h38:g38 (4,S,N,al,sh,ct)=some 0:=g38_no (by omega)
  have h16:g16 (4,S,N,al,sh,ct)=some (lit []):=by
   by_cases hS:S.data.toList=[]
   ·by_cases hN:N=0
    ·subst hN
     have hh:(!al && (!sh && !ct))=false:=by
      cases al<;>cases sh<;>cases ct<;>first | rfl | exact (hb ⟨hS,rfl,rfl,rfl,rfl⟩).elim
     simp [g16,jn,g37_no,h38,g13_eq,hh]
    ·simp [g16,jn,g37_no,h38,g13_eq,hN]
   ·exact g16_S hS (g37_no (by omega)) h38
  have h5:g5 (4,S,N,al,sh,ct)=some ([],290):=by
   have e:¬(S.data.toList=[]∧N=0∧al=false∧sh=false∧ct=false):=hb
   simp [g5,jn]
   intro q1 q2 q3 q4 q5
   exact (e ⟨by rw [q1],q2,q3,q4,q5⟩).elim
  exact y9 h5 (g6_seq h12 (by omega) h16)
theorem key_other {c:Int} {S:ByteArray} {N:Int} {al sh ct:Bool} (h1:c≠1) (h16:c≠16) (hr:inR .i64 N):KeyOk (c,S,N,al,sh,ct):=by
 by_cases a:c=2∨c=3∨c=6
 ·exact key_bare a
 by_cases b:c=17
 ·subst b;exact key_ctrl
 by_cases d:c=8∨c=9∨c=10∨c=11∨c=12∨c=13
 ·exact key_letter d
 by_cases e:c=7∨c=14∨c=15
 ·exact key_number e
 by_cases f:c=18
 ·subst f;exact key_func hr
 by_cases g:c=4
 ·subst g;exact key_back
 exact key_none (by omega) (by omega) (g30_no (by omega)) (g38_no (by omega))
end Go.Proofs.YtmpknfgjfmgleaaGreatDoor
end
section
namespace Go.Proofs.YtmpknfgjfmgleaaGreatDoor
open Go Go.Eng
theorem str_bytes (s:ByteArray):zV (z6 s)=s:=by
 apply ByteArray.ext
 unfold zV z6
 apply Array.ext'
 simp only [List.map_map]
 conv=>rhs;rw [←List.map_id s.data.toList]
 refine List.map_congr_left fun c _=>?_
 simp
theorem bytes_byt (s:ByteArray):Byt (z6 s):=fun c hc=>by
 obtain ⟨x,_,rfl⟩:=List.mem_map.1 hc
 have:=x.toNat_lt
 omega
theorem bytes_app (a b:ByteArray):z6 (a++b)=z6 a++z6 b:=by
 unfold z6
 rw [ByteArray.data_append,Array.toList_append,List.map_append]
theorem byte0 (s:ByteArray):((s.data.toList[(0:Int).toNat]?.getD 0).toNat:Int)=(z6 s).getD 0 0:=by
 unfold z6
 show ((s.data.toList[0]?.getD 0).toNat:Int)=_
 cases s.data.toList<;>simp
theorem zX {s:ByteArray} {l:List UInt8}:s.data.toList=l↔z6 s=l.map fun c=>(c.toNat:Int):=by
 unfold z6
 constructor
 ·intro h;rw [h]
 ·intro h
  refine (List.map_inj_right fun a b h=>?_).1 h
  exact UInt8.toNat_inj.1 (by omega)
theorem enc_head {r:Int} (h:isR r):∃b t,enc r=b::t∧(r<128→b=r∧t=[])∧(¬r<128→192≤b∧b≤255):=by
 obtain ⟨h0,h1,_⟩:=h
 unfold enc
 by_cases a:r<128
 ·exact ⟨r,[],by rw [if_pos a],fun _=>⟨rfl,rfl⟩,fun h=>(h a).elim⟩
 ·rw [if_neg a]
  split
  ·exact ⟨_,_,rfl,fun h=>(a h).elim,fun _=>by omega⟩
  ·split
   ·exact ⟨_,_,rfl,fun h=>(a h).elim,fun _=>by omega⟩
   ·exact ⟨_,_,rfl,fun h=>(a h).elim,fun _=>by omega⟩
theorem enc_inj {r r':Int} (hr:isR r) (hr':isR r') (h:enc r=enc r'):r=r':=by
 have a:=nx_enc hr []
 have b:=nx_enc hr' []
 rw [h] at a
 exact congrArg (fun x=>x.1) (a.symm.trans b)
def typed (r:Int):Prop:=isR r∧32≤r∧r≠127
theorem one_iff {l:List Int} (hl:Byt l) {N:Nat} (hN:ps l N=l.length):(tx l N=l∧N=1)↔∃r,isR r∧l=enc r:=by
 constructor
 ·rintro ⟨h,rfl⟩
  refine ⟨rn l 0,rn_R hl 0,?_⟩
  conv=>lhs;rw [←h]
  rw [tx_succ l 0]
  rfl
 ·rintro ⟨r,hr,rfl⟩
  have h0:=nx_enc hr []
  rw [List.append_nil] at h0
  have h1:stp (enc r)=(r,((enc r).length:Int)):=by rw [stp_else (by rw [h0];simp),h0]
  have h2:ps (enc r) 1=(enc r).length:=by
   show ps (enc r) 0+(stp ((enc r).drop (ps (enc r) 0))).2.toNat=_
   show 0+(stp ((enc r).drop 0)).2.toNat=_
   rw [List.drop_zero,h1]
   simp
  have h3:N=1:=ps_inj hl (hN.trans h2.symm)
  subst h3
  refine ⟨?_,rfl⟩
  have h4:rn (enc r) 0=r:=by
   show (stp ((enc r).drop 0)).1=r
   rw [List.drop_zero,h1]
  have h5:=tx_succ (enc r) 0
  rw [h4] at h5
  exact h5
theorem g23_gives {S:ByteArray} (hn:S.size≤1000000):zf (g23 S) fun v=>((∃r,typed r∧z6 S=enc r)→v=S)∧((¬ ∃r,typed r∧z6 S=enc r)→v=lit []):=by
 have hb:=bytes_byt S
 have hln:=zp S
 obtain ⟨⟨_,_⟩,_,N,hN,_⟩:=ref_runes hb (by omega)
 have e1:=valid_gives hb (by omega) hN
 have e2:=count_gives hb (by omega) hN
 rw [str_bytes] at e1 e2
 have io:=one_iff hb hN
 unfold g23
 refine x7 e1 fun v hv=>g_if (fun h=>zh ?_) fun h=>?_
 ·have:¬tx (z6 S) N=z6 S:=fun e=>h (hv.2 e)
  exact ⟨fun ⟨r,hr,he⟩=>(this (io.2 ⟨r,hr.1,he⟩).1).elim,fun _=>rfl⟩
 have ht:tx (z6 S) N=z6 S:=hv.1 (by simpa using h)
 refine x7 e2 fun w hw=>g_if (fun h1=>zh ?_) fun h1=>?_
 ·refine ⟨fun ⟨r,hr,he⟩=>?_,fun _=>rfl⟩
  have:=(io.2 ⟨r,hr.1,he⟩).2
  omega
 have hN1:N=1:=by omega
 obtain ⟨r,hr,he⟩:=io.1 ⟨ht,hN1⟩
 obtain ⟨b,t,hbt,hlo,hhi⟩:=enc_head hr
 have hsz:1≤S.size:=by rw [←hln,he,hbt];simp
 have hg:(z6 S).getD 0 0=b:=by rw [he,hbt];rfl
 rw [byte0,hg,he]
 have uq:(∃r',typed r'∧enc r=enc r')→32≤r∧r≠127:=fun ⟨r',hr',h'⟩=>by rw [enc_inj hr hr'.1 h'];exact hr'.2
 refine g_ck (by omega) (g_if (fun h=>zh ⟨fun h'=>?_,fun _=>rfl⟩) fun h=>g_ck (by omega) (g_if (fun h2=>zh ⟨fun h'=>?_,fun _=>rfl⟩) fun h2=>zh ⟨fun _=>rfl,fun h'=>?_⟩))
 ·have:=uq h'
  by_cases q:r<128
  ·have:=(hlo q).1;omega
  ·have:=hhi q;omega
 ·have:=uq h'
  by_cases q:r<128
  ·have:=(hlo q).1;omega
  ·have:=hhi q;omega
 ·refine (h' ⟨r,⟨hr,?_,?_⟩,rfl⟩).elim
  ·by_cases q:r<128
   ·have:=(hlo q).1;omega
   ·omega
  ·intro e
   have:=(hlo (by omega)).1;omega
theorem g12_gives {S:ByteArray} {N:Int} {al sh ct:Bool} (hn:S.size≤100000):zf (g12 (1,S,N,al,sh,ct)) fun v=>((N=0∧∃r,typed r∧z6 S=enc r)→v=z6 S)∧((¬(N=0∧∃r,typed r∧z6 S=enc r))→v=[]):=by
 have hb:=bytes_byt S
 have hln:=zp S
 have e0:z6 (S++lit [0])=z6 S++[0]:=bytes_app _ _
 have hb0:Byt (z6 S++[0]):=fun c hc=>by
  rcases List.mem_append.1 hc with h | h
  ·exact hb c h
  ·simp at h;omega
 have hl0:(lit [0]).size=1:=rfl
 have key:(∃r,typed r∧z6 S=enc r)→(nx (z6 S++[0])).2.2=false∧(nx (z6 S++[0])).2.1=(S.size:Int)∧32≤(nx (z6 S++[0])).1∧(nx (z6 S++[0])).1≠127∧enc (norm (nx (z6 S++[0])).1)=z6 S:=fun ⟨r,hr,he⟩=>by
  rw [←hln,he,nx_enc hr.1 [0]]
  exact ⟨rfl,rfl,hr.2.1,hr.2.2,by rw [norm_of hr.1]⟩
 unfold g12
 refine g_t rfl (g_ck (by dsimp only;omega) (g_ck ?_ ?_))
 ·show (S++lit [0]).size≤_
  rw [ByteArray.size_append];omega
 show zf ((g32 (z6 (S++lit [0]))).bind _) _
 rw [e0]
 refine zn (g32_eq hb0 (by rw [List.length_append,hln];simp;omega)) ?_
 refine g_jn (fun v=>v=true↔(N=0∧∃r,typed r∧z6 S=enc r)) (fun k hk=>?_) fun v hv=>?_
 ·refine g_if (fun h1=>?_) fun h1=>hk _ ⟨fun h=>absurd h Bool.false_ne_true,fun h=>(h1 h.1).elim⟩
  have h1:N=0:=h1
  refine g_if (fun h2=>?_) fun h2=>hk _ ⟨fun h=>absurd h Bool.false_ne_true,fun h=>(h2 (by rw [(key h.2).1];simp)).elim⟩
  refine g_if (fun h3=>?_) fun h3=>hk _ ⟨fun h=>absurd h Bool.false_ne_true,fun h=>(h3 (key h.2).2.1).elim⟩
  refine g_if (fun h4=>?_) fun h4=>hk _ ⟨fun h=>absurd h Bool.false_ne_true,fun h=>(h4 (key h.2).2.2.1).elim⟩
  refine g_if (fun h5=>?_) fun h5=>hk _ ⟨fun h=>absurd h Bool.false_ne_true,fun h=>(h5 (key h.2).2.2.2.1).elim⟩
  have hiR:=norm_r (nx (z6 S++[0])).1
  refine zn (g33_eq _) (g_ck (enc_byt hiR) (hk _ ?_))
  rw [decide_eq_true_iff]
  show (zV (enc (norm (nx (z6 S++[0])).1))).data.toList=S.data.toList↔_
  have e3:=str_eq (enc_byt hiR) hb
  rw [str_bytes] at e3
  rw [e3]
  refine ⟨fun h=>⟨h1,norm (nx (z6 S++[0])).1,⟨hiR,?_⟩,h.symm⟩,fun h=>(key h.2).2.2.2.2⟩
  have e4:=nx_enc hiR [0]
  rw [h] at e4
  have e5:(nx (z6 S++[0])).1=norm (nx (z6 S++[0])).1:=congrArg (fun x=>x.1) e4
  rw [←e5]
  exact ⟨h4,h5⟩
 ·refine g_if (fun h=>g_ck (by dsimp only;omega) (zh ⟨fun _=>rfl,fun h'=>(h' (hv.1 h)).elim⟩)) fun h=>zh ⟨fun h'=>(h (hv.2 h')).elim,fun _=>rfl⟩
end Go.Proofs.YtmpknfgjfmgleaaGreatDoor
end
section
namespace Go.Proofs.YtmpknfgjfmgleaaGreatDoor
open Go Go.Eng
abbrev Fd:Type:=Int×Int×ByteArray×Int×Bool×Bool×Bool×Bool×Bool
theorem byt_app {a b:List Int} (ha:Byt a) (hb:Byt b):Byt (a++b):=fun c hc=>by
 rcases List.mem_append.1 hc with h | h
 ·exact ha c h
 ·exact hb c h
theorem typed_head {r:Int} (h:typed r):∃b t,enc r=b::t∧32≤b∧b≠127∧(b=91→r=91)∧(b=79→r=79):=by
 obtain ⟨b,t,e,h1,h2⟩:=enc_head h.1
 refine ⟨b,t,e,?_⟩
 obtain ⟨_,h3,h4⟩:=h
 by_cases q:r<128
 ·have:=h1 q;omega
 ·have:=h2 q;omega
theorem g57_rune {r:Int} (h:typed r) {t:List Int} (ht:Byt t) (hn:t.length≤1000):g57 (enc r++t)=some (((enc r).length:Int),1,zV (enc r),0,false,false,false,true,false):=by
 refine g_eq ?_
 obtain ⟨b,u,e,h1,h2,_⟩:=typed_head h
 have hl:=enc_len (v:=r)
 have hb:=enc_byt h.1
 have e0:(enc r++t).getD (0:Int).toNat 0=b:=by rw [e];rfl
 unfold g57
 refine g_ck (by rw [List.length_append];omega) ?_
 refine g_jn (fun v=>v=false) (fun k hk=>g_f (by rw [e0];omega) (hk _ (by rw [e0,decide_eq_false_iff_not];omega))) fun v hv=>?_
 subst hv
 refine g_f (by simp) (g_f (by rw [e0];omega) (g_f (by rw [e0];omega) (g_f (by rw [e0];omega) (g_f (by rw [e0];omega) ?_))))
 refine zn (g32_eq (byt_app hb ht) (by rw [List.length_append];omega)) ?_
 rw [nx_enc h.1 t]
 refine g_f (by simp) (zn (g33_eq r) ?_)
 rw [norm_of h.1]
 exact g_ck hb (zh rfl)
theorem g22_rune {r:Int} (h:typed r):g22 (enc r)=some (((enc r).length:Int),1,zV (enc r),0,false,false,false,true,false):=by
 refine g_eq ?_
 obtain ⟨b,u,e,h1,h2,_⟩:=typed_head h
 have e0:(enc r).getD (0:Int).toNat 0=b:=by rw [e];rfl
 have hl:=enc_len (v:=r)
 have:=g57_rune h (t:=[]) (fun c hc=>absurd hc (List.not_mem_nil)) (by simp)
 rw [List.append_nil] at this
 unfold g22
 exact g_ck (by omega) (g_t (by rw [e0];omega) (zn this (zh rfl)))
theorem g22_alt {r:Int} (h:typed r) (h91:r≠91) (h79:r≠79):g22 (27::enc r)=some (((enc r).length:Int)+1,1,zV (enc r),0,true,false,false,true,false):=by
 refine g_eq ?_
 obtain ⟨b,u,e,h1,h2,h3,h4⟩:=typed_head h
 have e0:(27::enc r).getD (0:Int).toNat 0=27:=rfl
 have e1:(27::enc r).getD (1:Int).toNat 0=b:=by rw [e];rfl
 have hl:=enc_len (v:=r)
 have hll:(27::enc r).length=(enc r).length+1:=rfl
 have:=g57_rune h (t:=[]) (fun c hc=>absurd hc (List.not_mem_nil)) (by simp)
 rw [List.append_nil] at this
 unfold g22
 refine g_ck (by omega) (g_f (by rw [e0];simp) (g_f (by omega) (g_ck (by omega) (g_f (by rw [e1];omega) (g_f (by rw [e1];exact fun e=>h91 (h3 e)) (g_f (by rw [e1];exact fun e=>h79 (h4 e)) (g_ck (by omega) ?_)))))))
 have e2:((27::enc r).drop (1:Int).toNat).take ((((27::enc r).length:Nat):Int).toNat-(1:Int).toNat)=enc r:=by
  show (enc r).take _=enc r
  exact List.take_of_length_le (by rw [hll];omega)
 rw [e2]
 exact zn this (g_t (by dsimp only;omega) (g_i64 (by dsimp only;omega) (zh rfl)))
theorem feed1 {b:List Int} {v:Fd} (h1:1≤b.length) (hn:b.length≤1000000) (h:g22 b=some v) (hv:v.1=(b.length:Int)) (hi:v.2.2.2.2.2.2.2.1=true) (hp:v.2.2.2.2.2.2.2.2=false) :
  g8 (([]:List Int),false) b=some (([],false),[(v.2.1,v.2.2.1,v.2.2.2.1,v.2.2.2.2.1,v.2.2.2.2.2.1,v.2.2.2.2.2.2.1)]):=by
 refine g_eq ?_
 unfold g8
 refine g_ck (by simp) (g_ck (by simp;omega) ?_)
 refine g_jn (fun w=>w=b) (fun k hk=>hk _ (by simp)) fun w hw=>?_
 subst hw
 refine g_jn (fun x=>x=(([]:List Int),false,[(v.2.1,v.2.2.1,v.2.2.2.1,v.2.2.2.2.1,v.2.2.2.2.2.1,v.2.2.2.2.2.2.1)])) (fun k hk=>?_) fun x hx=>by subst hx;exact zh rfl
 refine x7 (Ω:=fun o=>o=.inr (([]:List Int),false,[(v.2.1,v.2.2.1,v.2.2.2.1,v.2.2.2.2.1,v.2.2.2.2.2.1,v.2.2.2.2.2.2.1)])) (g_loop (fun s=>s=(w,false,[])∨s=(([]:List Int),false,[(v.2.1,v.2.2.1,v.2.2.2.1,v.2.2.2.2.1,v.2.2.2.2.2.1,v.2.2.2.2.2.2.1)])) (fun s=>s.1.length) ?_ (.inl rfl)) fun o ho=>by
  subst ho
  exact g_sm (fun w e=>by cases e) fun w e=>by cases e;exact hk _ rfl
 rintro s (rfl | rfl)
 ·refine g_t (by dsimp only;omega) (g_f (by simp) (zn h (g_f (by rw [hv];omega) (g_ck (by rw [hv];dsimp only;omega) (g_t hi (g_ck (by simp) (g_go (.inr ?_) ?_)))))))
  ·rw [hv,hp]
   simp
  ·rw [hv]
   simp
   omega
 ·exact g_f (by simp) (g_out rfl)
theorem lit_iff (S:ByteArray) (x:UInt8):S.data.toList=(lit [x]).data.toList↔z6 S=[(x.toNat:Int)]:=zX
theorem key_text {S:ByteArray} {N:Int} {al sh ct:Bool} (hn:S.size≤1000):KeyOk (1,S,N,al,sh,ct):=by
 obtain ⟨v,h23,v1,v2⟩:=g23_gives (S:=S) (by omega)
 obtain ⟨u,h12,u1,u2⟩:=g12_gives (S:=S) (N:=N) (al:=al) (sh:=sh) (ct:=ct) (by omega)
 have hg16:g16 (1,S,N,al,sh,ct)=some (lit []):=g16_no (by omega) (by omega) (by omega)
 have hln:=zp S
 by_cases hN:N=0
 rotate_left
 ·have h9:g9 (1,S,N,al,sh,ct)=some (lit []):=by
   cases sh<;>cases ct<;>simp [g9,hN]
  have:u=[]:=u2 fun h=>hN h.1
  subst this
  exact y9 (g5_plain (by omega) h9) (g6_seq h12 (by omega) hg16)
 subst hN
 by_cases hT:∃r,typed r∧z6 S=enc r
 rotate_left
 ·have:u=[]:=u2 fun h=>hT h.2
  subst this
  have:v=lit []:=v2 hT
  subst this
  have h9:g9 (1,S,0,al,sh,ct)=some (lit []):=by
   cases sh<;>cases ct<;>cases al<;>simp [g9,jn,h23]
  exact y9 (g5_plain (by omega) h9) (g6_seq h12 (by omega) hg16)
 have:v=S:=v1 hT
 subst this
 have:u=z6 v:=u1 ⟨rfl,hT⟩
 subst this
 obtain ⟨r,hr,he⟩:=hT
 obtain ⟨b,t,hbt,_,_,q91,q79⟩:=typed_head hr
 have hl:=enc_len (v:=r)
 have hS0:v.data.toList≠(lit []).data.toList:=fun e=>by
  have:=zX.1 e
  rw [he,hbt] at this
  cases this
 have hne:z6 v≠[]:=by rw [he,hbt];simp
 have hpos:0<((z6 v).length:Int):=by rw [he];omega
 cases hs:(sh || ct) with
 | true=>
  have h9:g9 (1,v,0,al,sh,ct)=some (lit []):=by
   cases sh
   ·have:ct=true:=by simpa using hs
    subst this;simp [g9]
   ·simp [g9]
  refine y9 (g5_plain (by omega) h9) ?_
  unfold g6
  refine (g_eq (a:=(([]:List Int),(290:Int))) ?_)
  refine zn h12 (g_t hpos (g_jn (fun w=>w=true) (fun k hk=>?_) fun w hw=>g_t hw (zh rfl)))
  refine g_if (fun _=>hk _ rfl) fun h1=>g_t ?_ (hk _ rfl)
  cases sh
  ·simpa using hs
  ·exact (h1 rfl).elim
 | false=>
 simp only [Bool.or_eq_false_iff] at hs
 obtain ⟨rfl,rfl⟩:=hs
 cases al with
 | false=>
  have h9:g9 (1,v,0,false,false,false)=some v:=by
   simp only [g9,jn,h23]
   simp [hS0]
   intro h;exact (hS0 (by rw [h])).elim
  have h5:g5 (1,v,0,false,false,false)=some (z6 v,0):=by
   refine g_eq ?_
   unfold g5
   refine g_jn (fun w=>w=v) (fun k hk=>?_) fun w hw=>?_
   ·exact g_jn (fun w=>w=true) (fun k hk=>g_t rfl (hk _ rfl)) fun w hw=>g_t hw (zn h9 (hk _ rfl))
   ·subst hw
    exact g_f hS0 (g_ck (by omega) (zh rfl))
  have h6:g6 (1,v,0,false,false,false)=some (z6 v,0):=by
   refine g_eq ?_
   unfold g6
   refine zn h12 (g_t hpos (g_jn (fun w=>w=false) (fun k hk=>g_f (by simp) (g_f (by simp) (g_f (by simp) (hk _ rfl)))) fun w hw=>?_))
   subst hw
   exact g_f (by simp) (g_f (by simp) (zh rfl))
  refine ⟨_,_,h5,h6,bytes_byt v,fun _=>⟨_,feed1 (by omega) (by omega) (by rw [he];exact g22_rune hr) (by rw [he]) rfl rfl,rfl,?_,rfl⟩⟩
  show (zV (enc r)).data.toList=v.data.toList
  rw [←he,str_bytes]
 | true=>
  by_cases hx:v.data.toList=(lit [91]).data.toList∨v.data.toList=(lit [79]).data.toList
  ·have h9:g9 (1,v,0,true,false,false)=some (lit []):=by
    refine g_eq ?_
    unfold g9
    refine g_f (by simp) (g_f (by simp) (g_f (by simp) (g_jo (g_t rfl (g_t rfl (g_if (fun _=>zh rfl) fun h=>g_t ?_ (zh rfl)))))))
    rcases hx with hx | hx
    ·exact (h hx).elim
    ·exact hx
   refine y9 (g5_plain (by omega) h9) ?_
   refine g_eq ?_
   unfold g6
   refine zn h12 (g_t hpos (g_jn (fun w=>w=true) (fun k hk=>g_f (by simp) (g_f (by simp) (g_t rfl (g_t rfl (g_if (fun _=>hk _ rfl) fun h=>hk _ ?_))))) fun w hw=>g_t hw (zh rfl)))
   rw [decide_eq_true_iff]
   rcases hx with hx | hx
   ·exact (h hx).elim
   ·exact hx
  ·have hx1:¬v.data.toList=(lit [91]).data.toList:=fun h=>hx (.inl h)
   have hx2:¬v.data.toList=(lit [79]).data.toList:=fun h=>hx (.inr h)
   have r91:r≠91:=fun e=>by
    subst e
    exact hx1 ((lit_iff _ _).2 he)
   have r79:r≠79:=fun e=>by
    subst e
    exact hx2 ((lit_iff _ _).2 he)
   have h9:g9 (1,v,0,true,false,false)=some (lit [27]++v):=by
    refine g_eq ?_
    unfold g9
    refine g_f (by simp) (g_f (by simp) (g_f (by simp) (g_jn (fun w=>w=v) (fun k hk=>g_t rfl (g_t rfl (g_f hx1 (g_f hx2 (zn h23 (hk _ rfl)))))) fun w hw=>?_)))
    subst hw
    refine g_jn (fun _=>True) (fun k hk=>g_f hS0 (g_f (by simp) (hk _ trivial))) fun _ _=>g_t rfl (g_ck ?_ (zh rfl))
    have:(lit [27]).size=1:=rfl
    omega
   have h5:g5 (1,v,0,true,false,false)=some (27::z6 v,0):=by
    refine g_eq ?_
    unfold g5
    have e27:z6 (lit [27]++v)=27::z6 v:=bytes_app _ _
    refine g_jn (fun w=>w=lit [27]++v) (fun k hk=>?_) fun w hw=>?_
    ·exact g_jn (fun w=>w=true) (fun k hk=>g_t rfl (hk _ rfl)) fun w hw=>g_t hw (zn h9 (hk _ rfl))
    ·subst hw
     refine g_f ?_ (g_ck ?_ (zh (by rw [e27])))
     ·intro e
      have:=zX.1 e
      rw [e27] at this
      cases this
     ·have:(lit [27]).size=1:=rfl
      rw [ByteArray.size_append];omega
   have h6:g6 (1,v,0,true,false,false)=some (27::z6 v,0):=by
    refine g_eq ?_
    unfold g6
    refine zn h12 (g_t hpos (g_jn (fun w=>w=false) (fun k hk=>g_f (by simp) (g_f (by simp) (g_t rfl (g_t rfl (g_f hx1 (hk _ (by rw [decide_eq_false_iff_not];exact hx2))))))) fun w hw=>?_))
    subst hw
    exact g_f (by simp) (g_t rfl (g_ck (by omega) (zh rfl)))
   have h22:g22 (27::z6 v)=some (((enc r).length:Int)+1,1,zV (enc r),0,true,false,false,true,false):=by rw [he];exact g22_alt hr r91 r79
   refine ⟨_,_,h5,h6,fun c hc=>?_,fun _=>⟨_,feed1 (by simp) (by simp;omega) h22 (by simp [he]) rfl rfl,rfl,?_,rfl⟩⟩
   ·rcases List.mem_cons.1 hc with rfl | hc
    ·omega
    ·exact bytes_byt v c hc
   ·show (zV (enc r)).data.toList=v.data.toList
    rw [←he,str_bytes]
end Go.Proofs.YtmpknfgjfmgleaaGreatDoor
end
section
namespace Go.Proofs.YtmpknfgjfmgleaaGreatDoor
open Go Go.Eng
def E6:List Int:=[27,91,50,48,49,126]
def B6:List Int:=[27,91,50,48,48,126]
def hasE (l:List Int):Prop:=∃i,(l.drop i).take 6=E6
theorem take6_len {B:List Int} {k:Nat} (h:(B.drop k).take 6=E6):k+6≤B.length:=by
 have:=congrArg List.length h
 rw [List.length_take,List.length_drop] at this
 simp [E6] at this
 omega
theorem litE:z6 (lit [27,91,50,48,49,126])=E6:=rfl
theorem litB:z6 (lit [27,91,50,48,48,126])=B6:=rfl
theorem map_take6 {s:List UInt8} {i:Nat}:(s.drop i).take 6=[27,91,50,48,49,126]↔((s.map fun c:UInt8=>(c.toNat:Int)).drop i).take 6=E6:=by
 rw [←List.map_drop,←List.map_take]
 constructor
 ·intro h;rw [h];rfl
 ·intro h
  refine (List.map_inj_right (f:=fun c:UInt8=>(c.toNat:Int)) fun a b h=>?_).1 (h.trans (show E6=List.map (fun c:UInt8=>(c.toNat:Int)) [27,91,50,48,49,126] from rfl))
  exact UInt8.toNat_inj.1 (by omega)
theorem g27_eq {S:ByteArray} (hn:S.size≤1000):∃v,g27 S (lit [27,91,50,48,49,126])=some v∧(v=true↔hasE (z6 S)):=by
 refine ⟨_,g_eq (g_ck (by omega) (zh rfl)),?_⟩
 show Lib.contains S.data.toList [27,91,50,48,49,126]=true↔_
 unfold Lib.contains
 rw [decide_eq_true_iff]
 have occ:∀i,Lib.occAt S.data.toList [27,91,50,48,49,126] i=true↔((z6 S).drop i).take 6=E6:=fun i=>by
  unfold z6
  rw [←map_take6]
  constructor
  ·intro h
   rcases Lib.occAt_room h with h1 | h1
   ·rw [Lib.occAt_iff_take _ _ _ h1,beq_iff_eq] at h
    exact h
   ·cases h1
  ·intro h
   have h1:i+([27,91,50,48,49,126]:List UInt8).length≤S.data.toList.length:=by
    have:=congrArg List.length h
    rw [List.length_take,List.length_drop] at this
    simp only [List.length_cons,List.length_nil] at this ⊢
    omega
   rw [Lib.occAt_iff_take _ _ _ h1,beq_iff_eq]
   exact h
 constructor
 ·intro h
  refine Classical.byContradiction fun hno=>?_
  have:Lib.index S.data.toList [27,91,50,48,49,126]=-1:=Lib.index_none fun j _=>by
   cases hj:Lib.occAt S.data.toList [27,91,50,48,49,126] j with
   | false=>rfl
   | true=>exact (hno ⟨j,(occ j).1 hj⟩).elim
  omega
 ·rintro ⟨i,hi⟩
  have hex:∃i,Lib.occAt S.data.toList [27,91,50,48,49,126] i=true:=⟨i,(occ i).2 hi⟩
  have:∀n,(∃i,i≤n∧Lib.occAt S.data.toList [27,91,50,48,49,126] i=true)→∃i,Lib.occAt S.data.toList [27,91,50,48,49,126] i=true∧∀j,j<i→Lib.occAt S.data.toList [27,91,50,48,49,126] j=false:=by
   intro n
   induction n with
   | zero=>rintro ⟨i,h0,h⟩;exact ⟨i,h,fun j hj=>by omega⟩
   | succ n ih=>
    rintro ⟨i,h0,h⟩
    by_cases q:∃j,j<i∧Lib.occAt S.data.toList [27,91,50,48,49,126] j=true
    ·obtain ⟨j,h1,h2⟩:=q
     exact ih ⟨j,by omega,h2⟩
    ·exact ⟨i,h,fun j hj=>by
      cases hq:Lib.occAt S.data.toList [27,91,50,48,49,126] j with
      | false=>rfl
      | true=>exact (q ⟨j,hj,hq⟩).elim⟩
  obtain ⟨k,h1,h2⟩:=this i ⟨i,Nat.le_refl _,(occ i).2 hi⟩
  have hk:=take6_len ((occ k).1 h1)
  rw [zp] at hk
  have hk2:k≤S.data.toList.length:=by
   have:S.size=S.data.toList.length:=Array.length_toList.symm
   omega
  rw [Lib.index_first hk2 h1 h2]
  omega
theorem bytes_ext (S:ByteArray) (a b:Nat):z6 (S.extract a b)=((z6 S).drop a).take (b-a):=by
 unfold z6
 rw [←List.map_drop,←List.map_take]
 congr 1
 rw [ByteArray.data_extract,Array.toList_extract]
theorem g15_eq {S:ByteArray} (hn:S.size≤1000):∃v,g15 (lit [27,91,50,48,49,126]) S=some v∧(v=true↔hasE (z6 S)):=by
 have h6:(lit [27,91,50,48,49,126]).size=6:=rfl
 have hln:=zp S
 have hx:zf (g15 (lit [27,91,50,48,49,126]) S) fun v=>(v=true↔hasE (z6 S)):=by
  unfold g15
  rw [h6]
  refine g_jn (fun _=>¬hasE (z6 S)) (fun k hk=>?_) fun _ hv=>zh ⟨fun h=>absurd h Bool.false_ne_true,fun h=>(hv h).elim⟩
  refine x7 (Ω:=fun o:Unit ⊕ Unit=>(o=.inl ()∧hasE (z6 S))∨(o=.inr ()∧¬hasE (z6 S))) (g_loop (fun s:Int=>∃j:Nat,s=j∧j≤S.size∧∀i,i<j→((z6 S).drop i).take 6≠E6) (fun s=>((S.size:Int)-s).toNat) ?_ ⟨0,rfl,by omega,fun i hi=>by omega⟩) ?_
  ·rintro _ ⟨j,rfl,hj,hno⟩
   refine g_i64 (by omega) (g_if (fun h=>g_i64 (by omega) (g_ck (by omega) (g_if (fun he=>g_out (.inl ⟨rfl,j,?_⟩)) fun he=>g_i64 (by omega) (g_go ⟨j+1,rfl,by omega,fun i hi=>?_⟩ (by omega))))) fun h=>g_out (.inr ⟨rfl,fun ⟨i,hi⟩=>?_⟩))
   ·have he:=zX.1 he
    rw [bytes_ext] at he
    have e1:((j:Int)+((6:Nat):Int)).toNat-(j:Int).toNat=6:=by omega
    rw [e1] at he
    exact he
   ·by_cases q:i=j
    ·subst q
     intro e
     refine he (zX.2 ?_)
     rw [bytes_ext]
     have e1:((i:Int)+((6:Nat):Int)).toNat-(i:Int).toNat=6:=by omega
     rw [e1]
     exact e
    ·exact hno i (by omega)
   ·have:=take6_len hi
    by_cases q:i<j
    ·exact hno i q hi
    ·omega
  ·rintro _ (⟨rfl,h⟩ | ⟨rfl,h⟩)
   ·exact g_sm (fun w e=>zh ⟨fun _=>h,fun _=>rfl⟩) fun w e=>by cases e
   ·exact g_sm (fun w e=>by cases e) fun w e=>hk _ h
 obtain ⟨v,h1,h2⟩:=hx
 exact ⟨v,h1,h2⟩
theorem no_early {L:List Int} (h:¬hasE L) {i:Nat} (hi:i<L.length):((L++E6).drop i).take 6≠E6:=by
 intro e
 by_cases q:i+6≤L.length
 ·refine h ⟨i,?_⟩
  rw [←e,List.drop_append_of_le_length (by omega),List.take_append_of_le_length (by rw [List.length_drop];omega)]
 ·have hk:∃k,L.length=i+k∧1≤k∧k≤5:=⟨L.length-i,by omega,by omega,by omega⟩
  obtain ⟨k,hk,h1,h5⟩:=hk
  have e1:=congrArg (fun l=>l[k]?) e
  rw [List.getElem?_take_of_lt (by omega),List.getElem?_drop,←hk,List.getElem?_append_right (Nat.le_refl _),Nat.sub_self] at e1
  have:k=1∨k=2∨k=3∨k=4∨k=5:=by omega
  rcases this with rfl | rfl | rfl | rfl | rfl<;>simp [E6] at e1
theorem at_end (L:List Int):((L++E6).drop L.length).take 6=E6:=by
 rw [List.drop_left];rfl
theorem bytE:Byt E6:=fun c hc=>by
 simp only [E6,List.mem_cons,List.not_mem_nil,or_false] at hc
 omega
theorem bytB:Byt B6:=fun c hc=>by
 simp only [B6,List.mem_cons,List.not_mem_nil,or_false] at hc
 omega
theorem g21_eq {L:List Int} (hL:Byt L) (hn:L.length≤1000) (h:¬hasE L):g21 (L++E6)=some (L.length:Int):=by
 refine g_eq ?_
 have hlen:(L++E6).length=L.length+6:=by rw [List.length_append];rfl
 have hB:=byt_app hL bytE
 unfold g21
 rw [hlen]
 refine g_jn (fun _=>False) (fun k hk=>?_) fun _ hv=>hv.elim
 refine x7 (Ω:=fun o:Int ⊕ Unit=>o=.inl (L.length:Int)) (g_loop (fun s:Int=>∃j:Nat,s=j∧j≤L.length) (fun s=>((L.length:Int)-s).toNat) ?_ ⟨0,rfl,by omega⟩) fun o ho=>by
  subst ho
  exact g_sm (fun w e=>by cases e;exact zh rfl) fun w e=>by cases e
 rintro _ ⟨j,rfl,hj⟩
 have hsub:Byt (((L++E6).drop (j:Int).toNat).take (((j:Int)+6).toNat-(j:Int).toNat)):=take_byt (xc hB)
 have e1:((j:Int)+6).toNat-(j:Int).toNat=6:=by omega
 refine g_i64 (by omega) (g_t (by omega) (g_i64 (by omega) (g_ck (by omega) (g_ck hsub (g_if (fun he=>g_out ?_) fun he=>g_i64 (by omega) (g_go ⟨j+1,rfl,?_⟩ ?_))))))
 ·have he:=zX.1 he
  rw [bytes_str hsub,e1] at he
  by_cases q:j=L.length
  ·rw [q]
  ·exact (no_early h (show j<L.length by omega) he).elim
 ·by_cases q:j=L.length
  ·subst q
   refine (he (zX.2 ?_)).elim
   rw [bytes_str hsub,e1]
   exact at_end L
  ·omega
 ·by_cases q:j=L.length
  ·subst q
   refine (he (zX.2 ?_)).elim
   rw [bytes_str hsub,e1]
   exact at_end L
  ·omega
theorem g22_paste {T:List Int} (hn:T.length≤10000):g22 (B6++T)=some (6,0,⟨#[]⟩,0,false,false,false,false,true):=by
 refine g_eq ?_
 have hlen:(B6++T).length=T.length+6:=by rw [List.length_append];show 6+T.length=_;omega
 have at0:(B6++T).getD (0:Int).toNat 0=27:=rfl
 have at1:(B6++T).getD (1:Int).toNat 0=91:=rfl
 have at2:(B6++T).getD (2:Int).toNat 0=50:=rfl
 have at3:(B6++T).getD (3:Int).toNat 0=48:=rfl
 have at4:(B6++T).getD (4:Int).toNat 0=48:=rfl
 have at5:(B6++T).getD (5:Int).toNat 0=126:=rfl
 have h58:g58 (B6++T)=some (6,0,⟨#[]⟩,0,false,false,false,false,true):=by
  refine g_eq ?_
  unfold g58
  rw [hlen]
  refine g_jn (fun v=>v=(5:Int)) (fun k hk=>x7 (Ω:=fun o=>o=(5:Int)) (g_loop (fun s:Int=>s=2∨s=3∨s=4∨s=5) (fun s=>(6-s).toNat) ?_ (.inl rfl)) fun o ho=>hk _ ho) fun v hv=>?_
  ·rintro _ (rfl | rfl | rfl | rfl)
   ·exact g_t (by omega) (g_ck (by omega) (g_t (by rw [at2];omega) (g_ck (by omega) (g_t (by rw [at2];omega) (g_i64 (by omega) (g_go (.inr (.inl rfl)) (by decide)))))))
   ·exact g_t (by omega) (g_ck (by omega) (g_t (by rw [at3];omega) (g_ck (by omega) (g_t (by rw [at3];omega) (g_i64 (by omega) (g_go (.inr (.inr (.inl rfl))) (by decide)))))))
   ·exact g_t (by omega) (g_ck (by omega) (g_t (by rw [at4];omega) (g_ck (by omega) (g_t (by rw [at4];omega) (g_i64 (by omega) (g_go (.inr (.inr (.inr rfl))) (by decide)))))))
   ·exact g_t (by omega) (g_ck (by omega) (g_t (by rw [at5];omega) (g_ck (by omega) (g_f (by rw [at5];omega) (g_out rfl)))))
  subst hv
  refine g_jn (fun v=>v=(5:Int)) (fun k hk=>x7 (Ω:=fun o=>o=(5:Int)) (g_loop (fun s:Int=>s=5) (fun s=>(6-s).toNat) ?_ rfl) fun o ho=>hk _ ho) fun v hv=>?_
  ·rintro _ rfl
   exact g_t (by omega) (g_ck (by omega) (g_t (by rw [at5];omega) (g_ck (by omega) (g_f (by rw [at5];omega) (g_out rfl)))))
  subst hv
  have hsub:((B6++T).drop (2:Int).toNat).take ((5:Int).toNat-(2:Int).toNat)=[50,48,48]:=rfl
  refine g_jo (g_f (by omega) (g_f (by omega) (g_jn (fun v=>v=false) (fun k hk=>g_ck (by omega) (g_f (by rw [at5];omega) (g_ck (by omega) (hk _ (by rw [at5];rfl))))) fun v hv=>?_)))
  subst hv
  refine g_f (by simp) (g_t rfl (g_ck (by omega) (g_t at5 (g_ck (by omega) (g_ck ?_ (g_t ?_ (g_i64 (by omega) (zh rfl))))))))
  ·rw [hsub]
   intro c hc
   simp only [List.mem_cons,List.not_mem_nil,or_false] at hc
   omega
  ·rw [hsub]
   rfl
 unfold g22
 exact g_ck (by omega) (g_f (by rw [at0];simp) (g_f (by omega) (g_ck (by omega) (g_f (by rw [at1];omega) (g_t at1 (zn h58 (zh rfl)))))))
theorem feed_paste {S:ByteArray} (hn:S.size≤1000) (hv:g14 (z6 S)=some S) (hE:¬hasE (z6 S)):g8 (([]:List Int),false) (B6++(z6 S++E6))=some (([],false),[(16,S,0,false,false,false)]):=by
 refine g_eq ?_
 have hln:=zp S
 have hl6:(z6 S++E6).length=S.size+6:=by rw [List.length_append,hln];rfl
 have hlb:(B6++(z6 S++E6)).length=S.size+12:=by rw [List.length_append,hl6];show 6+_=_;omega
 unfold g8
 refine g_ck (by simp) (g_ck (by simp [hlb];omega) ?_)
 refine g_jn (fun w=>w=B6++(z6 S++E6)) (fun k hk=>hk _ (by simp)) fun w hw=>?_
 subst hw
 refine g_jn (fun x=>x=(([]:List Int),false,[(16,S,0,false,false,false)])) (fun k hk=>?_) fun x hx=>by subst hx;exact zh rfl
 refine x7 (Ω:=fun o=>o=.inr (([]:List Int),false,[(16,S,0,false,false,false)])) (g_loop (fun s=>s=(B6++(z6 S++E6),false,[])∨s=(z6 S++E6,true,[])∨s=(([]:List Int),false,[(16,S,0,false,false,false)])) (fun s=>s.1.length) ?_ (.inl rfl)) fun o ho=>by
  subst ho
  exact g_sm (fun w e=>by cases e) fun w e=>by cases e;exact hk _ rfl
 rintro s (rfl | rfl | rfl)
 ·refine g_t (by dsimp only;omega) (g_f (by simp) (zn (g22_paste (by omega)) (g_f (by simp) (g_ck (by dsimp only;omega) (g_f (by simp) (g_go (.inr (.inl ?_)) ?_))))))
  ·have e1:((B6++(z6 S++E6)).drop (6:Int).toNat).take ((((B6++(z6 S++E6)).length:Nat):Int).toNat-(6:Int).toNat)=z6 S++E6:=by
    show (z6 S++E6).take _=_
    exact List.take_of_length_le (by omega)
   show (((B6++(z6 S++E6)).drop (6:Int).toNat).take ((((B6++(z6 S++E6)).length:Nat):Int).toNat-(6:Int).toNat),true,[])=_
   rw [e1]
  ·show (((B6++(z6 S++E6)).drop (6:Int).toNat).take _).length<_
   rw [List.length_take,List.length_drop]
   refine Nat.lt_of_le_of_lt (Nat.min_le_right _ _) ?_
   show (B6++(z6 S++E6)).length-6<(B6++(z6 S++E6)).length
   omega
 ·refine g_t (by dsimp only;omega) (g_t rfl (zn (g21_eq (bytes_byt S) (by omega) hE) (g_f (by omega) ?_)))
  have em:gmin ((z6 S).length:Int) 65536=(S.size:Int):=by unfold gmin;split<;>omega
  have es:((z6 S++E6).drop (0:Int).toNat).take ((S.size:Int).toNat-(0:Int).toNat)=z6 S:=by
   show ((z6 S++E6).drop 0).take _=_
   rw [List.drop_zero,show (S.size:Int).toNat-(0:Int).toNat=(z6 S).length by omega,List.take_left]
  have ed:((z6 S++E6).drop (((z6 S).length:Int)+6).toNat).take ((((z6 S++E6).length:Nat):Int).toNat-(((z6 S).length:Int)+6).toNat)=[]:=by
   rw [List.drop_eq_nil_of_le (by omega),List.take_nil]
  rw [em]
  refine g_ck (by dsimp only;omega) ?_
  dsimp only
  rw [es]
  refine zn hv (g_ck (by simp) (g_i64 (by omega) (g_ck (by omega) (g_go (.inr (.inr ?_)) ?_))))
  ·rw [ed];rfl
  ·rw [ed];show (0:Nat)<_;rw [hl6];omega
 ·exact g_f (by simp) (g_out rfl)
theorem key_paste {S:ByteArray} {N:Int} {al sh ct:Bool} (hn:S.size≤1000):KeyOk (16,S,N,al,sh,ct):=by
 have hb:=bytes_byt S
 have hln:=zp S
 obtain ⟨M,hM,h14⟩:=ref_text hb (by omega)
 obtain ⟨v,h26,hv⟩:=valid_gives hb (by omega) hM
 rw [str_bytes] at h26
 obtain ⟨u,h27,hu⟩:=g27_eq hn
 obtain ⟨w,h15,hw⟩:=g15_eq hn
 have hvs:(zV (tx (z6 S) M)).data.toList=S.data.toList↔tx (z6 S) M=z6 S:=by
  have:=str_eq (tx_byt hb M) hb
  rw [str_bytes] at this
  exact this
 have h12:g12 (16,S,N,al,sh,ct)=some []:=g12_no (by omega)
 have k5:∀{s:ByteArray},g10 (16,S,N,al,sh,ct)=some s→s.data.toList=(lit []).data.toList→g5 (16,S,N,al,sh,ct)=some ([],290):=fun {s} h hs=>by
  simp only [g5,jn,h]
  simp [hs,lit]
  intro h;exact absurd (by rw [←Array.toList_inj];simpa [lit] using hs) h
 by_cases hf:(al || (sh || ct))=true
 ·have h10:g10 (16,S,N,al,sh,ct)=some (lit []):=by
   cases al<;>cases sh<;>cases ct<;>first | (exact absurd hf (by decide)) | simp [g10]
  refine y9 (k5 h10 rfl) ?_
  refine g_eq ?_
  unfold g6
  refine zn h12 (g_f (by simp) (g_t rfl (zn (g13_eq _ _ _ _ _ _) (g_t ?_ (zh rfl)))))
  cases al<;>cases sh<;>cases ct<;>first | (exact absurd hf (by decide)) | simp
 have hf':al=false∧sh=false∧ct=false:=by simpa using hf
 obtain ⟨rfl,rfl,rfl⟩:=hf'
 by_cases hN:N=0
 rotate_left
 ·have h10:g10 (16,S,N,false,false,false)=some (lit []):=by simp [g10,hN]
  refine y9 (k5 h10 rfl) ?_
  refine g_eq ?_
  unfold g6
  exact zn h12 (g_f (by simp) (g_t rfl (zn (g13_eq _ _ _ _ _ _) (g_f (by simp) (g_t hN (zh rfl))))))
 subst hN
 by_cases hV:tx (z6 S) M=z6 S
 rotate_left
 ·have h10:g10 (16,S,0,false,false,false)=some (lit []):=by
   refine g_eq ?_
   unfold g10
   exact g_f (by simp) (g_f (by simp) (g_f (by simp) (g_f (by simp) (g_f (by dsimp only;omega) (zn h26 (g_t (fun h=>hV (hv.1 h)) (zh rfl)))))))
  refine y9 (k5 h10 rfl) ?_
  refine g_eq ?_
  unfold g6
  exact zn h12 (g_f (by simp) (g_t rfl (zn (g13_eq _ _ _ _ _ _) (g_f (by simp) (g_f (by simp) (g_f (by dsimp only;omega) (g_ck (by dsimp only;omega) (zn h14 (g_t (fun h=>hV (hvs.1 h)) (zh rfl))))))))))
 by_cases hE:hasE (z6 S)
 ·have h10:g10 (16,S,0,false,false,false)=some (lit []):=by
   refine g_eq ?_
   unfold g10
   exact g_f (by simp) (g_f (by simp) (g_f (by simp) (g_f (by simp) (g_f (by dsimp only;omega) (zn h26 (g_f (fun h=>h (hv.2 hV)) (zn h27 (g_t (hu.2 hE) (zh rfl)))))))))
  refine y9 (k5 h10 rfl) ?_
  refine g_eq ?_
  unfold g6
  exact zn h12 (g_f (by simp) (g_t rfl (zn (g13_eq _ _ _ _ _ _) (g_f (by simp) (g_f (by simp) (g_f (by dsimp only;omega) (g_ck (by dsimp only;omega) (zn h14 (g_f (fun h=>h (hvs.2 hV)) (zn h15 (g_t (hw.2 hE) (zh rfl))))))))))))
 have sB:(lit [27,91,50,48,48,126]).size=6:=rfl
 have sE:(lit [27,91,50,48,49,126]).size=6:=rfl
 have eb:z6 (((lit [27,91,50,48,48,126])++S)++(lit [27,91,50,48,49,126]))=B6++(z6 S++E6):=by
  rw [bytes_app,bytes_app,litB,litE,List.append_assoc]
 have h10:g10 (16,S,0,false,false,false)=some (((lit [27,91,50,48,48,126])++S)++(lit [27,91,50,48,49,126])):=by
  refine g_eq ?_
  unfold g10
  refine g_f (by simp) (g_f (by simp) (g_f (by simp) (g_f (by simp) (g_f (by dsimp only;omega) (zn h26 (g_f (fun h=>h (hv.2 hV)) (zn h27 (g_f (fun h=>hE (hu.1 h)) (g_ck ?_ (g_ck ?_ (zh rfl)))))))))))
  ·dsimp only;omega
  ·rw [ByteArray.size_append];dsimp only;omega
 have h5:g5 (16,S,0,false,false,false)=some (B6++(z6 S++E6),0):=by
  refine g_eq ?_
  unfold g5
  refine g_jn (fun w=>w=((lit [27,91,50,48,48,126])++S)++(lit [27,91,50,48,49,126])) (fun k hk=>?_) fun w hw=>?_
  ·exact g_jn (fun w=>w=false) (fun k hk=>g_f (by simp) (g_f (by simp) (g_f (by simp) (g_f (by simp) (hk _ (by simp)))))) fun w hw=>g_f (by rw [hw];simp) (g_t rfl (zn h10 (hk _ rfl)))
  ·subst hw
   refine g_f ?_ (g_ck ?_ (zh (by rw [eb])))
   ·intro e
    have:=zX.1 e
    rw [eb] at this
    cases this
   ·rw [ByteArray.size_append,ByteArray.size_append];omega
 have h6:g6 (16,S,0,false,false,false)=some (B6++(z6 S++E6),0):=by
  refine g_eq ?_
  unfold g6
  refine zn h12 (g_f (by simp) (g_t rfl (zn (g13_eq _ _ _ _ _ _) (g_f (by simp) (g_f (by simp) (g_f (by dsimp only;omega) (g_ck (by dsimp only;omega) (zn h14 (g_f (fun h=>h (hvs.2 hV)) (zn h15 (g_f (fun h=>hE (hw.1 h)) (g_ck ?_ (g_ck ?_ (g_ck ?_ (zh ?_)))))))))))))))
  ·dsimp only;omega
  ·rw [ByteArray.size_append];dsimp only;omega
  ·rw [ByteArray.size_append,ByteArray.size_append];dsimp only;omega
  ·show (z6 (((lit [27,91,50,48,48,126])++S)++(lit [27,91,50,48,49,126])),(0:Int))=_
   rw [eb]
 have h14':g14 (z6 S)=some S:=by
  rw [h14,hV,str_bytes]
 exact ⟨_,_,h5,h6,byt_app bytB (byt_app hb bytE),fun _=>⟨_,feed_paste hn h14' hE,rfl,rfl,rfl⟩⟩
theorem key_any {k:Ky} (hr:inR .i64 k.2.2.1) (hn:k.2.1.size≤1000):KeyOk k:=by
 obtain ⟨c,S,N,al,sh,ct⟩:=k
 by_cases h1:c=1
 ·subst h1;exact key_text hn
 by_cases h2:c=16
 ·subst h2;exact key_paste hn
 exact key_other h1 h2 hr
theorem keys_gives {a:Ky} (hr:inR .i64 a.2.2.1):zf (g3 a) fun r=>r=true:=by
 obtain ⟨c,S,N,al,sh,ct⟩:=a
 have hN:inR .i64 N:=hr
 have hm:0≤gmin (S.size:Int) 300∧gmin (S.size:Int) 300≤(S.size:Int)∧gmin (S.size:Int) 300≤300:=by unfold gmin;split<;>omega
 have h4:g4 (c,S,N,al,sh,ct)=some (c,S.extract (0:Int).toNat (gmin (S.size:Int) 300).toNat,N,al,sh,ct):=g_eq (g_ck ⟨by omega,hm.1,hm.2.1⟩ (zh rfl))
 have hsz:(S.extract (0:Int).toNat (gmin (S.size:Int) 300).toNat).size≤1000:=by rw [ByteArray.size_extract];omega
 obtain ⟨b,e,h5,h6,hb,hfed⟩:=key_any (k:=(c,S.extract (0:Int).toNat (gmin (S.size:Int) 300).toNat,N,al,sh,ct)) hN hsz
 unfold g3
 refine zn h4 (zn h5 (zn h6 (g_f (by simp) (g_ck hb (g_ck hb (g_f (by simp) (zn (show g7=some true from rfl) (g_f (by simp) (g_if (fun _=>zh rfl) fun he=>?_)))))))))
 have he:e=0:=Classical.byContradiction fun h=>he h
 obtain ⟨⟨k1,k2,k3⟩,h8,q1,q2,q3⟩:=hfed he
 have q1:k1=c:=q1
 have q3:k3=(N,al,sh,ct):=q3
 subst q1 q3
 refine zn h8 (g_t rfl (g_ck (by show (0:Int)≤0∧(0:Int)<((1:Nat):Int);omega) (g_t ⟨rfl,q2,rfl,Iff.rfl,Iff.rfl,Iff.rfl,trivial⟩ (g_t rfl (zh rfl)))))
end Go.Proofs.YtmpknfgjfmgleaaGreatDoor
end
