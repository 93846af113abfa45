/- Texts that the law leans on. -/
import Derived.Test.YtejfkphoeffpeaaGreatDoorQQ3
import Derived.Test.YtejfkphoeffpeaaGreatDoorQQ2
import Derived.WalkKit
import Derived.WalkSpells
import Derived.WalkLawsBesides
import Derived.Laws.IdiomStrings
import Derived.Laws.BytesString
import Derived.Shelf.RegionOpenPlain
import Derived.Lib.Walk
import Derived.Shelf.Strings.OnBuilder
import Derived.MapKept
import Derived.Carry
set_option linter.unusedVariables false
set_option linter.unusedSimpArgs false
section
set_option maxRecDepth 8000
set_option maxHeartbeats 4000000
namespace Go.Proofs.YtejfkphoeffpeaaGreatDoor
open Go Go.Eng
theorem mo1Q1 {p q:Prop} (k:q) (h:p:=by first | exact rfl | exact Iff.rfl | exact ⟨rfl,rfl⟩ | exact decide_eq_true_iff | (constructor<;>first | exact rfl | (simp only [ei,eb,es,ec,gmin,gmax,List.map_append,List.flatMap_append,List.nil_append,List.append_nil,List.append_assoc];done) | omega | (simp only [List.nil_append,List.length_append,List.length_cons,List.length_nil];omega) | (simp [ei,eb,es,ec,gmin,gmax];done)) | exact rfl | (simp only [ei,eb,es,ec,gmin,gmax,List.map_append,List.flatMap_append,List.nil_append,List.append_nil,List.append_assoc];done) | omega | (simp only [List.nil_append,List.length_append,List.length_cons,List.length_nil];omega) | (simp [ei,eb,es,ec,gmin,gmax];done) | simp [ei,eb,es,ec,gmin,gmax]):Ob p∧q:=⟨⟨h⟩,k⟩
theorem mf1Q1 {p q:Prop} (k:q) (h:p:=by first | (rw [←hfin]<;>first | exact rfl | exact Iff.rfl | exact ⟨rfl,rfl⟩ | exact decide_eq_true_iff | (constructor<;>first | exact rfl | (simp only [ei,eb,es,ec,gmin,gmax,List.map_append,List.flatMap_append,List.nil_append,List.append_nil,List.append_assoc];done) | omega | (simp only [List.nil_append,List.length_append,List.length_cons,List.length_nil];omega) | (simp [ei,eb,es,ec,gmin,gmax];done)) | exact rfl | (simp only [ei,eb,es,ec,gmin,gmax,List.map_append,List.flatMap_append,List.nil_append,List.append_nil,List.append_assoc];done) | omega | (simp only [List.nil_append,List.length_append,List.length_cons,List.length_nil];omega) | (simp [ei,eb,es,ec,gmin,gmax];done) | simp [ei,eb,es,ec,gmin,gmax]) | first | exact rfl | exact Iff.rfl | exact ⟨rfl,rfl⟩ | exact decide_eq_true_iff | (constructor<;>first | exact rfl | (simp only [ei,eb,es,ec,gmin,gmax,List.map_append,List.flatMap_append,List.nil_append,List.append_nil,List.append_assoc];done) | omega | (simp only [List.nil_append,List.length_append,List.length_cons,List.length_nil];omega) | (simp [ei,eb,es,ec,gmin,gmax];done)) | exact rfl | (simp only [ei,eb,es,ec,gmin,gmax,List.map_append,List.flatMap_append,List.nil_append,List.append_nil,List.append_assoc];done) | omega | (simp only [List.nil_append,List.length_append,List.length_cons,List.length_nil];omega) | (simp [ei,eb,es,ec,gmin,gmax];done) | simp [ei,eb,es,ec,gmin,gmax]):Ob p∧q:=⟨⟨h⟩,k⟩
noncomputable def g10 (a0:Int):Option (ByteArray):=
 jn (α:=_) (β:=Int×ByteArray) (fun k6=>
   if a0<0 then
    k6 (a0,(lit [45]))
   else
    (
     ck (inR .i64 (0-a0)) <|
     k6 (0-a0,(lit []))
    )
 ) (fun v5=>
  jn (α:=_) (β:=ByteArray) (fun k48=>
    (loopO (σ:=Int×ByteArray) (ρ:=ByteArray) (fun s51=>
      if s51.1<0 then
       (
        ck (inR .i64 (48-(Int.tmod s51.1 10))) <|
        ck (isBytes ([IntKind.wrap .u8 (48-(Int.tmod s51.1 10))])) <|
        ck ((strOf ([IntKind.wrap .u8 (48-(Int.tmod s51.1 10))])).size+s51.2.size≤9223372036854775807) <|
        ck (inR .i64 (Int.tdiv s51.1 10)) <|
        some (.go (Int.tdiv s51.1 10,(strOf ([IntKind.wrap .u8 (48-(Int.tmod s51.1 10))]))++s51.2))
       )
      else
       (
        if s51.2.data.toList=(lit []).data.toList then
         (
          ck (inR .i64 (48-(Int.tmod s51.1 10))) <|
          ck (isBytes ([IntKind.wrap .u8 (48-(Int.tmod s51.1 10))])) <|
          ck ((strOf ([IntKind.wrap .u8 (48-(Int.tmod s51.1 10))])).size+s51.2.size≤9223372036854775807) <|
          ck (inR .i64 (Int.tdiv s51.1 10)) <|
          some (.go (Int.tdiv s51.1 10,(strOf ([IntKind.wrap .u8 (48-(Int.tmod s51.1 10))]))++s51.2))
         )
        else
         some (.out s51.2)
       )
     ) (v5.1,(lit []))).bind fun o73=>
     k48 o73
  ) (fun v47=>
   ck (v5.2.size+v47.size≤9223372036854775807) <|
   some (v5.2++v47)
  )
 )
noncomputable def k10:Eng.CS:={ f:=10,calm:=true,more:=0,ι:=Int×ByteArray,ok:=fun i=>g10 i.1=some i.2,rds:=fun _=>[],args:=fun i=>[.w (.v (.int .i64 (i.1)))],res:=fun i=>.v (.string (i.2)) }
theorem k10_ok:CalmOk Tryz.prog k10:=by
 refine R.calmspec Tryz.func10 (nq9 Tryz.func10) rfl ?_
 rintro ⟨a0,r⟩ hok q _ args hargs
 match args,hargs with
 | [_],hargs=>
 obtain ⟨rfl,_⟩:=hargs
 refine ⟨envC [] false [(10,5),(10,9)],6,envC_ok (css_nil),rfl,(by intro x hx;simp only [List.mem_cons,List.not_mem_nil,or_false] at hx;rcases hx with rfl<;>rfl),?_⟩
 have H:Gives (g10 a0) (fun a=>a=r):=⟨r,hok,rfl⟩
 unfold g10 at H
 clear hok
 refine R.cut_fam H 8 [] [] (fun v5=>[(0,.v (.int .i64 (v5.1))),(3,.v (.string (v5.2)))]) (fun v5=>[]) [] 0 (fun H=>?_)
 refine And.intro ?_ ?_
 ·refine if_st H ?_ ?_<;>intro h7 H
  ·refine ⟨(a0,(lit [45])),⟨H⟩,⟨rfl⟩,?_⟩
   repeat refine mo1Q1 ?_
   trivial
  ·refine ob_ck H fun h8 H=>?_
   refine ⟨(0-a0,(lit [])),⟨H⟩,⟨rfl⟩,?_⟩
   repeat refine mo1Q1 ?_
   trivial
 ·intro v5 H
  refine R.cut_fam H 17 [3] [] (fun v47=>[(4,.v (.string (v47)))]) (fun v47=>[]) [] 0 (fun H=>?_)
  refine And.intro ?_ ?_
  ·refine R.loop_fam (bind_st H) [3] [] (fun _ s51=>[(0,.v (.int .i64 (s51.1))),(4,.v (.string (s51.2)))]) (fun _ s51=>[]) 0 (fun n84 H=>?_)
   refine ⟨(n84,_),⟨H⟩,⟨trivial⟩,?_⟩
   repeat refine mo1Q1 ?_
   rintro ⟨m0,s51⟩ H _
   obtain ⟨m52,hm0,H⟩:=IG_succ H
   dsimp only at hm0
   subst hm0
   try dsimp only at H
   refine if_st H ?_ ?_<;>intro h74 H
   ·refine And.intro ⟨by decide⟩ ?_
    refine ob_ck H fun h75 H=>?_
    refine ob_str (l:=[IntKind.wrap .u8 (48-(Int.tmod s51.1 10))]) H fun h76 H=>?_
    refine ob_ck H fun h77 H=>?_
    refine And.intro ⟨by decide⟩ ?_
    refine ob_ck H fun h78 H=>?_
    replace H:=some_st H
    refine ⟨(m52,(Int.tdiv s51.1 10,(strOf ([IntKind.wrap .u8 (48-(Int.tmod s51.1 10))]))++s51.2)),⟨H,Nat.lt_succ_self _⟩,⟨trivial⟩,⟨rfl⟩,?_⟩
    repeat refine mo1Q1 ?_
    trivial
   ·refine if_st H ?_ ?_<;>intro h79 H
    ·refine And.intro ⟨by decide⟩ ?_
     refine ob_ck H fun h80 H=>?_
     refine ob_str (l:=[IntKind.wrap .u8 (48-(Int.tmod s51.1 10))]) H fun h81 H=>?_
     refine ob_ck H fun h82 H=>?_
     refine And.intro ⟨by decide⟩ ?_
     refine ob_ck H fun h83 H=>?_
     replace H:=some_st H
     refine ⟨(m52,(Int.tdiv s51.1 10,(strOf ([IntKind.wrap .u8 (48-(Int.tmod s51.1 10))]))++s51.2)),⟨H,Nat.lt_succ_self _⟩,⟨trivial⟩,⟨rfl⟩,?_⟩
     repeat refine mo1Q1 ?_
     trivial
    ·replace H:=some_st H
     dsimp only [stp,sm] at H
     refine ⟨s51.2,⟨H⟩,⟨rfl⟩,?_⟩
     repeat refine mo1Q1 ?_
     trivial
  ·intro v47 H
   refine ob_ck H fun h85 H=>?_
   have hfin:=fin_st H
   repeat refine mf1Q1 ?_
   trivial
noncomputable def g11 (a0:Int):Option (ByteArray):=
 if a0=0 then
  some (lit [114,117,110,110,105,110,103])
 else
  (
   if a0=1 then
    some (lit [115,117,98,109,105,116,116,101,100])
   else
    (
     if a0=2 then
      some (lit [99,97,110,99,101,108,108,101,100])
     else
      (
       if a0=3 then
        some (lit [101,110,100,101,100])
       else
        some (lit [])
      )
    )
  )
noncomputable def k11:Eng.CS:={ f:=11,calm:=true,more:=0,ι:=Int×ByteArray,ok:=fun i=>g11 i.1=some i.2,rds:=fun _=>[],args:=fun i=>[.w (.v (.int .i64 (i.1)))],res:=fun i=>.v (.string (i.2)) }
theorem k11_ok:CalmOk Tryz.prog k11:=by
 refine R.calmspec Tryz.func11 (nq9 Tryz.func11) rfl ?_
 rintro ⟨a0,r⟩ hok q _ args hargs
 match args,hargs with
 | [_],hargs=>
 obtain ⟨rfl,_⟩:=hargs
 refine ⟨envC [] false [],6,envC_ok (css_nil),rfl,(by intro x hx;simp only [List.mem_cons,List.not_mem_nil,or_false] at hx;rcases hx with rfl<;>rfl),?_⟩
 have H:Gives (g11 a0) (fun a=>a=r):=⟨r,hok,rfl⟩
 unfold g11 at H
 clear hok
 refine if_st H ?_ ?_<;>intro h90 H
 ·have hfin:=fin_st H
  repeat refine mf1Q1 ?_
  trivial
 ·refine if_st H ?_ ?_<;>intro h91 H
  ·have hfin:=fin_st H
   repeat refine mf1Q1 ?_
   trivial
  ·refine if_st H ?_ ?_<;>intro h92 H
   ·have hfin:=fin_st H
    repeat refine mf1Q1 ?_
    trivial
   ·refine if_st H ?_ ?_<;>intro h93 H
    ·have hfin:=fin_st H
     repeat refine mf1Q1 ?_
     trivial
    ·have hfin:=fin_st H
     repeat refine mf1Q1 ?_
     trivial
noncomputable def g8 (a0:Int):Option (ByteArray):=
 if a0=0 then
  some (lit [114,117,110,110,105,110,103])
 else
  (
   if a0=1 then
    some (lit [115,117,98,109,105,116,116,101,100])
   else
    (
     if a0=2 then
      some (lit [99,97,110,99,101,108,108,101,100])
     else
      (
       if a0=3 then
        some (lit [101,110,100,101,100])
       else
        some (lit [])
      )
    )
  )
noncomputable def k8:Eng.CS:={ f:=8,calm:=true,more:=0,ι:=Int×ByteArray,ok:=fun i=>g8 i.1=some i.2,rds:=fun _=>[],args:=fun i=>[.w (.v (.int .i64 (i.1)))],res:=fun i=>.v (.string (i.2)) }
theorem k8_ok:CalmOk Tryz.prog k8:=by
 refine R.calmspec Tryz.func8 (nq9 Tryz.func8) rfl ?_
 rintro ⟨a0,r⟩ hok q _ args hargs
 match args,hargs with
 | [_],hargs=>
 obtain ⟨rfl,_⟩:=hargs
 refine ⟨envC [] false [],6,envC_ok (css_nil),rfl,(by intro x hx;simp only [List.mem_cons,List.not_mem_nil,or_false] at hx;rcases hx with rfl<;>rfl),?_⟩
 have H:Gives (g8 a0) (fun a=>a=r):=⟨r,hok,rfl⟩
 unfold g8 at H
 clear hok
 refine if_st H ?_ ?_<;>intro h98 H
 ·have hfin:=fin_st H
  repeat refine mf1Q1 ?_
  trivial
 ·refine if_st H ?_ ?_<;>intro h99 H
  ·have hfin:=fin_st H
   repeat refine mf1Q1 ?_
   trivial
  ·refine if_st H ?_ ?_<;>intro h100 H
   ·have hfin:=fin_st H
    repeat refine mf1Q1 ?_
    trivial
   ·refine if_st H ?_ ?_<;>intro h101 H
    ·have hfin:=fin_st H
     repeat refine mf1Q1 ?_
     trivial
    ·have hfin:=fin_st H
     repeat refine mf1Q1 ?_
     trivial
end Go.Proofs.YtejfkphoeffpeaaGreatDoor
end
section
namespace Go.Proofs.YtejfkphoeffpeaaGreatDoor
open Go Go.Eng Go.RowKit
def dl (U:Nat):Nat→List Int
 | 0=>[]
 | k+1=>(48+((U / 10 ^ k % 10:Nat):Int))::dl U k
theorem dl_len (U:Nat):∀k,(dl U k).length=k
 | 0=>rfl
 | k+1=>by simp [dl,dl_len U k]
def dcs (U k:Nat):List Value:=(List.replicate (24-k) 0++dl U k).map (Value.int .u8)
structure Dg (B U:Nat) (w0:World) (k:Nat) (w:World):Prop where
 row:w.heap[B]?=some (.cells (dcs U k).toArray 42 (0,0))
 below:Below B w0 w
theorem wrap_div {v:Nat} (h:v<18446744073709551616):IntKind.u64.wrap ((v:Int).tdiv 10)=((v / 10:Nat):Int):=by
 have e:(v:Int).tdiv 10=((v / 10:Nat):Int):=by
  have:=Int.tdiv_eq_ediv_of_nonneg (a:=(v:Int)) (b:=10) (by omega);omega
 rw [e,IntKind.wrap_u64];omega
theorem wrap_mod {v:Nat}:IntKind.u64.wrap (48+(v:Int).tmod 10) % 256=48+((v % 10:Nat):Int):=by
 have e:(v:Int).tmod 10=((v % 10:Nat):Int):=by
  have:=Int.tmod_eq_emod_of_nonneg (a:=(v:Int)) (b:=10) (by omega);omega
 rw [e,IntKind.wrap_u64];omega
theorem dcs_put {U k:Nat} (h:k≤23):(dcs U k).set (24-k-1) (.int .u8 (48+((U / 10 ^ k % 10:Nat):Int)))=dcs U (k+1):=by
 unfold dcs
 have e:24-k=(24-(k+1))+1:=by omega
 rw [e,List.replicate_succ',List.append_assoc,←List.map_set]
 congr 1
 rw [List.set_append_right _ _ (by simp)]
 simp [dl]
theorem Dg.cell {B U:Nat} {w0 w:World} {k:Nat} (h:Dg B U w0 k w) {j:Nat} (hj:j<24-k):w.cell? ⟨B,j,none⟩=some (.int .u8 0):=by
 rw [cell_of_heap h.row,←Array.getElem?_toList]
 show (dcs U k)[j]?=_
 unfold dcs
 rw [List.map_append,List.getElem?_append_left (by simp;omega)]
 simp [hj]
theorem Dg.frozen {B U:Nat} {w0 w:World} {k:Nat} (h:Dg B U w0 k w) (j:Nat):w.frozen? ⟨B,j,none⟩=false:=by
 simp only [World.frozen?,h.row]
 simp
theorem Dg.put {B U:Nat} {w0 w:World} {k:Nat} (h:Dg B U w0 k w) (hk:k≤23):Dg B U w0 (k+1) (w.setCell ⟨B,24-k-1,none⟩ (.int .u8 (48+((U / 10 ^ k % 10:Nat):Int)))):=by
 refine ⟨?_,h.below.setCell (Nat.le_refl _) _⟩
 simp only [World.setCell,Array.getElem?_modify,h.row,Option.map_some,if_pos]
 simp only [Option.isSome_none,Bool.false_eq_true,if_false]
 rw [List.setIfInBounds_toArray,dcs_put hk]
def Dk (U k:Nat):Prop:=1≤k∧U / 10 ^ k=0∧(k=1∨0<U / 10 ^ (k-1))
theorem Dk_ex {U:Nat}:∀m,U / 10 ^ m=0→∃k,Dk U k∧k≤m+1
 | 0,h=>⟨1,⟨Nat.le_refl _,by rw [Nat.pow_zero,Nat.div_one] at h;subst h;rfl,.inl rfl⟩,Nat.le_refl _⟩
 | m+1,h=>by
  by_cases q:U / 10 ^ m=0
  ·obtain ⟨k,h1,h2⟩:=Dk_ex m q
   exact ⟨k,h1,by omega⟩
  ·exact ⟨m+1,⟨by omega,h,.inr (by rw [Nat.add_sub_cancel];exact Nat.pos_of_ne_zero q)⟩,by omega⟩
theorem div_zero_mono {U a b:Nat} (h:a≤b) (h0:U / 10 ^ a=0):U / 10 ^ b=0:=by
 have h1:U / 10 ^ b≤U / 10 ^ a:=Nat.div_le_div_left (Nat.pow_le_pow_right (by omega) h) (Nat.pow_pos (by omega))
 rw [h0] at h1
 exact Nat.le_zero.1 h1
theorem Dk_uniq {U a b:Nat} (ha:Dk U a) (hb:Dk U b):a=b:=by
 obtain ⟨a1,a2,a3⟩:=ha
 obtain ⟨b1,b2,b3⟩:=hb
 rcases Nat.lt_trichotomy a b with h | h | h
 ·rcases b3 with b3 | b3
  ·omega
  ·have:=div_zero_mono (show a≤b-1 by omega) a2;omega
 ·exact h
 ·rcases a3 with a3 | a3
  ·omega
  ·have:=div_zero_mono (show b≤a-1 by omega) b2;omega
noncomputable def nd (U:Nat):Nat:=Classical.epsilon (Dk U)
theorem nd_ok {U:Nat}:Dk U (nd U):=by
 have:∃k,Dk U k:=by
  obtain ⟨k,h,_⟩:=Dk_ex (U:=U) U (Nat.div_eq_of_lt (Nat.lt_pow_self (by omega)))
  exact ⟨k,h⟩
 exact Classical.epsilon_spec this
theorem nd_of {U k:Nat} (h:Dk U k):nd U=k:=Dk_uniq nd_ok h
noncomputable def prI (n:Int):List Int:=(if n<0 then [45] else [])++dl n.natAbs (nd n.natAbs)
theorem sl_run (B i:Nat) (h:i<24) (w:World):(Instr.sliceAt 42 (.pointer (some ⟨B,0,none⟩)) (some (.int .i64 (i:Int))) none none).run Tryz.prog w=.ok (.slice (some ⟨B,i,none⟩) (24-i) (24-i)) w:=by
 have b1:=fun k' code=>run_bnd (P:=Tryz.prog) k' (i:Int) 24 code (by omega) (by omega) w
 have hd:(ty tab 42).d=.arr 24 5:=by kernel_rfl
 have hz:(ty tab 5).sz=1:=by kernel_rfl
 obtain ⟨ht,_,j,hj,hsz,_⟩:descOk Tryz.prog tab 42 (.arr 24 5):=by rw [←hd];exact (tab_ok 42 (by rw [hd];simp)).d
 have hne:¬24=i:=by omega
 simp [Instr.sliceAt,Instr.sliceBounds,run_underlying ht,Instr.sureAddr,sizeOf,typeInfo,hj,hsz,hz,b1,hne,Addr.add_lit]
theorem conv_run {B i m:Nat} {cs:List Value} {fz:Nat×Nat} {l:List Int} {w:World} (hh:w.heap[B]?=some (.cells cs.toArray 42 fz)) (hl:cs.drop i=l.map (Value.int .u8)) (hm:m=l.length) :
  (convert 25 9 (.slice (some ⟨B,i,none⟩) m m)).run Tryz.prog w=.ok (.string (strOf l)) w:=by
 subst hm
 have hk:(loadCells ⟨B,i,none⟩ (l.map (Value.int .u8)).length).run Tryz.prog w=.ok (l.map (Value.int .u8)).toArray w:=by
  refine run_loadCells_list w _ (l.map (Value.int .u8)) fun j v hv=>?_
  rw [Addr.add_lit,cell_of_heap hh,←Array.getElem?_toList]
  show cs[i+j]?=some v
  rw [←List.getElem?_drop,hl]
  exact hv
 rw [List.length_map] at hk
 rw [run_convert_bytes_string w 25 9 5 _ _ _ Tryz.underlying25 Tryz.underlying5 Tryz.underlying9,run_bytesToString w _ _ _ _ hk]
 have hp:=push_all (l.map fun n=>UInt8.ofNat n.toNat) ByteArray.empty
 rw [List.foldl_map] at hp
 rw [hp]
 simp [strOf]
theorem dcs_drop {U k:Nat} (h:k≤24):(dcs U k).drop (24-k)=(dl U k).map (Value.int .u8):=by
 unfold dcs
 rw [List.map_append,List.drop_left' (by simp)]
theorem dcs_sign {U k:Nat} (h:k≤23):((dcs U k).set (24-k-1) (.int .u8 45)).drop (24-k-1)=(45::dl U k).map (Value.int .u8):=by
 unfold dcs
 have e:24-k=(24-k-1)+1:=by omega
 rw [show (24-k)=(24-k-1)+1 from e,List.replicate_succ',List.append_assoc,Nat.add_sub_cancel,←List.map_set,List.set_append_right _ _ (by simp),List.map_append,List.drop_left' (by simp)]
 simp
set_option maxHeartbeats 2000000 in
set_option maxRecDepth 100000 in
theorem print_walk (n : Int) (w : World) (h0 : -9223372036854775808 ≤ n) (h1 : n ≤ 9223372036854775807) :
    Calls Tryz.prog 9 #[.int .i64 n] w fun e w' => e = .returned (.string (strOf (prI n))) ∧ Below w.heap.size w w' := by
  have hst : Dg w.heap.size n.natAbs w 0 (w.alloc (.cells #[Value.int IntKind.u8 0, Value.int IntKind.u8 0, Value.int IntKind.u8 0, Value.int IntKind.u8 0,
             Value.int IntKind.u8 0, Value.int IntKind.u8 0, Value.int IntKind.u8 0, Value.int IntKind.u8 0,
             Value.int IntKind.u8 0, Value.int IntKind.u8 0, Value.int IntKind.u8 0, Value.int IntKind.u8 0,
             Value.int IntKind.u8 0, Value.int IntKind.u8 0, Value.int IntKind.u8 0, Value.int IntKind.u8 0,
             Value.int IntKind.u8 0, Value.int IntKind.u8 0, Value.int IntKind.u8 0, Value.int IntKind.u8 0,
             Value.int IntKind.u8 0, Value.int IntKind.u8 0, Value.int IntKind.u8 0, Value.int IntKind.u8 0] 42)) :=
    ⟨heap_alloc_new w _, (Below.refl _ w).alloc (Nat.le_refl _) _⟩
  generalize hB : w.heap.size = B at hst
  generalize hr : strOf (prI n) = r
  go_enter Tryz.func9, Tryz.ntmps9
  go_wp2
  · rw [hB] at *
    go_loopw [4, 5] (fun i u wr => ∃ k v : Nat, k ≤ 19 ∧ (k = 0 ∨ 0 < v) ∧ v = n.natAbs / 10 ^ k ∧ i = .int .i64 (24 - k) ∧ u = .int .u64 v ∧ Dg B n.natAbs w k wr) (fun i _ _ => (intOf i).toNat)
    case atStart =>
      refine ⟨0, n.natAbs, by omega, .inl rfl, by simp, rfl, ?_, hst⟩
      congr 1
      rw [IntKind.wrap_u64, IntKind.wrap_u64]
      omega
    case round =>
      obtain ⟨k, v, hk, hkv, hv, rfl, rfl, hf⟩ := hrel
      have hvl : v < 18446744073709551616 := by
        have : v ≤ n.natAbs := by rw [hv]; exact Nat.div_le_self _ _
        omega
      have hcx : wr.cell? ⟨B, 24 - k - 1, none⟩ = some (.int .u8 0) := hf.cell (by omega)
      have hfx : wr.frozen? ⟨B, 24 - k - 1, none⟩ = false := hf.frozen _
      have e1 := wrap_div hvl
      have e2 := wrap_mod (v := v)
      have hp : Dg B n.natAbs w (k + 1) (wr.setCell ⟨B, 24 - k - 1, none⟩ (.int .u8 (48 + (v : Int) % 10))) := by
        have e3 : (48 + (v : Int) % 10) = 48 + ((n.natAbs / 10 ^ k % 10 : Nat) : Int) := by rw [← hv]; omega
        rw [e3]; exact hf.put (by omega)
      have hcy : wr.cell? ⟨B, 24 - k - 1 - 1, none⟩ = some (.int .u8 0) := hf.cell (by omega)
      have hfy : wr.frozen? ⟨B, 24 - k - 1 - 1, none⟩ = false := hf.frozen _
      have hdv : v / 10 = n.natAbs / 10 ^ (k + 1) := by rw [hv, Nat.pow_succ, Nat.div_div_eq_div_mul]
      have hHf := Any.hidJ (And.intro hp (And.intro hv (And.intro hkv (And.intro hdv hf))))
      clear hp hv hst hkv hf hdv
      go_wp2
      · obtain ⟨hp, hv, hkv, hdv, hf⟩ := hHf.out
        have hz : v / 10 = 0 := by
          have h : ((v : Int) / 10 == 0) = true := by assumption
          have := eq_of_beq h; omega
        have hD : Dk n.natAbs (k + 1) := ⟨by omega, by rw [← hdv]; exact hz, by
          rcases hkv with h | h
          · exact .inl (by omega)
          · exact .inr (by rw [Nat.add_sub_cancel, ← hv]; exact h)⟩
        have hpr : strOf (45 :: dl n.natAbs (k + 1)) = r := by
          rw [← hr]; unfold prI; rw [nd_of hD, if_pos (by assumption)]; rfl
        have ei : (24 - (k : Int) - 1 - 1) = ((24 - k - 1 - 1 : Nat) : Int) := by omega
        rw [ei, sl_run B _ (by omega)]
        simp only [Result.andThen]
        rw [Oper.upon_value]
        have hcv : (convert 25 9 (.slice (some ⟨B, 24 - k - 1 - 1, none⟩) (24 - (24 - k - 1 - 1)) (24 - (24 - k - 1 - 1)))).run Tryz.prog ((wr.setCell ⟨B, 24 - k - 1, none⟩ (.int .u8 (48 + (v : Int) % 10))).setCell ⟨B, 24 - k - 1 - 1, none⟩ (.int .u8 45)) = .ok (.string r) ((wr.setCell ⟨B, 24 - k - 1, none⟩ (.int .u8 (48 + (v : Int) % 10))).setCell ⟨B, 24 - k - 1 - 1, none⟩ (.int .u8 45)) := by
          rw [← hpr]
          generalize wr.setCell ⟨B, 24 - k - 1, none⟩ (.int .u8 (48 + (v : Int) % 10)) = W1 at hp
          refine conv_run (l := 45 :: dl n.natAbs (k + 1)) (cs := (dcs n.natAbs (k + 1)).set (24 - (k + 1) - 1) (.int .u8 45)) (fz := (0, 0)) ?_ ?_ ?_
          · simp only [World.setCell, Array.getElem?_modify, hp.row, Option.map_some, if_pos]
            simp only [Option.isSome_none, Bool.false_eq_true, if_false]
            rw [List.setIfInBounds_toArray]
            rfl
          · exact dcs_sign (U := n.natAbs) (k := k + 1) (by omega)
          · simp [dl_len]; omega
        have hbl : Below B w ((wr.setCell ⟨B, 24 - k - 1, none⟩ (.int .u8 (48 + (v : Int) % 10))).setCell ⟨B, 24 - k - 1 - 1, none⟩ (.int .u8 45)) := hp.below.setCell (Nat.le_refl _) _
        clear hHf hp hf hpr hr hv hkv hdv hz hD
        go_wp2
        go_ret
        exact ⟨rfl, hbl⟩
      · obtain ⟨hp, hv, hkv, hdv, hf⟩ := hHf.out
        have hz : ¬ v / 10 = 0 := by
          have h : ((v : Int) / 10 == 0) = false := by assumption
          have := ne_of_beq_false h; omega
        refine ⟨⟨k + 1, v / 10, ?_, .inr (by omega), hdv, by congr 1; omega, by congr 1, hp⟩, by simp [intOf]; omega⟩
        rcases Nat.lt_or_ge k 19 with h | h
        · omega
        · exfalso
          have hk19 : k = 19 := by omega
          subst hk19
          have : n.natAbs ≤ 9223372036854775808 := by omega
          have e : n.natAbs / 10 ^ (19 + 1) = 0 := Nat.div_eq_of_lt (Nat.lt_of_le_of_lt this (by decide))
          rw [hdv, e] at hz
          exact hz rfl
  · rw [hB] at *
    go_loopw [4, 5] (fun i u wr => ∃ k v : Nat, k ≤ 19 ∧ (k = 0 ∨ 0 < v) ∧ v = n.natAbs / 10 ^ k ∧ i = .int .i64 (24 - k) ∧ u = .int .u64 v ∧ Dg B n.natAbs w k wr) (fun i _ _ => (intOf i).toNat)
    case atStart =>
      refine ⟨0, n.natAbs, by omega, .inl rfl, by simp, rfl, ?_, hst⟩
      congr 1
      rw [IntKind.wrap_u64]
      omega
    case round =>
      obtain ⟨k, v, hk, hkv, hv, rfl, rfl, hf⟩ := hrel
      have hvl : v < 18446744073709551616 := by
        have : v ≤ n.natAbs := by rw [hv]; exact Nat.div_le_self _ _
        omega
      have hcx : wr.cell? ⟨B, 24 - k - 1, none⟩ = some (.int .u8 0) := hf.cell (by omega)
      have hfx : wr.frozen? ⟨B, 24 - k - 1, none⟩ = false := hf.frozen _
      have e1 := wrap_div hvl
      have e2 := wrap_mod (v := v)
      have hp : Dg B n.natAbs w (k + 1) (wr.setCell ⟨B, 24 - k - 1, none⟩ (.int .u8 (48 + (v : Int) % 10))) := by
        have e3 : (48 + (v : Int) % 10) = 48 + ((n.natAbs / 10 ^ k % 10 : Nat) : Int) := by rw [← hv]; omega
        rw [e3]; exact hf.put (by omega)
      have hcy : wr.cell? ⟨B, 24 - k - 1 - 1, none⟩ = some (.int .u8 0) := hf.cell (by omega)
      have hfy : wr.frozen? ⟨B, 24 - k - 1 - 1, none⟩ = false := hf.frozen _
      have hdv : v / 10 = n.natAbs / 10 ^ (k + 1) := by rw [hv, Nat.pow_succ, Nat.div_div_eq_div_mul]
      have hHf := Any.hidJ (And.intro hp (And.intro hv (And.intro hkv (And.intro hdv hf))))
      clear hp hv hst hkv hf hdv
      go_wp2
      · obtain ⟨hp, hv, hkv, hdv, hf⟩ := hHf.out
        have hz : v / 10 = 0 := by
          have h : ((v : Int) / 10 == 0) = true := by assumption
          have := eq_of_beq h; omega
        have hD : Dk n.natAbs (k + 1) := ⟨by omega, by rw [← hdv]; exact hz, by
          rcases hkv with h | h
          · exact .inl (by omega)
          · exact .inr (by rw [Nat.add_sub_cancel, ← hv]; exact h)⟩
        have hpr : strOf ( dl n.natAbs (k + 1)) = r := by
          rw [← hr]; unfold prI; rw [nd_of hD, if_neg (by omega)]; rfl
        have ei : (24 - (k : Int) - 1) = ((24 - k - 1 : Nat) : Int) := by omega
        rw [ei, sl_run B _ (by omega)]
        simp only [Result.andThen]
        rw [Oper.upon_value]
        have hcv : (convert 25 9 (.slice (some ⟨B, 24 - k - 1, none⟩) (24 - (24 - k - 1)) (24 - (24 - k - 1)))).run Tryz.prog (wr.setCell ⟨B, 24 - k - 1, none⟩ (.int .u8 (48 + (v : Int) % 10))) = .ok (.string r) (wr.setCell ⟨B, 24 - k - 1, none⟩ (.int .u8 (48 + (v : Int) % 10))) := by
          rw [← hpr]
          exact conv_run (i := 24 - (k + 1)) hp.row (dcs_drop (by omega)) (by rw [dl_len]; omega)
        have hbl : Below B w (wr.setCell ⟨B, 24 - k - 1, none⟩ (.int .u8 (48 + (v : Int) % 10))) := hp.below
        clear hHf hp hf hpr hr hv hkv hdv hz hD
        go_wp2
        go_ret
        exact ⟨rfl, hbl⟩
      · obtain ⟨hp, hv, hkv, hdv, hf⟩ := hHf.out
        have hz : ¬ v / 10 = 0 := by
          have h : ((v : Int) / 10 == 0) = false := by assumption
          have := ne_of_beq_false h; omega
        refine ⟨⟨k + 1, v / 10, ?_, .inr (by omega), hdv, by congr 1; omega, by congr 1, hp⟩, by simp [intOf]; omega⟩
        rcases Nat.lt_or_ge k 19 with h | h
        · omega
        · exfalso
          have hk19 : k = 19 := by omega
          subst hk19
          have : n.natAbs ≤ 9223372036854775808 := by omega
          have e : n.natAbs / 10 ^ (19 + 1) = 0 := Nat.div_eq_of_lt (Nat.lt_of_le_of_lt this (by decide))
          rw [hdv, e] at hz
          exact hz rfl
noncomputable def g9 (a0:Int):Option ByteArray:=
 ck (inR .i64 a0) <|
 some (strOf (prI a0))
noncomputable def k9:Eng.CS:={ f:=9,calm:=true,more:=0,ι:=Int×ByteArray,ok:=fun i=>g9 i.1=some i.2,rds:=fun _=>[],args:=fun i=>[.w (.v (.int .i64 i.1))],res:=fun i=>.v (.string i.2) }
theorem k9_ok:CalmOk Tryz.prog k9:=by
 refine ⟨fun args w=>?_,?_⟩
 ·have hname' : ¬ Tryz.f9.name = "runtime.NumGoroutine" := by simpa using (nq9 Tryz.func9)
  obtain ⟨c,hc⟩:=Option.isSome_iff_exists.1 (show Tryz.f9.body.isSome=true from rfl)
  have hP:=Tryz.func9
  simp [callFunc,k9,hP,hname',hc]
 ·rintro w q S ⟨a0,r⟩ vs hok hrds hm hargs
  have hr:inR .i64 a0∧strOf (prI a0)=r:=by
   have:g9 a0=some r:=hok
   unfold g9 ck at this
   split at this
   ·rename_i h1;cases this;exact ⟨h1,rfl⟩
   ·cases this
  obtain ⟨h1,rfl⟩:=hr
  match vs,hargs with
  | [v],hargs=>
  obtain ⟨hv,_⟩:=hargs
  have hv:v=.int .i64 a0:=hv
  subst hv
  have h1':-9223372036854775808≤a0∧a0≤9223372036854775807:=h1
  refine (print_walk a0 w h1'.1 h1'.2).mono ?_
  rintro e w' ⟨rfl,hb⟩
  exact ⟨by simp [k9,den],hb⟩
end Go.Proofs.YtejfkphoeffpeaaGreatDoor
end
section
set_option maxRecDepth 8000
set_option maxHeartbeats 4000000
namespace Go.Proofs.YtejfkphoeffpeaaGreatDoor
open Go Go.Eng
noncomputable def g7 (a0:List ByteArray) (a1:List Int):Option (ByteArray):=
 jn (α:=_) (β:=ByteArray) (fun k47=>
   (loopO (σ:=ByteArray×Int) (ρ:=ByteArray) (fun s50=>
     if s50.2<((a1.length:Nat):Int) then
      (
       ck (0≤s50.2∧s50.2<((a1.length:Nat):Int)) <|
       ck (0≤s50.2∧s50.2<((a0.length:Nat):Int)) <|
       ck ((a0.getD s50.2.toNat default).size+(lit [32]).size≤9223372036854775807) <|
       (g9 (a1.getD s50.2.toNat 0)).bind fun v77=>
       ck (((a0.getD s50.2.toNat default)++(lit [32])).size+v77.size≤9223372036854775807) <|
       ck ((((a0.getD s50.2.toNat default)++(lit [32]))++v77).size+(lit [32]).size≤9223372036854775807) <|
       ck (s50.1.size+((((a0.getD s50.2.toNat default)++(lit [32]))++v77)++(lit [32])).size≤9223372036854775807) <|
       ck (inR .i64 (s50.2+1)) <|
       some (.go (s50.1++((((a0.getD s50.2.toNat default)++(lit [32]))++v77)++(lit [32])),s50.2+1))
      )
     else
      some (.out s50.1)
    ) ((lit []),0)).bind fun o72=>
    k47 o72
 ) (fun v46=>
  some v46
 )
noncomputable def k7:Eng.CS:={ f:=7,calm:=true,more:=0,ι:=(List ByteArray)×(List Int)×ByteArray,ok:=fun i=>g7 i.1 i.2.1=some i.2.2,rds:=fun _=>[],args:=fun i=>[.sl 1 i.1.length (es i.1),.sl 1 i.2.1.length (ei .i64 i.2.1)],res:=fun i=>.v (.string (i.2.2)) }
theorem k7_ok:CalmOk Tryz.prog k7:=by
 refine R.calmspec Tryz.func7 (nq9 Tryz.func7) rfl ?_
 rintro ⟨a0,a1,r⟩ hok q _ args hargs
 match args,hargs with
 | [_,_],hargs=>
 obtain ⟨⟨A0,cp0,rfl,hc0,_,hR0⟩,⟨A1,cp1,rfl,hc1,_,hR1⟩,_⟩:=hargs
 refine ⟨envC [k9] false [(7,7)],6,envC_ok (css_cons ⟨fun _=>k9_ok,nofun⟩ (css_nil)),rfl,(by intro x hx;simp only [List.mem_cons,List.not_mem_nil,or_false] at hx;rcases hx with rfl | rfl<;>rfl),?_⟩
 have H:Gives (g7 a0 a1) (fun a=>a=r):=⟨r,hok,rfl⟩
 unfold g7 at H
 clear hok
 refine R.cut_fam H 8 [] [] (fun v46=>[(5,.v (.string (v46)))]) (fun v46=>[]) [] 0 (fun H=>?_)
 refine And.intro ?_ ?_
 ·refine R.loop_fam (bind_st H) [0,8,9] [] (fun _ s50=>[(5,.v (.string (s50.1))),(10,.v (.int .i64 (s50.2)))]) (fun _ s50=>[]) 0 (fun n83 H=>?_)
  refine ⟨(n83,_),⟨H⟩,⟨trivial⟩,?_⟩
  repeat refine mo1Q1 ?_
  rintro ⟨m0,s50⟩ H _
  obtain ⟨m51,hm0,H⟩:=IG_succ H
  dsimp only at hm0
  subst hm0
  try dsimp only at H
  refine if_st H ?_ ?_<;>intro h73 H
  ·refine ob_ix hR1 (fun h=>ei0 h) H fun h74 H=>?_
   refine ld_int (e:=a1.getD s50.2.toNat 0) (rd_get hR1 (ei_get (l:=a1) (tn h74))) ?_
   refine And.intro ⟨by kernel_rfl⟩ ?_
   refine ob_ix hR0 (fun h=>es0 h) H fun h75 H=>?_
   refine ld_str (e:=a0.getD s50.2.toNat default) (rd_get hR0 (es_get (l:=a0) (tn h75))) ?_
   refine ob_ck H fun h76 H=>?_
   obtain ⟨v77,hv78,H⟩:=call_st H
   refine ⟨(a1.getD s50.2.toNat 0,v77),⟨hv78⟩,⟨trivial⟩,?_⟩
   refine ⟨⟨rfl⟩,?_⟩
   refine ob_ck H fun h79 H=>?_
   refine ob_ck H fun h80 H=>?_
   refine ob_ck H fun h81 H=>?_
   refine ob_ck H fun h82 H=>?_
   replace H:=some_st H
   refine ⟨(m51,(s50.1++((((a0.getD s50.2.toNat default)++(lit [32]))++v77)++(lit [32])),s50.2+1)),⟨H,Nat.lt_succ_self _⟩,⟨trivial⟩,⟨rfl⟩,?_⟩
   repeat refine mo1Q1 ?_
   trivial
  ·replace H:=some_st H
   dsimp only [stp,sm] at H
   refine ⟨s50.1,⟨H⟩,⟨rfl⟩,?_⟩
   repeat refine mo1Q1 ?_
   trivial
 ·intro v46 H
  have hfin:=fin_st H
  repeat refine mf1Q1 ?_
  trivial
def c51 (p:(ByteArray×Int×Bool×((Option Addr×Nat)×List Int)×Nat)):List Value:=[.string p.1,.int .i64 p.2.1,.bool p.2.2.1,.slice p.2.2.2.1.1.1 p.2.2.2.1.2.length p.2.2.2.1.1.2,.float .f64 p.2.2.2.2]
theorem c51_len:∀a,(c51 a).length=5:=fun _=>rfl
def P51 (q:PH) (p:(ByteArray×Int×Bool×((Option Addr×Nat)×List Int)×Nat)):Prop:=Reads q p.2.2.2.1.1.1 (ei .i64 p.2.2.2.1.2)∧p.2.2.2.1.2.length≤p.2.2.2.1.1.2
def R51 (p:(ByteArray×Int×Bool×((Option Addr×Nat)×List Int)×Nat)):List (Option Addr×List Value):=[(p.2.2.2.1.1.1,ei .i64 p.2.2.2.1.2)]
def cap51 (p:(ByteArray×Int×Bool×((Option Addr×Nat)×List Int)×Nat)):Prop:=p.2.2.2.1.2.length≤p.2.2.2.1.1.2
theorem P51.mono {q q':PH} (h:q.le q') {p:(ByteArray×Int×Bool×((Option Addr×Nat)×List Int)×Nat)} (hp:P51 q p):P51 q' p:=⟨Reads.mono h hp.1,hp.2⟩
theorem P51.rds {q:PH} {l:List ((ByteArray×Int×Bool×((Option Addr×Nat)×List Int)×Nat))} (h:∀p∈l,P51 q p):RdsOk q (l.flatMap R51):=rds_of fun x hx=>by obtain ⟨p,hp,hx⟩:=List.mem_flatMap.1 hx;have h:=h p hp;simp only [R51,List.mem_cons,List.not_mem_nil,or_false] at hx;rcases hx with rfl;exact h.1
theorem P51.cap {q:PH} {l:List ((ByteArray×Int×Bool×((Option Addr×Nat)×List Int)×Nat))} (h:∀p∈l,P51 q p):∀p∈l,cap51 p:=fun p hp=>(h p hp).2
theorem mo2Q2 {p q:Prop} (k:q) (h:p:=by first | exact rfl | exact Iff.rfl | exact ⟨rfl,rfl⟩ | exact decide_eq_true_iff | (constructor<;>first | exact rfl | (simp only [ei,eb,es,ec,c51,gmin,gmax,List.map_append,List.flatMap_append,List.nil_append,List.append_nil,List.append_assoc];done) | omega | (simp only [List.nil_append,List.length_append,List.length_cons,List.length_nil];omega) | (simp [ei,eb,es,ec,c51,gmin,gmax];done)) | exact rfl | (simp only [ei,eb,es,ec,c51,gmin,gmax,List.map_append,List.flatMap_append,List.nil_append,List.append_nil,List.append_assoc];done) | omega | (simp only [List.nil_append,List.length_append,List.length_cons,List.length_nil];omega) | (simp [ei,eb,es,ec,c51,gmin,gmax];done) | simp [ei,eb,es,ec,c51,gmin,gmax]):Ob p∧q:=⟨⟨h⟩,k⟩
noncomputable def g5 (a0:(Int×Int×Int×Int×List Int×Int×List (ByteArray×Int×Bool×((Option Addr×Nat)×List Int)×Nat)×List Int×List ByteArray×Int×Int)):Option (ByteArray):=
 (g10 a0.1).bind fun v84=>
 ck ((lit [115,116,101,112,115,32]).size+v84.size≤9223372036854775807) <|
 ck (((lit [115,116,101,112,115,32])++v84).size+(lit [32,101,114,114,111,114,115,32]).size≤9223372036854775807) <|
 (g10 a0.2.1).bind fun v88=>
 ck ((((lit [115,116,101,112,115,32])++v84)++(lit [32,101,114,114,111,114,115,32])).size+v88.size≤9223372036854775807) <|
 ck (((((lit [115,116,101,112,115,32])++v84)++(lit [32,101,114,114,111,114,115,32]))++v88).size+(lit [32,98,101,108,108,115,32]).size≤9223372036854775807) <|
 (g10 a0.2.2.1).bind fun v92=>
 ck ((((((lit [115,116,101,112,115,32])++v84)++(lit [32,101,114,114,111,114,115,32]))++v88)++(lit [32,98,101,108,108,115,32])).size+v92.size≤9223372036854775807) <|
 ck (((((((lit [115,116,101,112,115,32])++v84)++(lit [32,101,114,114,111,114,115,32]))++v88)++(lit [32,98,101,108,108,115,32]))++v92).size+(lit [32,115,99,114,111,108,108,101,100,32]).size≤9223372036854775807) <|
 (g10 a0.2.2.2.1).bind fun v96=>
 ck ((((((((lit [115,116,101,112,115,32])++v84)++(lit [32,101,114,114,111,114,115,32]))++v88)++(lit [32,98,101,108,108,115,32]))++v92)++(lit [32,115,99,114,111,108,108,101,100,32])).size+v96.size≤9223372036854775807) <|
 ck (((((((((lit [115,116,101,112,115,32])++v84)++(lit [32,101,114,114,111,114,115,32]))++v88)++(lit [32,98,101,108,108,115,32]))++v92)++(lit [32,115,99,114,111,108,108,101,100,32]))++v96).size+(lit [32,119,114,111,110,103,32]).size≤9223372036854775807) <|
 (g10 ((a0.2.2.2.2.1.length:Nat):Int)).bind fun v100=>
 ck ((((((((((lit [115,116,101,112,115,32])++v84)++(lit [32,101,114,114,111,114,115,32]))++v88)++(lit [32,98,101,108,108,115,32]))++v92)++(lit [32,115,99,114,111,108,108,101,100,32]))++v96)++(lit [32,119,114,111,110,103,32])).size+v100.size≤9223372036854775807) <|
 ck (((((((((((lit [115,116,101,112,115,32])++v84)++(lit [32,101,114,114,111,114,115,32]))++v88)++(lit [32,98,101,108,108,115,32]))++v92)++(lit [32,115,99,114,111,108,108,101,100,32]))++v96)++(lit [32,119,114,111,110,103,32]))++v100).size+(lit [32]).size≤9223372036854775807) <|
 (g11 a0.2.2.2.2.2.1).bind fun v104=>
 ck ((((((((((((lit [115,116,101,112,115,32])++v84)++(lit [32,101,114,114,111,114,115,32]))++v88)++(lit [32,98,101,108,108,115,32]))++v92)++(lit [32,115,99,114,111,108,108,101,100,32]))++v96)++(lit [32,119,114,111,110,103,32]))++v100)++(lit [32])).size+v104.size≤9223372036854775807) <|
 ck (((((((((((((lit [115,116,101,112,115,32])++v84)++(lit [32,101,114,114,111,114,115,32]))++v88)++(lit [32,98,101,108,108,115,32]))++v92)++(lit [32,115,99,114,111,108,108,101,100,32]))++v96)++(lit [32,119,114,111,110,103,32]))++v100)++(lit [32]))++v104).size+(lit [10]).size≤9223372036854775807) <|
 jn (α:=_) (β:=ByteArray) (fun k138=>
   (loopO (σ:=ByteArray×Int) (ρ:=ByteArray) (fun s141=>
     if s141.2<((a0.2.2.2.2.2.2.2.2.1.length:Nat):Int) then
      (
       ck (s141.1.size+(lit [124]).size≤9223372036854775807) <|
       ck (0≤s141.2∧s141.2<((a0.2.2.2.2.2.2.2.2.1.length:Nat):Int)) <|
       ck ((s141.1++(lit [124])).size+(a0.2.2.2.2.2.2.2.2.1.getD s141.2.toNat default).size≤9223372036854775807) <|
       ck (((s141.1++(lit [124]))++(a0.2.2.2.2.2.2.2.2.1.getD s141.2.toNat default)).size+(lit [10]).size≤9223372036854775807) <|
       ck (inR .i64 (s141.2+1)) <|
       some (.go (((s141.1++(lit [124]))++(a0.2.2.2.2.2.2.2.2.1.getD s141.2.toNat default))++(lit [10]),s141.2+1))
      )
     else
      some (.out s141.1)
    ) (((((((((((((lit [115,116,101,112,115,32])++v84)++(lit [32,101,114,114,111,114,115,32]))++v88)++(lit [32,98,101,108,108,115,32]))++v92)++(lit [32,115,99,114,111,108,108,101,100,32]))++v96)++(lit [32,119,114,111,110,103,32]))++v100)++(lit [32]))++v104)++(lit [10]),0)).bind fun o155=>
    k138 o155
 ) (fun v137=>
  ck (v137.size+(lit [97,116,32]).size≤9223372036854775807) <|
  (g10 a0.2.2.2.2.2.2.2.2.2.1).bind fun v164=>
  ck ((v137++(lit [97,116,32])).size+v164.size≤9223372036854775807) <|
  ck (((v137++(lit [97,116,32]))++v164).size+(lit [32]).size≤9223372036854775807) <|
  (g10 a0.2.2.2.2.2.2.2.2.2.2).bind fun v168=>
  ck ((((v137++(lit [97,116,32]))++v164)++(lit [32])).size+v168.size≤9223372036854775807) <|
  ck (((((v137++(lit [97,116,32]))++v164)++(lit [32]))++v168).size+(lit [10]).size≤9223372036854775807) <|
  some (((((v137++(lit [97,116,32]))++v164)++(lit [32]))++v168)++(lit [10]))
 )
noncomputable def k5:Eng.CS:={ f:=5,calm:=false,more:=0,ι:=(Int×Int×Int×Int×List Int×Int×List (ByteArray×Int×Bool×((Option Addr×Nat)×List Int)×Nat)×List Int×List ByteArray×Int×Int)×ByteArray×((Option Addr×Nat)×(Option Addr×Nat)×(Option Addr×Nat)×(Option Addr×Nat)),ok:=fun i=>g5 i.1=some i.2.1∧i.1.2.2.2.2.1.length≤i.2.2.1.2∧i.1.2.2.2.2.2.2.1.length≤i.2.2.2.1.2∧i.1.2.2.2.2.2.2.2.1.length≤i.2.2.2.2.1.2∧i.1.2.2.2.2.2.2.2.2.1.length≤i.2.2.2.2.2.2,rds:=fun i=>[(i.2.2.1.1,ei .i64 i.1.2.2.2.2.1),(i.2.2.2.1.1,ec c51 i.1.2.2.2.2.2.2.1),(i.2.2.2.2.1.1,ei .u8 i.1.2.2.2.2.2.2.2.1),(i.2.2.2.2.2.1,es i.1.2.2.2.2.2.2.2.2.1)],args:=fun i=>[.w (.agg [.v (.int .i64 (i.1.1)),.v (.int .i64 (i.1.2.1)),.v (.int .i64 (i.1.2.2.1)),.v (.int .i64 (i.1.2.2.2.1)),.v (.slice i.2.2.1.1 i.1.2.2.2.2.1.length i.2.2.1.2),.v (.int .i64 (i.1.2.2.2.2.2.1)),.v (.slice i.2.2.2.1.1 i.1.2.2.2.2.2.2.1.length i.2.2.2.1.2),.v (.slice i.2.2.2.2.1.1 i.1.2.2.2.2.2.2.2.1.length i.2.2.2.2.1.2),.v (.slice i.2.2.2.2.2.1 i.1.2.2.2.2.2.2.2.2.1.length i.2.2.2.2.2.2),.v (.int .i64 (i.1.2.2.2.2.2.2.2.2.2.1)),.v (.int .i64 (i.1.2.2.2.2.2.2.2.2.2.2))])],res:=fun _=>.bad,rn:=[],gr:=true,γ:=Unit,resG:=fun i _=>.v (.string (i.2.1)),LG:=fun i _=>[],okG:=fun i _=>True,rdsG:=fun i _=>[],fzr:=[] }
theorem k5_ok:CSOk Tryz.prog k5:=by
 refine R.cspecG Tryz.func5 (nq9 Tryz.func5) rfl rfl (fun _=>rfl) ?_
 rintro ⟨a0,r,⟨⟨A0_4,cp0_4⟩,⟨A0_6,cp0_6⟩,⟨A0_7,cp0_7⟩,⟨A0_8,cp0_8⟩⟩⟩ ⟨hok,hc0_4,hc0_6,hc0_7,hc0_8⟩ q hrds args hargs
 obtain ⟨hR0_4,hR0_6,hR0_7,hR0_8,_⟩:=hrds
 dsimp only at hR0_4 hc0_4 hR0_6 hc0_6 hR0_7 hc0_7 hR0_8 hc0_8
 dsimp only [k5] at hargs ⊢
 match args,hargs with
 | [_],hargs=>
 obtain ⟨rfl,_⟩:=hargs
 refine ⟨envC [k10,k11] false [(5,7)],6,envC_ok (css_cons ⟨fun _=>k10_ok,nofun⟩ (css_cons ⟨fun _=>k11_ok,nofun⟩ (css_nil))),?_⟩
 have H:Gives (g5 a0) (fun a=>a=r):=⟨r,hok,rfl⟩
 unfold g5 at H
 clear hok
 refine And.intro ⟨by kernel_rfl⟩ ?_
 obtain ⟨v84,hv85,H⟩:=call_st H
 refine ⟨(a0.1,v84),⟨hv85⟩,⟨trivial⟩,?_⟩
 refine ⟨⟨rfl⟩,?_⟩
 refine ob_ck H fun h86 H=>?_
 refine ob_ck H fun h87 H=>?_
 obtain ⟨v88,hv89,H⟩:=call_st H
 refine ⟨(a0.2.1,v88),⟨hv89⟩,⟨trivial⟩,?_⟩
 refine ⟨⟨rfl⟩,?_⟩
 refine ob_ck H fun h90 H=>?_
 refine ob_ck H fun h91 H=>?_
 obtain ⟨v92,hv93,H⟩:=call_st H
 refine ⟨(a0.2.2.1,v92),⟨hv93⟩,⟨trivial⟩,?_⟩
 refine ⟨⟨rfl⟩,?_⟩
 refine ob_ck H fun h94 H=>?_
 refine And.intro ⟨by kernel_rfl⟩ ?_
 refine ob_ck H fun h95 H=>?_
 obtain ⟨v96,hv97,H⟩:=call_st H
 refine ⟨(a0.2.2.2.1,v96),⟨hv97⟩,⟨trivial⟩,?_⟩
 refine ⟨⟨rfl⟩,?_⟩
 refine ob_ck H fun h98 H=>?_
 refine ob_ck H fun h99 H=>?_
 obtain ⟨v100,hv101,H⟩:=call_st H
 refine ⟨(((a0.2.2.2.2.1.length:Nat):Int),v100),⟨hv101⟩,⟨trivial⟩,?_⟩
 refine ⟨⟨rfl⟩,?_⟩
 refine ob_ck H fun h102 H=>?_
 refine ob_ck H fun h103 H=>?_
 obtain ⟨v104,hv105,H⟩:=call_st H
 refine ⟨(a0.2.2.2.2.2.1,v104),⟨hv105⟩,⟨trivial⟩,?_⟩
 refine ⟨⟨rfl⟩,?_⟩
 refine ob_ck H fun h106 H=>?_
 refine ob_ck H fun h107 H=>?_
 refine R.cut_fam H 44 [1] [] (fun v137=>[(3,.v (.string (v137)))]) (fun v137=>[]) [(0,.cells 28 [.v (.int .i64 (a0.1)),.v (.int .i64 (a0.2.1)),.v (.int .i64 (a0.2.2.1)),.v (.int .i64 (a0.2.2.2.1)),.v (.slice (A0_4) (a0.2.2.2.2.1.length) (cp0_4)),.v (.int .i64 (a0.2.2.2.2.2.1)),.v (.slice (A0_6) (a0.2.2.2.2.2.2.1.length) (cp0_6)),.v (.slice (A0_7) (a0.2.2.2.2.2.2.2.1.length) (cp0_7)),.v (.slice (A0_8) (a0.2.2.2.2.2.2.2.2.1.length) (cp0_8)),.v (.int .i64 (a0.2.2.2.2.2.2.2.2.2.1)),.v (.int .i64 (a0.2.2.2.2.2.2.2.2.2.2))])] 0 (fun H=>?_)
 refine And.intro ?_ ?_
 ·refine R.loop_fam (bind_st H) [1] [] (fun _ s141=>[(3,.v (.string (s141.1))),(4,.v (.int .i64 (s141.2)))]) (fun _ s141=>[]) 0 (fun n162 H=>?_)
  refine ⟨(n162,_),⟨H⟩,⟨trivial⟩,?_⟩
  repeat refine mo2Q2 ?_
  rintro ⟨m0,s141⟩ H _
  obtain ⟨m142,hm0,H⟩:=IG_succ H
  dsimp only at hm0
  subst hm0
  try dsimp only at H
  refine if_st H ?_ ?_<;>intro h156 H
  ·refine ob_ck H fun h157 H=>?_
   refine ob_ix hR0_8 (fun h=>es0 h) H fun h158 H=>?_
   refine ld_str (e:=a0.2.2.2.2.2.2.2.2.1.getD s141.2.toNat default) (rd_get hR0_8 (es_get (l:=a0.2.2.2.2.2.2.2.2.1) (tn h158))) ?_
   refine ob_ck H fun h159 H=>?_
   refine ob_ck H fun h160 H=>?_
   refine ob_ck H fun h161 H=>?_
   replace H:=some_st H
   refine ⟨(m142,(((s141.1++(lit [124]))++(a0.2.2.2.2.2.2.2.2.1.getD s141.2.toNat default))++(lit [10]),s141.2+1)),⟨H,Nat.lt_succ_self _⟩,⟨trivial⟩,⟨rfl⟩,?_⟩
   repeat refine mo2Q2 ?_
   trivial
  ·replace H:=some_st H
   dsimp only [stp,sm] at H
   refine ⟨s141.1,⟨H⟩,⟨rfl⟩,?_⟩
   repeat refine mo2Q2 ?_
   trivial
 ·intro v137 H
  refine And.intro ⟨by kernel_rfl⟩ ?_
  refine ob_ck H fun h163 H=>?_
  obtain ⟨v164,hv165,H⟩:=call_st H
  refine ⟨(a0.2.2.2.2.2.2.2.2.2.1,v164),⟨hv165⟩,⟨trivial⟩,?_⟩
  refine ⟨⟨rfl⟩,?_⟩
  refine ob_ck H fun h166 H=>?_
  refine ob_ck H fun h167 H=>?_
  obtain ⟨v168,hv169,H⟩:=call_st H
  refine ⟨(a0.2.2.2.2.2.2.2.2.2.2,v168),⟨hv169⟩,⟨trivial⟩,?_⟩
  refine ⟨⟨rfl⟩,?_⟩
  refine ob_ck H fun h170 H=>?_
  refine ob_ck H fun h171 H=>?_
  have hfin:=fin_st H
  first | subst hfin | rw [←hfin]
  refine ⟨(),⟨trivial⟩,⟨trivial⟩,?_⟩
  repeat refine mo2Q2 ?_
  trivial
noncomputable def g4 (a0:(Int×Int×Int×Int×List Int×Int×List (ByteArray×Int×Bool×((Option Addr×Nat)×List Int)×Nat)×List Int×List ByteArray×Int×Int)):Option (ByteArray):=
 (g7 ([(lit [115,116,101,112,115]),(lit [101,114,114,111,114,115]),(lit [98,101,108,108,115]),(lit [115,99,114,111,108,108,101,100]),(lit [119,114,111,110,103])]) ([a0.1,a0.2.1,a0.2.2.1,a0.2.2.2.1,((a0.2.2.2.2.1.length:Nat):Int)])).bind fun v172=>
 (g8 a0.2.2.2.2.2.1).bind fun v174=>
 ck (v172.size+v174.size≤9223372036854775807) <|
 ck ((v172++v174).size+(lit [10]).size≤9223372036854775807) <|
 jn (α:=_) (β:=ByteArray) (fun k208=>
   (loopO (σ:=ByteArray×Int) (ρ:=ByteArray) (fun s211=>
     if s211.2<((a0.2.2.2.2.2.2.2.2.1.length:Nat):Int) then
      (
       ck (0≤s211.2∧s211.2<((a0.2.2.2.2.2.2.2.2.1.length:Nat):Int)) <|
       ck ((lit [124]).size+(a0.2.2.2.2.2.2.2.2.1.getD s211.2.toNat default).size≤9223372036854775807) <|
       ck (((lit [124])++(a0.2.2.2.2.2.2.2.2.1.getD s211.2.toNat default)).size+(lit [10]).size≤9223372036854775807) <|
       ck (s211.1.size+(((lit [124])++(a0.2.2.2.2.2.2.2.2.1.getD s211.2.toNat default))++(lit [10])).size≤9223372036854775807) <|
       ck (inR .i64 (s211.2+1)) <|
       some (.go (s211.1++(((lit [124])++(a0.2.2.2.2.2.2.2.2.1.getD s211.2.toNat default))++(lit [10])),s211.2+1))
      )
     else
      some (.out s211.1)
    ) ((v172++v174)++(lit [10]),0)).bind fun o225=>
    k208 o225
 ) (fun v207=>
  ck (v207.size+(lit [97,116,32]).size≤9223372036854775807) <|
  (g9 a0.2.2.2.2.2.2.2.2.2.1).bind fun v234=>
  ck ((v207++(lit [97,116,32])).size+v234.size≤9223372036854775807) <|
  ck (((v207++(lit [97,116,32]))++v234).size+(lit [32]).size≤9223372036854775807) <|
  (g9 a0.2.2.2.2.2.2.2.2.2.2).bind fun v238=>
  ck ((((v207++(lit [97,116,32]))++v234)++(lit [32])).size+v238.size≤9223372036854775807) <|
  ck (((((v207++(lit [97,116,32]))++v234)++(lit [32]))++v238).size+(lit [10]).size≤9223372036854775807) <|
  some (((((v207++(lit [97,116,32]))++v234)++(lit [32]))++v238)++(lit [10]))
 )
noncomputable def k4:Eng.CS:={ f:=4,calm:=false,more:=0,ι:=(Int×Int×Int×Int×List Int×Int×List (ByteArray×Int×Bool×((Option Addr×Nat)×List Int)×Nat)×List Int×List ByteArray×Int×Int)×ByteArray×((Option Addr×Nat)×(Option Addr×Nat)×(Option Addr×Nat)×(Option Addr×Nat)),ok:=fun i=>g4 i.1=some i.2.1∧i.1.2.2.2.2.1.length≤i.2.2.1.2∧i.1.2.2.2.2.2.2.1.length≤i.2.2.2.1.2∧i.1.2.2.2.2.2.2.2.1.length≤i.2.2.2.2.1.2∧i.1.2.2.2.2.2.2.2.2.1.length≤i.2.2.2.2.2.2,rds:=fun i=>[(i.2.2.1.1,ei .i64 i.1.2.2.2.2.1),(i.2.2.2.1.1,ec c51 i.1.2.2.2.2.2.2.1),(i.2.2.2.2.1.1,ei .u8 i.1.2.2.2.2.2.2.2.1),(i.2.2.2.2.2.1,es i.1.2.2.2.2.2.2.2.2.1)],args:=fun i=>[.w (.agg [.v (.int .i64 (i.1.1)),.v (.int .i64 (i.1.2.1)),.v (.int .i64 (i.1.2.2.1)),.v (.int .i64 (i.1.2.2.2.1)),.v (.slice i.2.2.1.1 i.1.2.2.2.2.1.length i.2.2.1.2),.v (.int .i64 (i.1.2.2.2.2.2.1)),.v (.slice i.2.2.2.1.1 i.1.2.2.2.2.2.2.1.length i.2.2.2.1.2),.v (.slice i.2.2.2.2.1.1 i.1.2.2.2.2.2.2.2.1.length i.2.2.2.2.1.2),.v (.slice i.2.2.2.2.2.1 i.1.2.2.2.2.2.2.2.2.1.length i.2.2.2.2.2.2),.v (.int .i64 (i.1.2.2.2.2.2.2.2.2.2.1)),.v (.int .i64 (i.1.2.2.2.2.2.2.2.2.2.2))])],res:=fun _=>.bad,rn:=[],gr:=true,γ:=Unit,resG:=fun i _=>.v (.string (i.2.1)),LG:=fun i _=>[],okG:=fun i _=>True,rdsG:=fun i _=>[],fzr:=[] }
theorem k4_ok:CSOk Tryz.prog k4:=by
 refine R.cspecG Tryz.func4 (nq9 Tryz.func4) rfl rfl (fun _=>rfl) ?_
 rintro ⟨a0,r,⟨⟨A0_4,cp0_4⟩,⟨A0_6,cp0_6⟩,⟨A0_7,cp0_7⟩,⟨A0_8,cp0_8⟩⟩⟩ ⟨hok,hc0_4,hc0_6,hc0_7,hc0_8⟩ q hrds args hargs
 obtain ⟨hR0_4,hR0_6,hR0_7,hR0_8,_⟩:=hrds
 dsimp only at hR0_4 hc0_4 hR0_6 hc0_6 hR0_7 hc0_7 hR0_8 hc0_8
 dsimp only [k4] at hargs ⊢
 match args,hargs with
 | [_],hargs=>
 obtain ⟨rfl,_⟩:=hargs
 refine ⟨envC [k7,k8,k9] false [(4,7)],6,envC_ok (css_cons ⟨fun _=>k7_ok,nofun⟩ (css_cons ⟨fun _=>k8_ok,nofun⟩ (css_cons ⟨fun _=>k9_ok,nofun⟩ (css_nil)))),?_⟩
 have H:Gives (g4 a0) (fun a=>a=r):=⟨r,hok,rfl⟩
 unfold g4 at H
 clear hok
 refine And.intro ⟨by kernel_rfl⟩ ?_
 refine ⟨(Pn.calm 0 (Pn.calm 1 (Pn.calm 2 (Pn.calm 3 (Pn.calm 4 (Pn.calm 5 (Pn.calm 6 (Pn.calm 7 (Pn.calm 8 (Pn.calm 9 (Pn.calm 10 (Pn.calm 11 (Pn.calm 14 (Pn.calm 15 (Pn.eff 12 [2,4,6,8,11,1,3,5,7,10,9] (Pn.calm 13 (Pn.calm 16 (Pn.calm 17 (Pn.calm 18 (Pn.calm 19 Pn.done))))) Pn.no))))))))))))))),⟨by kernel_rfl⟩,?_⟩
 refine And.intro ?_ trivial
 refine And.intro ⟨fun _ _ _ h=>h⟩ ?_
 obtain ⟨v172,hv173,H⟩:=call_st H
 refine ⟨([(lit [115,116,101,112,115]),(lit [101,114,114,111,114,115]),(lit [98,101,108,108,115]),(lit [115,99,114,111,108,108,101,100]),(lit [119,114,111,110,103])],[a0.1,a0.2.1,a0.2.2.1,a0.2.2.2.1,((a0.2.2.2.2.1.length:Nat):Int)],v172),⟨hv173⟩,⟨trivial⟩,?_⟩
 refine And.intro ⟨by first | rfl | (simp;done),by first | rfl | (simp [ei,eb,es,ec,c51];done) | (simp only [ei,eb,es,ec,c51,List.map_append,List.nil_append,List.append_assoc];rfl)⟩ ?_
 refine And.intro ⟨by first | rfl | (simp;done),by first | rfl | (simp [ei,eb,es,ec,c51];done) | (simp only [ei,eb,es,ec,c51,List.map_append,List.nil_append,List.append_assoc];rfl)⟩ ?_
 obtain ⟨v174,hv175,H⟩:=call_st H
 refine ⟨(a0.2.2.2.2.2.1,v174),⟨hv175⟩,⟨trivial⟩,?_⟩
 refine ⟨⟨rfl⟩,?_⟩
 refine ob_ck H fun h176 H=>?_
 refine ob_ck H fun h177 H=>?_
 refine R.cut_fam H 15 [1] [] (fun v207=>[(4,.v (.string (v207)))]) (fun v207=>[]) [(2,.arr 9 1 (5) (es ([(lit [115,116,101,112,115]),(lit [101,114,114,111,114,115]),(lit [98,101,108,108,115]),(lit [115,99,114,111,108,108,101,100]),(lit [119,114,111,110,103])]))),(4,.arr 3 1 (5) (ei .i64 ([a0.1,a0.2.1,a0.2.2.1,a0.2.2.2.1,((a0.2.2.2.2.1.length:Nat):Int)]))),(0,.cells 28 [.v (.int .i64 (a0.1)),.v (.int .i64 (a0.2.1)),.v (.int .i64 (a0.2.2.1)),.v (.int .i64 (a0.2.2.2.1)),.v (.slice (A0_4) (a0.2.2.2.2.1.length) (cp0_4)),.v (.int .i64 (a0.2.2.2.2.2.1)),.v (.slice (A0_6) (a0.2.2.2.2.2.2.1.length) (cp0_6)),.v (.slice (A0_7) (a0.2.2.2.2.2.2.2.1.length) (cp0_7)),.v (.slice (A0_8) (a0.2.2.2.2.2.2.2.2.1.length) (cp0_8)),.v (.int .i64 (a0.2.2.2.2.2.2.2.2.2.1)),.v (.int .i64 (a0.2.2.2.2.2.2.2.2.2.2))])] 0 (fun H=>?_)
 refine And.intro ?_ ?_
 ·refine R.loop_fam (bind_st H) [1,5] [] (fun _ s211=>[(4,.v (.string (s211.1))),(6,.v (.int .i64 (s211.2)))]) (fun _ s211=>[]) 0 (fun n232 H=>?_)
  refine ⟨(n232,_),⟨H⟩,⟨trivial⟩,?_⟩
  repeat refine mo2Q2 ?_
  rintro ⟨m0,s211⟩ H _
  obtain ⟨m212,hm0,H⟩:=IG_succ H
  dsimp only at hm0
  subst hm0
  try dsimp only at H
  refine if_st H ?_ ?_<;>intro h226 H
  ·refine ob_ix hR0_8 (fun h=>es0 h) H fun h227 H=>?_
   refine ld_str (e:=a0.2.2.2.2.2.2.2.2.1.getD s211.2.toNat default) (rd_get hR0_8 (es_get (l:=a0.2.2.2.2.2.2.2.2.1) (tn h227))) ?_
   refine ob_ck H fun h228 H=>?_
   refine ob_ck H fun h229 H=>?_
   refine ob_ck H fun h230 H=>?_
   refine ob_ck H fun h231 H=>?_
   replace H:=some_st H
   refine ⟨(m212,(s211.1++(((lit [124])++(a0.2.2.2.2.2.2.2.2.1.getD s211.2.toNat default))++(lit [10])),s211.2+1)),⟨H,Nat.lt_succ_self _⟩,⟨trivial⟩,⟨rfl⟩,?_⟩
   repeat refine mo2Q2 ?_
   trivial
  ·replace H:=some_st H
   dsimp only [stp,sm] at H
   refine ⟨s211.1,⟨H⟩,⟨rfl⟩,?_⟩
   repeat refine mo2Q2 ?_
   trivial
 ·intro v207 H
  refine And.intro ⟨by kernel_rfl⟩ ?_
  refine ob_ck H fun h233 H=>?_
  obtain ⟨v234,hv235,H⟩:=call_st H
  refine ⟨(a0.2.2.2.2.2.2.2.2.2.1,v234),⟨hv235⟩,⟨trivial⟩,?_⟩
  refine ⟨⟨rfl⟩,?_⟩
  refine ob_ck H fun h236 H=>?_
  refine ob_ck H fun h237 H=>?_
  obtain ⟨v238,hv239,H⟩:=call_st H
  refine ⟨(a0.2.2.2.2.2.2.2.2.2.2,v238),⟨hv239⟩,⟨trivial⟩,?_⟩
  refine ⟨⟨rfl⟩,?_⟩
  refine ob_ck H fun h240 H=>?_
  refine ob_ck H fun h241 H=>?_
  have hfin:=fin_st H
  first | subst hfin | rw [←hfin]
  refine ⟨(),⟨trivial⟩,⟨trivial⟩,?_⟩
  repeat refine mo2Q2 ?_
  trivial
end Go.Proofs.YtejfkphoeffpeaaGreatDoor
end
section
namespace Go.Eng
open Go Go.RowKit
namespace Exe
noncomputable section
theorem fVal_eq (x:Value) (K:Value→Prop):fVal x K=K x:=by cases x<;>rfl
theorem fSV0_eq' (x:SV) (K:SV→Prop):fSV0 x K=K x:=by
 cases x<;>first | rfl | exact fVal_eq _ _ | (rename_i b;cases b<;>rfl)
theorem fSVL_eq':∀(l:List SV) (K:List SV→Prop),fSVL l K=K l
 | [],K=>rfl
 | x::r,K=>by rw [fSVL_c,fSV0_eq',fSVL_eq' r]
theorem fSV_eq' (x:SV) (K:SV→Prop):fSV x K=K x:=by
 cases x<;>first | rfl | exact fVal_eq _ _ | exact fSVL_eq' _ _ | (rename_i b;cases b<;>rfl)
def tru:SV→Option Bool
 | .bb b=>some b
 | .b p d=>some (@decide p d)
 | _=>none
def xar (wr:Bool) (k:IntKind) (n:Int):SV:=.v (.int k (k.wrap n))
def xint (op:BinOp) (k:IntKind) (a b:Int):Option SV:=
 match op with
 | .add=>some (xar true k (a+b))
 | .sub=>some (xar true k (a-b))
 | .mul=>some (xar true k (a * b))
 | .quo=>(match decide (b=0) with | true=>none | false=>some (xar true k (a.tdiv b)))
 | .rem=>(match decide (b=0) with | true=>none | false=>some (.v (.int k (a.tmod b))))
 | .and=>some (.v (.int k (bits .and k a b)))
 | .or=>some (.v (.int k (bits .or k a b)))
 | .xor=>some (.v (.int k (bits .xor k a b)))
 | .eql=>some (.b (a=b) (Int.instDecidableEq a b))
 | .neq=>some (.b (¬a=b) (@instDecidableNot _ (Int.instDecidableEq a b)))
 | .lss=>some (.b (a<b) (Int.decLt a b))
 | .leq=>some (.b (a≤b) (Int.decLe a b))
 | .gtr=>some (.b (b<a) (Int.decLt b a))
 | .geq=>some (.b (b≤a) (Int.decLe b a))
 | _=>none
theorem xint_ok {op:BinOp} {k:IntKind} {a b:Int} {y:SV} (h:xint op k a b=some y) {K:SV→Prop} (hK:K y):intK op true k a b K:=by
  cases op<;>simp only [xint] at h<;>simp only [intK,arK]<;>first
    | (cases h;exact hK)
    | (split at h
       · cases h
       · rename_i e;cases h;exact ⟨⟨of_decide_eq_false e⟩,hK⟩)
    | cases h
def xsh (op:BinOp) (k:IntKind) (a b:Int):Option SV:=
 match op with
 | .shl=>(match decide (0≤b∧b≤k.bits) with | true=>some (.v (.int k (k.wrap (a * 2 ^ b.toNat)))) | false=>none)
 | .shr=>(match decide (0≤b∧b≤k.bits) with | true=>some (.v (.int k (a / 2 ^ b.toNat))) | false=>none)
 | _=>none
theorem xsh_ok {op:BinOp} {k:IntKind} {a b:Int} {y:SV} (h:xsh op k a b=some y) {K:SV→Prop} (hK:K y):shK op k a b K:=by
  cases op<;>simp only [xsh] at h<;>simp only [shK]<;>first
    | (split at h
       · rename_i e;cases h;exact ⟨⟨of_decide_eq_true e⟩,hK⟩
       · cases h)
    | cases h
def xstr (op:BinOp) (a b:ByteArray):Option SV:=
 match op with
 | .add=>(match decide (a.size+b.size≤9223372036854775807) with | true=>some (.v (.string (a++b))) | false=>none)
 | .eql=>some (.b (a.data.toList=b.data.toList) (decStr a b))
 | .neq=>some (.b (¬a.data.toList=b.data.toList) (@instDecidableNot _ (decStr a b)))
 | _=>none
theorem xstr_ok {op:BinOp} {a b:ByteArray} {y:SV} (h:xstr op a b=some y) {K:SV→Prop} (hK:K y):strK op a b K:=by
  cases op<;>simp only [xstr] at h<;>simp only [strK]<;>first
    | (cases h;exact hK)
    | (split at h
       · rename_i e;cases h;exact ⟨⟨of_decide_eq_true e⟩,hK⟩
       · cases h)
    | cases h
def xflr (k:FloatKind) (x:Option Nat):Option SV:=match x with | some r=>some (.v (.float k r)) | none=>none
theorem xflr_ok {k:FloatKind} {x:Option Nat} {y:SV} (h:xflr k x=some y) {K:SV→Prop} (hK:K y):flrK k x K:=by
 unfold xflr at h
 split at h
 ·rename_i r;cases h;exact ⟨⟨r,rfl⟩,fun r' e=>by cases e;exact hK⟩
 ·cases h
def xflt (op:BinOp) (k:FloatKind) (a b:Nat):Option SV:=
 match op with
 | .add=>xflr k (k.format.add a b)
 | .sub=>xflr k (k.format.sub a b)
 | .mul=>xflr k (k.format.mul a b)
 | .quo=>xflr k (k.format.div a b)
 | .eql=>some (.b (k.format.order a b=some .eq) (decOrd _ _))
 | .neq=>some (.b (¬k.format.order a b=some .eq) (@instDecidableNot _ (decOrd _ _)))
 | .lss=>some (.b (k.format.order a b=some .lt) (decOrd _ _))
 | .leq=>some (.b (k.format.order a b=some .lt∨k.format.order a b=some .eq) (@instDecidableOr _ _ (decOrd _ _) (decOrd _ _)))
 | .gtr=>some (.b (k.format.order a b=some .gt) (decOrd _ _))
 | .geq=>some (.b (k.format.order a b=some .gt∨k.format.order a b=some .eq) (@instDecidableOr _ _ (decOrd _ _) (decOrd _ _)))
 | _=>none
theorem xflt_ok {op:BinOp} {k:FloatKind} {a b:Nat} {y:SV} (h:xflt op k a b=some y) {K:SV→Prop} (hK:K y):fltK op k a b K:=by
 cases op<;>simp only [xflt] at h<;>simp only [fltK]<;>first
  | (cases h;exact hK)
  | exact xflr_ok h hK
  | cases h
def xeq (d:Ty) (x y:SV):Option SV:=
 match d with
 | .bool=>(match x,y with
  | .bb true,.bb true=>some (.bb true) | .bb false,.bb false=>some (.bb true) | .bb true,.bb false=>some (.bb false) | .bb false,.bb true=>some (.bb false)
  | .b p d,.bb true=>some (.b p d)
  | .b p d,.bb false=>some (.b (¬p) (@instDecidableNot _ d))
  | .bb true,.b p d=>some (.b p d)
  | .bb false,.b p d=>some (.b (¬p) (@instDecidableNot _ d))
  | .b p d,.b p' d'=>some (.b (p↔p') (@instDecidableIff _ _ d d'))
  | _,_=>none)
 | .ptr _=>(match x,y with
  | .lp _ _,.v (.pointer none)=>some (.bb false)
  | .v (.pointer none),.lp _ _=>some (.bb false)
  | .v (.pointer none),.v (.pointer none)=>some (.bb true)
  | _,_=>none)
 | .func=>(match x,y with
  | .fn _ _,.v .nilFunc=>some (.bb false)
  | .v .nilFunc,.v .nilFunc=>some (.bb true)
  | _,_=>none)
 | .map _ _=>(match x,y with
  | .mr _,.v (.map none)=>some (.bb false)
  | .v (.map none),.v (.map none)=>some (.bb true)
  | _,_=>none)
 | .slice _=>(match x,y with
  | .v (.slice none _ _),.v (.slice none _ _)=>some (.b ((none:Option Addr)=none) (decNone none))
  | _,_=>none)
 | _=>none
theorem xeq_ok {d:Ty} {x y z:SV} (h:xeq d x y=some z) {K:SV→Prop} (hK:K z):eqK d x y K:=by
 unfold xeq at h
 split at h
 ·split at h<;>first | (cases h;exact hK) | cases h
 ·split at h<;>first | (cases h;exact hK) | cases h
 ·split at h<;>first | (cases h;exact hK) | cases h
 ·split at h<;>first | (cases h;exact hK) | cases h
 ·split at h<;>first | (cases h;exact hK) | cases h
 ·cases h
def xnot (x:SV):Option SV:=
 match x with
 | .bb true=>some (.bb false)
 | .bb false=>some (.bb true)
 | .b p d=>some (.b (¬p) (@instDecidableNot _ d))
 | _=>none
theorem xnot_ok {x z:SV} (h:xnot x=some z) {K:SV→Prop} (hK:K z):notK x K:=by
 unfold xnot at h
 split at h<;>first | (cases h;exact hK) | cases h
def xbin (d:Ty) (op:BinOp) (x y:SV):Option SV:=
 match x,y with
 | .v (.int k a),.v (.int k' b)=>
  (match op with
  | .shl=>xsh .shl k a b
  | .shr=>xsh .shr k a b
  | op=>match Nat.beq (kc k) (kc k') with | true=>xint op k a b | false=>none)
 | .v (.string a),.v (.string b)=>xstr op a b
 | .v (.float k a),.v (.float k' b)=>(match fkc k k' with | true=>xflt op k a b | false=>none)
 | .agg _,_=>none
 | x,y=>
  (match op with
  | .eql=>xeq d x y
  | .neq=>(match xeq d x y with | some r=>xnot r | none=>none)
  | _=>none)
theorem eqsK_of {c:List Ty} {d:Ty} {x y:SV} {K:SV→Prop} (hx:∀l,x≠.agg l) (h:eqK d x y K):eqsK c d x y K:=by
 unfold eqsK
 split
 ·exact absurd rfl (hx _)
 ·exact h
theorem xbin_ok {c:List Ty} {d:Ty} {op:BinOp} {x y z:SV} (h:xbin d op x y=some z) {K:SV→Prop} (hK:K z):binK c d op true x y K:=by
  unfold xbin at h
  split at h
  · cases op<;>first
      | exact xsh_ok h hK
      | (simp only at h
         unfold binK
         dsimp only
         split at h
         · rename_i e;rw [e];exact xint_ok h hK
         · cases h)
  · exact xstr_ok h hK
  · split at h
    · rename_i e
      unfold binK
      simp only [e]
      exact xflt_ok h hK
    · cases h
  · cases h
  · rename_i N4 N1 N2 N3
    unfold binK
    split
    · exact (N1 _ _ _ _ rfl rfl).elim
    · exact (N2 _ _ rfl rfl).elim
    · exact (N3 _ _ _ _ rfl rfl).elim
    · split at h
      · exact eqsK_of (fun l e=>(N4 l e).elim) (xeq_ok h hK)
      · split at h
        · rename_i r e
          exact eqsK_of (fun l e=>(N4 l e).elim) (xeq_ok e (xnot_ok h hK))
        · cases h
      · cases h
def xbq (a b:SV) (K:(p:Prop)→Decidable p→Option SV):Option SV:=
 match a,b with
 | .bb true,.bb true=>K True instDecidableTrue
 | .bb false,.bb false=>K True instDecidableTrue
 | .bb true,.bb false=>K False instDecidableFalse
 | .bb false,.bb true=>K False instDecidableFalse
 | _,_=>none
def xeqL (c:List Ty):List SV→List SV→((p:Prop)→Decidable p→Option SV)→Option SV:=
 List.rec (motive:=fun _=>List SV→List SV→((p:Prop)→Decidable p→Option SV)→Option SV)
  (fun x y K=>match x,y with | [],[]=>K True instDecidableTrue | _,_=>none)
  (fun t _ ih x y K=>match t,x,y with
   | .int _,.v (.int k m)::s,.v (.int k' n)::r=>(match Nat.beq (kc k) (kc k') with | true=>ih s r fun p i=>K (m=n∧p) (@instDecidableAnd _ _ (Int.instDecidableEq m n) i) | false=>none)
   | .str,.v (.string a)::s,.v (.string b)::r=>ih s r fun p i=>K (a.data.toList=b.data.toList∧p) (@instDecidableAnd _ _ (decStr a b) i)
   | .bool,a::s,b::r=>xbq a b fun q d=>ih s r fun p i=>K (q∧p) (@instDecidableAnd _ _ d i)
   | _,_,_=>none) c
theorem xeqL_n {xs ys:List SV} {J:(p:Prop)→Decidable p→Option SV}:xeqL [] xs ys J=(match xs,ys with | [],[]=>J True instDecidableTrue | _,_=>none):=rfl
theorem xeqL_c {t:Ty} {c:List Ty} {xs ys:List SV} {J:(p:Prop)→Decidable p→Option SV}:xeqL (t::c) xs ys J=(match t,xs,ys with
   | .int _,.v (.int k m)::s,.v (.int k' n)::r=>(match Nat.beq (kc k) (kc k') with | true=>xeqL c s r fun p i=>J (m=n∧p) (@instDecidableAnd _ _ (Int.instDecidableEq m n) i) | false=>none)
   | .str,.v (.string a)::s,.v (.string b)::r=>xeqL c s r fun p i=>J (a.data.toList=b.data.toList∧p) (@instDecidableAnd _ _ (decStr a b) i)
   | .bool,a::s,b::r=>xbq a b fun q d=>xeqL c s r fun p i=>J (q∧p) (@instDecidableAnd _ _ d i)
   | _,_,_=>none):=rfl
theorem xqn {xs ys:List SV} {K:(p:Prop)→Decidable p→Prop}:eqsL [] xs ys K=(match xs,ys with | [],[]=>K True instDecidableTrue | _,_=>False):=rfl
theorem xqc {t:Ty} {c:List Ty} {xs ys:List SV} {K:(p:Prop)→Decidable p→Prop}:eqsL (t::c) xs ys K=(match t,xs,ys with
   | .int _,.v (.int k m)::s,.v (.int k' n)::r=>(match Nat.beq (kc k) (kc k') with | true=>eqsL c s r fun p i=>K (m=n∧p) (@instDecidableAnd _ _ (Int.instDecidableEq m n) i) | false=>False)
   | .str,.v (.string a)::s,.v (.string b)::r=>eqsL c s r fun p i=>K (a.data.toList=b.data.toList∧p) (@instDecidableAnd _ _ (decStr a b) i)
   | .bool,a::s,b::r=>bqK a b fun q d=>eqsL c s r fun p i=>K (q∧p) (@instDecidableAnd _ _ d i)
   | _,_,_=>False):=rfl
theorem xeqL_ok {z:SV}:∀{c:List Ty} {xs ys:List SV} {J:(p:Prop)→Decidable p→Option SV} {K:(p:Prop)→Decidable p→Prop},(∀p i,J p i=some z→K p i)→xeqL c xs ys J=some z→eqsL c xs ys K
 | [],xs,ys,J,K,hJ,h=>by
  rw [xeqL_n] at h
  rw [xqn]
  split at h
  ·exact hJ _ _ h
  ·cases h
 | t::c,xs,ys,J,K,hJ,h=>by
  rw [xeqL_c] at h
  rw [xqc]
  split at h
  ·split at h
   ·rename_i e;exact xeqL_ok (fun p i=>hJ _ _) h
   ·cases h
  ·exact xeqL_ok (fun p i=>hJ _ _) h
  ·unfold xbq at h
   split at h<;>first
    | exact xeqL_ok (fun p i=>hJ _ _) h
    | cases h
  ·cases h
def xbin2 (c:List Ty) (d:Ty) (op:BinOp) (x y:SV):Option SV:=
 match x,y with
 | .agg xs,.agg ys=>(match c,d,op with
  | t::c,.struct _,.eql=>xeqL (t::c) xs ys fun p i=>some (.b p i)
  | t::c,.struct _,.neq=>xeqL (t::c) xs ys fun p i=>some (.b (¬p) (@instDecidableNot _ i))
  | _,_,_=>none)
 | x,y=>xbin d op x y
theorem xbin2_ok {c:List Ty} {d:Ty} {op:BinOp} {x y z:SV} (h:xbin2 c d op x y=some z) {K:SV→Prop} (hK:K z):binK c d op true x y K:=by
 unfold xbin2 at h
 split at h
 ·rename_i xs ys
  split at h
  ·exact xeqL_ok (K:=fun p i=>K (.b p i)) (fun p i e=>by cases e;exact hK) h
  ·exact xeqL_ok (K:=fun p i=>K (.b (¬p) (@instDecidableNot _ i))) (fun p i e=>by cases e;exact hK) h
  ·cases h
 ·exact xbin_ok h hK
def xun (op:UnOp) (x:SV):Option SV:=
 match op,x with
 | .not,x=>xnot x
 | .neg,.v (.int k n)=>some (xar true k (0-n))
 | _,_=>none
theorem xun_ok {op:UnOp} {x z:SV} (h:xun op x=some z) {K:SV→Prop} (hK:K z):unK op true x K:=by
 unfold xun at h
 split at h
 ·exact xnot_ok h hK
 ·cases h;exact hK
 ·cases h
def xpick (c a b:SV):Option SV:=
 match tru c with
 | some true=>some a
 | some false=>some b
 | none=>none
theorem xpick_ok {c a b z:SV} (h:xpick c a b=some z) {K:SV→Prop} (hK:K z):pickK c a b K:=by
 unfold xpick at h
 cases c with
 | bb x=>cases x<;>(cases h;simp only [pickK,fSV_eq'];exact hK)
 | b p d=>
  simp only [pickK,fSV_eq']
  by_cases hp:p
  ·have e:tru (.b p d)=some true:=congrArg some (decide_eq_true hp)
   rw [e] at h;cases h;exact ⟨fun _=>hK,fun n=>absurd hp n⟩
  ·have e:tru (.b p d)=some false:=congrArg some (decide_eq_false hp)
   rw [e] at h;cases h;exact ⟨fun n=>absurd n hp,fun _=>hK⟩
 | _=>cases h
abbrev Mg:=Nat→Option LB
def xtake (cs:List SV) (o sz:Nat):Option (List SV):=
 match sz with
 | 0=>none
 | sz=>(match Nat.beq (takeN (dropN cs o) sz).length sz with | true=>some (takeN (dropN cs o) sz) | false=>none)
theorem xtake_ok {cs l:List SV} {o sz:Nat} (h:xtake cs o sz=some l):Nat.ble (o+sz) cs.length=true∧l=takeN (dropN cs o) sz:=by
 unfold xtake at h
 split at h
 ·cases h
 ·rename_i hne
  split at h
  ·rename_i e
   cases h
   refine ⟨?_,rfl⟩
   have e:=Nat.eq_of_beq_eq_true e
   rw [length_takeN,length_dropN] at e
   have:sz≠0:=fun h=>hne h
   exact Nat.ble_eq_true_of_le (by omega)
  ·cases h
def xload (T:Tab) (M:Mg) (t:Nat) (x:SV):Option SV:=
 match ty T t with
 | ⟨.other,_,_,_,_,_⟩=>none
 | ⟨d,sz,_,_,_,_⟩=>(match x with
  | .lp k o=>(match M k with
   | some (.cells _ cs)=>(match xtake cs o sz with | some l=>some (ofCells d l) | none=>none)
   | some (.row _ _ _ cs)=>(match xtake cs o sz with | some l=>some (ofCells d l) | none=>none)
   | _=>none)
  | _=>none)
section
variable {T:Tab} {q:PH} {L:LL} {M:Mg} {K:SV→Prop} {Γ:List Spec} {Δ:List CS} {fr:Fr}
theorem xload_ok (hM:∀k,getL L k=M k) {t:Nat} {x y:SV} (h:xload T M t x=some y) (hK:K y):loadK T q L t x K:=by
 unfold xload at h
 unfold loadK
 split at h
 ·cases h
 ·rename_i d sz byt z fl cm hne e
  have main:loadK1 d sz fl q L x K:=by
   unfold loadK1
   split at h
   ·rename_i k o
    dsimp only
    rw [hM k]
    split at h
    ·rename_i T' cs e'
     rw [e']
     split at h
     ·rename_i l hl
      cases h
      obtain ⟨h1,rfl⟩:=xtake_ok hl
      dsimp only
      rw [h1]
      simp only [fSV_eq']
      exact hK
     ·cases h
    ·rename_i E' s' n' cs e'
     rw [e']
     split at h
     ·rename_i l hl
      cases h
      obtain ⟨h1,rfl⟩:=xtake_ok hl
      dsimp only
      rw [h1]
      simp only [fSV_eq']
      exact hK
     ·cases h
    ·cases h
   ·cases h
  rw [e]
  cases d<;>first | exact main | exact absurd rfl hne
def xlen (d:Ty) (M:Mg) (x:SV):Option SV:=
 match d,x with
 | .slice _,.v (.slice _ n _)=>some (.v (.int .i64 n))
 | .str,.v (.string s)=>some (.v (.int .i64 s.size))
 | .slice _,.own k=>(match M k with | some (.row _ _ n _)=>some (.v (.int .i64 n)) | _=>none)
 | .slice _,.vw _ _ _ n _=>some (.v (.int .i64 n))
 | _,_=>none
theorem xlen_ok (hM:∀k,getL L k=M k) {d:Ty} {x y:SV} (h:xlen d M x=some y) (hK:K y):lenK d L x K:=by
 unfold xlen at h
 unfold lenK
 split at h
 ·cases h;exact hK
 ·cases h;exact hK
 ·rename_i k
  dsimp only
  rw [hM k]
  split at h
  ·rename_i e;rw [e];cases h;exact hK
  ·cases h
 ·cases h;exact hK
 ·cases h
theorem arrK_of {sz k o:Nat} {i:Int}:∀(n j:Nat),(j:Int)≤i→i<((j+n:Nat):Int)→K (.lp k (o+i.toNat * sz))→arrK sz k o i K n j
 | 0,j,h1,h2,_=>by omega
 | n+1,j,h1,h2,hK=>by
  show (i=(j:Int)→match o+j * sz with | 0=>K (.lp k 0) | m+1=>K (.lp k (m+1)))∧arrK sz k o i K n (j+1)
  refine ⟨fun e=>?_,?_⟩
  ·have:i.toNat=j:=by omega
   rw [this] at hK
   generalize o+j * sz=m at hK ⊢
   cases m<;>exact hK
  ·by_cases e:i=(j:Int)
   ·have:∀(n j':Nat),i<(j':Int)→arrK sz k o i K n j':=by
     intro n
     induction n with
     | zero=>intro _ _;trivial
     | succ n ih=>intro j' hj;exact ⟨fun e=>by omega,ih (j'+1) (by omega)⟩
    exact this n (j+1) (by omega)
   ·exact arrK_of n (j+1) (by omega) (by omega) hK
def inI (i:Int) (n:Nat):Bool:=@decide (0≤i∧i<(n:Int)) (instDecidableAnd)
def xidx (T:Tab) (M:Mg) (t:Nat) (x i:SV):Option SV:=
 match (ty T t).d,x,i with
 | .slice e,.own k,.v (.int _ i)=>(match M k with | some (.row _ _ n _)=>(match inI i n with | true=>some (.lp k (i.toNat * (ty T e).sz)) | false=>none) | _=>none)
 | .slice e,.vw k lo sz m _,.v (.int _ i)=>(match M k with
  | some (.row _ _ n _)=>(match Nat.beq sz (ty T e).sz,inI i m,Nat.ble (lo+m) n with | true,true,true=>some (.lp k ((lo+i.toNat) * (ty T e).sz)) | _,_,_=>none)
  | _=>none)
 | .arr n e,.lp k o,.v (.int _ i)=>(match inI i n with | true=>some (.lp k (o+i.toNat * (ty T e).sz)) | false=>none)
 | _,_,_=>none
theorem inI_ok {i:Int} {n:Nat} (h:inI i n=true):0≤i∧i<(n:Int):=of_decide_eq_true h
theorem xidx_ok (hM:∀k,getL L k=M k) {t:Nat} {x i y:SV} (h:xidx T M t x i=some y) (hK:K y):idxK T L t x i K:=by
 unfold xidx at h
 unfold idxK
 split at h
 ·rename_i e k ki i hd
  rw [hd]
  dsimp only
  rw [hM k]
  split at h
  ·rename_i e' ; rw [e']
   split at h
   ·rename_i hi;cases h;exact ⟨⟨inI_ok hi⟩,by rw [elK_eq];exact hK⟩
   ·cases h
  ·cases h
 ·rename_i e k lo sz m ex ki i hd
  rw [hd]
  dsimp only
  rw [hM k]
  split at h
  ·rename_i e';rw [e']
   split at h
   ·rename_i h1 h2 h3
    cases h
    dsimp only
    rw [h1]
    exact ⟨⟨(inI_ok h2).1,(inI_ok h2).2,Nat.le_of_ble_eq_true h3⟩,by rw [elK_eq];exact hK⟩
   ·cases h
  ·cases h
 ·rename_i n e k o ki i hd
  rw [hd]
  dsimp only
  split at h
  ·rename_i hi;cases h;exact ⟨⟨inI_ok hi⟩,arrK_of n 0 (inI_ok hi).1 (by simpa using (inI_ok hi).2) hK⟩
  ·cases h
 ·cases h
def xstrIdx (T:Tab) (t:Nat) (x i:SV):Option SV:=
 match (ty T t).d,x,i with
 | .str,.v (.string s),.v (.int _ i)=>(match inI i s.size with | true=>some (.v (.int .u8 ((s.data.toList[i.toNat]?.getD 0).toNat:Int))) | false=>none)
 | _,_,_=>none
theorem xstrIdx_ok {t:Nat} {x i y:SV} (h:xstrIdx T t x i=some y) (hK:K y):strIdxK T t x i K:=by
 unfold xstrIdx at h
 unfold strIdxK
 split at h
 ·rename_i s ki i hd
  rw [hd]
  split at h
  ·rename_i hi;cases h;exact ⟨⟨inI_ok hi⟩,hK⟩
  ·cases h
 ·cases h
def xbnd (x:Option SV) (d:Int):Option Int:=
 match x with
 | none=>some d
 | some (.v (.int _ i))=>some i
 | _=>none
theorem xbnd_ok {x:Option SV} {d i:Int} (h:xbnd x d=some i) {K:Int→Prop} (hK:K i):bndK x d K:=by
 unfold xbnd at h
 split at h
 ·cases h;exact hK
 ·cases h;exact hK
 ·cases h
def in3 (l h:Int) (n:Nat):Bool:=@decide (0≤l∧l≤h∧h≤(n:Int)) (instDecidableAnd)
theorem in3_ok {l h:Int} {n:Nat} (e:in3 l h n=true):0≤l∧l≤h∧h≤(n:Int):=of_decide_eq_true e
def xslc (T:Tab) (M:Mg) (t:Nat) (x:SV) (lo hi:Option SV):Option SV:=
 match (ty T t).d,x with
 | .str,.v (.string s)=>(match xbnd lo 0,xbnd hi s.size with
  | some l,some h=>(match in3 l h s.size with | true=>some (.v (.string (s.extract l.toNat h.toNat))) | false=>none)
  | _,_=>none)
 | .slice e,.v (.slice none 0 0)=>(match xbnd lo 0,xbnd hi 0 with
  | some l,some h=>(match in3 l h 0 with | true=>some (.v (.slice none 0 0)) | false=>none)
  | _,_=>none)
 | .slice e,.own k=>(match M k with
  | some (.row _ sz n _)=>(match Nat.beq sz (ty T e).sz,xbnd lo 0,xbnd hi n with
   | true,some l,some h=>(match in3 l h n with | true=>some (.vw k l.toNat sz (h.toNat-l.toNat) true) | false=>none)
   | _,_,_=>none)
  | _=>none)
 | .slice e,.vw k lo0 sz n _=>(match Nat.beq sz (ty T e).sz,xbnd lo 0,xbnd hi n with
   | true,some l,some h=>(match in3 l h n with | true=>some (.vw k (lo0+l.toNat) sz (h.toNat-l.toNat) false) | false=>none)
   | _,_,_=>none)
 | _,_=>none
theorem xslc_ok (hM:∀k,getL L k=M k) {t:Nat} {x y:SV} {lo hi:Option SV} (h:xslc T M t x lo hi=some y) (hK:K y):slcK T L t x lo hi K:=by
 unfold xslc at h
 unfold slcK
 split at h
 ·rename_i s hd
  rw [hd]
  dsimp only
  split at h
  ·rename_i l h' h1 h2
   split at h
   ·rename_i h3;cases h;exact xbnd_ok h1 (xbnd_ok h2 ⟨⟨in3_ok h3⟩,hK⟩)
   ·cases h
  ·cases h
 ·rename_i e hd
  rw [hd]
  dsimp only
  split at h
  ·rename_i l h' h1 h2
   split at h
   ·rename_i h3
    cases h
    refine xbnd_ok h1 (xbnd_ok h2 ⟨⟨in3_ok h3⟩,?_⟩)
    rw [elK_eq]
    intro m hm
    have h3:=in3_ok h3
    have:m=0:=by omega
    subst this
    have e1:(if 0=l.toNat then (none:Option Addr) else none.map (fun x:Addr=>x.add (l.toNat * (ty T e).sz)))=none:=by split<;>rfl
    rw [e1]
    simpa using hK
   ·cases h
  ·cases h
 ·rename_i e k hd
  rw [hd]
  dsimp only
  rw [hM k]
  split at h
  ·rename_i e' sz n cs ek
   rw [ek]
   split at h
   ·rename_i l h' h0 h1 h2
    split at h
    ·rename_i h3
     cases h
     dsimp only
     rw [h0]
     exact xbnd_ok h1 (xbnd_ok h2 ⟨⟨in3_ok h3⟩,fun m hm=>by subst hm;exact hK⟩)
    ·cases h
   ·cases h
  ·cases h
 ·rename_i e k lo0 sz n ex hd
  rw [hd]
  dsimp only
  split at h
  ·rename_i l h' h0 h1 h2
   split at h
   ·rename_i h3
    cases h
    rw [h0]
    exact xbnd_ok h1 (xbnd_ok h2 ⟨⟨in3_ok h3⟩,fun m hm=>by subst hm;exact hK⟩)
   ·cases h
  ·cases h
 ·cases h
def in4 (l h x:Int) (n:Nat):Bool:=@decide (0≤l∧l≤h∧h≤x∧x≤(n:Int)) (instDecidableAnd)
def xslc3 (T:Tab) (M:Mg) (t:Nat) (x:SV) (lo hi:Option SV) (mx:SV):Option SV:=
 match (ty T t).d,x,hi with
 | .slice e,.own k,some hi=>(match M k with
  | some (.row _ sz n _)=>(match Nat.beq sz (ty T e).sz,xbnd lo 0,xbnd (some hi) 0,xbnd (some mx) 0 with
   | true,some l,some h,some x=>(match in4 l h x n with | true=>some (.vw k l.toNat sz (h.toNat-l.toNat) false) | false=>none)
   | _,_,_,_=>none)
  | _=>none)
 | _,_,_=>none
theorem xslc3_ok (hM:∀k,getL L k=M k) {t:Nat} {x y mx:SV} {lo hi:Option SV} (h:xslc3 T M t x lo hi mx=some y) (hK:K y):slc3K T L t x lo hi mx K:=by
 unfold xslc3 at h
 unfold slc3K
 split at h
 ·rename_i e k hi hd
  rw [hd]
  dsimp only
  rw [hM k]
  split at h
  ·rename_i e' sz n cs ek
   rw [ek]
   split at h
   ·rename_i l h' x' h0 h1 h2 h3
    split at h
    ·rename_i h4
     cases h
     dsimp only
     rw [h0]
     exact xbnd_ok h1 (xbnd_ok h2 (xbnd_ok h3 ⟨⟨of_decide_eq_true h4⟩,fun m hm=>by subst hm;exact hK⟩))
    ·cases h
   ·cases h
  ·cases h
 ·cases h
def xbytes (l:List Value):Option (List UInt8):=List.rec (motive:=fun _=>Option (List UInt8)) (some [])
 (fun x _ ih=>match x with
  | .int .u8 n=>(match inI n 256,ih with | true,some s=>some (UInt8.ofNat n.toNat::s) | _,_=>none)
  | _=>none) l
theorem xbytes_c {x:Value} {r:List Value}:xbytes (x::r)=(match x with
   | .int .u8 n=>(match inI n 256,xbytes r with | true,some s=>some (UInt8.ofNat n.toNat::s) | _,_=>none)
   | _=>none):=rfl
theorem xbytes_ok:∀{l:List Value} {bs:List UInt8},xbytes l=some bs→l=bs.map bv
 | [],bs,h=>by cases h;rfl
 | x::r,bs,h=>by
  rw [xbytes_c] at h
  split at h
  ·rename_i n
   split at h
   ·rename_i s h1 h2
    cases h
    have h1:=inI_ok h1
    rw [List.map_cons,←xbytes_ok h2]
    congr 1
    unfold bv
    have:(UInt8.ofNat n.toNat).toNat=n.toNat:=by simp;omega
    rw [this,Int.toNat_of_nonneg h1.1]
   ·cases h
  ·cases h
def xinR (k:IntKind) (n:Int):Bool:=
 match k with
 | .i8=>in2 (-128) 127 n | .i16=>in2 (-32768) 32767 n | .i32=>in2 (-2147483648) 2147483647 n | .i64=>in2 (-9223372036854775808) 9223372036854775807 n
 | .u8=>in2 0 255 n | .u16=>in2 0 65535 n | .u32=>in2 0 4294967295 n | .u64=>in2 0 18446744073709551615 n
where in2 (a b n:Int):Bool:=@decide (a≤n∧n≤b) (instDecidableAnd)
theorem xinR_ok {k:IntKind} {n:Int} (h:xinR k n=true):inR k n:=by
 cases k<;>(have:=of_decide_eq_true h;exact this)
def xconv (T:Tab) (M:Mg) (src dst:Nat) (x:SV):Option SV:=
 match (ty T src).d,(ty T dst).d,x with
 | .int _,.int k',.v (.int k n)=>(match widens k k' with | true=>(match xinR k' n with | true=>some (.v (.int k' n)) | false=>none) | false=>some (.v (.int k' (k'.wrap n))))
 | .str,.str,.v (.string s)=>some (.v (.string s))
 | .int _,.flt k',.v (.int _ n)=>some (.v (.float k' (k'.nearest n)))
 | .slice e,.str,.own k=>(match (ty T e).d,M k with
  | .int .u8,some (.row _ sz' _ cs)=>(match Nat.beq sz' 1,rowVL cs with
   | true,some xs=>(match xbytes xs with | some bs=>some (.v (.string ⟨bs.toArray⟩)) | none=>none)
   | _,_=>none)
  | _,_=>none)
 | .slice e,.str,.vw k lo sz' m _=>(match (ty T e).d,M k with
  | .int .u8,some (.row _ sz'' n cs)=>(match Nat.beq sz' 1,Nat.beq sz'' 1,Nat.ble (lo+m) n,rowVL (vwS cs lo 1 m) with
   | true,true,true,some xs=>(match xbytes xs with | some bs=>some (.v (.string ⟨bs.toArray⟩)) | none=>none)
   | _,_,_,_=>none)
  | _,_=>none)
 | .slice e,.str,.v (.slice none 0 _)=>(match (ty T e).d with
  | .int .u8=>some (.v (.string ⟨#[]⟩))
  | _=>none)
 | _,_,_=>none
theorem sl_bytes {xs:List Value} {bs:List UInt8} (h:xbytes xs=some bs) (hK:K (.v (.string ⟨bs.toArray⟩))):Ob (∃bs:List UInt8,xs=bs.map bv)∧∀bs:List UInt8,xs=bs.map bv→K (.v (.string ⟨bs.toArray⟩)):=by
 have e:=xbytes_ok h
 refine ⟨⟨⟨bs,e⟩⟩,fun bs' e'=>?_⟩
 have inj:∀(a b:List UInt8),a.map bv=b.map bv→a=b:=by
  intro a
  induction a with
  | nil=>intro b hb;cases b with
   | nil=>rfl
   | cons _ _=>simp at hb
  | cons x r ih=>intro b hb;cases b with
   | nil=>simp at hb
   | cons y s=>
    simp only [List.map_cons,List.cons.injEq] at hb
    obtain ⟨h1,h2⟩:=hb
    rw [ih s h2]
    congr 1
    simp only [bv,Value.int.injEq,true_and] at h1
    exact UInt8.toNat_inj.1 (by omega)
 rw [←inj bs bs' (e.symm.trans e')]
 exact hK
theorem xconv_ok (hM:∀k,getL L k=M k) {src dst:Nat} {x y:SV} (h:xconv T M src dst x=some y) (hK:K y):convK T q L src dst x K:=by
 unfold xconv at h
 unfold convK
 split at h
 ·rename_i k0 k' k n h1 h2
  rw [h1,h2]
  dsimp only
  split at h
  ·rename_i e
   rw [e]
   split at h
   ·rename_i e2;cases h;exact ⟨⟨xinR_ok e2⟩,hK⟩
   ·cases h
  ·rename_i e;rw [e];cases h;exact hK
 ·rename_i s h1 h2;rw [h1,h2];cases h;exact hK
 ·rename_i k0 k' k n h1 h2;rw [h1,h2];cases h;exact hK
 ·rename_i e k h1 h2
  rw [h1,h2]
  dsimp only
  split at h
  ·rename_i E' sz' n' cs h3 h4
   rw [h3]
   split at h
   ·rename_i xs h5 h6
    split at h
    ·rename_i bs hb
     cases h
     unfold sliceK
     dsimp only
     rw [hM k,h4]
     dsimp only
     rw [h5,h6]
     exact sl_bytes hb hK
    ·cases h
   ·cases h
  ·cases h
 ·rename_i e k lo sz' m ex h1 h2
  rw [h1,h2]
  dsimp only
  split at h
  ·rename_i E' sz'' n' cs h3 h4
   rw [h3]
   split at h
   ·rename_i xs h5 h5' h5'' h6
    split at h
    ·rename_i bs hb
     cases h
     unfold sliceK
     dsimp only
     rw [hM k,h4]
     dsimp only
     rw [h5,h5',h6]
     exact ⟨⟨Nat.le_of_ble_eq_true h5''⟩,sl_bytes hb hK⟩
    ·cases h
   ·cases h
  ·cases h
 ·rename_i e c h1 h2
  rw [h1,h2]
  dsimp only
  split at h
  ·rename_i h3
   cases h
   rw [h3]
   refine ⟨⟨[],by simp,fun j hj=>by simp at hj⟩,fun xs hl _=>?_⟩
   have:xs=[]:=List.eq_nil_of_length_eq_zero (by simpa using hl)
   subst this
   exact sl_bytes (bs:=[]) rfl hK
  ·cases h
 ·cases h
def xextr (x:SV) (i:Nat):Option SV:=
 match x with
 | .tup cs=>nth cs i
 | _=>none
theorem xextr_ok {x y:SV} {i:Nat} (h:xextr x i=some y) (hK:K y):extrK x i K:=by
 unfold xextr at h
 split at h
 ·unfold extrK;dsimp only;rw [h];simp only [fSV_eq'];exact hK
 ·cases h
def xfield (T:Tab) (t f:Nat) (x:SV):Option SV:=
 match fieldOf T t f,x with
 | some (off,ft),.agg cs=>(match ty T ft with
  | ⟨.other,_,_,_,_,_⟩=>none
  | ⟨d,sz,_,_,_,_⟩=>(match xtake cs off sz with | some l=>some (ofCells d l) | none=>none))
 | _,_=>none
theorem xfield_ok {t f:Nat} {x y:SV} (h:xfield T t f x=some y) (hK:K y):fieldK T t f x K:=by
 unfold xfield at h
 unfold fieldK
 split at h
 ·rename_i off ft cs e
  rw [e]
  dsimp only
  split at h
  ·cases h
  ·rename_i d sz b z fl cm hne e2
   split at h
   ·rename_i l hl
    cases h
    obtain ⟨h1,rfl⟩:=xtake_ok hl
    rw [e2]
    have main:(match Nat.ble (off+sz) cs.length with | true=>fSV (ofCells d (takeN (dropN cs off) sz)) K | false=>False):=by
     rw [h1]
     simp only [fSV_eq']
     exact hK
    cases d<;>first | exact main | exact absurd rfl hne
   ·cases h
 ·cases h
def xfaddr (T:Tab) (t f:Nat) (x:SV):Option SV:=
 match fieldOf T t f,x with
 | some (off,_),.lp k o=>some (.lp k (o+off))
 | _,_=>none
theorem xfaddr_ok {t f:Nat} {x y:SV} (h:xfaddr T t f x=some y) (hK:K y):faddrK T t f x K:=by
 unfold xfaddr at h
 unfold faddrK
 split at h
 ·rename_i off ft k o e;rw [e];cases h;exact hK
 ·cases h
def xnilc (x:SV):Option SV:=
 match x with
 | .lp k o=>some (.lp k o)
 | .fn f cs=>some (.fn f cs)
 | .yl k=>some (.yl k)
 | _=>none
theorem xnilc_ok {x y:SV} (h:xnilc x=some y) (hK:K y):nilcK x K:=by
 unfold xnilc at h
 split at h<;>first | (cases h;exact hK) | cases h
def xparts (T:Tab) (fs:List (Nat×Nat)) (fr:Fr) (ps:List (Nat×Operand)):List SV→Option (List SV):=
 List.rec (motive:=fun _=>List SV→Option (List SV)) (fun cs=>some cs)
  (fun p _ ih cs=>match p with
   | (i,x)=>(match nth fs i with
    | some (off,t)=>(match opv fr x with
     | .agg l=>(match Nat.beq l.length (ty T t).sz,Nat.ble (off+l.length) cs.length with | true,true=>ih (takeN cs off++l++dropN cs (off+l.length)) | _,_=>none)
     | .tup _=>none
     | .bad=>none
     | .v (.agg _)=>none
     | .v (.tuple _)=>none
     | y=>(match Nat.beq (ty T t).sz 1,Nat.blt off cs.length with | true,true=>ih (setN cs off y) | _,_=>none))
    | none=>none)) ps
theorem xparts_c {fs:List (Nat×Nat)} {i:Nat} {x:Operand} {r:List (Nat×Operand)} {cs:List SV}:xparts T fs fr ((i,x)::r) cs=(match nth fs i with
  | some (off,t)=>(match opv fr x with
   | .agg l=>(match Nat.beq l.length (ty T t).sz,Nat.ble (off+l.length) cs.length with | true,true=>xparts T fs fr r (takeN cs off++l++dropN cs (off+l.length)) | _,_=>none)
   | .tup _=>none
   | .bad=>none
   | .v (.agg _)=>none
   | .v (.tuple _)=>none
   | y=>(match Nat.beq (ty T t).sz 1,Nat.blt off cs.length with | true,true=>xparts T fs fr r (setN cs off y) | _,_=>none))
  | none=>none):=rfl
theorem xparts_ok {fs:List (Nat×Nat)} {K:List SV→Prop}:∀{ps:List (Nat×Operand)} {cs l:List SV},xparts T fs fr ps cs=some l→K l→partsK T fs fr ps cs K
 | [],cs,l,h,hK=>by cases h;exact hK
 | (i,x)::r,cs,l,h,hK=>by
  rw [xparts_c] at h
  unfold partsK
  split at h
  ·rename_i off t hn
   rw [hn]
   dsimp only
   rw [fSV_eq']
   split at h
   ·rename_i l' hx
    rw [hx]
    split at h
    ·rename_i h1 h2
     dsimp only
     rw [h1,h2]
     dsimp only
     rw [fSVL_eq']
     exact xparts_ok h hK
    ·cases h
   ·cases h
   ·cases h
   ·cases h
   ·cases h
   ·rename_i N1 N2 N3 N4 N5
    split at h
    ·rename_i h1 h2
     have:=xparts_ok h hK
     generalize opv fr x=y at N1 N2 N3 N4 N5 this
     rw [h1,h2]
     split
     ·exact absurd rfl (N1 _)
     ·exact absurd rfl (N2 _)
     ·exact absurd rfl N3
     ·exact absurd rfl (N4 _)
     ·exact absurd rfl (N5 _)
     ·rw [fSVL_eq'];exact this
    ·cases h
  ·cases h
def xbuild (T:Tab) (t:Nat) (fr:Fr) (ps:List (Nat×Operand)):Option SV:=
 match (ty T t).d with
 | .struct fs=>(match xparts T fs fr ps (valL (ty T t).zero) with | some cs=>some (.agg cs) | none=>none)
 | _=>none
theorem xbuild_ok {t:Nat} {ps:List (Nat×Operand)} {y:SV} (h:xbuild T t fr ps=some y) (hK:K y):buildK T t fr ps K:=by
 unfold xbuild at h
 unfold buildK
 split at h
 ·rename_i fs hd
  rw [hd]
  split at h
  ·rename_i cs hc;cases h;exact xparts_ok hc hK
  ·cases h
 ·cases h
def xmkf (fn:Fn) (first cs:List SV):Option SV:=
 match fn,first with
 | .func f,[]=>some (.fn f cs)
 | _,_=>none
theorem xmkf_ok {fn:Fn} {first cs:List SV} {y:SV} (h:xmkf fn first cs=some y) (hK:K y):mkfK fn first cs K:=by
 unfold xmkf at h
 unfold mkfK
 split at h
 ·cases h;dsimp only;rw [fSVL_eq'];exact hK
 ·cases h
def ltZ (a b:Int):Bool:=Int.rec (motive:=fun _=>Bool) (fun m=>Int.rec (motive:=fun _=>Bool) (fun n=>Nat.blt m n) (fun _=>false) b) (fun m=>Int.rec (motive:=fun _=>Bool) (fun _=>true) (fun n=>Nat.blt n m) b) a
theorem ltZ_eq {a b:Int}:ltZ a b=decide (a<b):=by
 cases a with
 | ofNat m=>
  cases b with
  | ofNat n=>show Nat.blt m n=_;rw [Bool.eq_iff_iff];simp [Nat.blt_eq]
  | negSucc n=>show false=_;rw [Bool.eq_iff_iff];simp;omega
 | negSucc m=>
  cases b with
  | ofNat n=>show true=_;rw [Bool.eq_iff_iff];simp;omega
  | negSucc n=>show Nat.blt n m=_;rw [Bool.eq_iff_iff];simp [Nat.blt_eq];omega
theorem ltZ_if {a b:Int} {α:Type} {x y:α}:(match ltZ a b with | true=>x | false=>y)=if a<b then x else y:=by
 rw [ltZ_eq]
 by_cases h:a<b
 ·simp [h]
 ·simp [h]
def xmin (mx:Bool) (x y:SV):Option SV:=
 match x,y with
 | .v (.int k a),.v (.int k' b)=>(match Nat.beq (kc k) (kc k') with
  | true=>(match mx with | true=>some (.v (.int k (match ltZ a b with | true=>b | false=>a))) | false=>some (.v (.int k (match ltZ b a with | true=>b | false=>a))))
  | false=>none)
 | _,_=>none
def xbuilt (T:Tab) (b:Builtin) (xs:List SV) (ts:List Nat) (M:Mg):Option SV:=
 match b,xs,ts with
 | .len,[x],[t]=>xlen (ty T t).d M x
 | .min,[x,y],_=>xmin false x y
 | .max,[x,y],_=>xmin true x y
 | _,_,_=>none
theorem xmin_ok {mx:Bool} {x y z:SV} (h:xmin mx x y=some z) (hK:K z):minK mx x y K:=by
 unfold xmin at h
 unfold minK
 split at h
 ·split at h
  ·rename_i e
   dsimp only
   rw [e]
   split at h
   ·cases h
    rw [ltZ_if] at hK
    exact hK
   ·cases h
    rw [ltZ_if] at hK
    exact hK
  ·cases h
 ·cases h
theorem xbuilt_ok (hM:∀k,getL L k=M k) {b:Builtin} {xs:List SV} {ts:List Nat} {y:SV} (h:xbuilt T b xs ts M=some y) (hK:K y):builtK T b xs ts L K:=by
 unfold xbuilt at h
 split at h
 ·exact xlen_ok hM h hK
 ·exact xmin_ok h hK
 ·exact xmin_ok h hK
 ·cases h
def xcalm (T:Tab) (op:Op) (fr:Fr) (M:Mg):Option SV:=
 match op with
 | .move x=>some (opv fr x)
 | .assign x=>some (opv fr x)
 | .pick c a b=>xpick (opv fr c) (opv fr a) (opv fr b)
 | .binOp op t x y _=>xbin2 (ty T t).cmp (ty T t).d op (opv fr x) (opv fr y)
 | .unOp op _ x=>xun op (opv fr x)
 | .convert src dst x=>xconv T M src dst (opv fr x)
 | .extract x i=>xextr (opv fr x) i
 | .field t x f=>xfield T t f (opv fr x)
 | .fieldAddr t x f=>xfaddr T t f (opv fr x)
 | .nilCheck x=>xnilc (opv fr x)
 | .indexAddr t x i=>xidx T M t (opv fr x) (opv fr i)
 | .index t x i=>xstrIdx T t (opv fr x) (opv fr i)
 | .load t x=>xload T M t (opv fr x)
 | .slice t x lo hi none=>xslc T M t (opv fr x) (optv fr lo) (optv fr hi)
 | .slice t x lo hi (some mx)=>xslc3 T M t (opv fr x) (optv fr lo) (optv fr hi) (opv fr mx)
 | .build t ps=>xbuild T t fr ps.toList
 | .makeFunc fn first cs=>xmkf fn (opvs fr first.toList) (opvs fr cs.toList)
 | .call ⟨.builtin b,xs,ts⟩=>xbuilt T b (opvs fr xs.toList) ts.toList M
 | _=>none
theorem xcalm_ok (hM:∀k,getL L k=M k) {op:Op} {y:SV} (h:xcalm T op fr M=some y) (hK:K y):calmK T Γ Δ true q op fr L K:=by
 unfold xcalm at h
 split at h<;>simp only [calmK,sliceOpK,optv]
 ·rw [fSV_eq'];cases h;exact hK
 ·rw [fSV_eq'];cases h;exact hK
 ·exact xpick_ok h hK
 ·exact xbin2_ok h hK
 ·exact xun_ok h hK
 ·exact xconv_ok hM h hK
 ·exact xextr_ok h hK
 ·exact xfield_ok h hK
 ·exact xfaddr_ok h hK
 ·exact xnilc_ok h hK
 ·exact xidx_ok hM h hK
 ·exact xstrIdx_ok h hK
 ·exact xload_ok hM h hK
 ·exact xslc_ok hM h hK
 ·exact xslc3_ok hM h hK
 ·exact xbuild_ok h hK
 ·exact xmkf_ok h hK
 ·exact xbuilt_ok hM h hK
 ·cases h
end
end
end Exe
end Go.Eng
end
section
namespace Go.Eng
open Go Go.RowKit
namespace Exe
inductive Tm (α:Type) where
 | lf
 | nd (l:Tm α) (v:Option α) (r:Tm α)
noncomputable section
def Tm.get {α:Type} (T:Tm α):Nat→Option α:=Tm.rec (motive:=fun _=>Nat→Option α) (fun _=>none)
 (fun _ v _ gl gr n=>match n with | 0=>v | m+1=>match Nat.beq (m % 2) 0 with | true=>gl (m / 2) | false=>gr (m / 2)) T
theorem Tm.get_lf {α:Type} {n:Nat}:(Tm.lf:Tm α).get n=none:=rfl
theorem Tm.get_0 {α:Type} {l r:Tm α} {v:Option α}:(Tm.nd l v r).get 0=v:=rfl
theorem Tm.get_s {α:Type} {l r:Tm α} {v:Option α} {m:Nat}:(Tm.nd l v r).get (m+1)=match Nat.beq (m % 2) 0 with | true=>l.get (m / 2) | false=>r.get (m / 2):=rfl
def Tm.put {α:Type} (f:Nat):Tm α→Nat→Option α→Tm α:=Nat.rec (motive:=fun _=>Tm α→Nat→Option α→Tm α) (fun T _ _=>T)
 (fun _ ih T n x=>match T with
  | .lf=>(match n with | 0=>.nd .lf x .lf | m+1=>match Nat.beq (m % 2) 0 with | true=>.nd (ih .lf (m / 2) x) none .lf | false=>.nd .lf none (ih .lf (m / 2) x))
  | .nd l v r=>(match n with | 0=>.nd l x r | m+1=>match Nat.beq (m % 2) 0 with | true=>.nd (ih l (m / 2) x) v r | false=>.nd l v (ih r (m / 2) x))) f
theorem beq_cases (a b:Nat):(Nat.beq a b=true∧a=b)∨(Nat.beq a b=false∧a≠b):=by
 cases h:Nat.beq a b with
 | true=>exact .inl ⟨rfl,Nat.eq_of_beq_eq_true h⟩
 | false=>exact .inr ⟨rfl,Nat.ne_of_beq_eq_false h⟩
theorem Tm.get_put {α:Type} {x:Option α}:∀(f:Nat) (T:Tm α) (n j:Nat),n+1<2 ^ f→(T.put f n x).get j=if n=j then x else T.get j
 | 0,T,n,j,h=>by simp at h
 | f+1,T,n,j,h=>by
  have hh:∀m,m+1+1<2 ^ (f+1)→m / 2+1<2 ^ f:=fun m h=>by rw [Nat.pow_succ] at h;omega
  have par:∀(a b:Nat),a % 2=b % 2→(a / 2=b / 2↔a=b):=fun a b h=>by omega
  cases T with
  | lf=>
   cases n with
   | zero=>
    show (Tm.nd .lf x .lf).get j=_
    cases j with
    | zero=>rw [Tm.get_0,if_pos rfl]
    | succ j=>rw [Tm.get_s,if_neg (by omega)];split<;>rfl
   | succ m=>
    show (match Nat.beq (m % 2) 0 with | true=>Tm.nd (Tm.put f .lf (m / 2) x) none .lf | false=>.nd .lf none (Tm.put f .lf (m / 2) x)).get j=_
    rcases beq_cases (m % 2) 0 with ⟨e,e'⟩ | ⟨e,e'⟩<;>rw [e]<;>dsimp only
    ·cases j with
     | zero=>rw [Tm.get_0,if_neg (by omega)];rfl
     | succ j=>
      rw [Tm.get_s]
      rcases beq_cases (j % 2) 0 with ⟨g,g'⟩ | ⟨g,g'⟩<;>rw [g]<;>dsimp only
      ·rw [Tm.get_put f _ _ _ (hh m h),Tm.get_lf,Tm.get_lf]
       by_cases e2:m=j
       ·subst e2;rw [if_pos rfl,if_pos rfl]
       ·rw [if_neg (by omega),if_neg (by omega)]
      ·rw [Tm.get_lf,Tm.get_lf,if_neg (by omega)]
    ·cases j with
     | zero=>rw [Tm.get_0,if_neg (by omega)];rfl
     | succ j=>
      rw [Tm.get_s]
      rcases beq_cases (j % 2) 0 with ⟨g,g'⟩ | ⟨g,g'⟩<;>rw [g]<;>dsimp only
      ·rw [Tm.get_lf,Tm.get_lf,if_neg (by omega)]
      ·rw [Tm.get_put f _ _ _ (hh m h),Tm.get_lf,Tm.get_lf]
       by_cases e2:m=j
       ·subst e2;rw [if_pos rfl,if_pos rfl]
       ·rw [if_neg (by omega),if_neg (by omega)]
  | nd l v r=>
   cases n with
   | zero=>
    show (Tm.nd l x r).get j=_
    cases j with
    | zero=>rw [Tm.get_0,if_pos rfl]
    | succ j=>rw [Tm.get_s,if_neg (by omega),Tm.get_s]
   | succ m=>
    show (match Nat.beq (m % 2) 0 with | true=>Tm.nd (Tm.put f l (m / 2) x) v r | false=>.nd l v (Tm.put f r (m / 2) x)).get j=_
    rcases beq_cases (m % 2) 0 with ⟨e,e'⟩ | ⟨e,e'⟩<;>rw [e]<;>dsimp only
    ·cases j with
     | zero=>rw [Tm.get_0,if_neg (by omega),Tm.get_0]
     | succ j=>
      rw [Tm.get_s,Tm.get_s]
      rcases beq_cases (j % 2) 0 with ⟨g,g'⟩ | ⟨g,g'⟩<;>rw [g]<;>dsimp only
      ·rw [Tm.get_put f _ _ _ (hh m h)]
       by_cases e2:m=j
       ·subst e2;rw [if_pos rfl,if_pos rfl]
       ·rw [if_neg (by omega),if_neg (by omega)]
      ·rw [if_neg (by omega)]
    ·cases j with
     | zero=>rw [Tm.get_0,if_neg (by omega),Tm.get_0]
     | succ j=>
      rw [Tm.get_s,Tm.get_s]
      rcases beq_cases (j % 2) 0 with ⟨g,g'⟩ | ⟨g,g'⟩<;>rw [g]<;>dsimp only
      ·rw [if_neg (by omega)]
      ·rw [Tm.get_put f _ _ _ (hh m h)]
       by_cases e2:m=j
       ·subst e2;rw [if_pos rfl,if_pos rfl]
       ·rw [if_neg (by omega),if_neg (by omega)]
abbrev Mm:=Tm LB
def xput (M:Mm) (k:Nat) (x:Option LB):Option Mm:=match Nat.blt k 1000000000 with | true=>some (M.put 31 k x) | false=>none
theorem xput_get {M M':Mm} {k:Nat} {x:Option LB} (h:xput M k x=some M') (j:Nat):M'.get j=if k=j then x else M.get j:=by
 unfold xput at h
 split at h
 ·rename_i e
  cases h
  have e:k<1000000000:=Nat.le_of_ble_eq_true e
  exact Tm.get_put 31 M k j (by omega)
 ·cases h
def Rep (M:Mm) (L:LL):Prop:=∀k,getL L k=M.get k
theorem Rep.new {M M':Mm} {L:LL} {k:Nat} {x:LB} (h:Rep M L) (e:xput M k (some x)=some M'):Rep M' ((k,x)::L):=fun j=>by
 rw [getL_cons,xput_get e,h j]
theorem Rep.set {M M':Mm} {L:LL} {k:Nat} {x y:LB} (h:Rep M L) (hk:getL L k=some y) (e:xput M k (some x)=some M'):Rep M' (setL L k x):=fun j=>by
 rw [getL_setL,xput_get e,h j,]
 split
 ·rename_i e;subst e;rw [hk];rfl
 ·rfl
theorem Rep.rem {M M':Mm} {L:LL} {k:Nat} (h:Rep M L) (e:xput M k none=some M'):Rep M' (remL L k):=fun j=>by
 rw [getL_remL,xput_get e,h j]
def hF (n:Nat) (fr:Fr):Prop:=∀k,hasF k fr=true→k<n
def hL (n:Nat) (L:LL):Prop:=∀k,hasLL k L=true→k<n
def hV (n:Nat) (x:SV):Prop:=∀k,x.has k=true→k<n
def hS (n:Nat) (l:List SV):Prop:=∀k,hasL k l=true→k<n
theorem hF.mono {n m:Nat} {fr:Fr} (h:hF n fr) (e:n≤m):hF m fr:=fun k hk=>Nat.lt_of_lt_of_le (h k hk) e
theorem hL.mono {n m:Nat} {L:LL} (h:hL n L) (e:n≤m):hL m L:=fun k hk=>Nat.lt_of_lt_of_le (h k hk) e
theorem hV.mono {n m:Nat} {x:SV} (h:hV n x) (e:n≤m):hV m x:=fun k hk=>Nat.lt_of_lt_of_le (h k hk) e
theorem hS.mono {n m:Nat} {x:List SV} (h:hS n x) (e:n≤m):hS m x:=fun k hk=>Nat.lt_of_lt_of_le (h k hk) e
theorem hF.cons {n t:Nat} {x:SV} {fr:Fr} (h:hF n fr) (hx:hV n x):hF n ((t,x)::fr):=fun k hk=>by
 rw [hasF_cons,Bool.or_eq_true] at hk
 exact hk.elim (hx k) (h k)
theorem hS.nil {n:Nat}:hS n []:=fun k hk=>by simp [hasL] at hk
theorem hS.cons {n:Nat} {x:SV} {l:List SV} (h:hS n l) (hx:hV n x):hS n (x::l):=fun k hk=>by
 rw [hasL_cons,Bool.or_eq_true] at hk
 exact hk.elim (hx k) (h k)
theorem hS.head {n:Nat} {x:SV} {l:List SV} (h:hS n (x::l)):hV n x:=fun k hk=>h k (by rw [hasL_cons,hk];rfl)
theorem hS.tail {n:Nat} {x:SV} {l:List SV} (h:hS n (x::l)):hS n l:=fun k hk=>h k (by rw [hasL_cons,hk,Bool.or_true])
theorem hS.append {n:Nat} {l m:List SV} (h:hS n l) (h':hS n m):hS n (l++m):=fun k hk=>(hasL_append hk).elim (h k) (h' k)
theorem hS.take {n i:Nat} {l:List SV} (h:hS n l):hS n (takeN l i):=fun k hk=>h k (hasL_takeN hk)
theorem hS.drop {n i:Nat} {l:List SV} (h:hS n l):hS n (dropN l i):=fun k hk=>h k (hasL_dropN hk)
theorem hS.valL {n:Nat} (vs:List Value):hS n (valL vs):=fun k hk=>by rw [hasL_valL] at hk;cases hk
def hB (n:Nat) (x:LB):Prop:=∀k,x.has k=true→k<n
theorem hB.row {n e sz m:Nat} {cs:List SV} (h:hS n cs):hB n (.row e sz m cs):=h
theorem hB.cells {n t:Nat} {cs:List SV} (h:hS n cs):hB n (.cells t cs):=h
theorem hL.new {n k:Nat} {x:LB} {L:LL} (h:hL n L) (hk:k<n) (hx:hB n x):hL n ((k,x)::L):=fun j hj=>by
 rw [hasLL_cons,Bool.or_eq_true,Bool.or_eq_true] at hj
 rcases hj with hj | hj | hj
 ·have:=Nat.eq_of_beq_eq_true hj;omega
 ·exact hx j hj
 ·exact h j hj
theorem hL.set {n k:Nat} {x:LB} {L:LL} (h:hL n L) (hx:hB n x):hL n (setL L k x):=fun j hj=>(hasLL_setL hj).elim (h j) (hx j)
theorem hasLL_remL {j k:Nat}:∀{L:LL},hasLL j (remL L k)=true→hasLL j L=true
 | [],h=>h
 | (u,y)::r,h=>by
  rw [remL_c] at h
  rw [hasLL_cons,Bool.or_eq_true,Bool.or_eq_true]
  cases e:Nat.beq u k with
  | true=>rw [e] at h;exact .inr (.inr (hasLL_remL h))
  | false=>
   rw [e] at h
   rw [hasLL_cons,Bool.or_eq_true,Bool.or_eq_true] at h
   exact h.imp id (fun h=>h.imp id hasLL_remL)
theorem hL.rem {n k:Nat} {L:LL} (h:hL n L):hL n (remL L k):=fun j hj=>h j (hasLL_remL hj)
theorem hL.get {n k:Nat} {L:LL} {x:LB} (h:hL n L) (hk:getL L k=some x):hB n x:=fun j hj=>h j (getL_hasLL hk (.inr hj))
theorem hL.key {n k:Nat} {L:LL} {x:LB} (h:hL n L) (hk:getL L k=some x):k<n:=h k (getL_hasLL hk (.inl rfl))
theorem hF.opv {n:Nat} {fr:Fr} (h:hF n fr) (x:Operand):hV n (opv fr x):=fun k hk=>h k (opv_has hk)
theorem hF.opvs {n:Nat} {fr:Fr} (h:hF n fr):∀(l:List Operand),hS n (opvs fr l)
 | []=>.nil
 | x::r=>(hF.opvs h r).cons (h.opv x)
mutual
theorem ltK_of:∀(x:SV) {b:Nat},hV b x→ltK b x=true
 | .v _,_,_=>rfl
 | .bb _,_,_=>rfl
 | .b _ _,_,_=>rfl
 | .bad,_,_=>rfl
 | .el _ _,_,_=>rfl
 | .lp k _,b,h=>Nat.ble_eq_true_of_le (h k (by simp [SV.has]))
 | .own k,b,h=>Nat.ble_eq_true_of_le (h k (by simp [SV.has]))
 | .yl k,b,h=>Nat.ble_eq_true_of_le (h k (by simp [SV.has]))
 | .vw k _ _ _ _,b,h=>Nat.ble_eq_true_of_le (h k (by simp [SV.has]))
 | .lq k,b,h=>Nat.ble_eq_true_of_le (h k (by simp [SV.has]))
 | .ls k _,b,h=>Nat.ble_eq_true_of_le (h k (by simp [SV.has]))
 | .mr k,b,h=>Nat.ble_eq_true_of_le (h k (by simp [SV.has]))
 | .agg l,b,h=>ltKL_of l (fun k hk=>h k (by simpa [SV.has] using hk))
 | .tup l,b,h=>ltKL_of l (fun k hk=>h k (by simpa [SV.has] using hk))
 | .fn _ l,b,h=>ltKL_of l (fun k hk=>h k (by simpa [SV.has] using hk))
theorem ltKL_of:∀(l:List SV) {b:Nat},hS b l→ltKL b l=true
 | [],_,_=>rfl
 | x::r,b,h=>by
  rw [ltKL,ltK_of x h.head]
  exact ltKL_of r h.tail
end
theorem hV_of {x:SV} {b:Nat} (h:ltK b x=true):hV b x:=fun _ hk=>ltK_has x h hk
theorem ltF_of:∀{fr:Fr} {b:Nat},hF b fr→ltF b fr=true
 | [],_,_=>rfl
 | (u,x)::r,b,h=>by
  rw [ltF_c,ltK_of x (fun k hk=>h k (by rw [hasF_cons,hk];rfl))]
  exact ltF_of (fun k hk=>h k (by rw [hasF_cons,hk,Bool.or_true]))
theorem ltLL_of:∀{L:LL} {b:Nat},hL b L→ltLL b L=true
 | [],_,_=>rfl
 | (u,x)::r,b,h=>by
  have h1:Nat.blt u b=true:=Nat.ble_eq_true_of_le (h u (by rw [hasLL_cons];simp))
  have h2:ltLL b r=true:=ltLL_of (fun k hk=>h k (by rw [hasLL_cons,hk,Bool.or_true,Bool.or_true]))
  have h3:hB b x:=fun k hk=>h k (by rw [hasLL_cons,hk,Bool.true_or,Bool.or_true])
  rw [ltLL_c,h1]
  cases x with
  | cells T l=>dsimp only;rw [ltKL_of l h3];exact h2
  | row e s n l=>dsimp only;rw [ltKL_of l h3];exact h2
  | _=>exact h2
theorem dLt_of:∀{L:LL} {b:Nat},hL b L→dLt b L=true
 | [],_,_=>rfl
 | (u,x)::r,b,h=>by
  have h1:Nat.blt u b=true:=Nat.ble_eq_true_of_le (h u (by rw [hasLL_cons];simp))
  have h2:dLt b r=true:=dLt_of (fun k hk=>h k (by rw [hasLL_cons,hk,Bool.or_true,Bool.or_true]))
  cases x<;>(unfold dLt;first | exact h2 | (rw [h1];exact h2))
def XK (nk:Nat) (fr:Fr) (M:Mm):Kt:=fun _ _ fr' L=>fr'=fr∧Rep M L∧hF nk fr∧hL nk L
variable {P:Program} {S S' Sb:Pl} {fr:Fr} {L L':LL} {q q':PH} {w0:W0} {w w':World} {a a':Act} {n0 N:Nat} {B:Nat→Prop} {E:Env}
variable {r:Option Nat} {n:Nat} {Q:Exit→Act→World→Prop}
theorem _root_.Go.Eng.Cfg.up (hc:Cfg w0 Sb B n0 N S q fr L a w) (nk:Nat):Cfg w0 S (fun d=>getL L d=some .dfr) nk N S q fr L a w:=
 ⟨fun _ _=>rfl,fun _ _ h=>h,hc.m,hc.f,hc.n,hc.d⟩
theorem _root_.Go.Eng.Cfg.down {nk:Nat} {K:Kt} (hc:Cfg w0 Sb B n0 N S q fr L a w) (h0:n0≤nk) (h:St w0 S (fun d=>getL L d=some .dfr) nk N K a' w'):St w0 Sb B n0 N K a' w':=by
 obtain ⟨S',q',fr',L',nk',hc',hK⟩:=h
 exact ⟨S',q',fr',L',nk',⟨fun k hk=>(hc'.ag k (by omega)).trans (hc.ag k hk),fun d hd hB=>hc'.b d (by omega) (hc.b d hd hB),hc'.m,hc'.f,hc'.n,hc'.d⟩,hK⟩
theorem newK_of {nk:Nat} {lb:LB} {K:LL→Prop} (h1:hF nk fr) (h2:hL nk L) (h:K ((nk,lb)::L)):newK nk nk fr L lb K:=by
 unfold newK
 have e1:hasF nk fr=false:=by
  cases hb:hasF nk fr with
  | false=>rfl
  | true=>have:=h1 nk hb;omega
 have e2:hasLL nk L=false:=by
  cases hb:hasLL nk L with
  | false=>rfl
  | true=>have:=h2 nk hb;omega
 rw [Nat.ble_eq_true_of_le (Nat.le_refl nk),e1,e2]
 exact h
theorem noF {nk:Nat} (h1:hF nk fr):hasF nk fr=false:=by
 cases hb:hasF nk fr with
 | false=>rfl
 | true=>have:=h1 nk hb;omega
theorem noL {nk:Nat} (h2:hL nk L):hasLL nk L=false:=by
 cases hb:hasLL nk L with
 | false=>rfl
 | true=>have:=h2 nk hb;omega
def putX (N:Nat) (dst:Option Nat) (y:SV) (fr:Fr):Option Fr:=
 match dst with
 | none=>some fr
 | some d=>(match Nat.blt d N with | true=>some ((d,y)::fr) | false=>none)
theorem putX_ok {dst:Option Nat} {y:SV} {fr':Fr} {K:Fr→Prop} (h:putX N dst y fr=some fr') (hK:K fr'):putK N dst y fr K:=by
 unfold putX at h
 unfold putK
 split at h
 ·cases h;exact hK
 ·split at h
  ·rename_i e;cases h;dsimp only;rw [e];exact hK
  ·cases h
theorem putX_h {nk:Nat} {dst:Option Nat} {y:SV} {fr':Fr} (h:putX N dst y fr=some fr') (hf:hF nk fr) (hy:hV nk y):hF nk fr':=by
 unfold putX at h
 split at h
 ·cases h;exact hf
 ·split at h
  ·cases h;exact hf.cons hy
  ·cases h
end
end Exe
end Go.Eng
end
section
namespace Go.Eng
open Go Go.RowKit
namespace Exe
noncomputable section
variable {P:Program} {S S' Sb:Pl} {fr fr':Fr} {L L':LL} {q q':PH} {w0:W0} {w w':World} {a a':Act} {n0 N:Nat} {B:Nat→Prop} {E:Env}
variable {r:Option Nat} {n:Nat} {Q:Exit→Act→World→Prop} {M M':Mm} {nk:Nat} {y:SV}
def XL (fr1:Fr) (L1:LL):Kt:=fun _ _ fr' L'=>fr'=fr1∧L'=L1
theorem XL.to {fr1:Fr} {L1:LL} {nk':Nat} (h1:Rep M' L1) (h2:hF nk' fr1) (h3:hL nk' L1) (h:St w0 Sb B n0 N (XL fr1 L1) a w):St w0 Sb B n0 N (XK nk' fr1 M') a w:=by
 obtain ⟨S',q',fr',L',k',hc,rfl,rfl⟩:=h
 exact ⟨S',q',_,_,k',hc,rfl,h1,h2,h3⟩
theorem XL.rowed {fr1:Fr} {e sz m:Nat} {us:List Value} {cs:List SV} {L2:LL} {D:Nat→Prop} (hok:okL S cs us) (hcs:hS nk cs)
  (h:St w0 S D nk N (XL fr1 ((nk,.arr e sz m us)::L2)) a w):St w0 S D nk N (XL fr1 ((nk,.row e sz m cs)::L2)) a w:=by
 obtain ⟨S',q',fr',L',k',hc,rfl,rfl⟩:=h
 have hok':okL S' cs us:=okL_congr cs (fun k hk=>hc.ag k (hcs k hk)) hok
 refine ⟨S',q',_,_,k',⟨hc.ag,fun d hd hD=>?_,hc.m.head hok',hc.f,hc.n,hc.d⟩,rfl,rfl⟩
 have:=hc.b d hd hD
 rw [getL_cons,if_neg (by omega)] at this ⊢
 exact this
theorem XL.rowed2 {fr1:Fr} {k e sz m:Nat} {us:List Value} {cs:List SV} {L2:LL} {D:Nat→Prop} (hok:okL S cs us) (hcs:hS nk cs) (hk:getL L2 k=some (.arr e sz m us))
  (h:St w0 S D nk N (XL fr1 L2) a w):St w0 S D nk N (XL fr1 (setL L2 k (.row e sz m cs))) a w:=by
 obtain ⟨S',q',fr',L',k',hc,rfl,rfl⟩:=h
 have hok':okL S' cs us:=okL_congr cs (fun k hk=>hc.ag k (hcs k hk)) hok
 refine ⟨S',q',_,_,k',⟨hc.ag,fun d hd hD=>?_,hc.m.retell (lb':=.row e sz m cs) hk rfl ⟨us,hc.m.ch k _ hk,hok'⟩,hc.f,hc.n,hc.d⟩,rfl,rfl⟩
 have:=hc.b d hd hD
 rw [getL_setL]
 split
 ·rename_i e;subst e;rw [hk] at this;cases this
 ·exact this
theorem xcalm_step (hE:EnvOk P E) {o:Oper} (hc:Cfg w0 S B nk N S q fr L a w) (hR:Rep M L) (hf:hF nk fr) (hl:hL nk L)
  (h:xcalm E.T o.op fr M.get=some y) (hy:hV nk y) (hp:putX N o.dst y fr=some fr'):Oper.wpIn (FF r) n P o a w (St w0 S B nk N (XK nk fr' M)) Q:=
 calm_step (nk:=0) hE.T hE.Γ (fun f s hs=>⟨(hE.Δ f s hs).1,(hE.Δ f s hs).2.1⟩) (wr:=true) hc (xcalm_ok (hR) h (putX_ok hp ⟨rfl,hR,putX_h hp hf hy,hl⟩))
def xalloc (T:Tab) (t nk:Nat) (M:Mm):Option (SV×Mm):=
 match (ty T t).d with
 | .other=>none
 | _=>(match xput M nk (some (.cells t (valL (ty T t).zero))) with | some M'=>some (.lp nk 0,M') | none=>none)
theorem hV_lp {k m o:Nat} (h:k<m):hV m (.lp k o):=fun j hj=>by
 have:Nat.beq k j=true:=by simpa [SV.has] using hj
 have:=Nat.eq_of_beq_eq_true this
 omega
theorem hV_own {k m:Nat} (h:k<m):hV m (.own k):=fun j hj=>by
 have:Nat.beq k j=true:=by simpa [SV.has] using hj
 have:=Nat.eq_of_beq_eq_true this
 omega
theorem xalloc_step (hT:TabOk P E.T) {o:Oper} {t:Nat} (hop:o.op=.alloc t) (hc:Cfg w0 S B nk N S q fr L a w) (hR:Rep M L) (hf:hF nk fr) (hl:hL nk L)
  (h:xalloc E.T t nk M=some (y,M')) (hp:putX N o.dst y fr=some fr'):Oper.wpIn (FF r) n P o a w (St w0 S B nk N (XK (nk+1) fr' M')) Q:=by
 unfold xalloc at h
 split at h
 ·cases h
 rename_i hne
 split at h
 rotate_left
 ·cases h
 rename_i M1 hM
 cases h
 have main:fSVL (valL (ty E.T t).zero) fun z=>newK nk nk fr L (.cells t z) fun L=>putK N o.dst (.lp nk 0) fr fun fr=>XK (nk+1) fr' M' 0 q fr L:=by
  rw [fSVL_eq]
  exact newK_of hf hl (putX_ok hp ⟨rfl,hR.new hM,putX_h hp (hf.mono (by omega)) (hV_lp (by omega)),(hl.mono (by omega)).new (by omega) (.cells (.valL _))⟩)
 refine alloc_step (key:=nk) (nk:=0) hT hop hc ?_
 revert main hne
 generalize ty E.T t=ti
 obtain ⟨d,_,_,_,_⟩:=ti
 cases d<;>intro hne h<;>first | exact h | exact absurd rfl hne
def xbox (T:Tab) (t:Nat) (x:SV):Option (List SV):=
 match x with
 | .agg l=>(match Nat.beq l.length (ty T t).sz,oneL l with | true,true=>some l | _,_=>none)
 | .tup _=>none
 | .bad=>none
 | .v (.agg _)=>none
 | .v (.tuple _)=>none
 | y=>(match Nat.beq (ty T t).sz 1 with | true=>some [y] | false=>none)
theorem xbox_ok {T:Tab} {t:Nat} {x:SV} {l:List SV} {K:List SV→Prop} (h:xbox T t x=some l) (hK:K l):boxCells T t x K:=by
 unfold xbox at h
 unfold boxCells
 split at h
 ·split at h
  ·rename_i e1 e2;cases h;dsimp only;rw [e1,e2];exact hK
  ·cases h
 ·cases h
 ·cases h
 ·cases h
 ·cases h
 ·rename_i N1 N2 N3 N4 N5
  split at h
  ·rename_i e
   cases h
   rw [e]
   split
   ·exact (N1 _ rfl).elim
   ·exact (N2 _ rfl).elim
   ·exact (N3 rfl).elim
   ·exact (N4 _ rfl).elim
   ·exact (N5 _ rfl).elim
   ·exact hK
  ·cases h
theorem xbox_h {T:Tab} {t m:Nat} {x:SV} {l:List SV} (h:xbox T t x=some l) (hx:hV m x):hS m l:=by
 unfold xbox at h
 split at h
 ·split at h
  ·cases h;exact fun k hk=>hx k (by simpa [SV.has] using hk)
  ·cases h
 ·cases h
 ·cases h
 ·cases h
 ·cases h
 ·split at h
  ·cases h;exact hS.nil.cons hx
  ·cases h
def xboxM (T:Tab) (t nk:Nat) (x:SV) (M:Mm):Option (SV×Mm):=
 match (ty T t).d with
 | .other=>none
 | _=>(match xbox T t x with
  | some l=>(match xput M nk (some (.cells t l)) with | some M'=>some (.lp nk 0,M') | none=>none)
  | none=>none)
theorem xbox_step {o:Oper} {t:Nat} {x:Operand} (hop:o.op=.box t x) (hc:Cfg w0 S B nk N S q fr L a w) (hR:Rep M L) (hf:hF nk fr) (hl:hL nk L)
  (h:xboxM E.T t nk (opv fr x) M=some (y,M')) (hp:putX N o.dst y fr=some fr'):Oper.wpIn (FF r) n P o a w (St w0 S B nk N (XK (nk+1) fr' M')) Q:=by
 unfold xboxM at h
 split at h
 ·cases h
 split at h
 rotate_left
 ·cases h
 rename_i l hx
 split at h
 rotate_left
 ·cases h
 rename_i M1 hM
 cases h
 exact box_step (E:=E) (key:=nk) (nk:=0) hop hc (xbox_ok hx (newK_of hf hl (putX_ok hp ⟨rfl,hR.new hM,putX_h hp (hf.mono (by omega)) (hV_lp (by omega)),(hl.mono (by omega)).new (by omega) (.cells ((xbox_h hx (hf.opv x)).mono (by omega)))⟩)))
def xbuildS (T:Tab) (t m nk:Nat) (fr:Fr) (ps:List (Nat×Operand)) (M:Mm):Option (SV×Mm):=
 match (ty T t).d with
 | .slice e=>(match (ty T e).d with
  | .other=>none
  | _=>(match xparts T (elemPl (ty T e).sz e m 0) fr ps (repl m (valL (ty T e).zero)) with
   | some cs=>(match oneL cs,Nat.ble (m * (ty T e).sz) 16777216,xput M nk (some (.row e (ty T e).sz m cs)) with
    | true,true,some M'=>some (.own nk,M')
    | _,_,_=>none)
   | none=>none))
 | _=>none
theorem repl_h {m:Nat} {l:List SV} (h:hS m l):∀i,hS m (repl i l)
 | 0=>.nil
 | i+1=>h.append (repl_h h i)
theorem xparts_h {T:Tab} {m:Nat} {fs:List (Nat×Nat)} (hf:hF m fr):∀{ps:List (Nat×Operand)} {cs l:List SV},hS m cs→xparts T fs fr ps cs=some l→hS m l
 | [],cs,l,hc,h=>by cases h;exact hc
 | (i,x)::r,cs,l,hc,h=>by
  rw [xparts_c] at h
  have hx:=hf.opv x
  split at h
  ·rename_i off t hn
   split at h
   ·rename_i l' hx'
    rw [hx'] at hx
    split at h
    ·have hl':hS m l':=fun k hk=>hx k (by simpa [SV.has] using hk)
     exact xparts_h hf ((hc.take.append hl').append hc.drop) h
    ·cases h
   ·cases h
   ·cases h
   ·cases h
   ·cases h
   ·split at h
    ·refine xparts_h hf ?_ h
     have set:∀(cs:List SV) (i:Nat),hS m cs→hS m (setN cs i (opv fr x)):=by
      intro cs
      induction cs with
      | nil=>intro i h;cases i<;>exact h
      | cons z s ih=>intro i h;cases i with
       | zero=>exact h.tail.cons hx
       | succ i=>exact (ih i h.tail).cons h.head
     exact set cs off hc
    ·cases h
  ·cases h
theorem xbuildS_step (hT:TabOk P E.T) {o:Oper} {t m:Nat} {ps:Array (Nat×Operand)} (hop:o.op=.buildSlice t m ps) (hc:Cfg w0 S B nk N S q fr L a w) (hR:Rep M L) (hf:hF nk fr) (hl:hL nk L) (hB:B=fun d=>getL L d=some .dfr)
  (h:xbuildS E.T t m nk fr ps.toList M=some (y,M')) (hp:putX N o.dst y fr=some fr'):Oper.wpIn (FF r) n P o a w (St w0 S B nk N (XK (nk+1) fr' M')) Q:=by
 unfold xbuildS at h
 split at h
 rotate_left
 ·cases h
 rename_i e hd
 split at h
 ·cases h
 rename_i h0
 replace h0:(ty E.T e).d≠.other:=fun e=>h0 e
 split at h
 rotate_left
 ·cases h
 rename_i cs hcs
 split at h
 rotate_left
 ·cases h
 rename_i M1 hone h2 hM
 cases h
 have h2:=Nat.le_of_ble_eq_true h2
 have h':=xparts_ok (K:=fun l=>l=cs) hcs rfl
 obtain ⟨ht,hsz,i,hi,hisz,_⟩:descOk P E.T t (.slice e):=by rw [←hd];exact (hT t (by rw [hd];simp)).d
 obtain ⟨i',z,hi',hisz',_,hz,hzc⟩:=(hT e h0).i
 rw [hi] at hi'
 cases hi'
 have hzl:(ty E.T e).zero.length=(ty E.T e).sz:=(hT e h0).zl
 obtain ⟨l,us,hK,hok,hf1⟩:=partsK_ok (T:=E.T) (ρ:=a.eval) hc.f (fun x=>opv_ok hc.f x) (fun i=>some (i * (ty E.T e).sz,(ty E.T e).sz)) (fun i off t h=>by
  obtain ⟨h1,h2⟩:=elemPl_nth m 0 i off t h
  rw [h1,h2];simp) ps.toList _ _ _ (okL_repl (okL_valL (S:=S) (ty E.T e).zero) m) h'
 have hrun0:m * (ty E.T e).sz≤16777216→(Instr.buildSlice t m (ps.map fun (q:Nat×Operand)=>(q.1,a.eval q.2))).run P w=.ok (.slice (some ⟨w.heap.size,0,none⟩) m m) (w.alloc (.cells us.toArray e)):=fun h2=>by
  have hus:us.length=m * (ty E.T e).sz:=by
   have hl:=okL_length hok
   have:us.toArray.size=(List.replicate m (ty E.T e).zero).flatten.toArray.size:=fill_size hf1
   simpa [hzl] using this
  have hps:(ps.map fun (q:Nat×Operand)=>(q.1,a.eval q.2)).toList=ps.toList.map fun q=>(q.1,a.eval q.2):=by simp
  have hmade:(if m * (ty E.T e).sz=0 then (#[]:Array Value) else z.cells)=(if m * (ty E.T e).sz=0 then (#[]:Array Value) else (ty E.T e).zero.toArray):=by rw [←hzc]
  have hrun:(Instr.buildSlice t m (ps.map fun (q:Nat×Operand)=>(q.1,a.eval q.2))).run P w=.ok (.slice (some ⟨w.heap.size,0,none⟩) m m) (w.alloc (.cells us.toArray e)):=by
   have hlim:¬(2 ^ 24<m * i.size):=by rw [hisz];omega
   by_cases hz0:m * i.size=0
   ·have hm0:m=0:=by
     rcases Nat.mul_eq_zero.1 hz0 with h | h
     ·exact h
     ·omega
    subst hm0
    simp only [List.replicate_zero,List.flatten_nil] at hf1
    have hr0:Array.range 0=#[]:=rfl
    simp only [Instr.buildSlice,Sem.run_bind,run_underlying ht,Result.andThen_ok,sizeOf,typeInfo,run_program,hi,Sem.run_pure,Nat.zero_mul]
    rw [if_neg (by omega)]
    simp only [Sem.run_bind,Result.andThen_ok,Sem.run_pure,if_true,hisz,Nat.zero_mul,hr0,Array.map_empty]
    rw [hps,hf1]
    simp [newRow]
   ·have hm:=made_flat (ty E.T e).zero (by omega) m
    rw [hzl] at hm
    have hf2:=hf1
    rw [←hm] at hf2
    have hz':z.cells=(ty E.T e).zero.toArray:=by rw [←hzc]
    have hz0':¬m * (ty E.T e).sz=0:=by rw [←hisz];exact hz0
    simp only [Instr.buildSlice,Sem.run_bind,run_underlying ht,Result.andThen_ok,sizeOf,typeInfo,run_program,hi,Sem.run_pure]
    rw [if_neg (by omega)]
    simp only [Sem.run_bind,hz0',if_false,zeroValue,typeInfo,run_program,Result.andThen_ok,hi,Sem.run_pure,hz,hisz,hz']
    rw [hps,hf2]
    simp [newRow]
  exact hrun
 subst hK
 have hrun:=hrun0 h2
 have hus:us.length=m * (ty E.T e).sz:=by
  have hl:=okL_length hok
  have:us.toArray.size=(List.replicate m (ty E.T e).zero).flatten.toArray.size:=fill_size hf1
  simpa [hzl] using this
 have hcsh:hS nk l:=xparts_h hf (repl_h (.valL _) m) hcs
 refine Oper.wpIn_mono (fun a w h=>XL.to (hR.new hM) (putX_h hp (hf.mono (Nat.le_succ nk)) (hV_own (Nat.lt_succ_self nk))) ((hl.mono (Nat.le_succ nk)).new (Nat.lt_succ_self nk) (.row (hcsh.mono (Nat.le_succ nk)))) (XL.rowed hok hcsh h))
  (arr_new (key:=nk) (nk:=0) (K:=XL fr' ((nk,.arr e (ty E.T e).sz m us)::L)) (cur:=us.toArray) (cap:=m) hc (nd_of hop (by simp)) rfl (run_exec (by simp only [execOp,hop]) hrun) hsz hus (Nat.le_refl _) (by
  have:=Nat.le_mul_of_pos_right m hsz
  have e:maxLen=9223372036854775807:=by decide
  omega) (by simpa using hus) (by rw [←hus];simp) (oneL_ok hone hok) (newK_of hf hl (putX_ok hp ⟨rfl,rfl⟩)))
end
end Exe
end Go.Eng
end
section
namespace Go.Eng
open Go Go.RowKit
namespace Exe
noncomputable section
variable {P:Program} {S S' Sb:Pl} {fr fr':Fr} {L L':LL} {q q':PH} {w0:W0} {w w':World} {a a':Act} {n0 N:Nat} {B:Nat→Prop} {E:Env}
variable {r:Option Nat} {n:Nat} {Q:Exit→Act→World→Prop} {M M':Mm} {nk:Nat} {y:SV}
def xmake (T:Tab) (t nk:Nat) (l c:SV) (M:Mm):Option (SV×Mm):=
 match (ty T t).d,l,c with
 | .slice e,.v (.int .i64 n),.v (.int .i64 m)=>
  (match (ty T e).d with
  | .other=>none
  | _=>(match Nat.beq (ty T e).sz 1,(ty T e).zero,oneVL (ty T e).zero,in3 n m 9223372036854775807,in3 0 (m * (ty T e).byt) 140737488355328 with
   | true,[z],true,true,true=>(match xput M nk (some (.row e (ty T e).sz n.toNat (valL (List.replicate n.toNat z)))) with | some M'=>some (.own nk,M') | none=>none)
   | _,_,_,true,true=>(match decide (n=0),xput M nk (some (.row e (ty T e).sz 0 [])) with | true,some M'=>some (.own nk,M') | _,_=>none)
   | _,_,_,_,_=>none))
 | _,_,_=>none
theorem xmake_step (hT:TabOk P E.T) {o:Oper} {t:Nat} {l c:Operand} (hop:o.op=.makeSlice t l c) (hc:Cfg w0 S B nk N S q fr L a w) (hR:Rep M L) (hf:hF nk fr) (hl:hL nk L)
  (h:xmake E.T t nk (opv fr l) (opv fr c) M=some (y,M')) (hp:putX N o.dst y fr=some fr'):Oper.wpIn (FF r) n P o a w (St w0 S B nk N (XK (nk+1) fr' M')) Q:=by
 unfold xmake at h
 split at h
 rotate_left
 ·cases h
 rename_i e k m hd hel hec
 split at h
 ·cases h
 rename_i hne
 replace hne:(ty E.T e).d≠.other:=fun e=>hne e
 have fin:∀{us:List Value} {c0:Nat} {K1:Kt},xput M nk (some (.row e (ty E.T e).sz c0 (valL us)))=some M'→y=.own nk →
   Oper.wpIn (FF r) n P o a w (St w0 S B nk N (XL fr' ((nk,.arr e (ty E.T e).sz c0 us)::L))) Q→Oper.wpIn (FF r) n P o a w (St w0 S B nk N (XK (nk+1) fr' M')) Q:=by
  intro us c0 K1 hM hy hw
  subst hy
  exact Oper.wpIn_mono (fun a w h=>XL.to (hR.new hM) (putX_h hp (hf.mono (Nat.le_succ nk)) (hV_own (Nat.lt_succ_self nk))) ((hl.mono (Nat.le_succ nk)).new (Nat.lt_succ_self nk) (.row (.valL _))) (XL.rowed (okL_valL _) (.valL _) h)) hw
 have mk:(makeK E.T t nk nk (opv fr l) (opv fr c) fr L fun x L=>putK N o.dst x fr fun fr=>XL fr' L 0 q fr L)→True:=fun _=>trivial
 split at h
 ·rename_i z h1 h2 h3 h4 h5
  split at h
  rotate_left
  ·cases h
  rename_i M1 hM
  cases h
  have h4:=in3_ok h4
  have h5:=in3_ok h5
  refine fin (K1:=XL fr' L) hM rfl (make_step (key:=nk) (nk:=0) hT hop hc ?_)
  unfold makeK
  rw [hd,hel,hec]
  dsimp only
  have main:Ob (0≤k∧k≤m∧m≤9223372036854775807∧m * (ty E.T e).byt≤140737488355328)∧∀N' zs,N'=k.toNat→zs=List.replicate k.toNat z→newK nk nk fr L (.arr e (ty E.T e).sz N' zs) fun L'=>putK N o.dst (.own nk) fr fun fr=>XL fr' ((nk,.arr e (ty E.T e).sz k.toNat (List.replicate k.toNat z))::L) 0 q fr L':=
   ⟨⟨h4.1,h4.2.1,h4.2.2,h5.2.2⟩,fun N' zs e1 e2=>by subst e1 e2;exact newK_of hf hl (putX_ok hp ⟨rfl,rfl⟩)⟩
  revert main h1 h2 h3 hne
  generalize ty E.T e=ti
  obtain ⟨d,sz,byt,zero,fl,cm⟩:=ti
  intro hne h1 h2 h3 main
  dsimp only at h1 h2 h3 main hne ⊢
  rw [h2] at h3 ⊢
  cases d<;>first
   | exact absurd rfl hne
   | (dsimp only;rw [h1,h3];exact main)
 ·rename_i h4 h5 hN
  split at h
  rotate_left
  ·cases h
  rename_i M1 h0 hM
  cases h
  have h0:k=0:=of_decide_eq_true h0
  subst h0
  have h4:=in3_ok h4
  have h5:=in3_ok h5
  refine fin (us:=[]) (K1:=XL fr' L) hM rfl (make_step (key:=nk) (nk:=0) hT hop hc ?_)
  unfold makeK
  rw [hd,hel,hec]
  dsimp only
  have main:Ob ((0:Int)=0∧0≤m∧m≤9223372036854775807∧m * (ty E.T e).byt≤140737488355328)∧newK nk nk fr L (.arr e (ty E.T e).sz 0 []) fun L'=>putK N o.dst (.own nk) fr fun fr=>XL fr' ((nk,.arr e (ty E.T e).sz 0 [])::L) 0 q fr L':=
   ⟨⟨rfl,h4.2.1,h4.2.2,h5.2.2⟩,newK_of hf hl (putX_ok hp ⟨rfl,rfl⟩)⟩
  have main2:∀z:Value,Ob ((0:Int)≤0∧0≤m∧m≤9223372036854775807∧m * (ty E.T e).byt≤140737488355328)∧∀N' zs,N'=Int.toNat 0→zs=List.replicate (Int.toNat 0) z→newK nk nk fr L (.arr e (ty E.T e).sz N' zs) fun L'=>putK N o.dst (.own nk) fr fun fr=>XL fr' ((nk,.arr e (ty E.T e).sz 0 [])::L) 0 q fr L':=
   fun z=>⟨⟨Int.le_refl _,h4.2.1,h4.2.2,h5.2.2⟩,fun N' zs e1 e2=>by subst e1 e2;exact main.2⟩
  clear hN h5 hM fin mk
  revert main main2 hne
  generalize ty E.T e=ti
  obtain ⟨d,sz,byt,zero,fl,cm⟩:=ti
  intro hne main main2
  dsimp only at main main2 hne ⊢
  have hh:∀(X:Prop) (Y:Value→Prop),X→(∀z,Y z)→(match Nat.beq sz 1,zero,oneVL zero with | true,[z],true=>Y z | _,_,_=>X):=by
   intro X Y hX hY
   split
   ·exact hY _
   ·exact hX
  cases d<;>first
   | exact absurd rfl hne
   | exact hh _ (fun z=>Ob ((0:Int)≤0∧0≤m∧m≤9223372036854775807∧m * byt≤140737488355328)∧∀N' zs,N'=Int.toNat 0→zs=List.replicate (Int.toNat 0) z→newK nk nk fr L (.arr e sz N' zs) fun L'=>putK N o.dst (.own nk) fr fun fr=>XL fr' ((nk,.arr e sz 0 [])::L) 0 q fr L') main main2
 ·cases h
def xmakeA (T:Tab) (t nk:Nat) (l c:SV) (M:Mm):Option (SV×Mm):=
 match (ty T t).d,l,c with
 | .slice e,.v (.int .i64 n),.v (.int .i64 m)=>
  (match (ty T e).d with
  | .other=>none
  | _=>(match Nat.beq (ty T e).sz 1,Nat.beq (ty T e).zero.length (ty T e).sz,oneVL (ty T e).zero,in3 n m 9223372036854775807,in3 0 (m * (ty T e).byt) 140737488355328,xput M nk (some (.row e (ty T e).sz n.toNat (repl n.toNat (valL (ty T e).zero)))) with
   | false,true,true,true,true,some M'=>some (.own nk,M')
   | _,_,_,_,_,_=>xmake T t nk l c M))
 | _,_,_=>none
theorem valL_app:∀(a b:List Value),valL (a++b)=valL a++valL b
 | [],b=>rfl
 | x::a,b=>by cases x<;>simp [valL,valL_app a b]
theorem repl_val {l:List Value}:∀n,repl n (valL l)=valL (List.replicate n l).flatten
 | 0=>rfl
 | n+1=>by
  show valL l++repl n (valL l)=_
  rw [repl_val n,List.replicate_succ,List.flatten_cons,valL_app]
theorem made_flat {z:Array Value} {sz:Nat} (h:z.size=sz):∀n,(List.range (n * sz)).map (z[· % z.size]!)=(List.replicate n z.toList).flatten
 | 0=>by simp
 | n+1=>by
  rw [Nat.succ_mul,List.range_add,List.map_append,made_flat h n,List.replicate_succ',List.flatten_append,List.map_map]
  congr 1
  simp only [List.flatten_cons,List.flatten_nil,List.append_nil]
  apply List.ext_getElem
  ·simp [h]
  ·intro i h1 h2
   have hi:i<sz:=by simpa using h1
   simp only [List.getElem_map,List.getElem_range,Function.comp,Array.getElem_toList]
   rw [h,Nat.mul_comm n sz,Nat.mul_add_mod,Nat.mod_eq_of_lt hi,getElem!_pos z i (by omega)]
theorem xmakeA_step (hT:TabOk P E.T) {o:Oper} {t:Nat} {l c:Operand} (hop:o.op=.makeSlice t l c) (hc:Cfg w0 S B nk N S q fr L a w) (hR:Rep M L) (hf:hF nk fr) (hl:hL nk L)
  (h:xmakeA E.T t nk (opv fr l) (opv fr c) M=some (y,M')) (hp:putX N o.dst y fr=some fr'):Oper.wpIn (FF r) n P o a w (St w0 S B nk N (XK (nk+1) fr' M')) Q:=by
 unfold xmakeA at h
 split at h
 rotate_left
 ·cases h
 rename_i e k m hd hel hec
 split at h
 ·cases h
 rename_i hne
 replace hne:(ty E.T e).d≠.other:=fun e=>hne e
 split at h
 rotate_left
 ·exact xmake_step hT hop hc hR hf hl h hp
 rename_i M1 h1 h2 h3 h4 h5 hM
 cases h
 have h2:=Nat.eq_of_beq_eq_true h2
 have h4:=in3_ok h4
 have h5:=in3_ok h5
 have hlv:=opv_ok hc.f l
 have hcv:=opv_ok hc.f c
 rw [hel] at hlv
 rw [hec] at hcv
 have hlv:a.eval l=.int .i64 k:=hlv
 have hcv:a.eval c=.int .i64 m:=hcv
 obtain ⟨ht,hsz,i,hi,hisz,hiby⟩:descOk P E.T t (.slice e):=by rw [←hd];exact (hT t (by rw [hd];simp)).d
 obtain ⟨i',z,hi',hisz',_,hz,hzc⟩:=(hT e hne).i
 rw [hi] at hi'
 cases hi'
 have hex:(execOp a.eval o)=(do pure (.value (←Instr.makeSlice t (.int .i64 k) (.int .i64 m)))):=by
  simp only [execOp,hop,hlv,hcv]
 have hr:=run_make (P:=P) w t e i z ht hi hz .i64 .i64 k m h4.1 h4.2.1 (by rw [hiby,Int.mul_comm];omega) h4.2.2
 have hzs:z.cells.size=(ty E.T e).sz:=by rw [←h2,←hzc];simp
 have hus:(List.replicate k.toNat (ty E.T e).zero).flatten=(List.range (k.toNat * (ty E.T e).sz)).map (z.cells[· % z.cells.size]!):=by rw [made_flat hzs,hzc]
 have hone:∀u∈(List.replicate k.toNat (ty E.T e).zero).flatten,u.oneCell'=true:=fun u hu=>by
  obtain ⟨l1,hl1,hu⟩:=List.mem_flatten.1 hu
  rw [List.eq_of_mem_replicate hl1] at hu
  exact oneVL_ok h3 u hu
 have hst:Oper.wpIn (FF r) n P o a w (St w0 S B nk N (XL fr' ((nk,.arr e (ty E.T e).sz k.toNat (List.replicate k.toNat (ty E.T e).zero).flatten)::L))) Q:=by
  refine arr_new (cap:=m.toNat) (nk:=0) hc (nd_of hop (by simp)) rfl (run_exec hex hr) hsz ?_ (by omega) (maxLen_le (by omega)) (by rw [size_madeCells,hisz]) ?_ hone (newK_of hf hl (putX_ok hp ⟨rfl,rfl⟩))
  ·rw [hus];simp
  ·rw [hus,hisz]
   unfold madeCells
   rw [Array.toList_map,Array.toList_range,←List.map_take,List.take_range]
   congr 2
   rw [Nat.min_eq_left]
   exact Nat.mul_le_mul_right _ (by omega)
 rw [repl_val] at hM
 exact Oper.wpIn_mono (fun a w h=>XL.to (hR.new hM) (putX_h hp (hf.mono (Nat.le_succ nk)) (hV_own (Nat.lt_succ_self nk))) ((hl.mono (Nat.le_succ nk)).new (Nat.lt_succ_self nk) (.row (.valL _))) (XL.rowed (okL_valL _) (.valL _) h)) hst
def xstore (T:Tab) (t:Nat) (p x:SV) (M:Mm):Option Mm:=
 match isOther T t with
 | true=>none
 | false=>(match p with
  | .lp k o=>(match xbox T t x with
   | some l=>(match M.get k with
    | some (.cells TT cs)=>(match Nat.ble (o+l.length) cs.length with | true=>xput M k (some (.cells TT (takeN cs o++l++dropN cs (o+l.length)))) | false=>none)
    | some (.row e sz n cs)=>(match Nat.ble (o+l.length) cs.length with | true=>xput M k (some (.row e sz n (takeN cs o++l++dropN cs (o+l.length)))) | false=>none)
    | _=>none)
   | none=>none)
  | _=>none)
theorem row_store (hT:TabOk P E.T) {o:Oper} {t k off e sz m:Nat} {x y:Operand} {cs l:List SV} (hop:o.op=.store t x y) (hc:Cfg w0 Sb B n0 N S q fr L a w) (h0:(ty E.T t).d≠.other)
  (hx:a.eval x=.pointer (some ⟨(S k).b,off,none⟩)) (hk:getL L k=some (.row e sz m cs)) (hok:okL S l (a.eval y).cells.toList) (hlen:l.length=(ty E.T t).sz) (h1:∀u∈(a.eval y).cells.toList,u.oneCell'=true)
  (hb:off+l.length≤cs.length) {fr1:Fr} (hp:putX N o.dst (.v undef) fr=some fr1) :
  Oper.wpIn (FF r) n P o a w (St w0 Sb B n0 N (XL fr1 (setL L k (.row e sz m (takeN cs off++l++dropN cs (off+l.length)))))) Q:=by
 obtain ⟨i,z,hi,hisz,_⟩:=(hT t h0).i
 have hpos:=(hT t h0).pos
 obtain ⟨xs,⟨⟨hl,hown⟩,hn,hsz,hone,hA⟩,hxs⟩:=hc.m.ch k _ hk
 have hcl:=okL_length hxs
 have hl2:=okL_length hok
 rcases hown with ⟨_,hz0⟩ | ⟨g,cap,cur,hval,hg0,hg,hcap,hmax,hcur,htake⟩
 ·subst hz0
  have:cs.length=0:=by rw [hcl,hl];simp
  omega
 injection hval with hval hval2 hval3
 have hAb:(S k).A=some ⟨(S k).b,0,none⟩:=by
  rcases hA with hA | hA
  ·rw [hA] at hval;cases hval
  ·exact hA
 have hgb:g=(S k).b:=by
  rw [hAb] at hval
  injection hval with hval
  injection hval with hval _ _
  exact hval.symm
 subst hgb
 have hle:m * sz≤cap * sz:=Nat.mul_le_mul_right sz hcap
 have hcl2:cs.length=m * sz:=hcl.trans hl
 have hr:=run_storeAt_own (P:=P) (o:=off) (v:=a.eval y) hi hisz (by rw [←hl2,hlen]) hg (by rw [hcur];omega) h1
 have hlv:(a.eval y).cells.toList.length=l.length:=hl2.symm
 refine wpIn_skip' (nd_of hop (by simp)) (w':=w.setRow (S k).b (cur.toList.take off++(a.eval y).cells.toList++cur.toList.drop (off+(ty E.T t).sz)).toArray) ?_ ?_
 ·simp only [execOp,hop,hx,Sem.run_bind,hr,Result.andThen_ok,Sem.run_pure]
 have htk:(cur.toList.take off++(a.eval y).cells.toList++cur.toList.drop (off+(ty E.T t).sz)).take (m * sz)=xs.take off++(a.eval y).cells.toList++xs.drop (off+l.length):=by
  have:=take_mid (l:=cur.toList) (m:=(a.eval y).cells.toList) (lo:=off) (n:=m * sz) (by rw [hlv];omega) (by rw [Array.length_toList,hcur];exact hle)
  rw [hlv,htake] at this
  rw [←hlen]
  exact this
 have hmem:Mem w0 q S (setL L k (.row e sz m (takeN cs off++l++dropN cs (off+l.length)))) (w.setRow (S k).b (cur.toList.take off++(a.eval y).cells.toList++cur.toList.drop (off+(ty E.T t).sz)).toArray):=by
  refine hc.m.turn hk (by simp [blk,hAb]) setRow_grown ?_ (by simp [blk,hAb])
  refine ⟨xs.take off++(a.eval y).cells.toList++xs.drop (off+l.length),⟨⟨?_,.inr ⟨_,cap,_,?_,hg0,setRow_heap w _ _ _ e (0,0) hg,hcap,hmax,?_,?_⟩⟩,hn,hsz,?_,hA⟩,?_⟩
  ·rw [List.length_append,List.length_append,List.length_take,List.length_drop,hlv];omega
  ·rw [hAb,hval2,hval3]
  ·simp only [List.size_toArray,List.length_append,List.length_take,List.length_drop,hlv,Array.length_toList,hlen] at *;omega
  ·simpa using htk
  ·intro u hu
   rcases List.mem_append.1 hu with hu | hu
   ·rcases List.mem_append.1 hu with hu | hu
    ·exact hone u (List.mem_of_mem_take hu)
    ·exact h1 u hu
   ·exact hone u (List.mem_of_mem_drop hu)
  ·exact okL_append (okL_append (okL_take off hxs) hok) (okL_drop _ hxs)
 obtain ⟨fr',hK',hc'⟩:=(hc.turn (lb':=.row e sz m (takeN cs off++l++dropN cs (off+l.length))) hk (by simp) hmem).put (v:=undef) (K:=fun fr=>fr=fr1) (putX_ok hp rfl) rfl
 exact ⟨S,q,fr',_,0,hc',hK',rfl⟩
theorem xstore_step (hT:TabOk P E.T) {o:Oper} {t:Nat} {x v:Operand} (hop:o.op=.store t x v) (hc:Cfg w0 S B nk N S q fr L a w) (hR:Rep M L) (hf:hF nk fr) (hl:hL nk L)
  (h:xstore E.T t (opv fr x) (opv fr v) M=some M') (hp:putX N o.dst (.v undef) fr=some fr'):Oper.wpIn (FF r) n P o a w (St w0 S B nk N (XK nk fr' M')) Q:=by
 unfold xstore at h
 split at h
 ·cases h
 rename_i ho
 have h0:(ty E.T t).d≠.other:=fun e=>by simp [isOther,e] at ho
 split at h
 rotate_left
 ·cases h
 rename_i k off ek
 split at h
 rotate_left
 ·cases h
 rename_i l hx
 have hlS:hS nk l:=xbox_h hx (hf.opv v)
 have hfv:hF nk fr':=putX_h hp hf (fun k hk=>by simp [SV.has] at hk)
 split at h
 ·rename_i TT cs hk
  split at h
  rotate_left
  ·cases h
  rename_i hb
  rw [←hR k] at hk
  refine store_gen (nk:=0) hT hop hc (opv_ok hc.f v) ?_
  unfold storeK
  rw [ho,ek]
  dsimp only
  rw [hk]
  refine xbox_ok hx ?_
  rw [hb]
  dsimp only
  rw [fLL_eq]
  have hcs:hS nk cs:=hl.get hk
  exact putX_ok hp ⟨rfl,hR.set hk h,hfv,hl.set (.cells ((hcs.take.append hlS).append hcs.drop))⟩
 ·rename_i e sz m cs hk
  split at h
  rotate_left
  ·cases h
  rename_i hb
  have hb:=Nat.le_of_ble_eq_true hb
  rw [←hR k] at hk
  have hxe:=opv_ok hc.f x
  rw [ek] at hxe
  obtain ⟨l',e',hok,hlen,_,h1⟩:=boxCells_ok (xbox_ok (K:=fun l'=>l'=l) hx rfl) (opv_ok hc.f v)
  subst e'
  have hcs:hS nk cs:=hl.get hk
  exact Oper.wpIn_mono (fun a w h'=>XL.to (hR.set hk h) hfv (hl.set (.row ((hcs.take.append hlS).append hcs.drop))) h') (row_store hT hop hc h0 hxe hk hok hlen h1 hb hp)
 ·cases h
end
end Exe
end Go.Eng
end
section
namespace Go.Eng
open Go Go.RowKit
namespace Exe
noncomputable section
variable {P:Program} {S S' Sb:Pl} {fr fr':Fr} {L L':LL} {q q':PH} {w0:W0} {w w':World} {a a':Act} {n0 N:Nat} {B:Nat→Prop} {E:Env}
variable {r:Option Nat} {n:Nat} {Q:Exit→Act→World→Prop} {M M':Mm} {nk:Nat} {y:SV}
def xsrcM (M:Mg) (sz:Nat) (x:SV):Option (Nat×List SV):=
 match x with
 | .v (.slice none 0 _)=>some (0,[])
 | .own j=>(match M j with
  | some (.row _ sz' n cs)=>(match Nat.beq sz' sz with | true=>some (n,cs) | false=>none)
  | some (.sb _ n xs)=>(match Nat.beq sz 1,oneVL xs with | true,true=>some (n,valL xs) | _,_=>none)
  | _=>none)
 | .vw j lo sz'' m _=>(match M j with
  | some (.row _ sz' n cs)=>(match Nat.beq sz'' sz,Nat.beq sz' sz,Nat.ble (lo+m) n with | true,true,true=>some (m,vwS cs lo sz m) | _,_,_=>none)
  | some (.sb _ n xs)=>(match Nat.beq sz'' 1,Nat.beq sz 1,Nat.ble (lo+m) n,oneVL xs with | true,true,true,true=>some (m,valL ((xs.drop lo).take m)) | _,_,_,_=>none)
  | _=>none)
 | _=>none
def xdstM (M:Mg) (e sz:Nat) (s:SV):Option (Option Nat×Nat×List SV):=
 match s with
 | .v (.slice none 0 0)=>some (none,0,[])
 | .own k=>(match M k with | some (.row e' sz' n cs)=>(match Nat.beq e' e,Nat.beq sz' sz with | true,true=>some (some k,n,cs) | _,_=>none) | _=>none)
 | .vw k 0 sz'' m true=>(match M k with | some (.row e' sz' n cs)=>(match Nat.beq e' e,Nat.beq sz' sz,Nat.ble m n with | true,true,true=>some (some k,m,takeN cs (m * sz)) | _,_,_=>none) | _=>none)
 | _=>none
theorem xsrc_eq (hR:Rep M L) {sz:Nat} {x:SV}:xsrc L sz x=xsrcM M.get sz x:=by
 have:M.get=getL L:=(funext hR).symm
 rw [this]
 rfl
theorem xdst_eq (hR:Rep M L) {e sz:Nat} {x:SV}:xdst L e sz x=xdstM M.get e sz x:=by
 have:M.get=getL L:=(funext hR).symm
 rw [this]
 rfl
def xremM (M:Mm) (k:Option Nat):Option Mm:=match k with | none=>some M | some k=>xput M k none
def xappM (T:Tab) (t nk:Nat) (s x:SV) (M:Mm):Option (SV×Mm):=
 match (ty T t).d with
 | .slice e=>
  (match (ty T e).d with
  | .other=>none
  | _=>(match xsrcM M.get (ty T e).sz x with
   | none=>none
   | some (m,ys)=>(match xdstM M.get e (ty T e).sz s with
    | none=>none
    | some (k,n,cs)=>(match xcap (n+m) (ty T e).byt,xput M nk (some (.row e (ty T e).sz (n+m) (catQ cs ys))) with
     | true,some M1=>(match xremM M1 k with | some M2=>some (.own nk,M2) | none=>none)
     | _,_=>none))))
 | _=>none
theorem xfresh_of (hf:hF nk fr) (hl:hL nk L):xfresh nk nk fr L=true:=by
 unfold xfresh
 rw [Nat.ble_eq_true_of_le (Nat.le_refl nk),noF hf,noL hl]
theorem Rep.newrem {M1 M2:Mm} {k:Option Nat} {x:LB} (hR:Rep M L) (hl:hL nk L) (hk:∀k',k=some k'→∃y,getL L k'=some y) (h1:xput M nk (some x)=some M1) (h2:xremM M1 k=some M2):Rep M2 ((nk,x)::xrem k L):=by
 cases k with
 | none=>cases h2;exact hR.new h1
 | some k=>
  obtain ⟨y,hy⟩:=hk k rfl
  have hlt:=hl.key hy
  intro j
  have h2:xput M1 k none=some M2:=h2
  rw [xput_get h2,xput_get h1,getL_cons]
  show (if nk=j then some x else getL (remL L k) j)=_
  rw [getL_remL,hR j]
  by_cases e:nk=j
  ·rw [if_pos e,if_pos e,if_neg (by omega)]
  ·rw [if_neg e,if_neg e]
theorem xdst_h {e sz:Nat} {s:SV} {k:Option Nat} {n' m:Nat} {cs:List SV} (hl:hL m L) (h:xdst L e sz s=some (k,n',cs)):hS m cs∧∀k',k=some k'→∃y,getL L k'=some y:=by
 unfold xdst at h
 split at h
 ·cases h;exact ⟨.nil,fun _ h=>by cases h⟩
 ·split at h
  ·rename_i hk
   split at h
   ·cases h;exact ⟨hl.get hk,fun k' e=>by cases e;exact ⟨_,hk⟩⟩
   ·cases h
  ·cases h
 ·split at h
  ·rename_i hk
   split at h
   ·cases h;exact ⟨hS.take (hl.get hk),fun k' e=>by cases e;exact ⟨_,hk⟩⟩
   ·cases h
  ·cases h
 ·cases h
theorem xsrc_h {sz:Nat} {x:SV} {n' m:Nat} {cs:List SV} (hl:hL m L) (h:xsrc L sz x=some (n',cs)):hS m cs:=by
 unfold xsrc at h
 split at h
 ·cases h;exact .nil
 ·split at h
  ·rename_i hk
   split at h
   ·cases h;exact hl.get hk
   ·cases h
  ·split at h
   ·cases h;exact .valL _
   ·cases h
  ·cases h
 ·split at h
  ·rename_i hk
   split at h
   ·cases h;exact hS.take (hS.drop (hl.get hk))
   ·cases h
  ·split at h
   ·cases h;exact .valL _
   ·cases h
  ·cases h
 ·cases h
theorem hL.xrem {m:Nat} {k:Option Nat} (hl:hL m L):hL m (xrem k L):=by
 cases k with
 | none=>exact hl
 | some k=>exact hL.rem hl
theorem xapp_stepM (hT:TabOk P E.T) {o:Oper} {t:Nat} {so xo:Operand} (hop:o.op=.call ⟨.builtin .append,#[so,xo],#[t,t]⟩) (hc:Cfg w0 S B nk N S q fr L a w) (hR:Rep M L) (hf:hF nk fr) (hl:hL nk L)
  (h:xappM E.T t nk (opv fr so) (opv fr xo) M=some (y,M')) (hp:putX N o.dst y fr=some fr'):Oper.wpIn (FF r) n P o a w (St w0 S B nk N (XK (nk+1) fr' M')) Q:=by
 unfold xappM at h
 split at h
 rotate_left
 ·cases h
 rename_i e hd
 split at h
 ·cases h
 rename_i hne
 replace hne:(ty E.T e).d≠.other:=fun e=>hne e
 split at h
 ·cases h
 rename_i m ys hsrc
 split at h
 ·cases h
 rename_i k n' cs hdst
 split at h
 rotate_left
 ·cases h
 rename_i M1 hcap hM1
 split at h
 rotate_left
 ·cases h
 rename_i M2 hM2
 cases h
 rw [←xsrc_eq hR] at hsrc
 rw [←xdst_eq hR] at hdst
 obtain ⟨hcs,hk⟩:=xdst_h hl hdst
 have hys:=xsrc_h hl hsrc
 have hx:xapp E.T t nk nk (opv fr so) (opv fr xo) fr L=some (.own nk,(nk,.row e (ty E.T e).sz (n'+m) (catQ cs ys))::xrem k L):=by
  unfold xapp
  rw [hd]
  dsimp only
  have main:(match xsrc L (ty E.T e).sz (opv fr xo) with
   | none=>none
   | some (m,ys)=>(match xdst L e (ty E.T e).sz (opv fr so) with
    | none=>none
    | some (k,n,cs)=>(match xcap (n+m) (ty E.T e).byt,xfresh nk nk fr L with
     | true,true=>some (SV.own nk,(nk,LB.row e (ty E.T e).sz (n+m) (catQ cs ys))::xrem k L)
     | _,_=>none)))=some (.own nk,(nk,.row e (ty E.T e).sz (n'+m) (catQ cs ys))::xrem k L):=by
   rw [hsrc,hdst]
   dsimp only
   rw [hcap,xfresh_of hf hl]
  revert main hne
  generalize ty E.T e=ti
  obtain ⟨d,sz,byt,zero,fl,cm⟩:=ti
  intro hne main
  cases d<;>first | exact absurd rfl hne | exact main
 refine xapp_step (key:=nk) (nk:=0) hT hop hc hx (putX_ok hp ⟨rfl,hR.newrem hl hk hM1 hM2,putX_h hp (hf.mono (Nat.le_succ nk)) (hV_own (Nat.lt_succ_self nk)),?_⟩)
 refine ((hL.xrem hl).mono (Nat.le_succ nk)).new (Nat.lt_succ_self nk) ?_
 rw [catQ_eq]
 exact hB.row ((hcs.append hys).mono (Nat.le_succ nk))
def xbv (c:ByteArray):List SV:=valL (c.data.toList.map bv)
def xappSM (T:Tab) (t u nk:Nat) (s x:SV) (M:Mm):Option (SV×Mm):=
 match (ty T t).d,(ty T u).d,x with
 | .slice e,.str,.v (.string c)=>(match isByte (ty T e) with
  | true=>(match s with
   | .v (.slice none 0 0)=>(match Nat.ble c.size 140737488355328,xput M nk (some (.row e 1 c.size (xbv c))) with | true,some M'=>some (.own nk,M') | _,_=>none)
   | .own k=>(match M.get k with
    | some (.row e' sz' n cs)=>(match Nat.beq e' e,Nat.beq sz' 1,Nat.ble (n+c.size) 140737488355328,xput M nk (some (.row e 1 (n+c.size) (catQ cs (xbv c)))) with
     | true,true,true,some M1=>(match xput M1 k none with | some M2=>some (.own nk,M2) | none=>none)
     | _,_,_,_=>none)
    | _=>none)
   | _=>none)
  | false=>none)
 | _,_,_=>none
theorem _root_.Go.Eng.Cfg.view {k e sz m:Nat} {cs:List SV} (hc:Cfg w0 Sb B n0 N S q fr L a w) (hk:getL L k=some (.row e sz m cs)) :
  ∃xs,okL S cs xs∧chunk 0 S k (.arr e sz m xs) w∧getL (setL L k (.arr e sz m xs)) k=some (.arr e sz m xs)∧Cfg w0 Sb B n0 N S q fr (setL L k (.arr e sz m xs)) a w:=by
 obtain ⟨xs,h1,h2,h3,h4⟩:=hc.m.view hk
 refine ⟨xs,h1,h2,h3,hc.ag,fun d hd hB=>?_,h4,hc.f,hc.n,hc.d⟩
 have:=hc.b d hd hB
 rw [getL_setL]
 split
 ·rename_i e;subst e;rw [hk] at this;cases this
 ·exact this
theorem hB_arr {m e sz k:Nat} {xs:List Value}:hB m (.arr e sz k xs):=fun j hj=>by simp [LB.has] at hj
theorem xapps_stepM (hT:TabOk P E.T) {o:Oper} {t u:Nat} {so xo:Operand} (hop:o.op=.call ⟨.builtin .append,#[so,xo],#[t,u]⟩) (hc:Cfg w0 S B nk N S q fr L a w) (hR:Rep M L) (hf:hF nk fr) (hl:hL nk L)
  (h:xappSM E.T t u nk (opv fr so) (opv fr xo) M=some (y,M')) (hp:putX N o.dst y fr=some fr'):Oper.wpIn (FF r) n P o a w (St w0 S B nk N (XK (nk+1) fr' M')) Q:=by
 unfold xappSM at h
 split at h
 rotate_left
 ·cases h
 rename_i e c hd hdu hx
 split at h
 rotate_left
 ·cases h
 rename_i hb
 split at h
 ·rename_i hs
  split at h
  rotate_left
  ·cases h
  rename_i M1 h1 hM
  cases h
  refine Oper.wpIn_mono (fun a w h=>XL.to (hR.new hM) (putX_h hp (hf.mono (Nat.le_succ nk)) (hV_own (Nat.lt_succ_self nk))) ((hl.mono (Nat.le_succ nk)).new (Nat.lt_succ_self nk) (.row (.valL _))) (XL.rowed (us:=c.data.toList.map bv) (okL_valL _) (.valL _) h)) (apps_step (key:=nk) (nk:=0) hT hop hc ?_)
  unfold appS
  rw [hd,hdu,hx,hs]
  dsimp only
  rw [hb]
  exact ⟨⟨Nat.le_of_ble_eq_true h1⟩,fun N' zs e1 e2=>by subst e1 e2;exact newK_of hf hl (putX_ok hp ⟨rfl,rfl⟩)⟩
 ·rename_i k hs
  split at h
  rotate_left
  ·cases h
  rename_i e' sz' m cs hk
  split at h
  rotate_left
  ·cases h
  rename_i M1 he hz h1 hM
  split at h
  rotate_left
  ·cases h
  rename_i M2 hM2
  cases h
  have he:=Nat.eq_of_beq_eq_true he
  have hz:=Nat.eq_of_beq_eq_true hz
  subst he hz
  rw [←hR k] at hk
  obtain ⟨xs,hok,hch,hk',hc'⟩:=hc.view hk
  have hkn:=hl.key hk
  have hl':hL nk (setL L k (.arr e' 1 m xs)):=hl.set hB_arr
  have hcs:hS nk cs:=hl.get hk
  have hrem:remL ((nk,LB.arr e' 1 (m+c.size) (xs++c.data.toList.map bv))::setL L k (.arr e' 1 m xs)) k=(nk,LB.arr e' 1 (m+c.size) (xs++c.data.toList.map bv))::remL L k:=by
   have hb:Nat.beq nk k=false:=by rw [Bool.eq_false_iff];exact fun e=>by have:=Nat.eq_of_beq_eq_true e;omega
   rw [remL_c,hb]
   dsimp only
   rw [remL_setL']
  refine Oper.wpIn_mono (fun a w h=>XL.to (hR.newrem (k:=some k) hl (fun k' e=>by cases e;exact ⟨_,hk⟩) hM hM2) (putX_h hp (hf.mono (Nat.le_succ nk)) (hV_own (Nat.lt_succ_self nk))) (((hL.rem hl).mono (Nat.le_succ nk)).new (Nat.lt_succ_self nk) (.row (by rw [catQ_eq];exact (hcs.append (.valL _)).mono (Nat.le_succ nk)))) (XL.rowed (us:=xs++c.data.toList.map bv) (by rw [catQ_eq];exact okL_append hok (okL_valL _)) (by rw [catQ_eq];exact hcs.append (.valL _)) h)) (apps_step (key:=nk) (nk:=0) hT hop hc' ?_)
  unfold appS
  rw [hd,hdu,hx,hs]
  dsimp only
  rw [hb]
  dsimp only
  rw [hk']
  dsimp only
  rw [Nat.beq_refl,Nat.beq_refl]
  refine ⟨⟨Nat.le_of_ble_eq_true h1⟩,fun N' zs e1 e2=>?_⟩
  subst e1 e2
  refine newK_of hf hl' ?_
  rw [hrem,fLL_eq]
  exact putX_ok hp ⟨rfl,rfl⟩
 ·cases h
theorem run_copy_rowS (P:Program) (w:World) (dT sT ty elem:TypeId) (g o dLen dCap:Nat) (a:Addr) (sLen sCap sz:Nat) (cur:Array Value) (t:TypeId) (cs:List Value)
  (hu:P.underlying dT=some (.slice elem)) (hs:(P.info? elem).map (·.size)=some sz)
  (hg:w.heap[g]?=some (.cells cur t (0,0))) (hn:cs.length=Nat.min sLen dLen * sz)
  (hsrc:∀j v,cs[j]?=some v→w.cell? (a.add j)=some v) (hfit:o+cs.length≤cur.size) (h1:∀v∈cs,v.oneCell'=true) :
  (Builtin.copy_ #[dT,sT] ty #[.slice (some ⟨g,o,none⟩) dLen dCap,.slice (some a) sLen sCap]).run P w =
   .ok (goInt (Nat.min sLen dLen)) (w.setRow g (cur.toList.take o++cs++cur.toList.drop (o+cs.length)).toArray):=by
 have hl:=run_loadCells_list (P:=P) w a cs hsrc
 have hst:=run_storeCells_at P g o t cs 0 cur w hg (by simpa using hfit) h1
 rw [hn] at hl
 cases hq:P.info? elem with
 | none=>simp [hq] at hs
 | some i=>
  have hi:i.size=sz:=by simpa [hq] using hs
  simp [Builtin.copy_,run_underlying hu,Builtin.lenOf,Builtin.firstCells,sizeOf,typeInfo,hq,hi,hl,hst]
theorem run_copy_noneS (P:Program) (w:World) (dT sT ty elem:TypeId) (d a:Option Addr) (dLen dCap sLen sCap:Nat) (hu:P.underlying dT=some (.slice elem)) (hs:((P.info? elem).map (·.size)).isSome=true) (hn:Nat.min sLen dLen=0) :
  (Builtin.copy_ #[dT,sT] ty #[.slice d dLen dCap,.slice a sLen sCap]).run P w=.ok (goInt 0) w:=by
 cases hq:P.info? elem with
 | none=>simp [hq] at hs
 | some i=>
  have hl:∀(x:Addr),(loadCells x 0).run P w=.ok #[] w:=fun x=>by simpa using run_loadCells_list (P:=P) w x [] (by simp)
  cases d<;>cases a<;>simp [Builtin.copy_,run_underlying hu,Builtin.lenOf,Builtin.firstCells,sizeOf,typeInfo,hq,hn,storeCells,hl]
theorem copy_goS {o:Oper} {t t' e e' k lo n0 nn m c c' sz nk0 n0':Nat} {A A':Option Addr} {xs ys:List Value} {dop sop:Operand} {K:Kt} (hc:Cfg w0 Sb B n0' N S q fr L a w) (hd:∀c,o.op≠.defer c)
  (ht:P.underlying t=some (.slice e)) (hsz:(P.info? e).map (·.size)=some sz)
  (hrun:∀{v:Value} {w':World},(Builtin.copy_ #[t,t'] o.type #[a.eval dop,a.eval sop]).run P w=.ok v w'→(execOp a.eval o).run P w=.ok (.value v) w')
  (hk:getL L k=some (.arr e' sz n0 xs)) (hb:lo+nn≤n0) (hdv:a.eval dop=.slice A nn c) (hA:nn=0∨A=(S k).A.map (·.add (lo * sz)))
  (hsv:a.eval sop=.slice A' m c') (hsrc:Src w A' m sz ys) (h1:∀y∈ys,y.oneCell'=true)
  (h:putK N o.dst (.v (.int .i64 ((min m nn:Nat):Int))) fr fun fr=>K nk0 q fr (setL L k (.arr e' sz n0 (xs.take (lo * sz)++ys.take (min m nn * sz)++xs.drop (lo * sz+min m nn * sz))))):Oper.wpIn (FF r) n P o a w (St w0 Sb B n0' N K) Q:=by
 obtain ⟨⟨hl,hown⟩,hn,hsz1,hone,hAk⟩:=hc.m.ch k _ hk
 have fin:∀{w':World},(Builtin.copy_ #[t,t'] o.type #[.slice A nn c,.slice A' m c']).run P w=.ok (goInt ((min m nn:Nat):Int)) w'→Mem w0 q S (setL L k (.arr e' sz n0 (xs.take (lo * sz)++ys.take (min m nn * sz)++xs.drop (lo * sz+min m nn * sz)))) w'→Oper.wpIn (FF r) n P o a w (St w0 Sb B n0' N K) Q:=by
  intro w' hr hm
  rw [←hdv,←hsv] at hr
  refine wpIn_value hd (hrun hr) ?_
  obtain ⟨fr',hK',hc'⟩:=(hc.turn hk (by simp) hm).put (v:=.int .i64 ((min m nn:Nat):Int)) h rfl
  exact ⟨S,q,fr',_,nk0,hc',hK'⟩
 by_cases hz:min m nn=0
 ·refine fin (w':=w) (by rw [hz];exact run_copy_noneS P w t t' o.type e A A' nn c m c' ht (by rw [hsz];rfl) hz) ?_
  rw [hz]
  simp only [Nat.zero_mul,List.take_zero,List.append_nil,Nat.add_zero,List.take_append_drop]
  exact hc.m.same hk
 ·have hA:=hA.resolve_left (by omega)
  rcases hown with ⟨_,hn0⟩ | ⟨g,cap,cur,hval,hg0,hg,hcap,hmax,hcur,htake⟩
  ·omega
  injection hval with hval hval2 hval3
  have hAb:(S k).A=some ⟨(S k).b,0,none⟩:=by
   rcases hAk with hAk | hAk
   ·rw [hAk] at hval;cases hval
   ·exact hAk
  have hgb:g=(S k).b:=by
   rw [hAb] at hval
   injection hval with hval
   injection hval with hval _ _
   exact hval.symm
  subst hgb
  have hA2:A=some ⟨(S k).b,lo * sz,none⟩:=by rw [hA,hAb];simp [Addr.add_lit]
  obtain ⟨hys,hcell⟩:=hsrc
  have hm1:min m nn * sz≤m * sz:=Nat.mul_le_mul_right _ (Nat.min_le_left _ _)
  have hm2:min m nn * sz≤nn * sz:=Nat.mul_le_mul_right _ (Nat.min_le_right _ _)
  have hlen:(ys.take (min m nn * sz)).length=min m nn * sz:=by rw [List.length_take];omega
  have hpos:0<ys.length:=by rw [hys];exact Nat.mul_pos (by omega) hsz1
  obtain ⟨y0,hy0⟩:∃y,ys[0]?=some y:=⟨ys[0]'hpos,List.getElem?_eq_getElem hpos⟩
  obtain ⟨a',rfl,hs',_⟩:=hcell 0 y0 hy0
  have hfit:lo * sz+min m nn * sz≤n0 * sz:=by
   have:(lo+nn) * sz≤n0 * sz:=Nat.mul_le_mul_right _ hb
   rw [Nat.add_mul] at this
   omega
  have hcap':n0 * sz≤cap * sz:=Nat.mul_le_mul_right _ hcap
  have hr:=run_copy_rowS P w t t' o.type e (S k).b (lo * sz) nn c a' m c' sz cur e' (ys.take (min m nn * sz)) ht hsz hg hlen (fun j v hv=>by
   have hj:=(List.getElem?_eq_some_iff.1 hv).1
   rw [hlen] at hj
   rw [List.getElem?_take_of_lt hj] at hv
   obtain ⟨a2,e2,_,h3⟩:=hcell j v hv
   injection e2 with e2
   subst e2
   obtain ⟨b2,o2,s2⟩:=a'
   cases hs'
   rw [Addr.add_lit]
   exact h3) (by rw [hlen,hcur];omega) (fun v hv=>h1 v (List.mem_of_mem_take hv))
  rw [←hA2,hlen] at hr
  refine fin hr (hc.m.turn hk (by simp [blk,hAb]) setRow_grown ?_ (by simp [blk,hAb]))
  refine ⟨⟨?_,.inr ⟨_,cap,_,?_,hg0,setRow_heap w _ _ _ e' (0,0) hg,hcap,hmax,?_,?_⟩⟩,hn,hsz1,?_,hAk⟩
  ·rw [List.length_append,List.length_append,List.length_take,List.length_drop,hlen];omega
  ·rw [hAb,hval2,hval3]
  ·simp only [List.size_toArray,List.length_append,List.length_take,List.length_drop,hlen,Array.length_toList];omega
  ·have:=take_mid (l:=cur.toList) (m:=ys.take (min m nn * sz)) (lo:=lo * sz) (n:=n0 * sz) (by rw [hlen];omega) (by rw [Array.length_toList];omega)
   rw [hlen,htake] at this
   exact this
  ·intro u hu
   rcases List.mem_append.1 hu with hu | hu
   ·rcases List.mem_append.1 hu with hu | hu
    ·exact hone u (List.mem_of_mem_take hu)
    ·exact h1 u (List.mem_of_mem_take hu)
   ·exact hone u (List.mem_of_mem_drop hu)
def xcopy (T:Tab) (t:Nat) (d s:SV) (M:Mm):Option (SV×Mm):=
 match (ty T t).d with
 | .slice e=>(match xsrcM M.get (ty T e).sz s with
  | some (m,ys)=>(match d with
   | .own k=>(match M.get k with
    | some (.row e' sz n cs)=>(match Nat.beq sz (ty T e).sz,xput M k (some (.row e' sz n (takeN ys (min m n * sz)++dropN cs (min m n * sz)))) with
     | true,some M'=>some (.v (.int .i64 ((min m n:Nat):Int)),M')
     | _,_=>none)
    | _=>none)
   | .vw k lo sz' nn _=>(match M.get k with
    | some (.row e' sz n cs)=>(match Nat.beq sz (ty T e).sz,Nat.beq sz' sz,Nat.ble (lo+nn) n,xput M k (some (.row e' sz n (takeN cs (lo * sz)++takeN ys (min m nn * sz)++dropN cs (lo * sz+min m nn * sz)))) with
     | true,true,true,some M'=>some (.v (.int .i64 ((min m nn:Nat):Int)),M')
     | _,_,_,_=>none)
    | _=>none)
   | _=>none)
  | none=>none)
 | _=>none
theorem xcopy_step (hT:TabOk P E.T) {o:Oper} {t t':Nat} {dop sop:Operand} (hop:o.op=.call ⟨.builtin .copy,#[dop,sop],#[t,t']⟩) (hc:Cfg w0 S B nk N S q fr L a w) (hR:Rep M L) (hf:hF nk fr) (hl:hL nk L)
  (h:xcopy E.T t (opv fr dop) (opv fr sop) M=some (y,M')) (hp:putX N o.dst y fr=some fr'):Oper.wpIn (FF r) n P o a w (St w0 S B nk N (XK nk fr' M')) Q:=by
 unfold xcopy at h
 split at h
 rotate_left
 ·cases h
 rename_i e hte
 split at h
 rotate_left
 ·cases h
 rename_i m ys hsrc
 rw [←xsrc_eq hR] at hsrc
 have hysh:=xsrc_h hl hsrc
 obtain ⟨ht,_,i,hi,hisz,_⟩:descOk P E.T t (.slice e):=by rw [←hte];exact (hT t (by rw [hte];simp)).d
 have hsz:(P.info? e).map (·.size)=some (ty E.T e).sz:=by rw [hi];simp [hisz]
 have hrun:∀{v:Value} {w':World},(Builtin.copy_ #[t,t'] o.type #[a.eval dop,a.eval sop]).run P w=.ok v w'→(execOp a.eval o).run P w=.ok (.value v) w':=by
  intro v w' hr
  simp only [execOp,hop,resolve,invoke,builtin,Sem.run_bind,Sem.run_pure,Result.andThen_ok,List.map_toArray,List.map_cons,List.map_nil,hr]
 have hs:=opv_ok hc.f sop
 have hd:=opv_ok hc.f dop
 obtain ⟨A',c',vs,hsv,hsr,hys,hone,_⟩:=xsrc_ok hc.m hsrc hs
 have go:∀{k lo nn n' sz:Nat} {e':Nat} {cs:List SV} {A:Option Addr} {c:Nat},sz=(ty E.T e).sz→getL L k=some (.row e' sz n' cs)→lo+nn≤n'→a.eval dop=.slice A nn c→(nn=0∨A=(S k).A.map (·.add (lo * sz))) →
   xput M k (some (.row e' sz n' (takeN cs (lo * sz)++takeN ys (min m nn * sz)++dropN cs (lo * sz+min m nn * sz))))=some M'→y=.v (.int .i64 ((min m nn:Nat):Int))→Oper.wpIn (FF r) n P o a w (St w0 S B nk N (XK nk fr' M')) Q:=by
  intro k lo nn n' sz e' cs A c hze hk hle hdv hA hM hy
  subst hy
  subst hze
  obtain ⟨xs,hok,hch,hk',hc'⟩:=hc.view hk
  have hcs:hS nk cs:=hl.get hk
  have hfv:hF nk fr':=putX_h hp hf (fun k hk=>by simp [SV.has] at hk)
  generalize hzz:(ty E.T e).sz=sz at *
  have hk2:getL (setL (setL L k (.arr e' sz n' xs)) k (.arr e' sz n' (xs.take (lo * sz)++vs.take (min m nn * sz)++xs.drop (lo * sz+min m nn * sz)))) k=some (.arr e' sz n' (xs.take (lo * sz)++vs.take (min m nn * sz)++xs.drop (lo * sz+min m nn * sz))):=by
   rw [getL_setL,if_pos rfl,hk'];rfl
  have hcs':hS nk (takeN cs (lo * sz)++takeN ys (min m nn * sz)++dropN cs (lo * sz+min m nn * sz)):=(hcs.take.append hysh.take).append hcs.drop
  refine Oper.wpIn_mono (fun a w h=>XL.to ?_ hfv (((hl.set hB_arr).set hB_arr).set (.row hcs')) (XL.rowed2 (okL_append (okL_append (okL_take _ hok) (okL_take _ hys)) (okL_drop _ hok)) hcs' hk2 h))
   (copy_goS (nk0:=0) hc' (nd_of hop (by simp)) ht hsz hrun hk' hle hdv hA hsv hsr hone (putX_ok hp ⟨rfl,rfl⟩))
  intro j
  rw [xput_get hM]
  by_cases e:k=j
  ·subst e
   rw [getL_setL,if_pos rfl,hk2,if_pos rfl];rfl
  ·rw [getL_setL,if_neg e,getL_setL,if_neg e,getL_setL,if_neg e,if_neg e,hR j]
 split at h
 ·rename_i k ed
  split at h
  rotate_left
  ·cases h
  rename_i e' sz n' cs hk
  split at h
  rotate_left
  ·cases h
  rename_i M1 h1 hM
  cases h
  have h1:=Nat.eq_of_beq_eq_true h1
  rw [←hR k] at hk
  rw [ed] at hd
  obtain ⟨xs,_,hch,_⟩:=hc.m.view hk
  have hd:a.eval dop=.slice (S k).A (S k).n (S k).c:=hd
  rw [hch.2.1] at hd
  have hA0:(S k).A=(S k).A.map (·.add (0 * sz)):=by
   rcases hch.2.2.2.2 with e | e<;>rw [e]<;>simp [Addr.add_lit]
  refine go (lo:=0) h1 hk (by omega) hd (.inr hA0) ?_ rfl
  rw [Nat.zero_mul,Nat.zero_add,show takeN cs 0=[] from by cases cs<;>rfl,List.nil_append]
  exact hM
 ·rename_i k lo sz' nn ex ed
  split at h
  rotate_left
  ·cases h
  rename_i e' sz n' cs hk
  split at h
  rotate_left
  ·cases h
  rename_i M1 h1 h2 h3 hM
  cases h
  have h1:=Nat.eq_of_beq_eq_true h1
  have h2:=Nat.eq_of_beq_eq_true h2
  have h3:=Nat.le_of_ble_eq_true h3
  subst h2
  rw [←hR k] at hk
  rw [ed] at hd
  obtain ⟨A,c,hdv,_,hA,_⟩:=hd
  exact go h1 hk h3 hdv hA hM rfl
 ·cases h
end
end Exe
end Go.Eng
end
section
namespace Go.Eng
open Go Go.RowKit Go.MapKept
namespace Exe
noncomputable section
variable {P:Program} {S S' Sb:Pl} {fr fr':Fr} {L L':LL} {q q':PH} {w0:W0} {w w':World} {a a':Act} {n0 N:Nat} {B:Nat→Prop} {E:Env}
variable {r:Option Nat} {n:Nat} {Q:Exit→Act→World→Prop} {M M':Mm} {nk:Nat} {y:SV}
def beqS (a b:ByteArray):Bool:=@decide _ (decStr a b)
def xfind (s:ByteArray) (es:List MapEntry):Nat→Option (Option (Nat×Value)):=
 List.rec (motive:=fun _=>Nat→Option (Option (Nat×Value))) (fun _=>some none)
  (fun e _ ih i=>match e.key with
   | .string b=>(match beqS s b with | true=>some (some (i,e.val)) | false=>ih (i+1))
   | _=>none) es
theorem xfind_ok {s:ByteArray}:∀{es:List MapEntry} {i:Nat} {x:Option (Nat×Value)},xfind s es i=some x→Instr.findNow .string (.string s) es i=some x ∧
  ∀j v,x=some (j,v)→∃e,es[j-i]?=some e∧i≤j∧e.key=.string s∧e.val=v
 | [],i,x,h=>by cases h;exact ⟨rfl,fun _ _ h=>by cases h⟩
 | e::es,i,x,h=>by
  have hc:xfind s (e::es) i=(match e.key with
   | .string b=>(match beqS s b with | true=>some (some (i,e.val)) | false=>xfind s es (i+1))
   | _=>none):=rfl
  rw [hc] at h
  split at h
  ·rename_i b hk
   split at h
   ·rename_i hb
    cases h
    have hb:s=b:=by
     have:s.data.toList=b.data.toList:=of_decide_eq_true hb
     obtain ⟨x⟩:=s;obtain ⟨y⟩:=b
     simp only at this
     rw [Array.toList_inj.1 this]
    subst hb
    refine ⟨?_,fun j v hj=>?_⟩
    ·simp [Instr.findNow,hk,Instr.sameNow,(bytes_beq s s).2 rfl]
    ·cases hj;exact ⟨e,by simp,Nat.le_refl _,hk,rfl⟩
   ·rename_i hb
    obtain ⟨h1,h2⟩:=xfind_ok h
    have hne:(s == b)=false:=by
     rw [Bool.eq_false_iff]
     intro e
     have e:=(bytes_beq s b).1 e
     subst e
     have:beqS s s=true:=decide_eq_true rfl
     rw [this] at hb
     cases hb
    refine ⟨?_,fun j v hj=>?_⟩
    ·simp [Instr.findNow,hk,Instr.sameNow,hne,h1]
    ·obtain ⟨e',g1,g2,g3,g4⟩:=h2 j v hj
     refine ⟨e',?_,by omega,g3,g4⟩
     rw [show j-i=(j-(i+1))+1 from by omega]
     simpa using g1
  ·cases h
abbrev Zt:=List (Nat×Value)
def ZOk (P:Program) (Z:Zt):Prop:=∀p∈Z,(P.info? p.1).bind (·.zero)=some p.2
def zget (Z:Zt) (t:Nat):Option Value:=List.rec (motive:=fun _=>Option Value) none (fun p _ ih=>match p with | (u,v)=>match Nat.beq u t with | true=>some v | false=>ih) Z
theorem zget_ok:∀{Z:Zt} {t:Nat} {v:Value},ZOk P Z→zget Z t=some v→∀w,(zeroValue t).run P w=.ok v w
 | [],t,v,_,h,w=>by cases h
 | (u,x)::r,t,v,hZ,h,w=>by
  have hc:zget ((u,x)::r) t=match Nat.beq u t with | true=>some x | false=>zget r t:=rfl
  rw [hc] at h
  split at h
  ·rename_i e
   cases h
   have e:=Nat.eq_of_beq_eq_true e
   subst e
   have:=hZ (u,x) (.head _)
   cases hi:P.info? u with
   | none=>rw [hi] at this;cases this
   | some i=>
    rw [hi] at this
    have hz:i.zero=some x:=this
    simp [zeroValue,typeInfo,hi,hz,Result.andThen]
  ·exact zget_ok (fun p hp=>hZ p (.tail _ hp)) h w
def nv (v:Value):SV:=match v with | .bool b=>.bb b | v=>.v v
theorem nv_ok (v:Value):okv S (nv v) v:=by cases v<;>rfl
def xlookup (T:Tab) (Z:Zt) (t:Nat) (x i:SV) (ok:Bool) (M:Mg):Option SV:=
 match (ty T t).d with
 | .map k e=>(match (ty T k).d,i with
  | .str,.v (.string s)=>(match (match x with
    | .v (.map none)=>some []
    | .mr b=>(match M b with | some (.mp es _)=>some es | _=>none)
    | _=>none) with
   | none=>none
   | some es=>(match xfind s es 0 with
    | none=>none
    | some (some (_,v))=>(match ok with | true=>some (.tup [nv v,.bb true]) | false=>some (nv v))
    | some none=>(match zget Z e with
     | none=>none
     | some v=>(match ok with | true=>some (.tup [nv v,.bb false]) | false=>some (nv v)))))
  | _,_=>none)
 | _=>none
theorem run_lookup_str {t k e:TypeId} {s:ByteArray} {m:Option Nat} {es:List MapEntry} {c:Nat} {x:Option (Nat×Value)} {ok:Bool} {u:Value} (ht:P.underlying t=some (.map k e)) (hk:P.underlying k=some .string)
  (hb:(m=none∧es=[])∨∃b,m=some b∧w.heap[b]?=some (.map es.toArray c)) (hf:Instr.findNow .string (.string s) es 0=some x)
  (hu:match x with | some (_,v)=>u=(if ok then .tuple #[v,.bool true] else v) | none=>∃z,(zeroValue e).run P w=.ok z w∧u=(if ok then .tuple #[z,.bool false] else z)) :
  (Instr.lookup t (.map m) (.string s) ok).run P w=.ok u w:=by
 have h2:=run_findKey (P:=P) (w:=w) hk hf
 rcases hb with ⟨rfl,rfl⟩ | ⟨b,rfl,hb⟩
 ·have h1:=run_checkKey (P:=P) (w:=w) hk (k:=.string s) trivial true 9999
  cases x with
  | some p=>obtain ⟨i,v⟩:=p;simp only at hu;subst hu;simp [Instr.lookup,run_underlying ht,Result.andThen,h1,h2]
  | none=>
   obtain ⟨z,hz,rfl⟩:=hu
   simp [Instr.lookup,run_underlying ht,Result.andThen,h1,h2,hz]
 ·have h1:=run_checkKey (P:=P) (w:=w) hk (k:=.string s) trivial es.isEmpty 9999
  cases x with
  | some p=>obtain ⟨i,v⟩:=p;simp only at hu;subst hu;simp [Instr.lookup,run_underlying ht,Result.andThen,h1,h2,Go.MapKept.run_getObj_map hb]
  | none=>
   obtain ⟨z,hz,rfl⟩:=hu
   simp [Instr.lookup,run_underlying ht,Result.andThen,h1,h2,hz,Go.MapKept.run_getObj_map hb]
theorem xlookup_step (hT:TabOk P E.T) {Z:Zt} (hZ:ZOk P Z) {o:Oper} {t:Nat} {x i:Operand} {ok:Bool} (hop:o.op=.lookup t x i ok) (hc:Cfg w0 S B nk N S q fr L a w) (hR:Rep M L) (hf:hF nk fr) (hl:hL nk L)
  (h:xlookup E.T Z t (opv fr x) (opv fr i) ok M.get=some y) (hy:hV nk y) (hp:putX N o.dst y fr=some fr'):Oper.wpIn (FF r) n P o a w (St w0 S B nk N (XK nk fr' M)) Q:=by
 have hx:=opv_ok hc.f x
 have hi:=opv_ok hc.f i
 unfold xlookup at h
 split at h
 rotate_left
 ·cases h
 rename_i k e hd
 split at h
 rotate_left
 ·cases h
 rename_i s hdk ei
 rw [ei] at hi
 have hi:a.eval i=.string s:=hi
 have ht:P.underlying t=some (.map k e):=by have:=(hT t (by rw [hd];simp)).d;rw [hd] at this;exact this
 have hk:P.underlying k=some .string:=by have:=(hT k (by rw [hdk];simp)).d;rw [hdk] at this;exact this
 split at h
 ·cases h
 rename_i es hes
 have hm:∃m c,a.eval x=.map m∧((m=none∧es=[])∨∃b,m=some b∧w.heap[b]?=some (.map es.toArray c)):=by
  split at hes
  ·rename_i ex
   cases hes
   rw [ex] at hx
   exact ⟨none,0,hx,.inl ⟨rfl,rfl⟩⟩
  ·rename_i b ex
   rw [ex] at hx
   split at hes
   ·rename_i c hb
    cases hes
    rw [←hR b] at hb
    exact ⟨_,c,hx,.inr ⟨_,rfl,(hc.m.ch b _ hb).2⟩⟩
   ·cases hes
  ·cases hes
 obtain ⟨m,c,hxe,hb⟩:=hm
 have fin:∀{u:Value},okv S y u→(Instr.lookup t (.map m) (.string s) ok).run P w=.ok u w→Oper.wpIn (FF r) n P o a w (St w0 S B nk N (XK nk fr' M)) Q:=by
  intro u hu hr
  refine wpIn_value (nd_of hop (by simp)) (w':=w) (v:=u) ?_ ?_
  ·simp only [execOp,hop,hxe,hi,Sem.run_bind,hr,Result.andThen_ok,Sem.run_pure]
  ·obtain ⟨fr1,hK',hc'⟩:=hc.put (K:=fun fr=>fr=fr') (putX_ok hp rfl) hu
   subst hK'
   exact ⟨S,q,_,L,0,hc',rfl,hR,putX_h hp hf hy,hl⟩
 split at h
 ·cases h
 ·rename_i j v hf1
  obtain ⟨h1,_⟩:=xfind_ok hf1
  split at h
  ·cases h
   exact fin ⟨[v,.bool true],rfl,nv_ok v,rfl,trivial⟩ (run_lookup_str ht hk hb h1 (by simp))
  ·cases h
   exact fin (nv_ok v) (run_lookup_str ht hk hb h1 (by simp))
 ·rename_i hf1
  obtain ⟨h1,_⟩:=xfind_ok hf1
  split at h
  ·cases h
  rename_i v hz
  have hz:=zget_ok hZ hz w
  split at h
  ·cases h
   exact fin ⟨[v,.bool false],rfl,nv_ok v,rfl,trivial⟩ (run_lookup_str ht hk hb h1 ⟨v,hz,by simp⟩)
  ·cases h
   exact fin (nv_ok v) (run_lookup_str ht hk hb h1 ⟨v,hz,by simp⟩)
def xmakeMap (r:Option Operand) (nk:Nat) (M:Mm):Option (SV×Mm):=
 match r with
 | none=>(match xput M nk (some (.mp [] 0)) with | some M'=>some (.mr nk,M') | none=>none)
 | some _=>none
theorem hV_mr {k m:Nat} (h:k<m):hV m (.mr k):=fun j hj=>by
 have:Nat.beq k j=true:=by simpa [SV.has] using hj
 have:=Nat.eq_of_beq_eq_true this
 omega
theorem hB_mp {m c:Nat} {es:List MapEntry}:hB m (.mp es c):=fun j hj=>by simp [LB.has] at hj
theorem xmakeMap_step {o:Oper} {t:Nat} {rs:Option Operand} (hop:o.op=.makeMap t rs) (hc:Cfg w0 S B nk N S q fr L a w) (hR:Rep M L) (hf:hF nk fr) (hl:hL nk L)
  (h:xmakeMap rs nk M=some (y,M')) (hp:putX N o.dst y fr=some fr'):Oper.wpIn (FF r) n P o a w (St w0 S B nk N (XK (nk+1) fr' M')) Q:=by
 unfold xmakeMap at h
 split at h
 rotate_left
 ·cases h
 split at h
 rotate_left
 ·cases h
 rename_i M1 hM
 cases h
 have hr:=run_makeMap (P:=P) t w
 refine wpIn_value (nd_of hop (by simp)) (w':=w.alloc (.map #[] 0)) (v:=.map (some w.heap.size)) ?_ ?_
 ·simp only [execOp,hop,Option.map_none,Sem.run_bind,hr,Result.andThen_ok,Sem.run_pure]
 have hm:Mem w0 q (updS S nk ⟨w.heap.size,none,0,0,default⟩) ((nk,.mp [] 0)::L) (w.alloc (.map #[] 0)):=by
  refine hc.m.new (noL hl) ((Below.refl _ w).alloc (Nat.le_refl _) _) ?_ fun b hb=>?_
  ·simp only [chunk,updS_same]
   exact ⟨Nat.zero_le _,(heap_alloc w _).1⟩
  ·simp only [blk,updS_same,Option.some.injEq] at hb
   omega
 obtain ⟨fr1,hK',hc'⟩:=(hc.new (Nat.le_refl _) (noF hf) (noL hl) hm).put (v:=.map (some w.heap.size)) (K:=fun fr=>fr=fr') (putX_ok hp rfl) (by simp [okv,updS_same])
 subst hK'
 exact ⟨_,q,_,_,0,hc',rfl,hR.new hM,putX_h hp (hf.mono (Nat.le_succ nk)) (hV_mr (Nat.lt_succ_self nk)),(hl.mono (Nat.le_succ nk)).new (Nat.lt_succ_self nk) hB_mp⟩
def xmodE (es:List MapEntry) (v:Value):Nat→List MapEntry:=
 List.rec (motive:=fun _=>Nat→List MapEntry) (fun _=>[]) (fun e r ih i=>match i with | 0=>{ e with val:=v } :: r | i+1=>e::ih i) es
def xmapUpd (T:Tab) (t:Nat) (m k x:SV) (M:Mm):Option Mm:=
 match (ty T t).d with
 | .map kt e=>(match (ty T kt).d,k,toV x with
  | .str,.v (.string s),some v=>(match m with
   | .mr b=>(match M.get b with
    | some (.mp es c)=>(match xfind s es 0 with
     | none=>none
     | some (some (i,_))=>xput M b (some (.mp (xmodE es v i) c))
     | some none=>xput M b (some (.mp (catQ es [{ key:=.string s,val:=v,born:=c }]) (c+1))))
    | _=>none)
   | _=>none)
  | _,_,_=>none)
 | _=>none
theorem xmodE_ok {v:Value} {key:Value} {f:MapEntry→MapEntry} (hf:∀e:MapEntry,e.key=key→f e={ e with val:=v }):∀(es:List MapEntry) (i:Nat),(∀e,es[i]?=some e→e.key=key)→es.modify i f=xmodE es v i
 | [],i,_=>by cases i<;>rfl
 | e::r,0,h=>by
  have:=hf e (h e rfl)
  show f e::r={ e with val:=v } :: r
  rw [this]
 | e::r,i+1,h=>by
  show e::r.modify i f=e::xmodE r v i
  rw [xmodE_ok hf r i (fun e' he'=>h e' (by simpa using he'))]
theorem map_turn {k b:Nat} {es es':List MapEntry} {c c':Nat} (hm:Mem w0 q S L w) (hk:getL L k=some (.mp es c)) :
  Mem w0 q S (setL L k (.mp es' c')) { w with heap:=w.heap.setIfInBounds (S k).b (.map es'.toArray c') }:=by
 have hb:=(hm.ch k _ hk).2
 refine hm.turn hk rfl ⟨rfl,rfl,rfl,by simp,fun j hj hne=>?_⟩ ⟨Nat.zero_le _,(heap_set hb).1⟩ rfl
 exact (heap_set hb).2 j (fun e=>hne (by rw [e]))
theorem xmapUpd_step (hT:TabOk P E.T) {o:Oper} {t:Nat} {m k x:Operand} (hop:o.op=.mapUpdate t m k x∨o.op=.insert t m k x) (hc:Cfg w0 S B nk N S q fr L a w) (hR:Rep M L) (hf:hF nk fr) (hl:hL nk L)
  (h:xmapUpd E.T t (opv fr m) (opv fr k) (opv fr x) M=some M') (hp:putX N o.dst (.v undef) fr=some fr'):Oper.wpIn (FF r) n P o a w (St w0 S B nk N (XK nk fr' M')) Q:=by
 have hm:=opv_ok hc.f m
 have hk:=opv_ok hc.f k
 have hx:=opv_ok hc.f x
 unfold xmapUpd at h
 split at h
 rotate_left
 ·cases h
 rename_i kt e hd
 split at h
 rotate_left
 ·cases h
 rename_i s v hdk ek ex
 rw [ek] at hk
 have hk:a.eval k=.string s:=hk
 have hx:a.eval x=v:=toV_ok _ ex hx
 split at h
 rotate_left
 ·cases h
 rename_i b em
 rw [em] at hm
 have hm:a.eval m=.map (some (S b).b):=hm
 split at h
 rotate_left
 ·cases h
 rename_i es c hb
 rw [←hR b] at hb
 have hbw:=(hc.m.ch b _ hb).2
 have ht:P.underlying t=some (.map kt e):=by have:=(hT t (by rw [hd];simp)).d;rw [hd] at this;exact this
 have hkt:P.underlying kt=some .string:=by have:=(hT kt (by rw [hdk];simp)).d;rw [hdk] at this;exact this
 have hck:=run_checkKey (P:=P) (w:=w) hkt (k:=.string s) trivial false 9999
 have hnd:∀c,o.op≠.defer c:=by rcases hop with h | h<;>exact nd_of h (by simp)
 have fin:∀{es':List MapEntry} {c':Nat},xput M b (some (.mp es' c'))=some M'→(Instr.mapUpdate t (.map (some (S b).b)) (.string s) v).run P w=.ok () { w with heap:=w.heap.setIfInBounds (S b).b (.map es'.toArray c') } →
   Oper.wpIn (FF r) n P o a w (St w0 S B nk N (XK nk fr' M')) Q:=by
  intro es' c' hM hr
  refine wpIn_skip' hnd (w':={ w with heap:=w.heap.setIfInBounds (S b).b (.map es'.toArray c') }) ?_ ?_
  ·rcases hop with hop | hop<;>simp only [execOp,hop,hm,hk,hx,Sem.run_bind,hr,Result.andThen_ok,Sem.run_pure]
  ·obtain ⟨fr1,hK',hc'⟩:=(hc.turn (lb':=.mp es' c') hb (by simp) (map_turn (b:=0) hc.m hb)).put (v:=undef) (K:=fun fr=>fr=fr') (putX_ok hp rfl) rfl
   subst hK'
   exact ⟨S,q,_,_,0,hc',rfl,hR.set hb hM,putX_h hp hf (fun k hk=>by simp [SV.has] at hk),hl.set hB_mp⟩
 split at h
 ·cases h
 ·rename_i i v0 hf1
  obtain ⟨h1,h2⟩:=xfind_ok hf1
  obtain ⟨e1,g1,_,g3,g4⟩:=h2 i v0 rfl
  rw [Nat.sub_zero] at g1
  have hfk:=run_findKey (P:=P) (w:=w) hkt h1
  refine fin h ?_
  have hsb:Instr.sameBits 10000 (.string s) (.string s)=true:=by simp [Instr.sameBits,(bytes_beq s s).2 rfl]
  have hkey:((es.toArray[i]?).map (·.key)).getD (.string s)=.string s:=by simp [g1,g3]
  have hks:(Instr.keyThatStays (.string s) (.string s)).run P w=.ok (.string s) w:=by
   unfold Instr.keyThatStays
   rw [if_pos hsb]
   rfl
  have hmod:es.toArray.modify i (fun e=>{ e with key:=.string s,val:=v })=(xmodE es v i).toArray:=by
   apply Array.ext'
   rw [Array.toList_modify]
   exact xmodE_ok (key:=.string s) (fun e he=>by rw [←he]) es i (fun e he=>by rw [g1] at he;cases he;exact g3)
  have hso:=run_setObj_map (P:=P) (.map (xmodE es v i).toArray c) hbw
  simp only [Instr.mapUpdate,Sem.run_bind,run_underlying ht,Result.andThen_ok,Go.MapKept.run_getObj_map hbw,hck,hfk,hkey,hks,hmod,hso]
 ·rename_i hf1
  obtain ⟨h1,_⟩:=xfind_ok hf1
  have hfk:=run_findKey (P:=P) (w:=w) hkt h1
  refine fin h ?_
  have hpush:es.toArray.push { key:=.string s,val:=v,born:=c }=(catQ es [{ key:=.string s,val:=v,born:=c }]).toArray:=by
   rw [catQ_eq];simp
  have hso:=run_setObj_map (P:=P) (.map (catQ es [{ key:=.string s,val:=v,born:=c }]).toArray (c+1)) hbw
  simp only [Instr.mapUpdate,Sem.run_bind,run_underlying ht,Result.andThen_ok,Go.MapKept.run_getObj_map hbw,hck,hfk,hpush,hso]
end
end Exe
end Go.Eng
end
section
namespace Go.Eng
open Go Go.RowKit
namespace Exe
noncomputable section
variable {P:Program} {S S' Sb:Pl} {fr fr':Fr} {L L':LL} {q q':PH} {w0:W0} {w w':World} {a a':Act} {n0 N:Nat} {B:Nat→Prop} {E:Env}
variable {r:Option Nat} {n:Nat} {Q:Exit→Act→World→Prop} {M M':Mm} {nk:Nat} {y:SV}
def xsb (T:Tab) (t nk:Nat) (x:SV) (M:Mm):Option (SV×Mm):=
 match (ty T t).d,x with
 | .slice e,.v (.string s)=>(match (ty T e).d,Nat.ble s.size 140737488355328,xput M nk (some (.sb e s.size (s.data.toList.map bv))) with
  | .int .u8,true,some M'=>some (.own nk,M')
  | _,_,_=>none)
 | _,_=>none
theorem hB_sb {m e k:Nat} {xs:List Value}:hB m (.sb e k xs):=fun j hj=>by simp [LB.has] at hj
theorem xsb_step (hT:TabOk P E.T) {o:Oper} {src t:Nat} {x:Operand} (hop:o.op=.convert src t x) (h1:(ty E.T src).d=.str) (hc:Cfg w0 S B nk N S q fr L a w) (hR:Rep M L) (hf:hF nk fr) (hl:hL nk L)
  (h:xsb E.T t nk (opv fr x) M=some (y,M')) (hp:putX N o.dst y fr=some fr'):Oper.wpIn (FF r) n P o a w (St w0 S B nk N (XK (nk+1) fr' M')) Q:=by
 have hxv:=opv_ok hc.f x
 unfold xsb at h
 split at h
 rotate_left
 ·cases h
 rename_i e s h2 hx
 split at h
 rotate_left
 ·cases h
 rename_i M1 h3 hsz hM
 cases h
 rw [hx] at hxv
 have hxv:a.eval x=.string s:=hxv
 have t1:P.underlying src=some .string:=by have:=(hT src (by rw [h1];simp)).d;rw [h1] at this;exact this
 have t2:P.underlying t=some (.slice e):=by have:=(hT t (by rw [h2];simp)).d;rw [h2] at this;exact this.1
 have t3:P.underlying e=some (.int .u8):=by have:=(hT e (by rw [h3];simp)).d;rw [h3] at this;exact this
 have hr:=run_bytes_of_string (P:=P) w src t e s t1 t2 t3
 have hge:=grownCap_ge w s.size 0 e
 generalize hcap:grownCap w s.size 0 e=cap at hr hge
 have hbb:Below w.heap.size w (w.drew.alloc (.cells (bytesRow s cap) e ((bytesRow s cap).size,(bytesRow s cap).size+1))):=
  ((Below.refl _ w).drew).alloc (Nat.le_refl _) _
 refine wpIn_value (nd_of hop (by simp)) (run_exec (s:=convert src t (a.eval x)) (by simp only [execOp,hop]) (by rw [hxv];exact hr)) ?_
 have hh:(w.drew.alloc (.cells (bytesRow s cap) e ((bytesRow s cap).size,(bytesRow s cap).size+1))).heap[w.heap.size]?=some (.cells (bytesRow s cap) e ((bytesRow s cap).size,(bytesRow s cap).size+1)):=heap_alloc_new w.drew _
 have hm:Mem w0 q (updS S nk ⟨w.heap.size,some ⟨w.heap.size,0,none⟩,s.size,cap,default⟩) ((nk,.sb e s.size (s.data.toList.map bv))::L) (w.drew.alloc (.cells (bytesRow s cap) e ((bytesRow s cap).size,(bytesRow s cap).size+1))):=by
  refine hc.m.new (noL hl) hbb ?_ fun b hb=>?_
  ·simp only [chunk,updS_same]
   have hsl:(s.data.toList.map bv).length=s.size:=by rw [List.length_map,Array.length_toList];rfl
   refine ⟨Nat.zero_le _,trivial,trivial,hge,hsl,_,_,hh,?_⟩
   rw [bytesRow,Array.toList_append,Array.toList_map]
   have e1:List.map (fun c:UInt8=>Value.int .u8 c.toNat) s.data.toList=s.data.toList.map bv:=rfl
   rw [e1,List.take_append_of_le_length (Nat.le_of_eq hsl.symm),List.take_of_length_le (Nat.le_of_eq hsl)]
  ·simp only [blk,updS_same,Option.some.injEq] at hb
   omega
 obtain ⟨fr1,hK',hc'⟩:=(hc.new (Nat.le_refl _) (noF hf) (noL hl) hm).put (v:=.slice (some ⟨w.heap.size,0,none⟩) s.size cap) (K:=fun fr=>fr=fr') (putX_ok hp rfl) (by simp [okv,updS_same])
 subst hK'
 exact ⟨_,q,_,_,0,hc',rfl,hR.new hM,putX_h hp (hf.mono (Nat.le_succ nk)) (hV_own (Nat.lt_succ_self nk)),(hl.mono (Nat.le_succ nk)).new (Nat.lt_succ_self nk) hB_sb⟩
theorem via_sb (hE:EnvOk P E) {o:Oper} (hc:Cfg w0 S B nk N S q fr L a w) (hR:Rep M L) (hf:hF nk fr) (hl:hL nk L) {k e m:Nat} {xs:List Value} (hk:getL L k=some (.sb e m xs)) {fr2:Fr} (hf2:okF S fr2 a.tmps) {sv:SV}
  (hcalm:∀q',Reads q' (some ⟨(S k).b,0,none⟩) xs→calmK E.T E.Γ E.Δ true q' o.op fr2 (remL L k) (fun z=>z=sv)) (hy:∀x,okv S sv x→okv S y x) (hyv:hV nk y) (hp:putX N o.dst y fr=some fr') :
  Oper.wpIn (FF r) n P o a w (St w0 S B nk N (XK nk fr' M)) Q:=by
 obtain ⟨_,hA,hn,hnc,hxl,cur,fz,hh,htk⟩:=hc.m.ch k _ hk
 have hblk:blk S k (.sb e m xs)=some (S k).b:=rfl
 let qp:PH:=growPH q (S k).b xs
 have hq0:∀o,q (S k).b o=none:=fun o=>hc.m.po k _ hk _ hblk o
 have hcell:∀o v,xs[o]?=some v→w.cell? ⟨(S k).b,o,none⟩=some v:=by
  intro o v hv
  rw [cell_of_heap hh,←Array.getElem?_toList]
  rw [←htk,List.getElem?_take] at hv
  split at hv
  ·exact hv
  ·cases hv
 have hmr:Mem w0 qp S (remL L k) w:=by
  have h0:=hc.m.rem k
  refine ⟨h0.ch,h0.ap,fun j lb hj b hb o=>?_,h0.fz,fun b o v hv=>?_,h0.be,fun b o v hv hF=>?_⟩
  ·simp only [qp,growPH]
   rw [getL_remL] at hj
   split at hj
   ·cases hj
   ·rename_i hkj
    rw [if_neg]
    ·exact hc.m.po j lb hj b hb o
    ·intro e;subst e
     exact hc.m.ap k _ j lb hk hj hkj _ hblk hb
  ·simp only [qp,growPH] at hv
   split at hv
   ·rename_i e;subst e;exact hcell o v hv
   ·exact hc.m.on b o v hv
  ·simp only [qp,growPH] at hv
   split at hv
   ·rename_i e;subst e;exact (hc.m.fz k _ hk _ hblk hF).elim
   ·exact hc.m.gw b o v hv hF
 have hreads:Reads qp (some ⟨(S k).b,0,none⟩) xs:=fun j hj=>by simp [rd,qp,growPH]
 let C:World→Prop:=fun w'=>Cl w0 qp S (remL L k) w w'∧w'.heap[(S k).b]?=w.heap[(S k).b]?
 obtain ⟨x,z,hz,hx,hyl⟩:=calm_ok (C:=C) hE.T hE.Γ (fun f s hs=>⟨(hE.Δ f s hs).1,(hE.Δ f s hs).2.1⟩) hmr.ch (fun _ h=>h.1) hf2 (hcalm qp hreads)
 subst hz
 have hlt:(S k).b<w.heap.size:=(Array.getElem?_eq_some_iff.1 hh).1
 have hCc:∀w1 w2,C w1→Below w1.heap.size w1 w2→C w2:=fun w1 w2 h1 hb=>by
  have hl1:(S k).b<w1.heap.size:=by
   have:=h1.2
   rw [hh] at this
   exact (Array.getElem?_eq_some_iff.1 this).1
  exact ⟨Cl.below hmr.ch h1.1 hb,(hb.block _ hl1).trans h1.2⟩
 refine wpIn_calm (calm_nd (hcalm qp hreads)) hCc hyl ⟨hmr.cl,rfl⟩ fun w' hw'=>?_
 have hcl:Cl w0 q S L w w':=by
  refine ⟨fun j lb hj b hb=>?_,fun b o v hv=>?_,hw'.1.be⟩
  ·by_cases e:k=j
   ·subst e
    rw [hk] at hj
    cases hj
    cases hb
    exact hw'.2
   ·exact hw'.1.ch j lb (by rw [getL_remL,if_neg e];exact hj) b hb
  ·refine hw'.1.on b o v ?_
   simp only [qp,growPH]
   split
   ·rename_i e;subst e;rw [hq0] at hv;cases hv
   ·exact hv
 obtain ⟨fr1,hK',hc'⟩:=(hc.mem (hc.m.of_cl hcl)).put (K:=fun fr=>fr=fr') (putX_ok hp rfl) (hy x hx)
 subst hK'
 exact ⟨S,q,_,L,0,hc',rfl,hR,putX_h hp hf hyv,hl⟩
theorem via_val (hE:EnvOk P E) {o:Oper} (hc:Cfg w0 S B nk N S q fr L a w) (hR:Rep M L) (hf:hF nk fr) (hl:hL nk L) {fr2:Fr} (hf2:okF S fr2 a.tmps) {sv:SV}
  (hcalm:calmK E.T E.Γ E.Δ true q o.op fr2 L (fun z=>z=sv)) (hy:∀x,okv S sv x→okv S y x) (hyv:hV nk y) (hp:putX N o.dst y fr=some fr') :
  Oper.wpIn (FF r) n P o a w (St w0 S B nk N (XK nk fr' M)) Q:=by
 obtain ⟨x,z,hz,hx,hyl⟩:=calm_ok (C:=fun w'=>Cl w0 q S L w w') hE.T hE.Γ (fun f s hs=>⟨(hE.Δ f s hs).1,(hE.Δ f s hs).2.1⟩) hc.m.ch (fun _ h=>h) hf2 hcalm
 subst hz
 refine wpIn_calm (calm_nd hcalm) (fun w1 w2 h1 hb=>Cl.below hc.m.ch h1 hb) hyl hc.m.cl fun w' hw'=>?_
 obtain ⟨fr1,hK',hc'⟩:=(hc.mem (hc.m.of_cl hw')).put (K:=fun fr=>fr=fr') (putX_ok hp rfl) (hy x hx)
 subst hK'
 exact ⟨S,q,_,L,0,hc',rfl,hR,putX_h hp hf hyv,hl⟩
def xfz (T:Tab) (t:Nat) (x:SV) (M:Mm):Option (SV×Mm):=
 match (ty T t).d,x with
 | .slice e,.own k=>(match (ty T e).d,M.get k with
  | .int .u8,some (.row e' sz n cs)=>(match Nat.beq sz 1,Nat.blt 0 n,rowVL cs with
   | true,true,some xs=>(match xput M k (some (.sb e' n xs)) with | some M'=>some (.own k,M') | none=>none)
   | _,_,_=>none)
  | _,_=>none)
 | _,_=>none
theorem xfz_step (hT:TabOk P E.T) {o:Oper} {src t:Nat} {x:Operand} (hop:o.op=.convert src t x) (h0:src=t) (hc:Cfg w0 S B nk N S q fr L a w) (hR:Rep M L) (hf:hF nk fr) (hl:hL nk L)
  (h:xfz E.T t (opv fr x) M=some (y,M')) (hp:putX N o.dst y fr=some fr'):hV nk y∧Oper.wpIn (FF r) n P o a w (St w0 S B nk N (XK nk fr' M')) Q:=by
 subst h0
 have hxv:=opv_ok hc.f x
 unfold xfz at h
 split at h
 rotate_left
 ·cases h
 rename_i e k h2 hx
 split at h
 rotate_left
 ·cases h
 rename_i e' sz m cs h3 hk
 split at h
 rotate_left
 ·cases h
 rename_i xs h4 h5 h6
 split at h
 rotate_left
 ·cases h
 rename_i M1 hM
 cases h
 have h4:=Nat.eq_of_beq_eq_true h4
 subst h4
 have h5:0<m:=Nat.le_of_ble_eq_true h5
 rw [←hR k] at hk
 rw [hx] at hxv
 have hxv:a.eval x=.slice (S k).A (S k).n (S k).c:=hxv
 have t2:P.underlying src=some (.slice e):=by have:=(hT src (by rw [h2];simp)).d;rw [h2] at this;exact this.1
 have t3:P.underlying e=some (.int .u8):=by have:=(hT e (by rw [h3];simp)).d;rw [h3] at this;exact this
 have hkn:hV nk (.own k):=hV_own (hl.key hk)
 obtain ⟨us,⟨⟨g1,hown⟩,g3,_,g5,g6⟩,hok⟩:=hc.m.ch k _ hk
 have hus:=rowVL_ok h6 hok
 subst hus
 rcases hown with ⟨_,hn0⟩ | ⟨g,cap,cur,hv,hg,hh,hcap,hcm,hcs,htake⟩
 ·omega
 injection hv with hA e2 e3
 have hb0:(S k).A=some ⟨(S k).b,0,none⟩:=by
  rcases g6 with g6 | g6
  ·rw [g6] at hA;cases hA
  ·exact g6
 have hgb:g=(S k).b:=by
  rw [hb0] at hA
  injection hA with hA
  injection hA with hA _ _
  exact hA.symm
 subst hgb
 have hlt:(S k).b<w.heap.size:=(Array.getElem?_eq_some_iff.1 hh).1
 have hsh:w.shape? (S k).b=some (e',cur.size):=by simp [World.shape?,hh]
 have hr:(convert src src (.slice (S k).A (S k).n (S k).c)).run P w=.ok (.slice (S k).A (S k).n (S k).c) (w.freeze ⟨(S k).b,cur.size,none⟩ 1):=by
  rw [hb0]
  simp [convert,run_underlying t2,run_underlying t3,markStringish,hsh]
 have hh2:∃fz,(w.freeze ⟨(S k).b,cur.size,none⟩ 1).heap[(S k).b]?=some (.cells cur e' fz):=by
  unfold World.freeze
  rw [if_neg (by decide)]
  simp only [Array.getElem?_modify,if_true,hh]
  exact ⟨_,rfl⟩
 have hm:Mem w0 q S (setL L k (.sb e' m us)) (w.freeze ⟨(S k).b,cur.size,none⟩ 1):=by
  refine hc.m.turn hk (b:=(S k).b) (by simp [blk,hb0]) (grownBy_freeze w _ _ hlt) ?_ rfl
  obtain ⟨fz,hh2⟩:=hh2
  exact ⟨Nat.zero_le _,hb0,g3,by omega,by simpa using g1,cur,fz,hh2,by simpa using htake⟩
 refine ⟨hkn,wpIn_value (nd_of hop (by simp)) (run_exec (s:=convert src src (a.eval x)) (by simp only [execOp,hop]) (by rw [hxv];exact hr)) ?_⟩
 obtain ⟨fr1,hK',hc'⟩:=(hc.turn hk (by simp) hm).put (v:=.slice (S k).A (S k).n (S k).c) (K:=fun fr=>fr=fr') (putX_ok hp rfl) (by simp [okv])
 subst hK'
 exact ⟨S,q,_,_,0,hc',rfl,hR.set hk hM,putX_h hp hf hkn,hl.set hB_sb⟩
def xne (op:BinOp):Option SV:=match op with | .eql=>some (.bb false) | .neq=>some (.bb true) | _=>none
def isNilS (x:SV):Bool:=match x with | .v (.slice none _ _)=>true | _=>false
def xnil (op:BinOp) (d:Ty) (x y:SV) (M:Mg):Option SV:=
 match xne op with
 | none=>none
 | some r=>(match d,isNilS y,x with
  | .slice _,true,.own k=>(match M k with
   | some (.row _ _ n _)=>(match Nat.beq n 0 with | false=>some r | true=>none)
   | some (.sb _ _ _)=>some r
   | _=>none)
  | .slice _,true,.vw k _ _ m _=>(match M k,Nat.beq m 0 with
   | some (.row _ _ n _),false=>(match Nat.beq n 0 with | false=>some r | true=>none)
   | some (.sb _ _ _),false=>some r
   | _,_=>none)
  | _,_,_=>none)
def xsl (op:BinOp) (a b:ByteArray):Option Bool:=
 match op with
 | .lss=>some (Op.bytesLess a.data.toList b.data.toList)
 | .geq=>some (!Op.bytesLess a.data.toList b.data.toList)
 | _=>none
theorem xsl_step {o:Oper} {op:BinOp} {t t2:Nat} {x u:Operand} {c d:ByteArray} {b:Bool} (hop:o.op=.binOp op t x u t2) (hc:Cfg w0 S B nk N S q fr L a w) (hR:Rep M L) (hf:hF nk fr) (hl:hL nk L)
  (hx:opv fr x=.v (.string c)) (hu:opv fr u=.v (.string d)) (h:xsl op c d=some b) (hp:putX N o.dst (.b (b=true) (instDecidableEqBool b true)) fr=some fr'):Oper.wpIn (FF r) n P o a w (St w0 S B nk N (XK nk fr' M)) Q:=by
 have ex:=opv_ok hc.f x
 have eu:=opv_ok hc.f u
 rw [hx] at ex
 rw [hu] at eu
 have ex:a.eval x=.string c:=ex
 have eu:a.eval u=.string d:=eu
 have hr:(binOp op t (.string c) (.string d)).run P w=.ok (.bool b) w:=by
  unfold xsl at h
  split at h<;>first
   | cases h
   | skip
  all_goals simp only [binOp,Op.stringOp,ByteArray.toList_eq];rfl
 have hrun:(execOp a.eval o).run P w=.ok (.value (.bool b)) w:=by
  refine run_exec (s:=do eqGuard op t x u (a.eval x) (a.eval u);binOp op t (a.eval x) (a.eval u)) (by simp only [execOp,hop]) ?_
  rw [ex,eu]
  exact bin_run (eqGuard_at_string ..) hr
 refine wpIn_value (nd_of hop (by simp)) hrun ?_
 obtain ⟨fr1,hK',hc'⟩:=hc.put (v:=.bool b) (K:=fun fr=>fr=fr') (putX_ok hp rfl) (by cases b<;>rfl)
 subst hK'
 exact ⟨S,q,_,L,0,hc',rfl,hR,putX_h hp hf (fun k hk=>by simp [SV.has] at hk),hl⟩
def xbinR (op:BinOp) (d:Ty) (x y:SV) (s:Option SV) (M:Mg):Option SV:=
 match x,y with
 | .v (.string a),.v (.string b)=>(match xsl op a b with | some b=>some (.b (b=true) (instDecidableEqBool b true)) | none=>none)
 | _,_=>(match s with | some x=>xnil op d x y M | none=>none)
def tmpV (fr:Fr) (x:Operand):Option SV:=match x with | .tmp s=>some (get fr s) | _=>none
def bytesV (xs:List Value):Option SV:=match xbytes xs with | some bs=>some (.v (.string ⟨bs.toArray⟩)) | none=>none
def allInt (l:List Value):Bool:=List.rec (motive:=fun _=>Bool) true (fun x _ ih=>match x with | .int _ _=>ih | _=>false) l
theorem allInt_ok:∀{l:List Value},allInt l=true→∀x∈l,x.oneCell'=true
  | [],_,x,hx=>by cases hx
  | y::r,h,x,hx=>by
    cases y<;>first
      | (rcases List.mem_cons.1 hx with rfl | hx
         · rfl
         · exact allInt_ok (l:=r) h x hx)
      | cases h
def xallocB (T:Tab) (t nk:Nat) (M:Mm):Option (SV×Mm):=
 match (ty T t).d with
 | .arr n e=>(match (ty T e).d,Nat.beq (ty T t).zero.length n,Nat.blt 0 n,Nat.ble n 140737488355328,allInt (ty T t).zero with
  | .int .u8,true,true,true,true=>(match xput M nk (some (.row t 1 n (valL (ty T t).zero))) with | some M'=>some (.lp nk 0,M') | none=>none)
  | _,_,_,_,_=>xalloc T t nk M)
 | _=>xalloc T t nk M
theorem xallocB_step (hT:TabOk P E.T) {o:Oper} {t:Nat} (hop:o.op=.alloc t) (hc:Cfg w0 S B nk N S q fr L a w) (hR:Rep M L) (hf:hF nk fr) (hl:hL nk L)
  (h:xallocB E.T t nk M=some (y,M')) (hp:putX N o.dst y fr=some fr'):Oper.wpIn (FF r) n P o a w (St w0 S B nk N (XK (nk+1) fr' M')) Q:=by
 unfold xallocB at h
 split at h
 rotate_left
 ·exact xalloc_step hT hop hc hR hf hl h hp
 rename_i m e hd
 split at h
 rotate_left
 ·exact xalloc_step hT hop hc hR hf hl h hp
 rename_i h1 h2 h3 h4 h5
 split at h
 rotate_left
 ·cases h
 rename_i M1 hM
 cases h
 have h2:=Nat.eq_of_beq_eq_true h2
 have h3:0<m:=Nat.le_of_ble_eq_true h3
 have h4:=Nat.le_of_ble_eq_true h4
 have h0:(ty E.T t).d≠.other:=by rw [hd];simp
 refine wpIn_value (nd_of hop (by simp)) (run_exec (s:=Instr.alloc t true (.tuple #[])) (by simp only [execOp,hop]) (run_alloc hT h0 w)) ?_
 have hh:(w.alloc (.cells (ty E.T t).zero.toArray t)).heap[w.heap.size]?=some (.cells (ty E.T t).zero.toArray t (0,0)):=heap_alloc_new w _
 have hm:Mem w0 q (updS S nk ⟨w.heap.size,some ⟨w.heap.size,0,none⟩,m,m,default⟩) ((nk,.row t 1 m (valL (ty E.T t).zero))::L) (w.alloc (.cells (ty E.T t).zero.toArray t)):=by
  refine hc.m.new (noL hl) ((Below.refl _ w).alloc (Nat.le_refl _) _) ?_ fun b hb=>?_
  ·simp only [chunk,updS_same]
   refine ⟨(ty E.T t).zero,⟨⟨by rw [h2,Nat.mul_one],.inr ⟨w.heap.size,m,_,rfl,Nat.zero_le _,hh,Nat.le_refl _,?_,by simp [h2],?_⟩⟩,by first | trivial | rfl,by omega,allInt_ok h5,by simp⟩,okL_valL _⟩
   ·simp only [maxLen];omega
   ·rw [Nat.mul_one,List.take_of_length_le];simp [h2]
  ·simp only [blk,updS_same,Option.map_some,Option.some.injEq] at hb
   omega
 obtain ⟨fr1,hK',hc'⟩:=(hc.new (Nat.le_refl _) (noF hf) (noL hl) hm).put (v:=.pointer (some ⟨w.heap.size,0,none⟩)) (K:=fun fr=>fr=fr') (putX_ok hp rfl) (by simp [okv,updS_same])
 subst hK'
 exact ⟨_,q,_,_,0,hc',rfl,hR.new hM,putX_h hp (hf.mono (Nat.le_succ nk)) (hV_lp (Nat.lt_succ_self nk)),(hl.mono (Nat.le_succ nk)).new (Nat.lt_succ_self nk) (hB.row (.valL _))⟩
def xarS (M:Mg) (k l n:Nat):Option SV:=
 match M k with
 | some (.row _ sz m _)=>(match Nat.beq sz 1,Nat.beq m n with | true,true=>some (.vw k l 1 (n-l) false) | _,_=>none)
 | _=>none
def xrd (T:Tab) (op:Op) (fr:Fr) (M:Mg):Option SV:=
 match op with
 | .call ⟨.builtin .len,xs,ts⟩=>(match xs.toList,ts.toList with
  | [.tmp s],[t]=>(match (ty T t).d,get fr s with
   | .slice _,.own k=>(match M k with | some (.sb _ n _)=>some (.v (.int .i64 n)) | _=>none)
   | _,_=>none)
  | _,_=>none)
 | .binOp op t u x _=>xbinR op (ty T t).d (opv fr u) (opv fr x) (tmpV fr u) M
 | .indexAddr t (.tmp s) x=>(match (ty T t).d,get fr s,opv fr x with
  | .slice e,.own k,.v (.int _ i)=>(match M k with
   | some (.sb _ n _)=>(match Nat.beq (ty T e).sz 1,inI i n with | true,true=>some (.lp k i.toNat) | _,_=>none)
   | _=>none)
  | .slice e,.vw k lo sz m _,.v (.int _ i)=>(match M k with
   | some (.sb _ n _)=>(match Nat.beq (ty T e).sz 1,Nat.beq sz 1,inI i m with | true,true,true=>some (.lp k (lo+i.toNat)) | _,_,_=>none)
   | _=>none)
  | _,_,_=>none)
 | .slice t (.tmp s) lo hi none=>(match (ty T t).d,get fr s with
  | .arr n e,.lp k 0=>(match hi,M k with
   | none,some (.row _ _ _ _)=>(match Nat.beq (ty T e).sz 1,xbnd (optv fr lo) 0,Nat.blt 0 n with
    | true,some l,true=>(match in3 0 l n with | true=>xarS M k l.toNat n | false=>none)
    | _,_,_=>none)
   | _,_=>none)
  | .slice e,.own k=>(match M k with
   | some (.sb _ n _)=>(match Nat.beq (ty T e).sz 1,xbnd (optv fr lo) 0,xbnd (optv fr hi) n with
    | true,some l,some h=>(match in3 l h n with | true=>some (.vw k l.toNat 1 (h.toNat-l.toNat) false) | false=>none)
    | _,_,_=>none)
   | _=>none)
  | _,_=>none)
 | .load t (.tmp s)=>(match get fr s with
  | .lp k o=>(match M k with
   | some (.sb _ n xs)=>(match (ty T t).d,(ty T t).flat,nth xs o with
    | .int _,[.int k2],some (.int k3 v)=>(match Nat.beq (kc k2) (kc k3) with | true=>some (.v (.int k3 v)) | false=>none)
    | _,_,_=>none)
   | _=>none)
  | _=>none)
 | .convert src dst (.tmp s)=>(match (ty T src).d,(ty T dst).d,get fr s with
  | .slice e,.str,.own k=>(match (ty T e).d,M k with
   | .int .u8,some (.sb _ n xs)=>bytesV xs
   | _,_=>none)
  | .slice e,.str,.vw k lo sz m _=>(match (ty T e).d,M k with
   | .int .u8,some (.sb _ n xs)=>(match Nat.beq sz 1,Nat.ble (lo+m) n with | true,true=>bytesV (vwC xs lo 1 m) | _,_=>none)
   | _,_=>none)
  | _,_,_=>none)
 | .build t ps=>(match (ty T t).d,ps.toList with | .arr _ _,[]=>some (.agg (valL (ty T t).zero)) | _,_=>none)
 | _=>none
theorem kc_inj:∀{a b:IntKind},kc a=kc b→a=b:=by intro a b;cases a<;>cases b<;>first | (intro _;rfl) | (intro h;simp [kc] at h)
theorem okF_at {S:Pl} {tm:Array Value} {s:Nat} (h:okF S fr tm):okF S ((s,.v (tm.getD s undef))::fr) tm:=fun t=>by
 rw [get_cons]
 split
 ·rename_i e;subst e;rfl
 ·exact h t
theorem opv_at {s:Nat} {v:SV}:opv ((s,v)::fr) (.tmp s)=v:=by simp [opv,get_cons]
theorem opv_off {s k:Nat} {v:SV} {x:Operand} {k':IntKind} {i:Int} (hs:get fr s=.own k) (h:opv fr x=.v (.int k' i)):opv ((s,v)::fr) x=.v (.int k' i):=by
 cases x with
 | tmp t=>
  simp only [opv,get_cons] at h ⊢
  split
  ·rename_i e;subst e;rw [hs] at h;cases h
  ·exact h
 | const u=>cases u<;>exact h
 | global g=>exact h
 | func f=>exact h
theorem opv_offV {s:Nat} {v:SV} {x:Operand} {u:Value} (hs:∀u',get fr s≠.v u') (h:opv fr x=.v u):opv ((s,v)::fr) x=.v u:=by
 cases x with
 | tmp t=>
  simp only [opv,get_cons] at h ⊢
  split
  ·rename_i e;subst e;exact (hs _ h).elim
  ·exact h
 | const u=>cases u<;>exact h
 | global g=>exact h
 | func f=>exact h
theorem nil_step (hE:EnvOk P E) {o:Oper} (hc:Cfg w0 S B nk N S q fr L a w) (hR:Rep M L) (hf:hF nk fr) (hl:hL nk L) {op:BinOp} {t t2 s e m c:Nat} {x:Operand} {A:Option Addr}
  (hop:o.op=.binOp op t (.tmp s) x t2) (hs:∀u',get fr s≠.v u') (hd:(ty E.T t).d=.slice e) (hx:isNilS (opv fr x)=true) (hv:a.tmps.getD s undef=.slice A m c) (hA:A≠none) (h:xne op=some y) (hp:putX N o.dst y fr=some fr') :
  Oper.wpIn (FF r) n P o a w (St w0 S B nk N (XK nk fr' M)) Q:=by
 unfold isNilS at hx
 split at hx
 rotate_left
 ·cases hx
 rename_i n1 c1 hx1
 have hx1:=opv_offV (s:=s) (v:=.v (a.tmps.getD s undef)) hs hx1
 unfold xne at h
 split at h
 ·cases h
  refine via_val hE hc hR hf hl (okF_at (s:=s) hc.f) (sv:=.b (A=none) (decNone A)) ?_ (fun x hx=>?_) (fun k hk=>by simp [SV.has] at hk) hp
  ·rw [hop]
   dsimp only [calmK]
   rw [hx1,opv_at,hv,hd]
   rfl
  ·have hx:x=.bool (@decide (A=none) (decNone A)):=hx
   show x=.bool false
   rw [hx,@decide_eq_false _ (decNone A) hA]
 ·cases h
  refine via_val hE hc hR hf hl (okF_at (s:=s) hc.f) (sv:=.b (¬A=none) (@instDecidableNot _ (decNone A))) ?_ (fun x hx=>?_) (fun k hk=>by simp [SV.has] at hk) hp
  ·rw [hop]
   dsimp only [calmK]
   rw [hx1,opv_at,hv,hd]
   rfl
  ·have hx:x=.bool (@decide (¬A=none) (@instDecidableNot _ (decNone A))):=hx
   show x=.bool true
   rw [hx,@decide_eq_true _ (@instDecidableNot _ (decNone A)) hA]
 ·cases h
theorem xbnd_off {s k:Nat} {v:SV} {x:Option Operand} {d i:Int} (hs:get fr s=.own k) (h:xbnd (optv fr x) d=some i):xbnd (optv ((s,v)::fr) x) d=some i:=by
 cases x with
 | none=>exact h
 | some x=>
  unfold optv at h ⊢
  unfold xbnd at h
  split at h
  ·rename_i e;cases e
  ·rename_i k' i' e
   cases h
   have e:=Option.some.inj e
   show xbnd (some (opv ((s,v)::fr) x)) d=some _
   rw [opv_off hs e]
   rfl
  ·cases h
theorem opv_off' {s k lo sz m:Nat} {ex:Bool} {v:SV} {x:Operand} {k':IntKind} {i:Int} (hs:get fr s=.vw k lo sz m ex) (h:opv fr x=.v (.int k' i)):opv ((s,v)::fr) x=.v (.int k' i):=by
 cases x with
 | tmp t=>
  simp only [opv,get_cons] at h ⊢
  split
  ·rename_i e;subst e;rw [hs] at h;cases h
  ·exact h
 | const u=>cases u<;>exact h
 | global g=>exact h
 | func f=>exact h
theorem bytesV_ok {xs:List Value} (h:bytesV xs=some y):∃bs,xbytes xs=some bs∧y=.v (.string ⟨bs.toArray⟩):=by
 unfold bytesV at h
 split at h
 ·rename_i bs hb;cases h;exact ⟨bs,hb,rfl⟩
 ·cases h
theorem nth_eq {α}:∀(l:List α) (i:Nat),nth l i=l[i]?
 | [],i=>by cases i<;>rfl
 | x::r,0=>rfl
 | x::r,i+1=>by rw [List.getElem?_cons_succ];exact nth_eq r i
theorem xbz_step (hE:EnvOk P E) {o:Oper} {t n' e:Nat} {ps:Array (Nat×Operand)} (hop:o.op=.build t ps) (hd:(ty E.T t).d=.arr n' e) (hps:ps.toList=[]) (hc:Cfg w0 S B nk N S q fr L a w) (hR:Rep M L) (hf:hF nk fr) (hl:hL nk L)
  (hy:hV nk (.agg (valL (ty E.T t).zero))) (hp:putX N o.dst (.agg (valL (ty E.T t).zero)) fr=some fr'):Oper.wpIn (FF r) n P o a w (St w0 S B nk N (XK nk fr' M)) Q:=by
 have ht:=hE.T t (by rw [hd];simp)
 obtain ⟨hu,hs⟩:descOk P E.T t (.arr n' e):=by rw [←hd];exact ht.d
 obtain ⟨i,z,hi,_,_,hz,hzc⟩:=ht.i
 obtain ⟨_,i2,hi2,_⟩:=hs
 have hps':ps=#[]:=by apply Array.ext';simpa using hps
 have hz':z.cells=(ty E.T t).zero.toArray:=by rw [←hzc]
 have hrun:(execOp a.eval o).run P w=.ok (.value (.agg (ty E.T t).zero.toArray)) w:=by
  refine run_exec (s:=Instr.build t (ps.map fun (i,x)=>(i,a.eval x))) (by simp only [execOp,hop]) ?_
  subst hps'
  simp only [Instr.build,Sem.run_bind,zeroValue,typeInfo,run_program,Result.andThen_ok,hi,Sem.run_pure,hz,run_underlying hu,Go.sizeOf,hi2]
  simp [Instr.fill,hz']
 refine wpIn_value (nd_of hop (by simp)) hrun ?_
 obtain ⟨fr1,hK',hc'⟩:=hc.put (v:=.agg (ty E.T t).zero.toArray) (K:=fun fr=>fr=fr') (putX_ok hp rfl) ⟨_,rfl,okL_valL _⟩
 subst hK'
 exact ⟨S,q,_,L,0,hc',rfl,hR,putX_h hp hf hy,hl⟩
theorem xrd_step (hE:EnvOk P E) {o:Oper} (hc:Cfg w0 S B nk N S q fr L a w) (hR:Rep M L) (hf:hF nk fr) (hl:hL nk L)
  (h:xrd E.T o.op fr M.get=some y) (hy:hV nk y) (hp:putX N o.dst y fr=some fr'):Oper.wpIn (FF r) n P o a w (St w0 S B nk N (XK nk fr' M)) Q:=by
 have ownv:∀{s k:Nat},get fr s=.own k→a.tmps.getD s undef=.slice (S k).A (S k).n (S k).c:=fun {s k} e=>by
  have:=hc.f s;rw [e] at this;exact this
 have sbv:∀{s k e m:Nat} {xs:List Value},get fr s=.own k→getL L k=some (.sb e m xs)→a.tmps.getD s undef=.slice (some ⟨(S k).b,0,none⟩) m (S k).c∧m≤(S k).c∧xs.length=m:=fun {s k e m xs} e1 hk=>by
  obtain ⟨_,hA,hn,hnc,hxl,_⟩:=hc.m.ch k _ hk
  rw [ownv e1,hA,hn]
  exact ⟨rfl,hnc,hxl⟩
 have sbw:∀{s k e m lo sz m':Nat} {ex:Bool} {xs:List Value},get fr s=.vw k lo sz m' ex→getL L k=some (.sb e m xs)→∃A c,a.tmps.getD s undef=.slice A m' c∧m'≤c∧(m'≠0→A=some ⟨(S k).b,lo * sz,none⟩):=fun {s k e m lo sz m' ex xs} e1 hk=>by
  obtain ⟨_,hA,_⟩:=hc.m.ch k _ hk
  have:=hc.f s
  rw [e1] at this
  obtain ⟨A,c,h1,h2,h3,_⟩:=this
  refine ⟨A,c,h1,h2,fun hne=>?_⟩
  rcases h3 with h3 | h3
  ·exact absurd h3 hne
  ·rw [h3,hA]
   show some (Addr.add _ _)=_
   rw [Addr.add_lit,Nat.zero_add]
 generalize hop:o.op=op at h
 unfold xrd at h
 split at h
 ·rename_i xs ts
  split at h
  rotate_left
  ·cases h
  rename_i s t e1 e2
  split at h
  rotate_left
  ·cases h
  rename_i e k hd hs
  split at h
  rotate_left
  ·cases h
  rename_i e' m' ys hk
  cases h
  rw [←hR k] at hk
  obtain ⟨hv,hnc,hxl⟩:=sbv hs hk
  refine via_sb hE hc hR hf hl hk (okF_at (s:=s) hc.f) (sv:=.v (.int .i64 m')) (fun q' _=>?_) (fun x hx=>hx) hy hp
  rw [hop]
  simp only [calmK,callK,e1,e2,opvs,opv_at,builtK,hd,hv,lenK]
 ·rename_i op t u0 x t2
  unfold xbinR at h
  split at h
  ·rename_i c d hx hu
   split at h
   ·rename_i b hb
    cases h
    exact xsl_step hop hc hR hf hl hx hu hb hp
   ·cases h
  split at h
  rotate_left
  ·cases h
  rename_i z hz
  unfold tmpV at hz
  split at hz
  rotate_left
  ·cases hz
  rename_i s hno
  cases hz
  have row:∀{k e sz n:Nat} {cs:List SV},getL L k=some (.row e sz n cs)→(S k).n=n∧(n≠0→(S k).A≠none):=fun {k e sz n cs} hk=>by
   obtain ⟨xs,⟨⟨_,h⟩,hn,_⟩,_⟩:=hc.m.ch k _ hk
   refine ⟨hn,fun hne=>?_⟩
   rcases h with ⟨_,h⟩ | ⟨g,cap,cur,h,_⟩
   ·exact absurd h hne
   ·intro e
    rw [e] at h
    cases h
  unfold xnil at h
  split at h
  ·cases h
  rename_i r0 hne0
  split at h
  ·rename_i e k hd hx hs
   split at h
   ·rename_i e2 sz m cs hk
    split at h
    ·rename_i hm
     have hm:m≠0:=fun e=>by rw [e] at hm;cases hm
     rw [←hR k] at hk
     exact nil_step hE hc hR hf hl hop (fun u e=>by rw [hs] at e;cases e) hd hx (ownv hs) ((row hk).2 hm) (hne0.trans h) hp
    ·cases h
   ·rename_i e2 m xs hk
    rw [←hR k] at hk
    exact nil_step hE hc hR hf hl hop (fun u e=>by rw [hs] at e;cases e) hd hx (ownv hs) (by rw [(hc.m.ch k _ hk).2.1];simp) (hne0.trans h) hp
   ·cases h
  ·rename_i e k lo sz0 m0 ex hd hx hs
   have vw:(S k).A≠none→m0≠0→∃A c,a.tmps.getD s undef=.slice A m0 c∧A≠none:=fun h1 h2=>by
    have:=hc.f s
    rw [hs] at this
    obtain ⟨A,c,e1,_,e2,_⟩:=this
    refine ⟨A,c,e1,?_⟩
    rcases e2 with e2 | e2
    ·exact absurd e2 h2
    ·rw [e2]
     intro e
     cases hA:(S k).A with
     | none=>exact h1 hA
     | some a0=>rw [hA] at e;cases e
   split at h
   ·rename_i e2 sz m cs hk hm
    have hm:m0≠0:=fun e=>by rw [e] at hm;cases hm
    split at h
    ·rename_i hm2
     have hm2:m≠0:=fun e=>by rw [e] at hm2;cases hm2
     rw [←hR k] at hk
     obtain ⟨A,c,h1,h2⟩:=vw ((row hk).2 hm2) hm
     exact nil_step hE hc hR hf hl hop (fun u e=>by rw [hs] at e;cases e) hd hx h1 h2 (hne0.trans h) hp
    ·cases h
   ·rename_i e2 m xs hk hm
    have hm:m0≠0:=fun e=>by rw [e] at hm;cases hm
    rw [←hR k] at hk
    obtain ⟨A,c,h1,h2⟩:=vw (by rw [(hc.m.ch k _ hk).2.1];simp) hm
    exact nil_step hE hc hR hf hl hop (fun u e=>by rw [hs] at e;cases e) hd hx h1 h2 (hne0.trans h) hp
   ·cases h
  ·cases h
 ·rename_i t s x
  split at h
  ·rename_i e k ik i hd hs hi
   split at h
   rotate_left
   ·cases h
   rename_i e' m' ys hk
   split at h
   rotate_left
   ·cases h
   rename_i hz hin
   cases h
   have hz:=Nat.eq_of_beq_eq_true hz
   have hin:=inI_ok hin
   rw [←hR k] at hk
   obtain ⟨hv,hnc,hxl⟩:=sbv hs hk
   refine via_sb hE hc hR hf hl hk (okF_at (s:=s) hc.f) (sv:=.el (some ⟨(S k).b,0,none⟩) i.toNat) (fun q' _=>?_) (fun x hx=>?_) hy hp
   ·rw [hop]
    dsimp only [calmK]
    rw [opv_at,opv_off hs hi,hv]
    unfold idxK
    rw [hd]
    refine ⟨⟨hin.1,hin.2,by simp⟩,?_⟩
    rw [elK_eq,hz]
    simp only [Nat.mul_one]
   ·obtain ⟨a0,ha,hx⟩:=hx
    cases ha
    subst hx
    show Value.pointer (some (Addr.add _ _))=_
    rw [Addr.add_lit,Nat.zero_add]
  ·rename_i e k lo sz m ex ik i hd hs hi
   split at h
   rotate_left
   ·cases h
   rename_i e' m' ys hk
   split at h
   rotate_left
   ·cases h
   rename_i hz hz2 hin
   cases h
   have hz:=Nat.eq_of_beq_eq_true hz
   have hz2:=Nat.eq_of_beq_eq_true hz2
   subst hz2
   have hin:=inI_ok hin
   rw [←hR k] at hk
   obtain ⟨A,c,hv,hnc,hA⟩:=sbw hs hk
   have hA:=hA (by omega)
   subst hA
   refine via_sb hE hc hR hf hl hk (okF_at (s:=s) hc.f) (sv:=.el (some ⟨(S k).b,lo,none⟩) i.toNat) (fun q' _=>?_) (fun x hx=>?_) hy hp
   ·rw [hop]
    dsimp only [calmK]
    rw [opv_at,opv_off' hs hi,hv]
    unfold idxK
    rw [hd]
    refine ⟨⟨hin.1,hin.2,by simp⟩,?_⟩
    rw [elK_eq,hz]
    simp only [Nat.mul_one]
   ·obtain ⟨a0,ha,hx⟩:=hx
    cases ha
    subst hx
    show Value.pointer (some (Addr.add _ _))=_
    rw [Addr.add_lit]
  ·cases h
 ·rename_i t s lo hi
  split at h
  ·rename_i m e k hd hs
   split at h
   rotate_left
   ·cases h
   rename_i e2 sz m2 cs hk
   split at h
   rotate_left
   ·cases h
   rename_i l hz h1 hpos
   split at h
   rotate_left
   ·cases h
   rename_i h3
   unfold xarS at h
   rw [hk] at h
   dsimp only at h
   split at h
   rotate_left
   ·cases h
   rename_i hs1 hm1
   cases h
   have hs1:=Nat.eq_of_beq_eq_true hs1
   have hm1:=Nat.eq_of_beq_eq_true hm1
   subst hs1 hm1
   have hz:=Nat.eq_of_beq_eq_true hz
   have hpos:0<m2:=Nat.le_of_ble_eq_true hpos
   have h3:=in3_ok h3
   rw [←hR k] at hk
   obtain ⟨xs,⟨⟨_,hown⟩,hn,_,_,hA⟩,_⟩:=hc.m.ch k _ hk
   have hA:(S k).A=some ⟨(S k).b,0,none⟩:=by
    rcases hA with hA | hA
    ·rw [hA] at hown
     rcases hown with ⟨_,h⟩ | ⟨g,cap,cur,h,_⟩
     ·omega
     ·cases h
    ·exact hA
   have hv:a.tmps.getD s undef=.pointer (some ⟨(S k).b,0,none⟩):=by
    have:=hc.f s;rw [hs] at this;exact this
   obtain ⟨ht,_,j,hj,hsz,_⟩:descOk P E.T t (.arr m2 e):=by rw [←hd];exact (hE.T t (by rw [hd];simp)).d
   have hlo:(lo=none∧l=0)∨∃u k',lo=some u∧a.eval u=.int k' l:=by
    cases lo with
    | none=>cases h1;exact .inl ⟨rfl,rfl⟩
    | some u=>
     right
     unfold xbnd optv at h1
     dsimp only at h1
     split at h1
     ·rename_i e;cases e
     ·rename_i k' i' e
      cases h1
      have e:=Option.some.inj e
      have:=opv_ok hc.f u
      rw [e] at this
      exact ⟨u,k',rfl,this⟩
     ·cases h1
   have hrun:(execOp a.eval o).run P w=.ok (.value (.slice (some (if m2=l.toNat then ⟨(S k).b,0,none⟩ else Addr.add ⟨(S k).b,0,none⟩ (l.toNat * 1))) (m2-l.toNat) (m2-l.toNat))) w:=by
    have b1:=fun k' code=>run_bnd (P:=P) k' l m2 code h3.2.1 h3.2.2 w
    refine run_exec (s:=Instr.sliceAt t (a.eval (.tmp s)) (lo.map a.eval) none none) (by simp only [execOp,hop];rfl) ?_
    have hv':a.eval (.tmp s)=.pointer (some ⟨(S k).b,0,none⟩):=hv
    rw [hv']
    rcases hlo with ⟨rfl,rfl⟩ | ⟨u,k',rfl,hu⟩
    ·simp [Instr.sliceAt,Instr.sliceBounds,run_underlying ht,Instr.sureAddr,sizeOf,typeInfo,hj,hsz,hz]
    ·simp [Instr.sliceAt,Instr.sliceBounds,run_underlying ht,Instr.sureAddr,sizeOf,typeInfo,hj,hsz,hz,hu,b1]
   refine wpIn_value (nd_of hop (by simp)) hrun ?_
   obtain ⟨fr1,hK',hc'⟩:=hc.put (v:=.slice (some (if m2=l.toNat then ⟨(S k).b,0,none⟩ else Addr.add ⟨(S k).b,0,none⟩ (l.toNat * 1))) (m2-l.toNat) (m2-l.toNat)) (K:=fun fr=>fr=fr') (putX_ok hp rfl) ⟨_,_,rfl,Nat.le_refl _,(by
    by_cases e0:m2-l.toNat=0
    ·exact .inl e0
    ·right
     rw [if_neg (by omega),hA]
     rfl),fun e=>by cases e⟩
   subst hK'
   exact ⟨S,q,_,L,0,hc',rfl,hR,putX_h hp hf hy,hl⟩
  rotate_left
  ·cases h
  rename_i e k hd hs
  split at h
  rotate_left
  ·cases h
  rename_i e' m' ys hk
  split at h
  rotate_left
  ·cases h
  rename_i l hh hz h1 h2
  split at h
  rotate_left
  ·cases h
  rename_i h3
  cases h
  have hz:=Nat.eq_of_beq_eq_true hz
  have h3:=in3_ok h3
  rw [←hR k] at hk
  obtain ⟨hv,hnc,hxl⟩:=sbv hs hk
  refine via_sb hE hc hR hf hl hk (okF_at (s:=s) hc.f) (sv:=.v (.slice (if (S k).c=l.toNat then some ⟨(S k).b,0,none⟩ else (some ⟨(S k).b,0,none⟩:Option Addr).map (·.add l.toNat)) (hh.toNat-l.toNat) ((S k).c-l.toNat))) (fun q' _=>?_) (fun x hx=>?_) hy hp
  ·rw [hop]
   dsimp only [calmK,sliceOpK,optv]
   rw [opv_at,hv]
   unfold slcK
   rw [hd]
   dsimp only
   refine xbnd_ok (xbnd_off hs h1) (xbnd_ok (xbnd_off hs h2) ⟨⟨h3.1,h3.2.1,by omega⟩,?_⟩)
   rw [elK_eq,hz,Nat.mul_one]
   intro m hm
   rw [hm]
  ·have hx:x=.slice _ _ _:=hx
   refine ⟨_,_,hx,by omega,?_,fun e=>by cases e⟩
   by_cases e:hh.toNat-l.toNat=0
   ·exact .inl e
   ·right
    have hA:(S k).A=some ⟨(S k).b,0,none⟩:=(hc.m.ch k _ hk).2.1
    rw [if_neg (by omega),hA,Nat.mul_one]
 ·rename_i t s
  split at h
  rotate_left
  ·cases h
  rename_i k j hs
  split at h
  rotate_left
  ·cases h
  rename_i e' m' ys hk
  split at h
  rotate_left
  ·cases h
  rename_i k1 k2 k3 v h1 h2 h3
  split at h
  rotate_left
  ·cases h
  rename_i hkc
  cases h
  have hkc:=kc_inj (Nat.eq_of_beq_eq_true hkc)
  subst hkc
  rw [←hR k] at hk
  rw [nth_eq] at h3
  have hpv:a.tmps.getD s undef=.pointer (some ⟨(S k).b,j,none⟩):=by
   have:=hc.f s;rw [hs] at this;exact this
  refine via_sb hE hc hR hf hl hk (okF_at (s:=s) hc.f) (sv:=.v (.int k2 v)) (fun q' hq'=>?_) (fun x hx=>hx) hy hp
  have hcl:rd q' (some ⟨(S k).b,j,none⟩) 0=some (.int k2 v):=by
   have hj:j<ys.length:=by
    rcases Nat.lt_or_ge j ys.length with h | h
    ·exact h
    ·rw [List.getElem?_eq_none h] at h3;cases h3
   rw [←h3,←hq' j hj]
   simp [rd]
  rw [hop]
  show loadK _ _ _ _ _ _
  rw [opv_at,hpv]
  unfold loadK
  generalize hty:ty E.T t=tt at h1 h2
  rcases tt with ⟨d,sz,x1,x2,fl,x3⟩
  dsimp only at h1 h2
  subst h1 h2
  dsimp only [loadK1,ldK]
  refine ⟨⟨v,hcl⟩,fun x hx=>?_⟩
  rw [hcl] at hx
  cases hx
  rfl
 ·rename_i src dst s
  split at h
  rotate_left
  ·rename_i e k lo sz m ex h1 h2 hs
   split at h
   rotate_left
   ·cases h
   rename_i e' m' ys h3 hk
   split at h
   rotate_left
   ·cases h
   rename_i hz hle
   have hz:=Nat.eq_of_beq_eq_true hz
   subst hz
   have hle:=Nat.le_of_ble_eq_true hle
   obtain ⟨bs,hbs,hyv⟩:=bytesV_ok h
   rw [←hR k] at hk
   obtain ⟨A,c,hv,hnc,hA⟩:=sbw hs hk
   have hxl:ys.length=m':=(hc.m.ch k _ hk).2.2.2.2.1
   have hlen:(vwC ys lo 1 m).length=m:=by simp only [vwC,List.length_take,List.length_drop];omega
   refine via_sb hE hc hR hf hl hk (okF_at (s:=s) hc.f) (sv:=y) (fun q' hq'=>?_) (fun x hx=>hx) hy hp
   have hq2:Reads q' A (vwC ys lo 1 m):=by
    by_cases e:m=0
    ·intro j hj;omega
    ·rw [hA e]
     have:=reads_vw (lo:=lo) (sz:=1) (m:=m) hq'
     rw [show (some (⟨(S k).b,0,none⟩:Addr)).map (·.add (lo * 1))=some ⟨(S k).b,lo * 1,none⟩ from by
      show some (Addr.add _ _)=_
      rw [Addr.add_lit,Nat.zero_add]] at this
     exact this
   rw [hop]
   dsimp only [calmK]
   rw [opv_at,hv]
   unfold convK
   rw [h1,h2]
   dsimp only
   rw [h3]
   dsimp only [sliceK]
   refine ⟨⟨_,by rw [hlen,Nat.mul_one],hq2⟩,fun zs hz hrz=>?_⟩
   have:zs=vwC ys lo 1 m:=hrz.uniq hq2 (by rw [hz,hlen,Nat.mul_one])
   subst this
   exact sl_bytes (K:=fun z=>z=y) hbs hyv.symm
  ·cases h
  rename_i e k h1 h2 hs
  split at h
  rotate_left
  ·cases h
  rename_i e' m' ys h3 hk
  obtain ⟨bs,hbs,hyv⟩:=bytesV_ok h
  rw [←hR k] at hk
  obtain ⟨hv,hnc,hxl⟩:=sbv hs hk
  refine via_sb hE hc hR hf hl hk (okF_at (s:=s) hc.f) (sv:=y) (fun q' hq'=>?_) (fun x hx=>hx) hy hp
  rw [hop]
  dsimp only [calmK]
  rw [opv_at,hv]
  unfold convK
  rw [h1,h2]
  dsimp only
  rw [h3]
  dsimp only [sliceK]
  refine ⟨⟨ys,by rw [hxl,Nat.mul_one],hq'⟩,fun zs hz hrz=>?_⟩
  have:zs=ys:=hrz.uniq hq' (by rw [hz,hxl,Nat.mul_one])
  subst this
  exact sl_bytes (K:=fun z=>z=y) hbs hyv.symm
 ·rename_i t ps
  split at h
  ·rename_i n' e hd hps
   cases h
   exact xbz_step hE hop hd hps hc hR hf hl hy hp
  ·cases h
 ·cases h
def xcalm2 (T:Tab) (op:Op) (fr:Fr) (M:Mg):Option SV:=match xcalm T op fr M with | some y=>some y | none=>xrd T op fr M
theorem xcalm2_step (hE:EnvOk P E) {o:Oper} (hc:Cfg w0 S B nk N S q fr L a w) (hR:Rep M L) (hf:hF nk fr) (hl:hL nk L)
  (h:xcalm2 E.T o.op fr M.get=some y) (hy:hV nk y) (hp:putX N o.dst y fr=some fr'):Oper.wpIn (FF r) n P o a w (St w0 S B nk N (XK nk fr' M)) Q:=by
 unfold xcalm2 at h
 split at h
 ·rename_i z hz
  cases h
  exact xcalm_step hE hc hR hf hl hz hy hp
 ·exact xrd_step hE hc hR hf hl h hy hp
end
end Exe
end Go.Eng
end
section
namespace Go.Eng
open Go Go.RowKit
namespace Exe
noncomputable section
abbrev XH:=List SV→Nat→Mm→Option (SV×Nat×Mm)
abbrev Yx:=List (Nat×XH)
def yxGet (Y:Yx) (k:Nat):Option XH:=List.rec (motive:=fun _=>Option XH) none (fun p _ ih=>match p with | (j,h)=>match Nat.beq j k with | true=>some h | false=>ih) Y
theorem yxGet_c {j k:Nat} {h:XH} {r:Yx}:yxGet ((j,h)::r) k=match Nat.beq j k with | true=>some h | false=>yxGet r k:=rfl
abbrev XI:=Yx→Nat→XH
structure XE where
 E:Env
 Z:Zt
 ext:Tr (List SV→Option SV)
 prim:Tr XH
def nb (x:SV):SV:=match x with | .b p d=>(match @decide p d with | true=>.bb true | false=>.bb false) | x=>x
def lift1 (nk:Nat) (x:Option (SV×Mm)):Option (SV×Nat×Mm):=match x with | some (y,M')=>some (y,nk+1,M') | none=>none
def liftU (nk:Nat) (x:Option Mm):Option (SV×Nat×Mm):=match x with | some M'=>some (.v undef,nk,M') | none=>none
def xck (nk:Nat) (x:Option (SV×Nat×Mm)):Option (SV×Nat×Mm):=
 match x with
 | some (y,nk',M')=>(match Nat.ble nk nk',R.ltK nk' y with | true,true=>some (y,nk',M') | _,_=>none)
 | none=>none
def liftC (nk:Nat) (M:Mm) (x:Option SV):Option (SV×Nat×Mm):=match x with | some y=>(match R.ltK nk y with | true=>some (nb y,nk,M) | false=>none) | none=>none
def xcall2 (X:XE) (xi:XI) (Y:Yx) (nk:Nat) (fr:Fr) (M:Mm) (f:Nat) (xs:List SV):Option (SV×Nat×Mm):=
 match X.ext.get f with
 | some g=>liftC nk M (g xs)
 | none=>xck nk (xi Y f xs nk M)
def xapp2 (X:XE) (nk:Nat) (fr:Fr) (M:Mm) (xs:List Operand) (ts:List Nat):Option (SV×Nat×Mm):=
 match xs,ts with
 | [s,x],[t,t']=>(match Nat.beq t t' with
  | true=>lift1 nk (xappM X.E.T t nk (opv fr s) (opv fr x) M)
  | false=>lift1 nk (xappSM X.E.T t t' nk (opv fr s) (opv fr x) M))
 | _,_=>none
def xcopy2 (X:XE) (nk:Nat) (fr:Fr) (M:Mm) (xs:List Operand) (ts:List Nat):Option (SV×Nat×Mm):=
 match xs,ts with
 | [d,s],[t,t']=>(match xcopy X.E.T t (opv fr d) (opv fr s) M with | some (y,M')=>some (y,nk,M') | none=>none)
 | _,_=>none
def xfn (X:XE) (xi:XI) (Y:Yx) (nk:Nat) (fr:Fr) (M:Mm) (g:SV) (xs:List SV):Option (SV×Nat×Mm):=
 match g with
 | .fn f cs=>xck nk (xi Y f (catQ xs cs) nk M)
 | .yl k=>(match yxGet Y k with | some h=>xck nk (h xs nk M) | none=>none)
 | _=>none
def xconv2 (X:XE) (nk:Nat) (fr:Fr) (M:Mm) (s t:Nat) (x:Operand):Option (SV×Nat×Mm):=
 match (ty X.E.T s).d,(ty X.E.T t).d with
 | .str,.slice _=>lift1 nk (xsb X.E.T t nk (opv fr x) M)
 | .slice _,.slice _=>(match Nat.beq s t,xfz X.E.T t (opv fr x) M with | true,some (y,M')=>some (y,nk,M') | _,_=>none)
 | _,_=>liftC nk M (xcalm2 X.E.T (.convert s t x) fr M.get)
def xop (X:XE) (xi:XI) (Y:Yx) (nk:Nat) (fr:Fr) (M:Mm) (op:Op):Option (SV×Nat×Mm):=
 match op with
 | .alloc t=>lift1 nk (xallocB X.E.T t nk M)
 | .box t x=>lift1 nk (xboxM X.E.T t nk (opv fr x) M)
 | .buildSlice t m ps=>lift1 nk (xbuildS X.E.T t m nk fr ps.toList M)
 | .makeSlice t l c=>lift1 nk (xmakeA X.E.T t nk (opv fr l) (opv fr c) M)
 | .store t p x=>liftU nk (xstore X.E.T t (opv fr p) (opv fr x) M)
 | .makeMap _ rs=>lift1 nk (xmakeMap rs nk M)
 | .mapUpdate t m k x=>liftU nk (xmapUpd X.E.T t (opv fr m) (opv fr k) (opv fr x) M)
 | .insert t m k x=>liftU nk (xmapUpd X.E.T t (opv fr m) (opv fr k) (opv fr x) M)
 | .lookup t x i ok=>liftC nk M (xlookup X.E.T X.Z t (opv fr x) (opv fr i) ok M.get)
 | .call ⟨.builtin .append,xs,ts⟩=>xapp2 X nk fr M xs.toList ts.toList
 | .call ⟨.builtin .copy,xs,ts⟩=>xcopy2 X nk fr M xs.toList ts.toList
 | .call ⟨.value (.func f),xs,_⟩=>xcall2 X xi Y nk fr M f (opvs fr xs.toList)
 | .call ⟨.value (.tmp t),xs,_⟩=>xfn X xi Y nk fr M (get fr t) (opvs fr xs.toList)
 | .convert s t x=>xconv2 X nk fr M s t x
 | op=>liftC nk M (xcalm2 X.E.T op fr M.get)
def xguard (all:List Oper) (g:Option (Nat×Bool)) (fr:Fr):Option Bool:=
 match g with
 | none=>some true
 | some (j,want)=>(match dstOf all j with
  | none=>none
  | some t=>(match get fr t with
   | .bb b=>(match b,want with | true,true=>some true | false,false=>some true | _,_=>some false)
   | .v (.tuple _)=>some false
   | _=>none))
def xstep (X:XE) (xi:XI) (Y:Yx) (all:List Oper) (o:Oper) (nk:Nat) (fr:Fr) (M:Mm):Option (SV×Nat×Mm):=
 match xguard all o.guard fr with
 | none=>none
 | some false=>some (.v undef,nk,M)
 | some true=>xop X xi Y nk fr M o.op
def xops (X:XE) (xi:XI) (Y:Yx) (N:Nat) (all:List Oper) (l:List Oper):Nat→Fr→Mm→Option (Nat×Fr×Mm):=
 List.rec (motive:=fun _=>Nat→Fr→Mm→Option (Nat×Fr×Mm)) (fun nk fr M=>some (nk,fr,M))
  (fun o _ ih nk fr M=>match xstep X xi Y all o nk fr M with
   | none=>none
   | some (y,nk',M')=>(match putX N o.dst y fr with
    | none=>none
    | some fr'=>ih nk' fr' M')) l
structure Tc where
 nk:Nat
 fr:Fr
 M:Mm
 y:SV
def xtrace (X:XE) (xi:XI) (Y:Yx) (N:Nat) (all:List Oper) (l:List Oper):Nat→Fr→Mm→Option (List Tc×Nat×Fr×Mm):=
 List.rec (motive:=fun _=>Nat→Fr→Mm→Option (List Tc×Nat×Fr×Mm)) (fun nk fr M=>some ([],nk,fr,M))
  (fun o _ ih nk fr M=>match xstep X xi Y all o nk fr M with
   | none=>none
   | some (y,nk',M')=>(match putX N o.dst y fr,Nat.ble nk nk',R.ltK nk' y with
    | some fr',true,true=>(match ih nk' fr' M' with
     | none=>none
     | some (l,z)=>some (⟨nk,fr,M,y⟩::l,z))
    | _,_,_=>none)) l
def isEff (X:XE) (op:Op):Bool:=
 match op with
 | .convert s t _=>(match (ty X.E.T s).d,(ty X.E.T t).d with | .str,.slice _=>true | .slice _,.slice _=>true | _,_=>false)
 | .alloc _ | .box _ _ | .buildSlice _ _ _ | .makeSlice _ _ _ | .store _ _ _ | .makeMap _ _ | .mapUpdate _ _ _ _ | .insert _ _ _ _=>true
 | .call ⟨.builtin .append,_,_⟩=>true
 | .call ⟨.builtin .copy,_,_⟩=>true
 | .call ⟨.builtin _,_,_⟩=>false
 | .call ⟨.value (.func f),_,_⟩=>(match X.ext.get f with | some _=>false | none=>true)
 | .call _=>true
 | _=>false
def isPure (op:Op):Bool:=
 match op with
 | .binOp op _ _ _ _=>(match op with | .eql=>false | .neq=>false | _=>true)
 | .move _ | .assign _ | .pick _ _ _ | .unOp _ _ _ | .extract _ _ | .field _ _ _ | .fieldAddr _ _ _ | .nilCheck _ | .index _ _ _ | .build _ _ | .makeFunc _ _ _=>true
 | _=>false
def bit (m i:Nat):Bool:=Nat.testBit m i
def befs1 (bs:List Nat) (es:List Edge):Nat:=
 List.rec (motive:=fun _=>Nat) 0 (fun e _ ih=>match Region.binds .any e with
  | true=>(match nth bs e.on with | some m=>Nat.lor (Nat.lor (2 ^ e.on) m) ih | none=>ih)
  | false=>ih) es
def befs (ops:List Oper):List Nat→List Nat:=
 List.rec (motive:=fun _=>List Nat→List Nat) (fun bs=>bs) (fun o _ ih bs=>ih (catQ bs [befs1 bs o.after.toList])) ops
mutual
def svEq:SV→SV→Bool
 | .v x,.v y=>vEq x y
 | .bb a,.bb b=>a == b
 | .lp k o,.lp k' o'=>Nat.beq k k' && Nat.beq o o'
 | .own k,.own k'=>Nat.beq k k'
 | .mr k,.mr k'=>Nat.beq k k'
 | .yl k,.yl k'=>Nat.beq k k'
 | .vw k a b c d,.vw k' a' b' c' d'=>Nat.beq k k' && Nat.beq a a' && Nat.beq b b' && Nat.beq c c' && d == d'
 | .agg l,.agg l'=>svEqL l l'
 | .tup l,.tup l'=>svEqL l l'
 | .fn f l,.fn f' l'=>Nat.beq f f' && svEqL l l'
 | .bad,.bad=>true
 | _,_=>false
def svEqL:List SV→List SV→Bool
 | [],[]=>true
 | x::r,y::s=>svEq x y && svEqL r s
 | _,_=>false
end
def opsL (o:Oper):List Nat:=(o.op.operands.toList.filterMap fun | .tmp t=>some t | _=>none)
def guardL (all:List Oper) (o:Oper):List Nat:=match o.guard with | none=>[] | some (j,_)=>(match dstOf all j with | some t=>[t] | none=>[])
def readersOk (X:XE) (d:Nat) (all:List Oper):List Oper→Bool
 | []=>true
 | o::r=>((opsL o++guardL all o).all (fun t=>!(Nat.beq t d)) || isEff X o.op) && readersOk X d all r
def srcOk (X:XE) (o:Oper):List Oper→Bool
 | []=>true
 | o'::r=>(!(isEff X o'.op) || (match o'.dst with | some d=>(opsL o).all (fun t=>!(Nat.beq t d)) | none=>true)) && srcOk X o r
def earlyAl (X:XE) (all:List Oper) (o:Oper):Bool:=
 match o.op,o.guard,o.dst with
 | .alloc t,none,some d=>(match (ty X.E.T t).d with | .arr _ _=>false | .other=>false | _=>readersOk X d all all)
 | .buildSlice _ _ _,none,some d=>readersOk X d all all && srcOk X o all
 | _,_,_=>false
def xsame (X:XE) (xi:XI) (Y:Yx) (all:List Oper) (o:Oper) (tc:Tc) (nk:Nat) (M:Mm):Bool:=
 match R.ltK nk tc.y with
 | true=>(match isPure o.op with
  | true=>true
  | false=>(match xstep X xi Y all o nk tc.fr M with
   | some (y,_,_)=>svEq y tc.y
   | none=>false))
 | false=>false
def passed (X:XE) (all:List Oper) (m e:Nat):List Oper→Nat→Bool
 | [],_=>false
 | o::r,j=>(match isEff X o.op,earlyAl X all o,Nat.blt e j,bit m j with | true,false,true,true=>true | _,_,_,_=>passed X all m e r (j+1))
def earlyOf (X:XE) (all:List Oper) (bs:List Nat) (i e:Nat) (oe:Oper):Bool:=
 match earlyAl X all oe with
 | false=>false
 | true=>(match nth bs i with | some m=>!(passed X all m e all 0) | none=>true)
def xpair (X:XE) (xi:XI) (Y:Yx) (all:List Oper) (bs:List Nat) (ea:Bool) (i e:Nat) (oi:Oper) (ti te:Tc) (nke:Nat) (Me:Mm):Bool:=
 match Nat.blt e i with
 | true=>(match nth bs i with
  | some m=>(match bit m e,ea with | true,false=>true | _,_=>xsame X xi Y all oi ti te.nk te.M)
  | none=>false)
 | false=>(match nth bs e with
  | some m=>(match bit m i with | true=>true | false=>xsame X xi Y all oi ti nke Me)
  | none=>false)
def xpairs (X:XE) (xi:XI) (Y:Yx) (all:List Oper) (bs:List Nat) (i:Nat) (oi:Oper) (ti:Tc) (nkF:Nat) (MF:Mm):List Oper→List Tc→Nat→Bool
 | [],[],_=>true
 | oe::r,te::s,e=>(match isEff X oe.op with
  | true=>(match s with
   | tn::_=>xpair X xi Y all bs (earlyOf X all bs i e oe) i e oi ti te tn.nk tn.M
   | []=>xpair X xi Y all bs (earlyOf X all bs i e oe) i e oi ti te nkF MF)
  | false=>true) && xpairs X xi Y all bs i oi ti nkF MF r s (e+1)
 | _,_,_=>false
def xeffs (X:XE) (bs:List Nat) (m:Nat):List Oper→Nat→Bool
 | [],_=>true
 | oe::r,e=>(match isEff X oe.op with
  | true=>Nat.blt e m == false || bit ((nth bs m).getD 0) e
  | false=>true) && xeffs X bs m r (e+1)
def ldKey (fr:Fr) (o:Oper):Option Nat:=
 match o.op,o.guard with
 | .load _ p,none=>(match opv fr p with | .lp k _=>some k | _=>none)
 | _,_=>none
def effKeeps (k:Nat) (o:Oper) (t:Tc):Bool:=
 match Nat.beq k t.nk with
 | true=>false
 | false=>(match o.op with
  | .alloc _=>true
  | .box _ _=>true
  | .store _ p _=>(match opv t.fr p with | .lp k2 _=>(match Nat.beq k k2 with | true=>false | false=>true) | _=>false)
  | _=>false)
def allKeep (X:XE) (bs:List Nat) (i k:Nat):List Oper→List Tc→Nat→Bool
 | [],[],_=>true
 | o::r,t::s,e=>(match isEff X o.op with | true=>(match Nat.blt i e && bit ((nth bs e).getD 0) i with | true=>true | false=>effKeeps k o t) | false=>true) && allKeep X bs i k r s (e+1)
 | _,_,_=>false
def ldSafe (X:XE) (bs:List Nat) (i:Nat) (all:List Oper) (tr:List Tc) (o:Oper) (t:Tc):Bool:=
 match ldKey t.fr o,tr with
 | some k,t0::_=>R.ltK t0.nk t.y && allKeep X bs i k all tr 0
 | _,_=>false
def xchk (X:XE) (xi:XI) (Y:Yx) (all:List Oper) (bs:List Nat) (tr:List Tc) (nkF:Nat) (MF:Mm):List Oper→List Tc→Nat→Bool
 | [],[],_=>true
 | o::r,t::s,i=>(match isEff X o.op with
  | true=>(match earlyAl X all o with | true=>true | false=>xeffs X bs i all 0)
  | false=>(ldSafe X bs i all tr o t || xpairs X xi Y all bs i o t nkF MF all tr 0)) && xchk X xi Y all bs tr nkF MF r s (i+1)
 | _,_,_=>false
def slotOk (bs:List Nat) (i:Nat) (t:Nat):List Oper→Nat→Bool
 | [],_=>true
 | o::r,j=>(match o.dst with
  | some d=>(match Nat.beq d t with
   | true=>(match Nat.beq i j,Nat.blt j i with
    | true,_=>true
    | false,true=>bit ((nth bs i).getD 0) j
    | false,false=>bit ((nth bs j).getD 0) i)
   | false=>true)
  | none=>true) && slotOk bs i t r (j+1)
def dstOk (i:Nat) (d:Nat):List Oper→Nat→Bool
 | [],_=>true
 | o::r,j=>(match o.dst with
  | some d'=>(match Nat.beq d' d with | true=>Nat.beq i j | false=>true)
  | none=>true) && dstOk i d r (j+1)
def slotsOk (bs:List Nat) (all:List Oper):List Oper→Nat→Bool
 | [],_=>true
 | o::r,i=>(opsL o++guardL all o).all (fun t=>slotOk bs i t all 0) && (match o.dst with | some d=>dstOk i d all 0 | none=>true) && slotsOk bs all r (i+1)
def edgesOk (all:List Oper):List Oper→Nat→Bool
 | [],_=>true
 | o::r,i=>o.after.toList.all (fun e=>!Region.binds .any e || Nat.blt e.on i) && edgesOk all r (i+1)
def regOk (ops:Array Oper):Bool:=edgesOk ops.toList ops.toList 0 && slotsOk (befs ops.toList []) ops.toList ops.toList 0 && noDefer ops && Region.noSelect ops
def xdraw (X:XE) (xi:XI) (Y:Yx) (N:Nat) (ops:List Oper) (nk:Nat) (fr:Fr) (M:Mm):Option (Nat×Fr×Mm):=
 match xtrace X xi Y N ops ops nk fr M with
 | none=>none
 | some (tr,nk',fr',M')=>(match xchk X xi Y ops (befs ops []) tr nk' M' ops tr 0 with | true=>some (nk',fr',M') | false=>none)
abbrev XR:=Option (Ex×Nat×Fr×Mm)
def xputs (ps:List Nat) (N:Nat):List SV→Fr→Option Fr:=
 List.rec (motive:=fun _=>List SV→Fr→Option Fr) (fun xs fr=>match xs with | []=>some fr | _::_=>none)
  (fun p _ ih xs fr=>match xs with
   | x::xs=>(match Nat.blt p N with | true=>ih xs ((p,x)::fr) | false=>none)
   | []=>none) ps
def xround (xa xb:Nat→Fr→Mm→XR) (N nk:Nat) (ps:List Nat) (fr:Fr):XH:=fun args nk1 M=>
 match M.get nk with
 | some (.loop .ready none)=>(match xputs ps N args fr with
  | none=>none
  | some fr1=>(match xa nk1 fr1 M with
   | some (.norm,nk2,fr2,M2)=>(match M2.get nk with
    | some (.loop .ready none)=>(match xput M2 nk (some (.loop .busy none)) with
     | none=>none
     | some M3=>(match xb nk2 fr2 M3 with
      | some (ex,nk3,_,M4)=>(match M4.get nk with
       | some (.loop .busy none)=>(match ex with
        | .norm=>(match xput M4 nk (some (.loop .ready none)) with | some M5=>some (.bb true,nk3,M5) | none=>none)
        | ex=>(match xput M4 nk (some (.loop .done (some ex))) with | some M5=>some (.bb false,nk3,M5) | none=>none))
       | _=>none)
      | none=>none))
    | _=>none)
   | _=>none))
 | _=>none
def xdone (nk:Nat) (fr:Fr) (nk1:Nat) (M:Mm):XR:=
 let out (ex:Ex):XR:=(match xput M nk none with | some M1=>(match xput M1 (nk+1) none with | some M2=>some (ex,nk1,fr,M2) | none=>none) | none=>none)
 match M.get nk with
 | some (.loop .ready none)=>out .norm
 | some (.loop .done (some .ret))=>out .ret
 | some (.loop .done (some (.exit n)))=>out (.exit n)
 | some (.loop .done (some (.goto n)))=>out (.goto n)
 | _=>none
def xnorm (fr:Fr):Nat→Fr:=List.rec (motive:=fun _=>Nat→Fr) (fun _=>[])
 (fun p _ ih seen=>match p with | (t,x)=>(match bit seen t with | true=>ih seen | false=>(t,x)::ih (Nat.lor seen (2 ^ t)))) fr
def xloop (body:Nat→Fr→Mm→XR) (f:Nat):Nat→Fr→Mm→XR:=
 Nat.rec (motive:=fun _=>Nat→Fr→Mm→XR) (fun _ _ _=>none)
  (fun _ ih nk fr M=>match body nk (xnorm fr 0) M with
   | some (.norm,nk',fr',M')=>ih nk' fr' M'
   | r=>r) f
def xgo (xi:XI) (N:Nat) (Y:Yx) (va vb:Option Nat→Nat→Fr→Mm→XR) (ps:Array Nat) (it:Nat) (cs:List SV) (nk:Nat) (fr:Fr) (M1:Mm):XR:=
 match xput M1 nk (some (.loop .ready none)) with
 | none=>none
 | some M2=>(match xi ((nk,xround (va (some nk)) (vb (some nk)) N nk ps.toList fr)::Y) it (.yl nk::cs) (nk+2) M2 with
  | some (_,nk1,M3)=>(match Nat.ble nk nk1 with | true=>xdone nk fr nk1 M3 | false=>none)
  | none=>none)
def xrange (xi:XI) (N:Nat) (Y:Yx) (va vb:Option Nat→Nat→Fr→Mm→XR) (g:Operand) (ps:Array Nat) (ro:Option Nat) (nk:Nat) (fr:Fr) (M:Mm):XR:=
 match opv fr g with
 | .fn it cs=>(match ro with
  | none=>(match xput M (nk+1) (some .dfr) with | some M1=>xgo xi N Y va vb ps it cs nk fr M1 | none=>none)
  | some l0=>(match M.get l0 with | some (.loop _ _)=>xgo xi N Y va vb ps it cs nk fr M | _=>none))
 | _=>none
def xC (X:XE) (xi:XI) (lf N:Nat) (Y:Yx) (c:Code):Option Nat→Nat→Fr→Mm→XR:=
 Code.rec (motive:=fun _=>Option Nat→Nat→Fr→Mm→XR)
  (fun _ nk fr M=>some (.norm,nk,fr,M))
  (fun _ ops draw _ nk fr M=>match draw with
   | false=>(match xops X xi Y N ops.toList ops.toList nk fr M with | some (nk',fr',M')=>some (.norm,nk',fr',M') | none=>none)
   | true=>(match xdraw X xi Y N ops.toList nk fr M with | some (nk',fr',M')=>some (.norm,nk',fr',M') | none=>none))
  (fun _ _ va vb ro nk fr M=>match va ro nk fr M with
   | some (.norm,nk',fr',M')=>vb ro nk' fr' M'
   | r=>r)
  (fun c _ _ vx vy ro nk fr M=>match opv fr c with
   | .bb true=>vx ro nk fr M
   | .bb false=>vy ro nk fr M
   | _=>none)
  (fun id _ vc ro nk fr M=>match vc ro nk fr M with
   | some (.exit n,nk',fr',M')=>(match Nat.beq n id with | true=>some (.norm,nk',fr',M') | false=>some (.exit n,nk',fr',M'))
   | r=>r)
  (fun _ vb ro nk fr M=>xloop (vb ro) lf nk fr M)
  (fun g ps _ _ va vb=>xrange xi N Y va vb g ps)
  (fun id _ nk fr M=>some (.exit id,nk,fr,M))
  (fun _ vc ro nk fr M=>match vc ro nk fr M with
   | some (.goto _,_,_,_)=>none
   | r=>r)
  (fun _ _ nk fr M=>some (.norm,nk,fr,M))
  (fun l _ nk fr M=>some (.goto l,nk,fr,M))
  (fun _ nk fr M=>some (.ret,nk,fr,M))
  (fun _ _ _ _ _=>none)
  c
def codeOk (c:Code):Bool:=
 match c with
 | .region _ ops draw=>(match draw with | true=>regOk ops | false=>true)
 | .seq a b=>codeOk a && codeOk b
 | .cond _ a b=>codeOk a && codeOk b
 | .block _ a=>codeOk a
 | .loop a=>codeOk a
 | .rangeFunc _ _ a b=>codeOk a && codeOk b
 | .scope a=>codeOk a
 | _=>true
def xres (T:Tab) (rs:List ResultVar) (fr:Fr) (M:Mm):Option (List SV):=
 List.rec (motive:=fun _=>Option (List SV)) (some [])
  (fun v _ ih=>match (match v with | .tmp t=>some (get fr t) | .cell t ty=>xload T M.get ty (get fr t)) with
   | some x=>(match ih with | some l=>some (x::l) | none=>none)
   | none=>none) rs
def xN (X:XE) (lf:Nat) (d:Nat):XI:=Nat.rec (motive:=fun _=>XI) (fun _ _ _ _ _=>none)
 (fun _ ih Y f args nk M=>match X.prim.get f with
  | some p=>p args nk M
  | none=>(match X.E.FT.get f with
   | none=>none
   | some fn=>(match fn.body with
    | none=>none
    | some c=>(match Nat.ble args.length fn.ntmps with
     | false=>none
     | true=>(match xC X ih lf fn.ntmps Y c none nk (argF args 0) M with
      | some (ex,nk',fr',M')=>(match (match ex with | .norm=>true | .ret=>true | _=>false) with
       | true=>(match xres X.E.T fn.results.toList fr' M' with
        | some l=>some (oneOr l,nk',M')
        | none=>none)
       | false=>none)
      | none=>none))))) d
end
end Exe
end Go.Eng
end
section
namespace Go.Eng
open Go Go.RowKit
namespace Exe
noncomputable section
variable {P:Program} {S S' Sb:Pl} {fr fr':Fr} {L L':LL} {q q':PH} {w0:W0} {w w':World} {a a':Act} {n0 N:Nat} {B:Nat→Prop} {X:XE} {xi:XI} {Yx':Yx}
variable {r:Option Nat} {n:Nat} {Q:Exit→Act→World→Prop} {M M':Mm} {nk nk':Nat} {y:SV}
def YRel (Yx':Yx) (Y:Ye):Prop:=∀k hx,yxGet Yx' k=some hx→∃h,yGet Y k=some h∧∀args nk q L M r nk' M' (K:SV→Nat→PH→LL→Prop),k+2≤nk→Rep M L→hL nk L→hS nk args →
 hx args nk M=some (r,nk',M')→(∀q' L',Rep M' L'→hL nk' L'→K r nk' q' L')→h args nk q L K
def XInl (xi:XI):Inl:=fun Y f args nk q L K=>∃Yx' M r nk' M',YRel Yx' Y∧Rep M L∧hL nk L∧hS nk args∧xi Yx' f args nk M=some (r,nk',M')∧∀q' L',Rep M' L'→hL nk' L'→K r nk' q' L'
def ExtOk (P:Program) (T:Tr (List SV→Option SV)):Prop:=∀f g,T.get f=some g→∀(S:Pl) args vs y,okL S args vs→g args=some y→∃v,okv S y v∧((∀w,(callFunc f vs.toArray).run P w=.ok (.value v) w) ∨
 ((∀args w,(callFunc f args).run P w=.ok (.enter f args) w)∧∀w,Calls P f vs.toArray w fun e w'=>e=.returned v∧Below w.heap.size w w'))
structure XOk (P:Program) (X:XE):Prop where
 e:EnvOk P X.E
 z:ZOk P X.Z
 x:ExtOk P X.ext
theorem ltKR {b:Nat} {x:SV} (h:R.ltK b x=true):hV b x:=by rw [R.ltK_eq] at h;exact hV_of h
theorem nb_ok {x:SV} {v:Value} (h:okv S x v):okv S (nb x) v:=by
 cases x with
 | b p d=>
  have h:v=.bool (@decide p d):=h
  subst h
  unfold nb
  dsimp only
  cases d with
  | isTrue hp=>rfl
  | isFalse hp=>rfl
 | _=>exact h
theorem nb_h {m:Nat} {x:SV} (h:hV m x):hV m (nb x):=by
 cases x with
 | b p d=>
  intro k hk
  unfold nb at hk
  dsimp only at hk
  split at hk<;>simp [SV.has] at hk
 | _=>exact h
theorem putX_nb {dst:Option Nat} {fr1:Fr} (h:putX N dst (nb y) fr=some fr1):∃fr2,putX N dst y fr=some fr2∧∀(S:Pl) tm,okF S fr2 tm→okF S fr1 tm:=by
 unfold putX at h ⊢
 split at h
 ·cases h;exact ⟨_,rfl,fun _ _ h=>h⟩
 ·rename_i d
  split at h
  ·rename_i e
   cases h
   refine ⟨_,rfl,fun S tm hf t=>?_⟩
   have:=hf t
   rw [get_cons] at this ⊢
   split
   ·rename_i e2;rw [if_pos e2] at this;exact nb_ok this
   ·rename_i e2;rw [if_neg e2] at this;exact this
  ·cases h
theorem XK.nb {o:Oper} {dst:Option Nat} {fr1:Fr} (hp:putX N dst (nb y) fr=some fr1) (hf:hF nk fr1) (hw:∀fr2,putX N dst y fr=some fr2→Oper.wpIn (FF r) n P o a w (St w0 S B nk N (XK nk fr2 M)) Q) :
  Oper.wpIn (FF r) n P o a w (St w0 S B nk N (XK nk fr1 M)) Q:=by
 obtain ⟨fr2,h2,h3⟩:=putX_nb hp
 refine Oper.wpIn_mono ?_ (hw fr2 h2)
 rintro a w ⟨S',q',fr',L',k',hc,rfl,g1,g2,g3⟩
 exact ⟨S',q',fr1,L',k',hc.frame (h3 _ _ hc.f),rfl,g1,hf,g3⟩
theorem liftC_step {o:Oper} {x:Option SV} (h:liftC nk M x=some (y,nk',M')) (hf:hF nk fr) (hp:putX N o.dst y fr=some fr')
  (hw:∀z fr2,x=some z→hV nk z→putX N o.dst z fr=some fr2→Oper.wpIn (FF r) n P o a w (St w0 S B nk N (XK nk fr2 M)) Q):nk'=nk∧hV nk' y∧Oper.wpIn (FF r) n P o a w (St w0 S B nk N (XK nk' fr' M')) Q:=by
 unfold liftC at h
 split at h
 ·rename_i z
  split at h
  ·rename_i hz
   cases h
   have hz:=ltKR hz
   refine ⟨rfl,nb_h hz,XK.nb hp (putX_h hp hf (nb_h hz)) fun fr2 h2=>hw z fr2 rfl hz h2⟩
  ·cases h
 ·cases h
theorem ofList {α:Type} {xs:Array α} {l:List α} (h:xs.toList=l):xs=l.toArray:=by rw [←h]
theorem xop_step (hX:XOk P X) (hI:InlOk P (XInl xi)) {Y:Ye} (hYr:YRel Yx' Y) (hY:YOk P S Y nk) {o:Oper} (hc:Cfg w0 S B nk N S q fr L a w) (hB:B=fun d=>getL L d=some .dfr) (hR:Rep M L) (hf:hF nk fr) (hl:hL nk L)
  (h:xop X xi Yx' nk fr M o.op=some (y,nk',M')) (hp:putX N o.dst y fr=some fr'):nk≤nk'∧hV nk' y∧Oper.wpIn (FF r) n P o a w (St w0 S B nk N (XK nk' fr' M')) Q:=by
 have l1:∀{x:Option (SV×Mm)},lift1 nk x=some (y,nk',M')→x=some (y,M')∧nk'=nk+1:=by
  intro x hx
  unfold lift1 at hx
  split at hx<;>cases hx
  exact ⟨rfl,rfl⟩
 have lu:∀{x:Option Mm},liftU nk x=some (y,nk',M')→x=some M'∧nk'=nk∧y=.v undef:=by
  intro x hx
  unfold liftU at hx
  split at hx<;>cases hx
  exact ⟨rfl,rfl,rfl⟩
 have hu:hV nk (.v undef):=fun k hk=>by simp [SV.has] at hk
 have kk:∀{x:Option (SV×Mm)},x=some (y,M')→(hV (nk+1) y)→nk'=nk+1→Oper.wpIn (FF r) n P o a w (St w0 S B nk N (XK (nk+1) fr' M')) Q→nk≤nk'∧hV nk' y∧Oper.wpIn (FF r) n P o a w (St w0 S B nk N (XK nk' fr' M')) Q:=
  fun _ hy e hw=>by subst e;exact ⟨Nat.le_succ nk,hy,hw⟩
 have T:=hX.e.T
 obtain ⟨dst,op,oty,pos,after,guard⟩:=o
 have hmap:∀(xs:Array Operand),xs.map a.eval=(xs.toList.map a.eval).toArray:=fun xs=>by apply Array.ext';simp
 have calm:liftC nk M (xcalm2 X.E.T op fr M.get)=some (y,nk',M')→nk≤nk'∧hV nk' y∧Oper.wpIn (FF r) n P ⟨dst,op,oty,pos,after,guard⟩ a w (St w0 S B nk N (XK nk' fr' M')) Q:=fun h=>by
  obtain ⟨e,g1,g2⟩:=liftC_step (P:=P) (w:=w) (w0:=w0) (S:=S) (B:=B) (a:=a) (r:=r) (n:=n) (Q:=Q) (o:=⟨dst,op,oty,pos,after,guard⟩) h hf hp (fun z fr2 hz hzv hp2=>xcalm2_step hX.e hc hR hf hl hz hzv hp2)
  exact ⟨by omega,g1,g2⟩
 have own:y=.own nk→hV (nk+1) y:=fun e=>by subst e;exact hV_own (Nat.lt_succ_self nk)
 replace h:xop X xi Yx' nk fr M op=some (y,nk',M'):=h
 unfold xop at h
 split at h
 ·obtain ⟨h,e⟩:=l1 h
  refine kk h ?_ e (xallocB_step T rfl hc hR hf hl h hp)
  have old:∀{t:Nat},xalloc X.E.T t nk M=some (y,M')→hV (nk+1) y:=fun h=>by
   unfold xalloc at h
   split at h
   ·cases h
   ·split at h<;>cases h;exact hV_lp (Nat.lt_succ_self nk)
  unfold xallocB at h
  split at h
  ·split at h
   ·split at h<;>cases h;exact hV_lp (Nat.lt_succ_self nk)
   ·exact old h
  ·exact old h
 ·obtain ⟨h,e⟩:=l1 h
  refine kk h ?_ e (xbox_step rfl hc hR hf hl h hp)
  unfold xboxM at h
  split at h
  ·cases h
  ·split at h
   ·split at h<;>cases h;exact hV_lp (Nat.lt_succ_self nk)
   ·cases h
 ·obtain ⟨h,e⟩:=l1 h
  refine kk h (own ?_) e (xbuildS_step T rfl hc hR hf hl hB h hp)
  unfold xbuildS at h
  split at h
  ·split at h
   ·cases h
   ·split at h
    ·split at h<;>cases h;rfl
    ·cases h
  ·cases h
 ·obtain ⟨h,e⟩:=l1 h
  refine kk h (own ?_) e (xmakeA_step T rfl hc hR hf hl h hp)
  have old:∀{l c:SV} {t:Nat},xmake X.E.T t nk l c M=some (y,M')→y=.own nk:=fun h=>by
   unfold xmake at h
   split at h
   ·split at h
    ·cases h
    ·split at h
     ·split at h<;>cases h;rfl
     ·split at h<;>cases h;rfl
     ·cases h
   ·cases h
  unfold xmakeA at h
  split at h
  ·split at h
   ·cases h
   ·split at h
    ·cases h;rfl
    ·exact old h
  ·cases h
 ·obtain ⟨h3,e,e2⟩:=lu h
  subst e e2
  exact ⟨Nat.le_refl _,hu,xstore_step T rfl hc hR hf hl h3 hp⟩
 ·obtain ⟨h,e⟩:=l1 h
  refine kk h ?_ e (xmakeMap_step rfl hc hR hf hl h hp)
  unfold xmakeMap at h
  split at h
  ·split at h<;>cases h;exact hV_mr (Nat.lt_succ_self nk)
  ·cases h
 ·obtain ⟨h3,e,e2⟩:=lu h
  subst e e2
  exact ⟨Nat.le_refl _,hu,xmapUpd_step T (.inl rfl) hc hR hf hl h3 hp⟩
 ·obtain ⟨h3,e,e2⟩:=lu h
  subst e e2
  exact ⟨Nat.le_refl _,hu,xmapUpd_step T (.inr rfl) hc hR hf hl h3 hp⟩
 ·rename_i t x i ok
  obtain ⟨e,g1,g2⟩:=liftC_step (P:=P) (w:=w) (w0:=w0) (S:=S) (B:=B) (a:=a) (r:=r) (n:=n) (Q:=Q) (o:=⟨dst,.lookup t x i ok,oty,pos,after,guard⟩) h hf hp (fun z fr2 hz hzv hp2=>xlookup_step T hX.z rfl hc hR hf hl hz hzv hp2)
  exact ⟨by omega,g1,g2⟩
 ·rename_i xs ts
  unfold xapp2 at h
  split at h
  ·rename_i s x t t' e1 e2
   have e1:=ofList e1
   have e2:=ofList e2
   subst e1 e2
   split at h
   ·rename_i e
    have e:=Nat.eq_of_beq_eq_true e
    subst e
    obtain ⟨h,e⟩:=l1 h
    refine kk h (own ?_) e (xapp_stepM T rfl hc hR hf hl h hp)
    unfold xappM at h
    split at h
    ·split at h
     ·cases h
     ·split at h
      ·cases h
      ·split at h
       ·cases h
       ·split at h
        ·split at h<;>cases h;rfl
        ·cases h
    ·cases h
   ·obtain ⟨h,e⟩:=l1 h
    refine kk h (own ?_) e (xapps_stepM T rfl hc hR hf hl h hp)
    unfold xappSM at h
    split at h
    ·split at h
     ·split at h
      ·split at h<;>cases h;rfl
      ·split at h
       ·split at h
        ·split at h<;>cases h;rfl
        ·cases h
       ·cases h
      ·cases h
     ·cases h
    ·cases h
  ·cases h
 ·rename_i xs ts
  unfold xcopy2 at h
  split at h
  ·rename_i s x t t' e1 e2
   have e1:=ofList e1
   have e2:=ofList e2
   subst e1 e2
   split at h
   ·rename_i y1 M1 hcp
    cases h
    refine ⟨Nat.le_refl _,?_,xcopy_step T rfl hc hR hf hl hcp hp⟩
    unfold xcopy at hcp
    split at hcp
    ·split at hcp
     ·split at hcp
      ·split at hcp
       ·split at hcp<;>cases hcp;exact fun k hk=>by simp [SV.has] at hk
       ·cases hcp
      ·split at hcp
       ·split at hcp<;>cases hcp;exact fun k hk=>by simp [SV.has] at hk
       ·cases hcp
      ·cases hcp
     ·cases hcp
    ·cases hcp
   ·cases h
  ·cases h
 ·rename_i f xs ts
  have hxs:=opvs_ok hc.f xs.toList
  unfold xcall2 at h
  split at h
  ·rename_i g hg
   obtain ⟨e,g1,g2⟩:=liftC_step (P:=P) (w:=w) (w0:=w0) (S:=S) (B:=B) (a:=a) (r:=r) (n:=n) (Q:=Q) (o:=⟨dst,.call ⟨.value (.func f),xs,ts⟩,oty,pos,after,guard⟩) h hf hp (fun z fr2 hz hzv hp2=>by
    obtain ⟨v,hv,hrun⟩:=hX.x f g hg S _ _ z hxs hz
    rcases hrun with hrun | ⟨hen,hcall⟩
    ·refine wpIn_value (by simp) (w':=w) (v:=v) ?_ ?_
     ·have:=hrun w
      simp only [execOp,resolve,Act.eval,Deferred.ofValue,invoke,hmap,Sem.run_bind,Sem.run_pure,Result.andThen_ok]
      simpa using this
     ·obtain ⟨fr1,hK',hc'⟩:=hc.put (K:=fun fr=>fr=fr2) (putX_ok hp2 rfl) hv
      subst hK'
      exact ⟨S,q,_,L,0,hc',rfl,hR,putX_h hp2 hf hzv,hl⟩
    ·refine inl_step (f:=f) (inl:=fun _ f' args' nk1 q1 L1 K1=>f'=f∧args'=opvs fr xs.toList∧nk1=nk∧(∀k,getL L1 k=getL L k)∧K1 z nk1 q1 L1) ?_ hY (by simp) hc hxs ?_ (nk:=nk) ?_
     ·rintro w0 Y f' args' nk1 q1 L1 K1 vs w1 S1 r1 n1 ⟨rfl,rfl,rfl,hL1,hK1⟩ hY1 hvs1 hm1
      obtain ⟨v1,hv1,hrun1⟩:=hX.x f' g hg S1 _ _ z hvs1 hz
      rcases hrun1 with hrun1 | ⟨_,hcall1⟩
      ·exfalso
       have h1:=hrun1 w1
       rw [hen] at h1
       cases h1
      ·refine ⟨hen,(calls_ff (hcall1 w1)).mono ?_⟩
       rintro e w' ⟨rfl,hb⟩
       exact ⟨v1,z,S1,q1,L1,nk1,rfl,hv1,fun _ _=>rfl,hm1.below hb,fun _ _ h=>h,hK1⟩
     ·intro w' he
      simp only [execOp,resolve,Act.eval,Deferred.ofValue,invoke,hmap,Sem.run_bind,Sem.run_pure,Result.andThen_ok]
      simpa using he
     ·rw [Nat.ble_eq_true_of_le (Nat.le_refl nk),ltF_of hf,dLt_of hl]
      exact ⟨rfl,rfl,rfl,fun _=>rfl,putX_ok hp2 ⟨rfl,hR,putX_h hp2 hf hzv,hl⟩⟩)
   exact ⟨by omega,g1,g2⟩
  ·unfold xck at h
   split at h
   rotate_left
   ·cases h
   rename_i y1 nk1 M1 hxi
   split at h
   rotate_left
   ·cases h
   rename_i h1 h2
   cases h
   have h1:=Nat.le_of_ble_eq_true h1
   have h2:=ltKR h2
   refine ⟨h1,h2,inl_step (f:=f) hI hY (by simp) hc hxs ?_ (nk:=nk) ?_⟩
   ·intro w' he
    have:(callFunc f ((xs.toList.map a.eval).toArray ++ #[])).run P w=.ok (.enter f (xs.toList.map a.eval).toArray) w':=by simpa using he
    simp only [execOp,resolve,Act.eval,Deferred.ofValue,invoke,hmap,Sem.run_bind,Sem.run_pure,Result.andThen_ok]
    simpa using he
   ·rw [Nat.ble_eq_true_of_le (Nat.le_refl nk),ltF_of hf,dLt_of hl]
    exact ⟨Yx',M,y,nk',M',hYr,hR,hl,hf.opvs _,hxi,fun q' L' hR' hl'=>putX_ok hp ⟨rfl,hR',putX_h hp (hf.mono h1) h2,hl'⟩⟩
 ·rename_i t xs ts
  have hxs:=opvs_ok hc.f xs.toList
  have hft:=hc.f t
  have hgt:hV nk (get fr t):=hf.opv (.tmp t)
  unfold xfn at h
  split at h
  ·rename_i f cs e
   rw [e] at hft hgt
   obtain ⟨cvs,hfv,hcs⟩:=hft
   rw [catQ_eq] at h
   unfold xck at h
   split at h
   rotate_left
   ·cases h
   rename_i y1 nk1 M1 hxi
   split at h
   rotate_left
   ·cases h
   rename_i h1 h2
   cases h
   have h1:=Nat.le_of_ble_eq_true h1
   have h2:=ltKR h2
   refine ⟨h1,h2,inl_step (f:=f) hI hY (by simp) hc (okL_append hxs hcs) ?_ (nk:=nk) ?_⟩
   ·intro w' he
    have hev:a.eval (.tmp t)=.func (.func f) #[] cvs.toArray:=hfv
    simp only [execOp,resolve,hev,Deferred.ofValue,invoke,hmap,Sem.run_bind,Sem.run_pure,Result.andThen_ok]
    simpa using he
   ·rw [Nat.ble_eq_true_of_le (Nat.le_refl nk),ltF_of hf,dLt_of hl]
    exact ⟨Yx',M,y,nk',M',hYr,hR,hl,(hf.opvs _).append (fun k hk=>hgt k (by simpa [SV.has] using hk)),hxi,fun q' L' hR' hl'=>putX_ok hp ⟨rfl,hR',putX_h hp (hf.mono h1) h2,hl'⟩⟩
  ·rename_i k e
   rw [e] at hft
   split at h
   rotate_left
   ·cases h
   rename_i hx hyk
   unfold xck at h
   split at h
   rotate_left
   ·cases h
   rename_i y1 nk1 M1 hxi
   split at h
   rotate_left
   ·cases h
   rename_i h1 h2
   cases h
   have h1:=Nat.le_of_ble_eq_true h1
   have h2:=ltKR h2
   obtain ⟨hh,hyk',hrel⟩:=hYr k hx hyk
   have hk2:=(hY k hh hyk').1
   refine ⟨h1,h2,yl_step hY (by simp) hc hxs ?_ (k:=k) (nk:=nk) ?_⟩
   ·intro x hr
    have hev:a.eval (.tmp t)=.func (.yield (S k).b) #[] #[]:=hft
    simp only [execOp,resolve,hev,Deferred.ofValue,invoke,hmap,Sem.run_bind,Sem.run_pure,Result.andThen_ok]
    simpa using hr
   ·rw [Nat.ble_eq_true_of_le (Nat.le_refl nk),ltF_of hf,dLt_of hl,hyk']
    exact hrel _ _ _ _ M _ _ M' _ hk2 hR hl (hf.opvs _) hxi (fun q' L' hR' hl'=>putX_ok hp ⟨rfl,hR',putX_h hp (hf.mono h1) h2,hl'⟩)
  ·cases h
 ·rename_i s t x
  unfold xconv2 at h
  split at h
  ·rename_i h1 h2
   obtain ⟨h,e⟩:=l1 h
   refine kk h (own ?_) e (xsb_step T rfl h1 hc hR hf hl h hp)
   unfold xsb at h
   split at h
   ·split at h
    ·cases h;rfl
    ·cases h
   ·cases h
  ·split at h
   ·rename_i y1 M1 hb hz
    cases h
    obtain ⟨g1,g2⟩:=xfz_step (P:=P) (w:=w) (w0:=w0) (S:=S) (B:=B) (a:=a) (r:=r) (n:=n) (Q:=Q) (o:=⟨dst,.convert s t x,oty,pos,after,guard⟩) T rfl (Nat.eq_of_beq_eq_true hb) hc hR hf hl hz hp
    exact ⟨Nat.le_refl _,g1,g2⟩
   ·cases h
  ·exact calm h
 ·exact calm h
end
end Exe
end Go.Eng
end
section
namespace Go.Eng
open Go Go.RowKit
namespace Exe
noncomputable section
variable {P:Program} {S S' Sb:Pl} {fr fr':Fr} {L L':LL} {q q':PH} {w0:W0} {w w':World} {a a':Act} {n0 N:Nat} {B:Nat→Prop} {X:XE} {xi:XI} {Yx':Yx}
variable {r:Option Nat} {n:Nat} {Q:Exit→Act→World→Prop} {M M':Mm} {nk nk':Nat} {y:SV} {Y:Ye} {all:List Oper}
theorem xguard_ok {o:Oper} {b:Bool} (hf:okF S fr a.tmps) (h:xguard all o.guard fr=some b):Region.wanted o (yielded all.toArray a.tmps)=b:=by
 unfold xguard at h
 unfold Region.wanted
 split at h
 ·rename_i e;rw [e];cases h;rfl
 ·rename_i j want e
  rw [e]
  dsimp only
  split at h
  ·cases h
  ·rename_i t ht
   have hft:=hf t
   split at h
   ·rename_i c hg
    rw [hg] at hft
    rw [yielded_of ht hft]
    cases c<;>cases want<;>(cases h;rfl)
   ·rename_i x hg
    rw [hg] at hft
    have hft:a.tmps.getD t undef=.tuple x:=hft
    rw [yielded_none ht (fun b=>by rw [hft];simp)]
    cases h
    rfl
   ·cases h
theorem noUndef {m:Nat}:hV m (.v undef):=fun k hk=>by simp [SV.has] at hk
theorem xstep_run (hX:XOk P X) (hI:InlOk P (XInl xi)) (hYr:YRel Yx' Y) (hY:YOk P Sb Y n0) {o:Oper} (hc:Cfg w0 Sb B n0 N S q fr L a w) (h0:n0≤nk) (hR:Rep M L) (hf:hF nk fr) (hl:hL nk L)
  (h:xstep X xi Yx' all o nk fr M=some (y,nk',M')) (hp:putX N o.dst y fr=some fr') :
  nk≤nk'∧hV nk' y∧((Region.wanted o (yielded all.toArray a.tmps)=true∧Oper.wpIn (FF r) n P o a w (St w0 Sb B n0 N (XK nk' fr' M')) Q) ∨
   (Region.wanted o (yielded all.toArray a.tmps)=false∧St w0 Sb B n0 N (XK nk' fr' M') (a.put o.dst undef) w)):=by
 unfold xstep at h
 split at h
 ·cases h
 ·rename_i hg
  cases h
  refine ⟨Nat.le_refl _,noUndef,.inr ⟨xguard_ok hc.f hg,?_⟩⟩
  obtain ⟨fr1,hK',hc'⟩:=hc.put (K:=fun fr=>fr=fr') (v:=undef) (putX_ok hp rfl) rfl
  subst hK'
  exact ⟨S,q,_,L,0,hc',rfl,hR,putX_h hp hf noUndef,hl⟩
 ·rename_i hg
  have hY1:YOk P S Y nk:=(hY.congr fun k hk=>hc.ag k hk).more h0
  obtain ⟨g1,g2,g3⟩:=xop_step (r:=r) (n:=n) (Q:=Q) hX hI hYr hY1 (hc.up nk) rfl hR hf hl h hp
  exact ⟨g1,g2,.inl ⟨xguard_ok hc.f hg,Oper.wpIn_mono (fun a w h=>hc.down h0 h) g3⟩⟩
theorem xops_c {fr:Fr} {o:Oper} {l:List Oper}:xops X xi Yx' N all (o::l) nk fr M=(match xstep X xi Yx' all o nk fr M with
   | none=>none
   | some (y,nk',M')=>(match putX N o.dst y fr with
    | none=>none
    | some fr'=>xops X xi Yx' N all l nk' fr' M')):=rfl
theorem xops_ok (hX:XOk P X) (hI:InlOk P (XInl xi)) (hYr:YRel Yx' Y) (hY:YOk P Sb Y n0) {nkF:Nat} {frF:Fr} {MF:Mm} :
  ∀(l:List Oper) {nk:Nat} {S:Pl} {q:PH} {fr:Fr} {L:LL} {M:Mm} {a:Act} {w:World},Cfg w0 Sb B n0 N S q fr L a w→n0≤nk→Rep M L→hF nk fr→hL nk L →
   xops X xi Yx' N all l nk fr M=some (nkF,frF,MF)→(nk≤nkF→∀a w,St w0 Sb B n0 N (XK nkF frF MF) a w→Q .normal a w)→wpListIn (FF r) n P all.toArray Q l a w
 | [],nk,S,q,fr,L,M,a,w,hc,h0,hR,hf,hl,h,hQ=>by
  cases h
  exact hQ (Nat.le_refl _) a w ⟨S,q,_,L,0,hc,rfl,hR,hf,hl⟩
 | o::l,nk,S,q,fr,L,M,a,w,hc,h0,hR,hf,hl,h,hQ=>by
  rw [xops_c] at h
  split at h
  ·cases h
  rename_i y nk' M' hs
  split at h
  ·cases h
  rename_i fr' hp
  obtain ⟨g1,g2,g3⟩:=xstep_run (r:=r) (n:=n) (Q:=Q) hX hI hYr hY hc h0 hR hf hl hs hp
  have next:∀a w,St w0 Sb B n0 N (XK nk' fr' M') a w→wpListIn (FF r) n P all.toArray Q l a w:=by
   rintro a w ⟨S',q',fr1,L',k',hc',rfl,h1,h2,h3⟩
   exact xops_ok hX hI hYr hY l hc' (Nat.le_trans h0 g1) h1 h2 h3 h (fun hle=>hQ (Nat.le_trans g1 hle))
  rcases g3 with ⟨hw,g3⟩ | ⟨hw,g3⟩
  ·simp only [wpListIn,hw,if_true]
   exact Oper.wpIn_mono next g3
  ·simp only [wpListIn,hw]
   exact ⟨fun _ _=>trivial,next _ _ g3⟩
theorem opvs_congr {fr fr':Fr}:∀{l:List Operand},(∀x∈l,opv fr x=opv fr' x)→opvs fr l=opvs fr' l
 | [],_=>rfl
 | x::r,h=>by
  show opv fr x::opvs fr r=opv fr' x::opvs fr' r
  rw [h x (.head _),opvs_congr fun z hz=>h z (.tail _ hz)]
theorem xparts_congr {T:Tab} {fs:List (Nat×Nat)}:∀{ps:List (Nat×Operand)} {cs:List SV},(∀p∈ps,opv fr p.2=opv fr' p.2)→xparts T fs fr ps cs=xparts T fs fr' ps cs
 | [],_,_=>rfl
 | (i,x)::r,cs,h=>by
  have hx:opv fr x=opv fr' x:=h (i,x) (.head _)
  have ih:∀cs,xparts T fs fr r cs=xparts T fs fr' r cs:=fun cs=>xparts_congr fun p hp=>h p (.tail _ hp)
  rw [xparts_c,xparts_c,hx]
  simp only [ih]
theorem xrd_congr {T:Tab} {M:Mg} {op:Op} (h:∀x∈op.operands.toList,opv fr x=opv fr' x):xrd T op fr M=xrd T op fr' M:=by
 cases op
 case call c=>
  obtain ⟨callee,xs,ts⟩:=c
  have hh:∀x∈xs.toList,opv fr x=opv fr' x:=fun x hx=>h x (by
   simp only [Op.operands,Call.operands,Array.toList_append,List.mem_append]
   exact .inr hx)
  cases callee with
  | builtin b=>
   cases b
   case len=>
    unfold xrd
    dsimp only
    split
    ·rename_i s t e1 e2
     rw [e1] at hh
     have:get fr s=get fr' s:=hh (.tmp s) (.head _)
     rw [this]
    ·rfl
   all_goals rfl
  | _=>rfl
 case indexAddr t x i=>
  cases x with
  | tmp s=>
   have h1:get fr s=get fr' s:=h (.tmp s) (by simp [Op.operands])
   have h2:opv fr i=opv fr' i:=h i (by simp [Op.operands])
   unfold xrd
   dsimp only
   rw [h1,h2]
  | _=>rfl
 case binOp op t x y t2=>
  have h1:opv fr x=opv fr' x:=h x (by simp [Op.operands])
  have h2:opv fr y=opv fr' y:=h y (by simp [Op.operands])
  have h3:tmpV fr x=tmpV fr' x:=by
   cases x with
   | tmp s=>exact congrArg some h1
   | _=>rfl
  unfold xrd
  dsimp only
  rw [h1,h2,h3]
 case slice t x lo hi mx=>
  cases x with
  | tmp s=>
   cases mx with
   | some v=>rfl
   | none=>
    have h1:get fr s=get fr' s:=h (.tmp s) (by simp [Op.operands])
    have hlo:optv fr lo=optv fr' lo:=by cases lo with
     | none=>rfl
     | some v=>exact congrArg some (h v (by simp [Op.operands]))
    have hhi:optv fr hi=optv fr' hi:=by cases hi with
     | none=>rfl
     | some v=>exact congrArg some (h v (by simp [Op.operands]))
    unfold xrd
    dsimp only
    rw [h1,hlo,hhi]
  | _=>rfl
 case load t x=>
  cases x with
  | tmp s=>
   have h1:get fr s=get fr' s:=h (.tmp s) (by simp [Op.operands])
   unfold xrd
   dsimp only
   rw [h1]
  | _=>rfl
 case convert src dst x=>
  cases x with
  | tmp s=>
   have h1:get fr s=get fr' s:=h (.tmp s) (by simp [Op.operands])
   unfold xrd
   dsimp only
   rw [h1]
  | _=>rfl
 all_goals rfl
theorem xop_congr {op:Op} (h:∀x∈op.operands.toList,opv fr x=opv fr' x):xop X xi Yx' nk fr M op=xop X xi Yx' nk fr' M op:=by
 have one:∀{x:Operand},x∈op.operands.toList→opv fr x=opv fr' x:=fun hx=>h _ hx
 have hr:=xrd_congr (T:=X.E.T) (M:=M.get) h
 cases op
 case call c=>
  obtain ⟨callee,xs,ts⟩:=c
  have hxs:opvs fr xs.toList=opvs fr' xs.toList:=opvs_congr fun x hx=>h x (by
   simp only [Op.operands,Call.operands,Array.toList_append,List.mem_append]
   exact .inr hx)
  cases callee with
  | builtin b=>
   cases b
   case append=>
    simp only [xop,xapp2]
    split
    ·rename_i s x t t' e1 e2
     rw [e1] at hxs
     simp only [opvs,List.cons.injEq] at hxs
     rw [hxs.1,hxs.2.1]
    ·rfl
   case copy=>
    simp only [xop,xcopy2]
    split
    ·rename_i s x t t' e1 e2
     rw [e1] at hxs
     simp only [opvs,List.cons.injEq] at hxs
     rw [hxs.1,hxs.2.1]
    ·rfl
   all_goals simp only [xop,xcalm2,xconv2,hr,xcalm,hxs]
  | value v=>
   have hv:opv fr v=opv fr' v:=h v (by simp [Op.operands,Call.operands])
   cases v with
   | tmp t=>
    have hv:get fr t=get fr' t:=hv
    simp only [xop,xfn,hxs,hv]
   | func f=>simp only [xop,xcall2,hxs]
   | _=>simp only [xop,xcalm2,xconv2,hr,xcalm]
  | _=>simp only [xop,xcalm2,xconv2,hr,xcalm]
 case build t ps=>
  simp only [xop,xcalm2,xconv2,hr,xcalm,xbuild]
  have:∀fs cs,xparts X.E.T fs fr ps.toList cs=xparts X.E.T fs fr' ps.toList cs:=fun fs cs=>xparts_congr fun p hp=>h p.2 (by simp [Op.operands];exact ⟨p.1,by simpa using hp⟩)
  simp only [this]
 case buildSlice t m ps=>
  simp only [xop,xbuildS]
  have:∀fs cs,xparts X.E.T fs fr ps.toList cs=xparts X.E.T fs fr' ps.toList cs:=fun fs cs=>xparts_congr fun p hp=>h p.2 (by simp [Op.operands];exact ⟨p.1,by simpa using hp⟩)
  simp only [this]
 case makeFunc fn first cs=>
  have h1:opvs fr first.toList=opvs fr' first.toList:=opvs_congr fun x hx=>h x (by simp [Op.operands];exact .inl (by simpa using hx))
  have h2:opvs fr cs.toList=opvs fr' cs.toList:=opvs_congr fun x hx=>h x (by simp [Op.operands];exact .inr (by simpa using hx))
  simp only [xop,xcalm2,xconv2,hr,xcalm,h1,h2]
 case slice t x lo hi mx=>
  have hx:opv fr x=opv fr' x:=h x (by simp [Op.operands])
  have hlo:optv fr lo=optv fr' lo:=by cases lo with
   | none=>rfl
   | some v=>exact congrArg some (h v (by simp [Op.operands]))
  have hhi:optv fr hi=optv fr' hi:=by cases hi with
   | none=>rfl
   | some v=>exact congrArg some (h v (by simp [Op.operands]))
  cases mx with
  | none=>simp only [xop,xcalm2,xconv2,hr,xcalm,hx,hlo,hhi]
  | some v=>
   have hv:opv fr v=opv fr' v:=h v (by simp [Op.operands])
   simp only [xop,xcalm2,xconv2,hr,xcalm,hx,hlo,hhi,hv]
 case move x=>
  have h_x:opv fr x=opv fr' x:=h x (by simp [Op.operands])
  simp only [xop,xcalm2,xconv2,hr,xcalm,h_x]
 case assign x=>
  have h_x:opv fr x=opv fr' x:=h x (by simp [Op.operands])
  simp only [xop,xcalm2,xconv2,hr,xcalm,h_x]
 case pick c x y=>
  have h_c:opv fr c=opv fr' c:=h c (by simp [Op.operands])
  have h_x:opv fr x=opv fr' x:=h x (by simp [Op.operands])
  have h_y:opv fr y=opv fr' y:=h y (by simp [Op.operands])
  simp only [xop,xcalm2,xconv2,hr,xcalm,h_c,h_x,h_y]
 case box t x=>
  have h_x:opv fr x=opv fr' x:=h x (by simp [Op.operands])
  simp only [xop,xcalm2,xconv2,hr,xcalm,h_x]
 case insert t m k x=>
  have h_m:opv fr m=opv fr' m:=h m (by simp [Op.operands])
  have h_k:opv fr k=opv fr' k:=h k (by simp [Op.operands])
  have h_x:opv fr x=opv fr' x:=h x (by simp [Op.operands])
  simp only [xop,xcalm2,xconv2,hr,xcalm,h_m,h_k,h_x]
 case load t x=>
  have h_x:opv fr x=opv fr' x:=h x (by simp [Op.operands])
  simp only [xop,xcalm2,xconv2,hr,xcalm,h_x]
 case store t p x=>
  have h_p:opv fr p=opv fr' p:=h p (by simp [Op.operands])
  have h_x:opv fr x=opv fr' x:=h x (by simp [Op.operands])
  simp only [xop,xcalm2,xconv2,hr,xcalm,h_p,h_x]
 case nilCheck x=>
  have h_x:opv fr x=opv fr' x:=h x (by simp [Op.operands])
  simp only [xop,xcalm2,xconv2,hr,xcalm,h_x]
 case binOp op t x y t2=>
  have h_x:opv fr x=opv fr' x:=h x (by simp [Op.operands])
  have h_y:opv fr y=opv fr' y:=h y (by simp [Op.operands])
  simp only [xop,xcalm2,xconv2,hr,xcalm,h_x,h_y]
 case unOp op t x=>
  have h_x:opv fr x=opv fr' x:=h x (by simp [Op.operands])
  simp only [xop,xcalm2,xconv2,hr,xcalm,h_x]
 case convert s t x=>
  have h_x:opv fr x=opv fr' x:=h x (by simp [Op.operands])
  simp only [xop,xcalm2,xconv2,hr,xcalm,h_x]
 case makeSlice t l c=>
  have h_l:opv fr l=opv fr' l:=h l (by simp [Op.operands])
  have h_c:opv fr c=opv fr' c:=h c (by simp [Op.operands])
  simp only [xop,xcalm2,xconv2,hr,xcalm,h_l,h_c]
 case fieldAddr t x f=>
  have h_x:opv fr x=opv fr' x:=h x (by simp [Op.operands])
  simp only [xop,xcalm2,xconv2,hr,xcalm,h_x]
 case field t x f=>
  have h_x:opv fr x=opv fr' x:=h x (by simp [Op.operands])
  simp only [xop,xcalm2,xconv2,hr,xcalm,h_x]
 case indexAddr t x i=>
  have h_x:opv fr x=opv fr' x:=h x (by simp [Op.operands])
  have h_i:opv fr i=opv fr' i:=h i (by simp [Op.operands])
  simp only [xop,xcalm2,xconv2,hr,xcalm,h_x,h_i]
 case index t x i=>
  have h_x:opv fr x=opv fr' x:=h x (by simp [Op.operands])
  have h_i:opv fr i=opv fr' i:=h i (by simp [Op.operands])
  simp only [xop,xcalm2,xconv2,hr,xcalm,h_x,h_i]
 case lookup t x i ok=>
  have h_x:opv fr x=opv fr' x:=h x (by simp [Op.operands])
  have h_i:opv fr i=opv fr' i:=h i (by simp [Op.operands])
  simp only [xop,xcalm2,xconv2,hr,xcalm,h_x,h_i]
 case mapUpdate t m k x=>
  have h_m:opv fr m=opv fr' m:=h m (by simp [Op.operands])
  have h_k:opv fr k=opv fr' k:=h k (by simp [Op.operands])
  have h_x:opv fr x=opv fr' x:=h x (by simp [Op.operands])
  simp only [xop,xcalm2,xconv2,hr,xcalm,h_m,h_k,h_x]
 case extract x i=>
  have h_x:opv fr x=opv fr' x:=h x (by simp [Op.operands])
  simp only [xop,xcalm2,xconv2,hr,xcalm,h_x]
 all_goals rfl
end
end Exe
end Go.Eng
end
