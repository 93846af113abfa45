/- Texts that the law leans on. -/
import Derived.Test.YtlehbfahkjhgnaaGreatFB5
import Derived.Test.YtlehbfahkjhgnaaGreatFB4
import Derived.Test.YtlehbfahkjhgnaaGreatFB3
import Derived.Test.YtlehbfahkjhgnaaGreatFB7
import Derived.Laws.Bits64b
set_option linter.unusedVariables false
set_option linter.unusedSimpArgs false
section
namespace Go.Proofs.YtlehbfahkjhgnaaGreat
open Go Go.Eng Ieee
abbrev FF:=(Int×ByteArray×ByteArray×List ByteArray×Int×Int×Nat×Nat×Nat×ByteArray×Int×Bool×List Int×Nat×ByteArray×ByteArray)
abbrev VV:=(ByteArray×Int×Bool×List Int×Nat)
theorem g113_eq (n:Nat):∃b,g113 n=some b∧(b=true↔fin n):=by
 unfold g113
 by_cases h:F64.order n 18442240474082181119=some .gt∨F64.order n 18442240474082181119=some .eq
 ·rw [if_pos h]
  refine ⟨_,rfl,?_⟩
  rw [decide_eq_true_eq,fin_iff]
  exact ⟨fun h'=>⟨h,h'⟩,fun h'=>h'.2⟩
 ·rw [if_neg h]
  refine ⟨_,rfl,?_⟩
  rw [fin_iff]
  exact ⟨fun h'=>by simp at h',fun h'=>absurd h'.1 h⟩
theorem g102_eq (n:Nat):∃b,g102 n=some b∧(b=true↔fin n):=by
 unfold g102
 refine ⟨_,rfl,?_⟩
 simp only [decide_eq_true_eq]
noncomputable def lad (lo st:Nat) (k:Int):Option Nat:=(F64.mul (FloatKind.f64.nearest k) st).bind fun x=>(F64.add lo x).bind fun y=>some y
theorem pos_num {st:Nat} (hf:fin st) (h:F64.order st 0=some .gt):∃s m i,F64.read st=.number s m i∧m≠0:=by
 obtain ⟨s,m,i,hr⟩:=hf
 refine ⟨s,m,i,hr,fun h0=>?_⟩
 subst h0
 unfold Format.order at h
 rw [hr,show F64.read 0=.number false 0 (-1074) from by decide] at h
 have h:compare (signed s 0 (i-min i (-1074)).toNat) (signed false 0 (-1074-min i (-1074)).toNat)=.gt:=Option.some.inj h
 rw [signed_zero.2 rfl,signed_zero.2 rfl] at h
 cases h
theorem lad_some {lo st:Nat} (k:Int) (hl:fin lo) (hf:fin st) (hs:F64.order st 0=some .gt):∃v,lad lo st k=some v∧v<18446744073709551616∧nn (F64.read v):=by
 obtain ⟨s,m,i,hr,hm⟩:=pos_num hf hs
 obtain ⟨t,n,j,hl⟩:=hl
 obtain ⟨e1,h1,h1n⟩:=prod_nn (d:=F64.read (FloatKind.f64.nearest k)) (read_nearest _ _ _) (t:=s) (n:=m) (j:=i) hm
 obtain ⟨e2,h2,h2n⟩:=sum_nn (s:=t) (m:=n) (i:=j) (read_write h1n)
 have a1:F64.mul (FloatKind.f64.nearest k) st=some (F64.write e1):=by unfold Format.mul;rw [hr,h1];rfl
 have a2:F64.add lo (F64.write e1)=some (F64.write e2):=by unfold Format.add;rw [hl,h2];rfl
 refine ⟨F64.write e2,?_,?_,read_write h2n⟩
 ·unfold lad;rw [a1,Option.bind_some,a2];rfl
 ·exact F64.add_lt a2
noncomputable def ldn (lo hi st:Nat):Option Int:=loopO (σ:=Int) (ρ:=Int) (fun s=>if s≤10001 then ((lad lo st s).bind fun v=>if F64.order v hi=some .lt∨F64.order v hi=some .eq then (ck (inR .i64 (s+1)) <| some (.go (s+1))) else some (.out s)) else some (.out s)) 0
theorem ldn_some {lo hi st:Nat} (hl:fin lo) (hf:fin st) (hs:F64.order st 0=some .gt):Gives (ldn lo hi st) fun n=>0≤n∧n≤10002:=by
 unfold ldn
 refine g_loop (fun s=>0≤s∧s≤10002) (fun s=>(10002-s).toNat) (fun s hs'=>?_) ⟨by omega,by omega⟩
 refine g_if (fun h=>?_) fun h=>g_out hs'
 obtain ⟨v,hv,_⟩:=lad_some s hl hf hs
 exact g_call hv (g_if (fun _=>g_i64 (by omega) (g_go ⟨by omega,by omega⟩ (by omega))) fun _=>g_out hs')
theorem gt_iff {st:Nat} (hf:fin st):F64.order st 0=some .gt↔¬(F64.order st 0=some .lt∨F64.order st 0=some .eq):=by
 obtain ⟨s,m,i,hr⟩:=hf
 have h:∃o,F64.order st 0=some o:=⟨_,by unfold Format.order;rw [hr,show F64.read 0=.number false 0 (-1074) from by decide];rfl⟩
 obtain ⟨o,h⟩:=h
 rw [h]
 cases o<;>simp
theorem steps_both (lo hi st:Nat):∃n e,g69 lo hi st=some (n,e)∧0≤n∧n≤10001∧(e≠0→n=0)∧(0<n→fin lo∧fin st∧F64.order st 0=some .gt) ∧
  ∀a:FF,a.1=9→a.2.2.2.2.2.2.1=lo→a.2.2.2.2.2.2.2.1=hi→a.2.2.2.2.2.2.2.2.1=st→g56 a=some n:=by
 obtain ⟨b1,p1,q1⟩:=g113_eq lo
 obtain ⟨b2,p2,q2⟩:=g113_eq hi
 obtain ⟨b3,p3,q3⟩:=g113_eq st
 obtain ⟨c1,r1,t1⟩:=g102_eq lo
 obtain ⟨c2,r2,t2⟩:=g102_eq hi
 obtain ⟨c3,r3,t3⟩:=g102_eq st
 have key:∀a:FF,a.1=9→a.2.2.2.2.2.2.1=lo→a.2.2.2.2.2.2.2.1=hi→a.2.2.2.2.2.2.2.2.1=st →
   g56 a=if ¬(c1=true) then some 0 else if ¬(c2=true) then some 0 else if ¬(c3=true) then some 0 else if F64.order lo hi=some .gt then some 0 else if ¬(F64.order st 0=some .gt) then some 0 else (ldn lo hi st).bind fun n=>if 10001<n then some 0 else some n:=by
  intro a h1 h2 h3 h4
  unfold g56
  rw [if_neg (by simp [h1]),h2,h3,h4,r1,Option.bind_some,r2,Option.bind_some,r3,Option.bind_some]
  subst h2 h3 h4
  rfl
 have key2:g69 lo hi st=if ¬(b1=true) then some (0,180) else if ¬(b2=true) then some (0,180) else if ¬(b3=true) then some (0,180) else if F64.order lo hi=some .gt then some (0,180) else if F64.order st 0=some .lt∨F64.order st 0=some .eq then some (0,180) else (ldn lo hi st).bind fun n=>if 10001<n then some (0,180) else some (n,0):=by
  unfold g69
  rw [p1,Option.bind_some,p2,Option.bind_some,p3,Option.bind_some]
  rfl
 rw [key2]
 have zero:∀x:Option (Int×Int),x=some (0,180)→(∀a:FF,a.1=9→a.2.2.2.2.2.2.1=lo→a.2.2.2.2.2.2.2.1=hi→a.2.2.2.2.2.2.2.2.1=st→g56 a=some 0)→∃n e,x=some (n,e)∧0≤n∧n≤10001∧(e≠0→n=0)∧(0<n→fin lo∧fin st∧F64.order st 0=some .gt) ∧
  ∀a:FF,a.1=9→a.2.2.2.2.2.2.1=lo→a.2.2.2.2.2.2.2.1=hi→a.2.2.2.2.2.2.2.2.1=st→g56 a=some n:=fun x hx h=>⟨0,180,hx,by omega,by omega,fun _=>rfl,fun h=>by omega,h⟩
 by_cases f1:fin lo
 rotate_left
 ·refine zero _ (if_pos fun h=>f1 (q1.1 h)) fun a h1 h2 h3 h4=>?_
  rw [key a h1 h2 h3 h4,if_pos fun h=>f1 (t1.1 h)]
 rw [if_neg (not_not_intro (q1.2 f1))]
 by_cases f2:fin hi
 rotate_left
 ·refine zero _ (if_pos fun h=>f2 (q2.1 h)) fun a h1 h2 h3 h4=>?_
  rw [key a h1 h2 h3 h4,if_neg (not_not_intro (t1.2 f1)),if_pos fun h=>f2 (t2.1 h)]
 rw [if_neg (not_not_intro (q2.2 f2))]
 by_cases f3:fin st
 rotate_left
 ·refine zero _ (if_pos fun h=>f3 (q3.1 h)) fun a h1 h2 h3 h4=>?_
  rw [key a h1 h2 h3 h4,if_neg (not_not_intro (t1.2 f1)),if_neg (not_not_intro (t2.2 f2)),if_pos fun h=>f3 (t3.1 h)]
 rw [if_neg (not_not_intro (q3.2 f3))]
 have key':∀a:FF,a.1=9→a.2.2.2.2.2.2.1=lo→a.2.2.2.2.2.2.2.1=hi→a.2.2.2.2.2.2.2.2.1=st→g56 a=_:=fun a h1 h2 h3 h4=>by
  rw [key a h1 h2 h3 h4,if_neg (not_not_intro (t1.2 f1)),if_neg (not_not_intro (t2.2 f2)),if_neg (not_not_intro (t3.2 f3))]
 by_cases f4:F64.order lo hi=some .gt
 ·refine zero _ (if_pos f4) fun a h1 h2 h3 h4=>?_
  rw [key' a h1 h2 h3 h4,if_pos f4]
 rw [if_neg f4]
 by_cases f5:F64.order st 0=some .gt
 rotate_left
 ·refine zero _ (if_pos ?_) fun a h1 h2 h3 h4=>?_
  ·exact Classical.byContradiction fun h=>f5 ((gt_iff f3).2 h)
  ·rw [key' a h1 h2 h3 h4,if_neg f4,if_pos f5]
 rw [if_neg ((gt_iff f3).1 f5)]
 obtain ⟨n,hn,hn0,hn1⟩:=ldn_some (hi:=hi) f1 f3 f5
 rw [hn,Option.bind_some]
 by_cases f6:10001<n
 ·refine zero _ (if_pos f6) fun a h1 h2 h3 h4=>?_
  rw [key' a h1 h2 h3 h4,if_neg f4,if_neg (not_not_intro f5),hn,Option.bind_some,if_pos f6]
 ·refine ⟨n,0,if_neg f6,hn0,by omega,fun h=>absurd rfl h,fun _=>⟨f1,f3,f5⟩,fun a h1 h2 h3 h4=>?_⟩
  rw [key' a h1 h2 h3 h4,if_neg f4,if_neg (not_not_intro f5),hn,Option.bind_some,if_neg f6]
end Go.Proofs.YtlehbfahkjhgnaaGreat
end
section
namespace Go.Proofs.YtlehbfahkjhgnaaGreat
open Go Go.Eng Ieee
theorem tb63_lt {n:Nat} (h:n<9223372036854775808):n.testBit 63=false:=Nat.testBit_lt_two_pow (by omega)
theorem tb63_ge {n:Nat} (h:9223372036854775808≤n) (h2:n<18446744073709551616):n.testBit 63=true:=by
 rw [Nat.testBit_eq_decide_div_mod_eq]
 simp
 omega
theorem and_low {n:Nat} (h:n<9223372036854775808):n &&& 9223372036854775808=0:=by
 refine Nat.eq_of_testBit_eq fun i=>?_
 rw [Nat.testBit_and,show (9223372036854775808:Nat)=2 ^ 63 from rfl,Nat.testBit_two_pow,Nat.zero_testBit]
 by_cases e:63=i
 ·subst e;rw [tb63_lt h];rfl
 ·simp [e]
theorem and_high {n:Nat} (h:9223372036854775808≤n) (h2:n<18446744073709551616):n &&& 9223372036854775808≠0:=by
 intro e
 have:=congrArg (fun x=>x.testBit 63) e
 simp only [Nat.testBit_and,tb63_ge h h2,Nat.zero_testBit] at this
 revert this
 decide
theorem keyOf_low {n:Nat} (h:n<9223372036854775808) (hn:nn (F64.read n)):keyOf n=((n ||| 9223372036854775808:Nat):Int):=by
 unfold keyOf
 rw [if_pos (order_self.2 hn),if_pos]
 ·exact bits_or_u64_nat n 9223372036854775808 (by omega) (by omega)
 ·rw [show ((9223372036854775808:Int))=((9223372036854775808:Nat):Int) from rfl,bits_and_u64_nat n 9223372036854775808 (by omega) (by omega)]
  rw [and_low h]
  rfl
theorem keyOf_high {n:Nat} (h:9223372036854775808≤n) (h2:n<18446744073709551616) (hn:nn (F64.read n)):keyOf n=((18446744073709551615 ^^^ n:Nat):Int):=by
 unfold keyOf
 rw [if_pos (order_self.2 hn),if_neg]
 ·exact bits_xor_u64_nat 18446744073709551615 n (by omega) (by omega)
 ·rw [show ((9223372036854775808:Int))=((9223372036854775808:Nat):Int) from rfl,bits_and_u64_nat n 9223372036854775808 (by omega) (by omega)]
  have:=and_high h h2
  omega
theorem or_low {n:Nat} (h:n<9223372036854775808):n ||| 9223372036854775808=9223372036854775808+n:=by
 rw [Nat.or_comm]
 have:=(Nat.two_pow_add_eq_or_of_lt (i:=63) (b:=n) (by omega) 1)
 simpa using this.symm
theorem keyOf_inj {a b:Nat} (ha:a<18446744073709551616) (hb:b<18446744073709551616) (na:nn (F64.read a)) (nb:nn (F64.read b)):keyOf a=keyOf b↔a=b:=by
 refine ⟨fun h=>?_,fun h=>by rw [h]⟩
 by_cases h1:a<9223372036854775808<;>by_cases h2:b<9223372036854775808
 ·rw [keyOf_low h1 na,keyOf_low h2 nb,or_low h1,or_low h2] at h;omega
 ·rw [keyOf_low h1 na,keyOf_high (by omega) hb nb,or_low h1] at h
  have e:9223372036854775808+a=18446744073709551615 ^^^ b:=by omega
  have t1:=tb63_ge (n:=9223372036854775808+a) (by omega) (by omega)
  rw [e,Nat.testBit_xor,tb63_ge (by omega) hb,tb63_ge (by omega) (by omega)] at t1
  cases t1
 ·rw [keyOf_high (by omega) ha na,keyOf_low h2 nb,or_low h2] at h
  have e:9223372036854775808+b=18446744073709551615 ^^^ a:=by omega
  have t1:=tb63_ge (n:=9223372036854775808+b) (by omega) (by omega)
  rw [e,Nat.testBit_xor,tb63_ge (by omega) ha,tb63_ge (by omega) (by omega)] at t1
  cases t1
 ·rw [keyOf_high (by omega) ha na,keyOf_high (by omega) hb nb] at h
  have e:18446744073709551615 ^^^ a=18446744073709551615 ^^^ b:=by omega
  have:=congrArg (fun x=>18446744073709551615 ^^^ x) e
  simpa [←Nat.xor_assoc] using this
theorem div_zero0:F64.div 4607182418800017408 0=some 9218868437227405312:=by decide
theorem div_zero1:F64.div 4607182418800017408 9223372036854775808=some 18442240474082181120:=by decide
theorem g209_0:g209 0=some false:=by
 unfold g209
 rw [show FloatKind.f64.format.div 4607182418800017408 0=some 9218868437227405312 from div_zero0,Option.bind_some,show FloatKind.f64.format.order 9218868437227405312 0=some .gt from by decide]
 rfl
theorem g209_1:g209 9223372036854775808=some true:=by
 unfold g209
 rw [show FloatKind.f64.format.div 4607182418800017408 9223372036854775808=some 18442240474082181120 from div_zero1,Option.bind_some,show FloatKind.f64.format.order 18442240474082181120 0=some .lt from by decide]
 rfl
theorem order_zero {n:Nat} (hn:n<18446744073709551616):F64.order n 0=some .eq↔n % 9223372036854775808=0:=by
 constructor
 ·intro h
  rcases order_eq hn (by omega) h with rfl | h
  ·rfl
  ·exact h.1
 ·intro h
  have:n=0∨n=9223372036854775808:=by omega
  rcases this with rfl | rfl<;>decide
theorem g110_eq {v x:Nat} (hv:v<18446744073709551616) (hx:x<18446744073709551616) (nv:nn (F64.read v)):g110 v x=some (decide (F64.order x x=some .eq∧v=x)):=by
 have hvv:FloatKind.f64.format.order v v=some .eq:=order_self.2 nv
 have e:g169 (1,v,(⟨#[]⟩:ByteArray),false) (1,x,(⟨#[]⟩:ByteArray),false)=some (decide (F64.order x x=some .eq∧v=x)):=by
  unfold g169
  dsimp only
  rw [if_neg (by simp),if_pos rfl,if_neg (by simp [hvv])]
  by_cases nx:FloatKind.f64.format.order x x=some .eq
  ·rw [if_neg (by simp [nx])]
   have nx':F64.order x x=some .eq:=nx
   by_cases h:FloatKind.f64.format.order v x=some .eq
   ·rw [if_pos h]
    by_cases hz:FloatKind.f64.format.order v 0=some .eq
    ·rw [if_neg (by simp [hz])]
     have z1:=(order_zero hv).1 hz
     have z2:x % 9223372036854775808=0:=by
      rcases order_eq hv hx h with rfl | h
      ·exact z1
      ·exact h.2
     have c1:v=0∨v=9223372036854775808:=by omega
     have c2:x=0∨x=9223372036854775808:=by omega
     rcases c1 with rfl | rfl<;>rcases c2 with rfl | rfl<;>simp only [g209_0,g209_1,Option.bind_some,nx',true_and]<;>rfl
    ·rw [if_pos hz]
     have hvx:v=x:=by
      rcases order_eq hv hx h with h | h
      ·exact h
      ·exact absurd ((order_zero hv).2 h.1) hz
     simp [nx',hvx]
   ·rw [if_neg h]
    have:v≠x:=fun h'=>h (by rw [←h'];exact hvv)
    simp [this]
  ·rw [if_pos nx,if_neg (by simp [hvv])]
   have nx':¬F64.order x x=some .eq:=nx
   simp [nx']
 unfold g110
 rw [e,Option.bind_some]
 split
 ·rename_i h
  rw [h]
  exact congrArg some (decide_eq_true hvv)
 ·rename_i h
  simp only [Bool.not_eq_true] at h
  rw [h]
theorem place_both {a:FF} {x:Nat} (h9:a.1=9) (hx:x<18446744073709551616):∃p q b,g52 a x=some (p,b)∧g61 a x=some (q,b):=by
 obtain ⟨n,e,h1,h2,h3,h4,h5,h6⟩:=steps_both a.2.2.2.2.2.2.1 a.2.2.2.2.2.2.2.1 a.2.2.2.2.2.2.2.2.1
 have hg:g56 a=some n:=h6 a h9 rfl rfl rfl
 have lv:∀s,0≤s→s<n→∃v,lad a.2.2.2.2.2.2.1 a.2.2.2.2.2.2.2.2.1 s=some v∧v<18446744073709551616∧nn (F64.read v):=fun s hs0 hs=>by
  obtain ⟨f1,f2,f3⟩:=h5 (by omega)
  exact lad_some s f1 f2 f3
 have found:∀(P:Int→Prop),Gives (g61 a x) fun r=>(r.2=true↔F64.order x x=some .eq∧∃s,0≤s∧s<n∧lad a.2.2.2.2.2.2.1 a.2.2.2.2.2.2.2.2.1 s=some x):=fun _=>by
  unfold g61
  refine g_call (show g56 _=some n from hg) ?_
  refine g_jo (g_bind (Ω:=fun o=>match o with | .inl s=>F64.order x x=some .eq∧0≤s∧s<n∧lad a.2.2.2.2.2.2.1 a.2.2.2.2.2.2.2.2.1 s=some x | .inr _=>¬(F64.order x x=some .eq∧∃s,0≤s∧s<n∧lad a.2.2.2.2.2.2.1 a.2.2.2.2.2.2.2.2.1 s=some x))
   (g_loop (fun s=>0≤s∧s≤n∧¬(F64.order x x=some .eq∧∃t,0≤t∧t<s∧lad a.2.2.2.2.2.2.1 a.2.2.2.2.2.2.2.2.1 t=some x)) (fun s=>(n-s).toNat) (fun s hs=>?_) ⟨by omega,h2,fun ⟨_,t,_,_,_⟩=>by omega⟩) fun o ho=>?_)
  ·obtain ⟨s0,s1,s2⟩:=hs
   refine g_if (fun hlt=>?_) fun hge=>g_out ?_
   ·obtain ⟨v,hv,hvl,hvn⟩:=lv s s0 hlt
    refine g_call (show g103 _ s=some v from hv) (g_call (g110_eq hvl hx hvn) (g_if (fun h=>g_out ?_) fun h=>g_i64 (by omega) (g_go ⟨by omega,by omega,fun ⟨k1,t,t0,t1,t2⟩=>?_⟩ (by omega))))
    ·obtain ⟨k1,k2⟩:=of_decide_eq_true h
     exact ⟨k1,s0,hlt,by rw [hv,k2]⟩
    ·by_cases q:t=s
     ·subst q
      rw [hv] at t2
      exact h (decide_eq_true ⟨k1,Option.some.inj t2⟩)
     ·exact s2 ⟨k1,t,t0,by omega,t2⟩
   ·have e:s=n:=by omega
    subst e
    exact s2
  ·cases o with
   | inl s=>exact g_some ⟨fun _=>⟨ho.1,s,ho.2⟩,fun _=>rfl⟩
   | inr _=>exact g_some ⟨fun h=>(by cases h),fun h=>absurd h ho⟩
 have found2:Gives (g52 a x) fun r=>(r.2=true↔F64.order x x=some .eq∧∃s,0≤s∧s<n∧lad a.2.2.2.2.2.2.1 a.2.2.2.2.2.2.2.2.1 s=some x):=by
  unfold g52
  refine g_f (by simp [h9]) (g_if (fun hn=>g_some ⟨fun h=>(by cases h),fun h=>absurd h.1 hn⟩) fun hn=>?_)
  have hn:F64.order x x=some .eq:=Classical.not_not.1 hn
  have xn:=order_self.1 hn
  refine g_call (show g99 x=some (keyOf x) from rfl) (g_jo (g_call h1 ?_))
  dsimp only
  refine g_bind (Ω:=fun o=>match o with | .inl s=>0≤s∧s<n∧lad a.2.2.2.2.2.2.1 a.2.2.2.2.2.2.2.2.1 s=some x | .inr _=>¬(∃s,0≤s∧s<n∧lad a.2.2.2.2.2.2.1 a.2.2.2.2.2.2.2.2.1 s=some x))
   (g_loop (fun s=>0≤s∧s≤n∧¬(∃t,0≤t∧t<s∧lad a.2.2.2.2.2.2.1 a.2.2.2.2.2.2.2.2.1 t=some x)) (fun s=>(n-s).toNat) (fun s hs=>?_) ⟨by omega,h2,fun ⟨t,_,_,_⟩=>by omega⟩) fun o ho=>?_
  ·obtain ⟨s0,s1,s2⟩:=hs
   refine g_if (fun hlt=>?_) fun hge=>g_out ?_
   ·obtain ⟨v,hv,hvl,hvn⟩:=lv s s0 hlt
    refine g_call (show g114 _ _ s=some v from hv) (g_call (show g99 v=some (keyOf v) from rfl) (g_if (fun h=>g_out ?_) fun h=>g_i64 (by omega) (g_go ⟨by omega,by omega,fun ⟨t,t0,t1,t2⟩=>?_⟩ (by omega))))
    ·have:=(keyOf_inj hvl hx hvn xn).1 h
     exact ⟨s0,hlt,by rw [hv,this]⟩
    ·by_cases q:t=s
     ·subst q
      rw [hv] at t2
      exact h ((keyOf_inj hvl hx hvn xn).2 (Option.some.inj t2))
     ·exact s2 ⟨t,t0,by omega,t2⟩
   ·have e:s=n:=by omega
    subst e
    exact s2
  ·cases o with
   | inl s=>exact g_some ⟨fun _=>⟨hn,s,ho⟩,fun _=>rfl⟩
   | inr _=>exact g_some ⟨fun h=>(by cases h),fun h=>absurd h.2 ho⟩
 obtain ⟨⟨q,b⟩,e1,k1⟩:=found fun _=>True
 obtain ⟨⟨p,c⟩,e2,k2⟩:=found2
 have:b=c:=by
  dsimp only at k1 k2
  have hh:=k1.trans k2.symm
  cases b<;>cases c<;>simp_all
 subst this
 exact ⟨p,q,b,e2,e1⟩
end Go.Proofs.YtlehbfahkjhgnaaGreat
end
section
namespace Go.Proofs.YtlehbfahkjhgnaaGreat
open Go Go.Eng
theorem keep8:∀n:Int,0≤n→n<2 ^ 8→IntKind.u8.wrap n=n:=fun n h0 h1=>by rw [IntKind.wrap_u8];omega
theorem band31 {c:Int} (h0:0≤c) (h1:c≤255):bits .and .u8 c 31=c % 32:=bits_mask .u8 8 (by decide) keep8 5 (by decide) c h0 (by omega)
theorem band15 {c:Int} (h0:0≤c) (h1:c≤255):bits .and .u8 c 15=c % 16:=bits_mask .u8 8 (by decide) keep8 4 (by decide) c h0 (by omega)
theorem band7 {c:Int} (h0:0≤c) (h1:c≤255):bits .and .u8 c 7=c % 8:=bits_mask .u8 8 (by decide) keep8 3 (by decide) c h0 (by omega)
theorem band63 {c:Int} (h0:0≤c) (h1:c≤255):bits .and .u8 c 63=c % 64:=bits_mask .u8 8 (by decide) keep8 6 (by decide) c h0 (by omega)
def shMany (c:Int):Int:=if c<128 then 1 else if c<194 then 0 else if c<224 then 2 else if c<240 then 3 else if c≤244 then 4 else 0
def shLow (c:Int):Int:=if c<194 then 0 else if c=224 then 160 else if c=240 then 144 else if c≤244 then 128 else 0
def shHigh (c:Int):Int:=if c<194 then 0 else if c=237 then 159 else if c=244 then 143 else if c≤244 then 191 else 0
def shBits (c:Int):Int:=if c<128 then c else if c<194 then 0 else if c<224 then c % 32 else if c<240 then c % 16 else if c≤244 then c % 8 else 0
def nxGo (n:Int):Nat→Int→Int→Int→List Int→Int×Int×Bool
 | 0,_,_,r,_=>(r,n,false)
 | _+1,_,_,_,[]=>(0,0,true)
 | k+1,lo,hi,r,b::t=>if b<lo∨hi<b then (65533,1,false) else nxGo n k 128 191 (r * 64+b % 64) t
def nx:List Int→Int×Int×Bool
 | []=>(0,0,true)
 | c::t=>if shMany c=0 then (65533,1,false) else nxGo (shMany c) (shMany c-1).toNat (shLow c) (shHigh c) (shBits c) t
def Byt (l:List Int):Prop:=∀c∈l,0≤c∧c≤255
def boundR (i r:Int):Prop:=0≤r∧((i=1∧r<128)∨(i=2∧r<8192)∨(i=3∧r<524288)∨(i=4∧r<33554432))
def okN (l:List Int) (m:Int) (lo hi:Int) (i r:Int):Prop:=1≤i∧i≤m∧boundR i r∧nxGo m (m-i).toNat (if i=1 then lo else 128) (if i=1 then hi else 191) r (l.drop i.toNat)=nx l
theorem many_le (c:Int):0≤shMany c∧shMany c≤4:=by unfold shMany;repeat' split<;>omega
theorem bits_lt (c:Int) (h0:0≤c):0≤shBits c∧shBits c<128:=by unfold shBits;repeat' split<;>omega
theorem drop_getD {l:List Int} {i:Nat} (h:i<l.length):l.drop i=l.getD i 0::l.drop (i+1):=by
 rw [List.drop_eq_getElem_cons h];simp [h]
theorem next_start {c:Int} {t:List Int} (h0:0≤c) (h:¬shMany c=0):okN (c::t) (shMany c) (shLow c) (shHigh c) 1 (shBits c):=by
 have:=many_le c
 have:=bits_lt c h0
 refine ⟨by omega,by show 1≤_;omega,⟨by show 0≤_;omega,.inl ⟨rfl,by show _<_;omega⟩⟩,?_⟩
 simp only [nx,if_neg h,if_true]
 rfl
theorem next_none {c:Int} {t:List Int} (h:shMany c=0):nx (c::t)=(65533,1,false):=by simp [nx,h]
theorem next_end {l:List Int} {m lo hi i r:Int} (h:okN l m lo hi i r) (hi:¬i<m):nx l=(r,m,false):=by
 obtain ⟨h1,h2,h3,h4⟩:=h
 have e:(m-i).toNat=0:=by omega
 rw [←h4,e]
 rfl
theorem next_short {l:List Int} {m lo hi i r:Int} (h:okN l m lo hi i r) (hi:i<m) (hl:(l.length:Int)≤i):nx l=(0,0,true):=by
 obtain ⟨h1,h2,h3,h4⟩:=h
 obtain ⟨k,e⟩:∃k,(m-i).toNat=k+1:=⟨(m-i).toNat-1,by omega⟩
 rw [←h4,e,List.drop_eq_nil_of_le (by omega)]
 rfl
theorem next_bad {l:List Int} {m lo hi i r:Int} (h:okN l m lo hi i r) (hi':i<m) (hl:i<(l.length:Int)) (hb:l.getD i.toNat 0<(if i=1 then lo else 128)∨(if i=1 then hi else 191)<l.getD i.toNat 0):nx l=(65533,1,false):=by
 obtain ⟨h1,h2,h3,h4⟩:=h
 obtain ⟨k,e⟩:∃k,(m-i).toNat=k+1:=⟨(m-i).toNat-1,by omega⟩
 rw [←h4,e,drop_getD (by omega)]
 simp only [nxGo,if_pos hb]
theorem next_more {l:List Int} (hl0:Byt l) {m lo hi i r:Int} (hm:m≤4) (h:okN l m lo hi i r) (hi':i<m) (hl:i<(l.length:Int)) (hb:¬(l.getD i.toNat 0<(if i=1 then lo else 128)∨(if i=1 then hi else 191)<l.getD i.toNat 0)) :
  okN l m lo hi (i+1) (bits .or .i32 (IntKind.i32.wrap (r * 64)) (bits .and .u8 (l.getD i.toNat 0) 63))∧(m-(i+1)).toNat<(m-i).toNat:=by
 obtain ⟨h1,h2,h3,h4⟩:=h
 have hb0:0≤l.getD i.toNat 0∧l.getD i.toNat 0≤255:=hl0 _ (by
  have:i.toNat<l.length:=by omega
  simp [this])
 obtain ⟨h31,h32⟩:=h3
 have hr:r<524288:=by omega
 have hw:IntKind.i32.wrap (r * 64)=r * 64:=by rw [IntKind.wrap_i32];omega
 have he:bits .or .i32 (IntKind.i32.wrap (r * 64)) (bits .and .u8 (l.getD i.toNat 0) 63)=r * 64+l.getD i.toNat 0 % 64:=by
  rw [band63 hb0.1 hb0.2,hw]
  exact bits_join .i32 31 (by decide) (fun n h0 h1=>by rw [IntKind.wrap_i32];omega) 6 _ _ (by omega) (by omega) (by omega) (by omega) (by omega) (by omega)
 rw [he]
 obtain ⟨k,e⟩:∃k,(m-i).toNat=k+1:=⟨(m-i).toNat-1,by omega⟩
 refine ⟨⟨by show 1≤i+1;omega,by show i+1≤m;omega,⟨by show 0≤r * 64+_;omega,?_⟩,?_⟩,by omega⟩
 ·show (i+1=1∧_)∨(i+1=2∧r * 64+_<_)∨(i+1=3∧r * 64+_<_)∨(i+1=4∧r * 64+_<_)
  omega
 ·rw [e,drop_getD (by omega)] at h4
  simp only [nxGo,if_neg hb] at h4
  have e1:(m-(i+1)).toNat=k:=by omega
  have e2:(i+1).toNat=i.toNat+1:=by omega
  have e3:¬i+1=1:=by omega
  simp only [e1,e2,if_neg e3]
  exact h4
theorem g240_eq {c:Int} (h0:0≤c) (h1:c≤255):g240 c=some (shMany c,shLow c,shHigh c,shBits c):=by
 refine g_eq ?_
 unfold g240
 have b31:=band31 h0 h1;have b15:=band15 h0 h1;have b7:=band7 h0 h1
 simp only [shMany,shLow,shHigh,shBits,b31,b15,b7]
 repeat' (first | with_reducible refine g_if (fun _=>?_) (fun _=>?_) | refine g_i32 (by omega) ?_)
 all_goals
  refine g_some ?_
  simp only [Prod.mk.injEq]
  refine ⟨?_,?_,?_,?_⟩<;>(repeat' split)<;>omega
theorem g237_eq {l:List Int} (hl:Byt l) (hn:l.length≤1000000):g237 l=some (nx l):=by
 refine g_eq ?_
 unfold g237
 rcases l with _ | ⟨c,t⟩
 ·exact g_t (by simp) (g_some rfl)
 have hc:=hl c (by simp)
 refine g_f (by simp only [List.length_cons];omega) (g_ck (by simp only [List.length_cons];omega) ?_)
 have e0:(c::t).getD (0:Int).toNat 0=c:=rfl
 rw [e0]
 refine g_call (g240_eq hc.1 hc.2) ?_
 dsimp only
 refine g_if (fun h=>g_some (next_none h).symm) fun h=>?_
 have hm:=many_le c
 refine g_jo (g_bind (g_loop (R:=fun o=>(∃v,o=.inl v∧v=nx (c::t))∨∃r,o=.inr r∧(r,shMany c,false)=nx (c::t)) (fun s=>okN (c::t) (shMany c) (shLow c) (shHigh c) s.2 s.1) (fun s=>(shMany c-s.2).toNat) ?_ (next_start hc.1 h)) ?_)
 ·rintro ⟨r,i⟩ hs
  dsimp only at hs ⊢
  refine g_if (fun hi=>g_if (fun hs2=>g_out (.inl ⟨_,rfl,(next_short hs hi hs2).symm⟩)) fun hs2=>?_) fun hi=>g_out (.inr ⟨_,rfl,(next_end hs hi).symm⟩)
  have hi1:1≤i:=hs.1
  have hbyt:0≤(c::t).getD i.toNat 0∧(c::t).getD i.toNat 0≤255:=hl _ (by
   have:i.toNat<(c::t).length:=by omega
   simp only [List.getD_eq_getElem?_getD,List.getElem?_eq_getElem this,Option.getD_some]
   exact List.getElem_mem _)
  refine g_jn (fun v=>v=(if i=1 then shLow c else 128,if i=1 then shHigh c else 191)) (fun k hk=>g_if (fun e=>hk _ (by rw [if_pos e,if_pos e])) fun e=>hk _ (by rw [if_neg e,if_neg e])) ?_
  rintro _ rfl
  dsimp only
  refine g_ck (by omega) (g_if (fun hb=>g_out (.inl ⟨_,rfl,(next_bad hs hi (by omega) (.inl hb)).symm⟩)) fun hb=>g_ck (by omega) (g_if (fun hb'=>g_out (.inl ⟨_,rfl,(next_bad hs hi (by omega) (.inr hb')).symm⟩)) fun hb'=>?_))
  refine g_ck (by omega) (g_i32 ?_ (g_i64 (by omega) ?_))
  ·rw [band63 hbyt.1 hbyt.2];omega
  ·obtain ⟨n1,n2⟩:=next_more hl (by omega) hs hi (by omega) (fun hh=>hh.elim hb hb')
   exact g_go n1 n2
 ·intro o ho
  refine g_sm (fun v hv=>?_) fun r hr=>?_
  ·rcases ho with ⟨v',e,h'⟩ | ⟨v',e,h'⟩<;>rw [e] at hv<;>cases hv
   exact g_some h'
  ·rcases ho with ⟨v',e,h'⟩ | ⟨v',e,h'⟩<;>rw [e] at hr<;>cases hr
   exact g_some h'
end Go.Proofs.YtlehbfahkjhgnaaGreat
end
section
namespace Go.Proofs.YtlehbfahkjhgnaaGreat
open Go Go.Eng
theorem g202_eq {c:Int} (h0:0≤c) (h1:c≤255):g202 c=some (shMany c):=by
 refine g_eq ?_
 unfold g202
 simp only [shMany]
 refine g_if (fun h=>g_some (by rw [if_pos h])) fun h=>g_jn (fun v=>v=decide (194≤c∧c<224)) (fun k hk=>g_if (fun h2=>hk _ (by simp [h2])) fun h2=>hk _ (by simp [h2])) ?_
 rintro _ rfl
 simp only [decide_eq_true_eq]
 repeat' with_reducible refine g_if (fun _=>?_) (fun _=>?_)
 all_goals
  refine g_some ?_
  (repeat' split)<;>omega
def tl (l:List Int):Bool:=l.tail.all fun c=>decide (128≤c) && decide (c≤191)
def okT (l:List Int) (i:Int):Prop:=1≤i∧(i=1∨i≤l.length)∧tl l=(l.drop i.toNat).all fun c=>decide (128≤c) && decide (c≤191)
theorem tails_end {l:List Int} {i:Int} (h:okT l i) (hi:¬i<l.length):tl l=true:=by
 obtain ⟨h1,h2,h3⟩:=h
 rw [h3,List.drop_eq_nil_of_le (by omega)]
 rfl
theorem tails_bad {l:List Int} {i:Int} (h:okT l i) (hi:i<l.length) (hb:l.getD i.toNat 0<128∨191<l.getD i.toNat 0):tl l=false:=by
 obtain ⟨h1,h2,h3⟩:=h
 rw [h3,drop_getD (by omega),List.all_cons]
 rcases hb with hb | hb
 ·rw [decide_eq_false (by omega)];rfl
 ·rw [decide_eq_false (p:=l.getD i.toNat 0≤191) (by omega)];simp
theorem tails_more {l:List Int} {i:Int} (h:okT l i) (hi:i<l.length) (hb:¬l.getD i.toNat 0<128) (hb':¬191<l.getD i.toNat 0):okT l (i+1)∧(l.length-(i+1):Int).toNat<(l.length-i:Int).toNat:=by
 obtain ⟨h1,h2,h3⟩:=h
 refine ⟨⟨by show 1≤i+1;omega,.inr (by show i+1≤_;omega),?_⟩,by show (_-(i+1)).toNat<(_-i).toNat;omega⟩
 have e:(i+1:Int).toNat=i.toNat+1:=by omega
 show tl l=(l.drop (i+1:Int).toNat).all _
 rw [h3,e,drop_getD (by omega),List.all_cons,decide_eq_true (by omega),decide_eq_true (p:=l.getD i.toNat 0≤191) (by omega)]
 rfl
theorem g227_eq {l:List Int} (hn:l.length≤1000000):g227 l=some (tl l):=by
 refine g_eq ?_
 unfold g227
 refine g_jo (g_bind (g_loop (R:=fun o=>(∃u,o=.inl u∧tl l=false)∨∃u,o=.inr u∧tl l=true) (okT l) (fun i=>(l.length-i:Int).toNat) ?_ ⟨Int.le_refl _,.inl rfl,by cases l<;>rfl⟩) ?_)
 ·intro i hs
  have hi1:=hs.1
  refine g_if (fun hi=>g_ck (by omega) (g_if (fun hb=>g_out (.inl ⟨_,rfl,tails_bad hs hi (.inl hb)⟩)) fun hb=>g_ck (by omega) (g_if (fun hb'=>g_out (.inl ⟨_,rfl,tails_bad hs hi (.inr hb')⟩)) fun hb'=>g_i64 (by omega) ?_))) fun hi=>g_out (.inr ⟨_,rfl,tails_end hs hi⟩)
  obtain ⟨n1,n2⟩:=tails_more hs hi hb hb'
  exact g_go n1 n2
 ·intro o ho
  refine g_sm (fun v hv=>?_) fun r hr=>?_
  ·rcases ho with ⟨v',e,h'⟩ | ⟨v',e,h'⟩<;>rw [e] at hv<;>cases hv
   exact g_some h'.symm
  ·rcases ho with ⟨v',e,h'⟩ | ⟨v',e,h'⟩<;>rw [e] at hr<;>cases hr
   exact g_some h'.symm
def heads:List Int:=[0,0,192,224,240]
def numF (r b:Int):Int:=r * 64+b % 64
def numR (l:List Int):Int:=if l.length<2∨4<l.length then l.headD 0 else l.tail.foldl numF (l.headD 0-heads.getD l.length 0)
def okM (l:List Int) (i r:Int):Prop:=1≤i∧i≤l.length∧l.length≤4∧((i=1∧-256≤r∧r≤256)∨(i=2∧-16384≤r∧r<16500)∨(i=3∧-1048576≤r∧r<1058000)∨(i=4∧-67108864≤r∧r<68000000))∧numR l=(l.drop i.toNat).foldl numF r
theorem num_short {l:List Int} (h:l.length<2∨4<l.length):numR l=l.headD 0:=by simp only [numR,if_pos h]
theorem num_end {l:List Int} {i r:Int} (h:okM l i r) (hi:¬i<l.length):numR l=r:=by
 obtain ⟨h1,h2,h3,h4,h5⟩:=h
 rw [h5,List.drop_eq_nil_of_le (by omega)]
 rfl
theorem heads_le (n:Nat):0≤heads.getD n 0∧heads.getD n 0≤240:=by
 rcases n with _ | _ | _ | _ | _ | n<;>simp [heads]
theorem num_start {l:List Int} {c:Int} {t:List Int} (hL:l=c::t) (hc:0≤c∧c≤255) (h:¬(l.length:Int)<2) (h':¬4<(l.length:Int)):okM l 1 (IntKind.i32.wrap (c-heads.getD (l.length:Int).toNat 0)):=by
 rw [Int.toNat_natCast]
 have hk:=heads_le l.length
 have e:IntKind.i32.wrap (c-heads.getD l.length 0)=c-heads.getD l.length 0:=by rw [IntKind.wrap_i32];omega
 rw [e]
 refine ⟨Int.le_refl _,by show (1:Int)≤_;omega,by omega,.inl ⟨rfl,by show -256≤c-heads.getD l.length 0;omega,by show c-heads.getD l.length 0≤256;omega⟩,?_⟩
 simp only [numR]
 rw [if_neg (by omega),hL]
 rfl
theorem tmod_in {l:List Int} (hl:Byt l) {i:Int} (h0:0≤i) (hi:i<l.length):inR .i32 ((l.getD i.toNat 0).tmod 64):=by
 have hb0:0≤l.getD i.toNat 0∧l.getD i.toNat 0≤255:=hl _ (by
  have:i.toNat<l.length:=by omega
  simp [this])
 rw [Int.tmod_eq_emod_of_nonneg hb0.1]
 simp only [inR]
 omega
theorem num_more {l:List Int} (hl:Byt l) {i r:Int} (h:okM l i r) (hi:i<l.length) :
  inR .i32 (r * 64)∧inR .i32 (r * 64+(l.getD i.toNat 0).tmod 64)∧okM l (i+1) (r * 64+(l.getD i.toNat 0).tmod 64)∧(l.length-(i+1):Int).toNat<(l.length-i:Int).toNat:=by
 obtain ⟨h1,h2,h3,h4,h5⟩:=h
 have hb0:0≤l.getD i.toNat 0∧l.getD i.toNat 0≤255:=hl _ (by
  have:i.toNat<l.length:=by omega
  simp [this])
 rw [Int.tmod_eq_emod_of_nonneg hb0.1]
 generalize hb:l.getD i.toNat 0=b at *
 refine ⟨by simp only [inR];omega,by simp only [inR];omega,⟨by show 1≤i+1;omega,by show i+1≤_;omega,h3,?_,?_⟩,by show (_-(i+1)).toNat<(_-i).toNat;omega⟩
 ·show (i+1=1∧_≤r * 64+b % 64∧r * 64+b % 64≤_)∨(i+1=2∧_≤r * 64+b % 64∧r * 64+b % 64<_)∨(i+1=3∧_≤r * 64+b % 64∧r * 64+b % 64<_)∨(i+1=4∧_≤r * 64+b % 64∧r * 64+b % 64<_)
  omega
 ·have e:(i+1:Int).toNat=i.toNat+1:=by omega
  show numR l=(l.drop (i+1:Int).toNat).foldl numF _
  rw [h5,e,drop_getD (by omega),hb]
  rfl
theorem g204_eq {l:List Int} (hl:Byt l) (h1:1≤l.length):g204 l=some (numR l):=by
 refine g_eq ?_
 unfold g204
 obtain ⟨c,t,hL⟩:∃c t,l=c::t:=by cases l with | nil=>simp at h1 | cons c t=>exact ⟨c,t,rfl⟩
 have hc:0≤c∧c≤255:=hl c (by rw [hL];simp)
 have e0:l.getD (0:Int).toNat 0=c:=by rw [hL];rfl
 have eh:l.headD 0=c:=by rw [hL];rfl
 simp only [e0]
 refine g_if (fun h=>g_ck (by omega) (g_i32 (by omega) (g_some (by rw [num_short (.inl (by omega)),eh])))) fun h=>g_if (fun h'=>g_ck (by omega) (g_i32 (by omega) (g_some (by rw [num_short (.inr (by omega)),eh])))) fun h'=>?_
 have hk:=heads_le (l.length:Int).toNat
 refine g_ck (by omega) (g_i64 (by omega) (g_ck (by omega) (g_i64 ?_ (g_jo (g_bind (g_loop (R:=fun o=>o=numR l) (fun s=>okM l s.2 s.1) (fun s=>(l.length-s.2:Int).toNat) ?_ (num_start hL hc h h')) ?_)))))
 ·exact ⟨by have:=hk.2;show _≤c-heads.getD _ 0;omega,by have:=hk.1;show c-heads.getD _ 0≤_;omega⟩
 ·rintro ⟨r,i⟩ hs
  dsimp only at hs ⊢
  have hi1:=hs.1
  refine g_if (fun hi=>?_) fun hi=>g_out (num_end hs hi).symm
  obtain ⟨m1,m2,m3,m4⟩:=num_more hl hs hi
  exact g_ck m1 (g_ck (by omega) (g_ck (tmod_in hl (by omega) hi) (g_ck m2 (g_i64 (by omega) (g_go m3 m4)))))
 ·rintro _ rfl
  exact g_some rfl
def froms:List Int:=[0,0,128,2048,65536]
def fillL (l:List Int) (k:Nat) (x:Int):List Int:=l++List.replicate k x
def bgN (l:List Int):Nat:=(shMany (l.headD 0)).toNat-l.length
def bg (l:List Int):Prop:=(l.length:Int)≤shMany (l.headD 0)∧tl l=true∧froms.getD (shMany (l.headD 0)).toNat 0≤numR (fillL l (bgN l) 191)∧numR (fillL l (bgN l) 128)≤1114111∧(numR (fillL l (bgN l) 128)<55296∨57343<numR (fillL l (bgN l) 191))
instance (l:List Int):Decidable (bg l):=by unfold bg;infer_instance
theorem fill_byt {l:List Int} (h:Byt l) {k:Nat} {x:Int} (hx:0≤x∧x≤255):Byt (fillL l k x):=fun c hc=>by
 rcases List.mem_append.1 hc with hc | hc
 ·exact h c hc
 ·rw [(List.mem_replicate.1 hc).2];exact hx
theorem fill_len {l:List Int} {k:Nat} {x:Int}:(fillL l k x).length=l.length+k:=by simp [fillL]
theorem bg_iff {l:List Int} {c:Int} (hh:l.headD 0=c) {k:Nat} (hs:¬shMany c<(l.length:Int)) (ht:¬ ¬tl l=true) (hok:(l.length:Int)+k≤shMany (l.headD 0)) (h:¬((l.length+k:Nat):Int)<shMany c) :
  bg l↔(froms.getD (shMany c).toNat 0≤numR (fillL l k 191)∧numR (fillL l k 128)≤1114111∧(numR (fillL l k 128)<55296∨57343<numR (fillL l k 191))):=by
 rw [hh] at hok
 have e:bgN l=k:=by unfold bgN;rw [hh];omega
 unfold bg
 rw [e,hh]
 constructor
 ·exact fun h=>h.2.2
 ·exact fun h=>⟨by omega,Classical.not_not.1 ht,h⟩
theorem bg_long {l:List Int} {c:Int} (hh:l.headD 0=c) (h:shMany c<(l.length:Int)):¬bg l:=by
 unfold bg
 rw [hh]
 intro h'
 omega
theorem bg_tail {l:List Int} (h:¬tl l=true):¬bg l:=fun h'=>h h'.2.1
theorem g203_eq {l:List Int} (hl:Byt l) (h1:1≤l.length) (hn:l.length≤1000000):g203 l=some (decide (bg l)):=by
 refine g_eq ?_
 unfold g203
 obtain ⟨c,t,hL⟩:∃c t,l=c::t:=by cases l with | nil=>simp at h1 | cons c t=>exact ⟨c,t,rfl⟩
 have hc:0≤c∧c≤255:=hl c (by rw [hL];simp)
 have e0:l.getD (0:Int).toNat 0=c:=by rw [hL];rfl
 have hh:l.headD 0=c:=by rw [hL];rfl
 simp only [e0]
 have hm:=many_le c
 refine g_ck (by omega) (g_call (g202_eq hc.1 hc.2) (g_if (fun h=>g_some (by rw [decide_eq_false (bg_long hh h)])) fun h=>g_call (g227_eq hn) (g_if (fun ht=>g_some (by rw [decide_eq_false (bg_tail ht)])) fun ht=>g_ck (by omega) (g_ck (by omega) (g_jo ?_)))))
 refine g_bind (g_loop (R:=fun o=>∃k:Nat,o=(fillL l k 128,fillL l k 191)∧(l.length:Int)+k≤shMany (l.headD 0)∧¬((l.length+k:Nat):Int)<shMany c) (fun s=>∃k:Nat,s=(fillL l k 128,fillL l k 191)∧(l.length:Int)+k≤shMany (l.headD 0)) (fun s=>(shMany c-s.1.length).toNat) ?_ ⟨0,by simp [fillL],by rw [hh];omega⟩) ?_
 ·rintro _ ⟨k,rfl,hk⟩
  dsimp only
  rw [hh] at hk
  simp only [fill_len]
  refine g_if (fun hi=>g_ck (by omega) (g_ck (by omega) (g_go ⟨k+1,by simp [fillL,List.replicate_succ'],by rw [hh];omega⟩ (by simp [fill_len];omega)))) fun hi=>g_out ⟨k,rfl,by rw [hh];omega,hi⟩
 ·rintro _ ⟨k,rfl,hok,hi⟩
  dsimp only
  have hok':=hok
  rw [hh] at hok'
  refine g_call (g204_eq (fill_byt hl (by omega)) (by rw [fill_len];omega)) (g_call (g204_eq (fill_byt hl (by omega)) (by rw [fill_len];omega)) (g_ck (by omega) ?_))
  have e:=bg_iff hh h ht hok hi
  refine g_if (fun a=>g_if (fun b=>g_if (fun d=>g_some ?_) fun d=>g_some ?_) fun b=>g_some ?_) fun a=>g_some ?_
  ·rw [eq_comm,decide_eq_true_eq,e];exact ⟨a,b,.inl d⟩
  ·rw [decide_eq_decide,e];exact ⟨fun x=>⟨a,b,.inr x⟩,fun x=>x.2.2.resolve_left d⟩
  ·rw [eq_comm,decide_eq_false_iff_not,e];exact fun x=>b x.2.1
  ·rw [eq_comm,decide_eq_false_iff_not,e];exact fun x=>a x.1
def nr (l:List Int):Int×Int×Bool:=
 if l=[] then (0,0,true) else
 if 0<shMany (l.headD 0)∧shMany (l.headD 0)≤l.length∧bg (l.take (shMany (l.headD 0)).toNat) then (numR (l.take (shMany (l.headD 0)).toNat),shMany (l.headD 0),false) else
 if 0<shMany (l.headD 0)∧l.length<shMany (l.headD 0)∧bg l then (0,0,true) else (65533,1,false)
theorem sh_cases (c:Int) (h0:0≤c) (h1:c≤255):(c<128∧shMany c=1)∨(((128≤c∧c<194)∨245≤c)∧shMany c=0)∨(194≤c∧c<224∧shMany c=2)∨(224≤c∧c<240∧shMany c=3)∨(240≤c∧c≤244∧shMany c=4):=by
 unfold shMany
 repeat' split<;>omega
theorem bg_1 {c:Int} (e:shMany c=1) (h0:0≤c) (h:c<128):bg [c]:=by
 simp [bg,tl,bgN,fillL,froms,numR,e]
 omega
theorem bg_2a {c:Int} (e:shMany c=2) (h:194≤c) (h':c<224):bg [c]:=by
 simp [bg,tl,bgN,fillL,froms,numR,numF,heads,e]
 omega
theorem bg_2b {c d:Int} (e:shMany c=2) (h:194≤c) (h':c<224):bg [c,d]↔128≤d∧d≤191:=by
 simp [bg,tl,bgN,fillL,froms,numR,numF,heads,e]
 omega
theorem bg_3a {c:Int} (e:shMany c=3) (h:224≤c) (h':c<240):bg [c]:=by
 simp [bg,tl,bgN,fillL,froms,numR,numF,heads,e]
 omega
theorem bg_3b {c d:Int} (e:shMany c=3) (h:224≤c) (h':c<240):bg [c,d]↔shLow c≤d∧d≤shHigh c:=by
 simp only [shLow,shHigh]
 simp [bg,tl,bgN,fillL,froms,numR,numF,heads,e]
 repeat' split<;>omega
theorem bg_3c {c d f:Int} (e:shMany c=3) (h:224≤c) (h':c<240):bg [c,d,f]↔(shLow c≤d∧d≤shHigh c)∧128≤f∧f≤191:=by
 simp only [shLow,shHigh]
 simp [bg,tl,bgN,fillL,froms,numR,numF,heads,e]
 repeat' split<;>omega
theorem bg_4a {c:Int} (e:shMany c=4) (h:240≤c) (h':c≤244):bg [c]:=by
 simp [bg,tl,bgN,fillL,froms,numR,numF,heads,e]
 omega
theorem bg_4b {c d:Int} (e:shMany c=4) (h:240≤c) (h':c≤244):bg [c,d]↔shLow c≤d∧d≤shHigh c:=by
 simp only [shLow,shHigh]
 simp [bg,tl,bgN,fillL,froms,numR,numF,heads,e]
 repeat' split<;>omega
theorem bg_4c {c d f:Int} (e:shMany c=4) (h:240≤c) (h':c≤244):bg [c,d,f]↔(shLow c≤d∧d≤shHigh c)∧128≤f∧f≤191:=by
 simp only [shLow,shHigh]
 simp [bg,tl,bgN,fillL,froms,numR,numF,heads,e]
 repeat' split<;>omega
theorem bg_4d {c d f g:Int} (e:shMany c=4) (h:240≤c) (h':c≤244):bg [c,d,f,g]↔(shLow c≤d∧d≤shHigh c)∧(128≤f∧f≤191)∧128≤g∧g≤191:=by
 simp only [shLow,shHigh]
 simp [bg,tl,bgN,fillL,froms,numR,numF,heads,e]
 repeat' split<;>omega
theorem nr_eq {l:List Int} (hl:Byt l):nr l=nx l:=by
 rcases l with _ | ⟨c,t⟩
 ·rfl
 have hc:=hl c (by simp)
 have hb:∀d∈t,0≤d∧d≤255:=fun d hd=>hl d (by simp [hd])
 rcases sh_cases c hc.1 hc.2 with ⟨h,e⟩ | ⟨h,e⟩ | ⟨h,h',e⟩ | ⟨h,h',e⟩ | ⟨h,h',e⟩
 ·have h2:shBits c=c:=by simp [shBits,h]
  simp [nr,nx,e,nxGo,numR,bg_1 e hc.1 h,h2]
  omega
 ·simp [nr,nx,e]
 ·have h2:shBits c=c-192:=by simp only [shBits];repeat' split<;>omega
  have h3:shLow c=128:=by simp only [shLow];repeat' split<;>omega
  have h4:shHigh c=191:=by simp only [shHigh];repeat' split<;>omega
  rcases t with _ | ⟨d,t⟩
  ·simp [nr,nx,e,nxGo,bg_2a e h h']
  ·simp [nr,nx,e,nxGo,h2,h3,h4,bg_2b e h h',numR,heads,numF]
   repeat' split
   all_goals first | rfl | (exfalso;omega)
 ·have h2:shBits c=c-224:=by simp only [shBits];repeat' split<;>omega
  rcases t with _ | ⟨d,_ | ⟨f,t⟩⟩
  ·simp [nr,nx,e,nxGo,bg_3a e h h']
  ·simp [nr,nx,e,nxGo,h2,bg_3b e h h',numR,heads,numF]
   repeat' split
   all_goals first | rfl | (exfalso;omega)
  ·simp [nr,nx,e,nxGo,h2,bg_3c e h h',numR,heads,numF]
   repeat' split
   all_goals first | rfl | (exfalso;omega)
 ·have h2:shBits c=c-240:=by simp only [shBits];repeat' split<;>omega
  rcases t with _ | ⟨d,_ | ⟨f,_ | ⟨g,t⟩⟩⟩
  ·simp [nr,nx,e,nxGo,bg_4a e h h']
  ·simp [nr,nx,e,nxGo,h2,bg_4b e h h',numR,heads,numF]
   repeat' split
   all_goals first | rfl | (exfalso;omega)
  ·simp [nr,nx,e,nxGo,h2,bg_4c e h h',numR,heads,numF]
   repeat' split
   all_goals first | rfl | (exfalso;omega)
  ·simp [nr,nx,e,nxGo,h2,bg_4d e h h',numR,heads,numF]
   repeat' split
   all_goals first | rfl | (exfalso;omega)
theorem nr_nil {l:List Int} (h:(l.length:Int)=0):nr l=(0,0,true):=by
 have:l=[]:=List.eq_nil_of_length_eq_zero (by omega)
 subst this
 rfl
theorem nr_whole {l:List Int} (h:0<l.length) (h1:0<shMany (l.headD 0)) (h2:shMany (l.headD 0)≤l.length) (h3:bg (l.take ((shMany (l.headD 0)).toNat-Int.toNat 0))):nr l=(numR (l.take ((shMany (l.headD 0)).toNat-Int.toNat 0)),shMany (l.headD 0),false):=by
 unfold nr
 rw [if_neg (fun e=>by subst e;simp at h),if_pos ⟨h1,h2,h3⟩]
 rfl
theorem nr_part {l:List Int} (h:0<l.length) (h1:0<shMany (l.headD 0)) (h2:l.length<shMany (l.headD 0)) (h3:bg l):nr l=(0,0,true):=by
 unfold nr
 rw [if_neg (fun e=>by subst e;simp at h),if_neg (fun h=>by omega),if_pos ⟨h1,h2,h3⟩]
theorem nr_bad {l:List Int} (h:0<l.length) (h1:¬(0<shMany (l.headD 0)∧shMany (l.headD 0)≤l.length∧bg (l.take ((shMany (l.headD 0)).toNat-Int.toNat 0)))) (h2:¬(0<shMany (l.headD 0)∧l.length<shMany (l.headD 0)∧bg l)):nr l=(65533,1,false):=by
 unfold nr
 rw [if_neg (fun e=>by subst e;simp at h),if_neg (show ¬(0<shMany (l.headD 0)∧shMany (l.headD 0)≤l.length∧bg (l.take (shMany (l.headD 0)).toNat)) from h1),if_neg h2]
theorem take_byt {l:List Int} (h:Byt l) {n:Nat}:Byt (l.take n):=fun c hc=>h c (List.mem_of_mem_take hc)
theorem g159_eq {l:List Int} (hl:Byt l) (hn:l.length≤1000000):g159 l=some (nx l):=by
 rw [←nr_eq hl]
 refine g_eq ?_
 unfold g159
 refine g_if (fun h=>g_some (nr_nil h).symm) fun h=>?_
 have h1:1≤l.length:=by omega
 obtain ⟨c,t,hL⟩:∃c t,l=c::t:=by cases l with | nil=>simp at h1 | cons c t=>exact ⟨c,t,rfl⟩
 have hc:0≤c∧c≤255:=hl c (by rw [hL];simp)
 have e0:l.getD (0:Int).toNat 0=c:=by rw [hL];rfl
 have hh:l.headD 0=c:=by rw [hL];rfl
 simp only [e0]
 have hm:=many_le c
 refine g_ck (by omega) (g_call (g202_eq hc.1 hc.2) ?_)
 have hd:l.drop (0:Int).toNat=l:=rfl
 rw [hd]
 refine g_jn (fun v=>v=decide (0<shMany c∧shMany c≤l.length∧bg (l.take ((shMany c).toNat-(0:Int).toNat)))) (fun k hk=>g_if (fun a=>g_if (fun b=>g_ck (by omega) (g_call (g203_eq (take_byt hl) (by rw [List.length_take];simp only [Int.toNat_zero];omega) (by rw [List.length_take];omega)) (hk _ (by simp [a,b])))) fun b=>hk _ (by simp [b])) fun a=>hk _ (by simp [a])) ?_
 rintro _ rfl
 simp only [decide_eq_true_eq]
 refine g_if (fun a=>g_ck (by omega) (g_call (g204_eq (take_byt hl) (by rw [List.length_take];simp only [Int.toNat_zero];omega)) (g_some ?_))) fun a=>?_
 ·rw [←hh] at a ⊢
  exact (nr_whole (by omega) a.1 a.2.1 a.2.2).symm
 ·have bad:¬(0<shMany (l.headD 0)∧l.length<shMany (l.headD 0)∧bg l)→(65533,1,false)=nr l:=fun h2=>(nr_bad (by omega) (by rw [hh];exact a) h2).symm
  refine g_if (fun b=>g_if (fun d=>g_call (g203_eq hl h1 hn) (g_if (fun f=>g_some ?_) fun f=>g_some (bad fun x=>f (by simpa using x.2.2)))) fun d=>g_some (bad fun x=>d (by rw [hh] at x;exact x.2.1))) fun b=>g_some (bad fun x=>b (by rw [hh] at x;exact x.1))
  exact (nr_part (by omega) (by rw [hh];exact b) (by rw [hh];exact d) (by simpa using f)).symm
end Go.Proofs.YtlehbfahkjhgnaaGreat
end
section
namespace Go.Proofs.YtlehbfahkjhgnaaGreat
open Go Go.Eng
def isR (r:Int):Prop:=0≤r∧r≤1114111∧(r<55296∨57343<r)
instance (r:Int):Decidable (isR r):=by unfold isR;infer_instance
theorem g231_eq (r:Int):g231 r=some (decide (isR r)):=by
 refine g_eq ?_
 unfold g231
 refine g_if (fun a=>g_if (fun b=>g_if (fun c=>g_some ?_) fun c=>g_some ?_) fun b=>g_some ?_) fun a=>g_some ?_
 ·rw [eq_comm,decide_eq_true_eq];exact ⟨a,b,.inl c⟩
 ·rw [decide_eq_decide];exact ⟨fun x=>⟨a,b,.inr x⟩,fun x=>x.2.2.resolve_left c⟩
 ·rw [eq_comm,decide_eq_false_iff_not];exact fun x=>b x.2.1
 ·rw [eq_comm,decide_eq_false_iff_not];exact fun x=>a x.1
theorem g160_eq (r:Int):g160 r=some (decide (isR r)):=g231_eq r
def norm (r:Int):Int:=if isR r then r else 65533
theorem norm_r (r:Int):isR (norm r):=by
 unfold norm
 split
 ·assumption
 ·exact ⟨by omega,by omega,.inr (by omega)⟩
def enc (v:Int):List Int:=
 if v<128 then [v] else if v<2048 then [192+v / 64,128+v % 64] else if v<65536 then [224+v / 4096,128+v / 64 % 64,128+v % 64] else [240+v / 262144,128+v / 4096 % 64,128+v / 64 % 64,128+v % 64]
theorem bor8 (x y:Int) (i:Nat) (hx₀:0≤x) (hx:x % 2 ^ i=0) (hx₁:x<256) (hy₀:0≤y) (hy:y<2 ^ i) (hy₁:y<256):bits .or .u8 x y=x+y:=bits_join .u8 8 (by decide) keep8 i x y hx₀ hx hx₁ hy₀ hy hy₁
theorem wrap8 (n:Int):IntKind.u8.wrap n=n % 256:=by rw [IntKind.wrap_u8]
theorem tailB (x:Int):bits .or .u8 128 (bits .and .u8 (IntKind.u8.wrap x) 63)=128+x % 64:=by
 rw [wrap8,band63 (by omega) (by omega),bor8 128 _ 6 (by omega) (by omega) (by omega) (by omega) (by omega) (by omega)]
 omega
theorem g232_0 (v:Int):g232 v 0=some (128+v % 64):=by
 refine g_eq ?_
 unfold g232
 refine g_ck (by decide) (g_some ?_)
 rw [tailB]
 simp
theorem g232_6 (v:Int):g232 v 6=some (128+v / 64 % 64):=by
 refine g_eq ?_
 unfold g232
 refine g_ck (by decide) (g_some ?_)
 rw [tailB]
 rfl
theorem g232_12 (v:Int):g232 v 12=some (128+v / 4096 % 64):=by
 refine g_eq ?_
 unfold g232
 refine g_ck (by decide) (g_some ?_)
 rw [tailB]
 rfl
theorem g212_eq (r:Int):g212 r=some (enc (norm r)):=by
 refine g_eq ?_
 unfold g212
 refine g_jn (fun v=>v=norm r) (fun k hk=>g_call (g231_eq r) (g_if (fun h=>hk _ (by unfold norm;rw [if_neg (by simpa using h)])) fun h=>hk _ (by unfold norm;rw [if_pos (by simpa using h)]))) ?_
 rintro _ rfl
 obtain ⟨h0,h1,h2⟩:=norm_r r
 generalize norm r=v at *
 unfold enc
 have p6:(2:Int) ^ (6:Int).toNat=64:=rfl
 have p12:(2:Int) ^ (12:Int).toNat=4096:=rfl
 have p18:(2:Int) ^ (18:Int).toNat=262144:=rfl
 refine g_if (fun a=>g_some ?_) fun a=>g_if (fun b=>g_call (g232_0 v) (g_some ?_)) fun b=>g_if (fun c=>g_call (g232_6 v) (g_call (g232_0 v) (g_some ?_))) fun c=>g_call (g232_12 v) (g_call (g232_6 v) (g_call (g232_0 v) (g_some ?_)))
 ·rw [if_pos a,wrap8]
  congr 1;omega
 ·rw [if_neg a,if_pos b,wrap8,p6,bor8 192 _ 6 (by omega) (by omega) (by omega) (by omega) (by omega) (by omega)]
  congr 1;omega
 ·rw [if_neg a,if_neg b,if_pos c,wrap8,p12,bor8 224 _ 4 (by omega) (by omega) (by omega) (by omega) (by omega) (by omega)]
  congr 1;omega
 ·rw [if_neg a,if_neg b,if_neg c,wrap8,p18,bor8 240 _ 3 (by omega) (by omega) (by omega) (by omega) (by omega) (by omega)]
  congr 1;omega
theorem g161_eq {v:Int} (h:0≤v):g161 v=some (128+v % 64):=by
 refine g_eq ?_
 unfold g161
 rw [Int.tmod_eq_emod_of_nonneg h]
 refine g_i32 (by omega) (g_some ?_)
 rw [wrap8]
 omega
theorem g106_eq (r:Int):g106 r=some (enc (norm r)):=by
 refine g_eq ?_
 unfold g106
 refine g_jn (fun v=>v=norm r) (fun k hk=>g_call (g160_eq r) (g_if (fun h=>hk _ (by unfold norm;rw [if_neg (by simpa using h)])) fun h=>hk _ (by unfold norm;rw [if_pos (by simpa using h)]))) ?_
 rintro _ rfl
 obtain ⟨h0,h1,h2⟩:=norm_r r
 generalize norm r=v at *
 unfold enc
 rw [Int.tdiv_eq_ediv_of_nonneg h0,Int.tdiv_eq_ediv_of_nonneg h0,Int.tdiv_eq_ediv_of_nonneg h0]
 refine g_if (fun a=>g_some ?_) fun a=>g_if (fun b=>g_i32 (by omega) (g_i32 (by omega) (g_call (g161_eq h0) (g_some ?_)))) fun b=>g_if (fun c=>g_i32 (by omega) (g_i32 (by omega) (g_i32 (by omega) (g_call (g161_eq (by omega)) (g_call (g161_eq h0) (g_some ?_)))))) fun c=>g_i32 (by omega) (g_i32 (by omega) (g_i32 (by omega) (g_call (g161_eq (by omega)) (g_i32 (by omega) (g_call (g161_eq (by omega)) (g_call (g161_eq h0) (g_some ?_)))))))
 ·rw [if_pos a,wrap8]
  congr 1;omega
 ·rw [if_neg a,if_pos b,wrap8]
  congr 1;omega
 ·rw [if_neg a,if_neg b,if_pos c,wrap8]
  congr 1;omega
 ·rw [if_neg a,if_neg b,if_neg c,wrap8]
  congr 1;omega
theorem enc_byt {v:Int} (h:isR v):Byt (enc v):=by
 obtain ⟨h0,h1,h2⟩:=h
 unfold enc
 intro c hc
 repeat' split at hc
 all_goals simp only [List.mem_cons,List.not_mem_nil,or_false] at hc;omega
theorem enc_len {v:Int}:1≤(enc v).length∧(enc v).length≤4:=by
 unfold enc
 repeat' split
 all_goals simp
end Go.Proofs.YtlehbfahkjhgnaaGreat
end
section
namespace Go.Proofs.YtlehbfahkjhgnaaGreat
open Go Go.Eng
theorem drop_byt {l:List Int} (h:Byt l) {n:Nat}:Byt (l.drop n):=fun c hc=>h c (List.mem_of_mem_drop hc)
theorem nx_inv {l:List Int} (hl:Byt l) {r n:Int} (h:nx l=(r,n,false)):(r=65533∧n=1∧1≤l.length)∨(isR r∧l=enc r++l.drop n.toNat∧n=((enc r).length:Int)):=by
 cases l with
 | nil=>simp [nx] at h
 | cons c t=>
  have hc:=hl c List.mem_cons_self
  rcases sh_cases c hc.1 hc.2 with ⟨a,e⟩ | ⟨a,e⟩ | ⟨a,a',e⟩ | ⟨a,a',e⟩ | ⟨a,a',e⟩
  ·have e2:shBits c=c:=by simp only [shBits];rw [if_pos a]
   simp [nx,e,e2,nxGo] at h
   obtain ⟨rfl,rfl⟩:=h
   right
   refine ⟨⟨by omega,by omega,.inl (by omega)⟩,?_,?_⟩
   ·unfold enc;rw [if_pos a];rfl
   ·unfold enc;rw [if_pos a];rfl
  ·simp [nx,e] at h
   obtain ⟨rfl,rfl⟩:=h
   exact .inl ⟨rfl,rfl,by simp⟩
  ·have e2:shBits c=c % 32:=by simp only [shBits];repeat' split<;>omega
   have e3:shLow c=128:=by simp only [shLow];repeat' split<;>omega
   have e4:shHigh c=191:=by simp only [shHigh];repeat' split<;>omega
   cases t with
   | nil=>simp [nx,e,nxGo] at h
   | cons d t=>
    have hd:=hl d (by simp)
    simp only [nx,e,e2,e3,e4,nxGo,show (2-1:Int).toNat=1 from rfl] at h
    rw [if_neg (by omega)] at h
    split at h
    ·cases h;exact .inl ⟨rfl,rfl,by simp⟩
    ·cases h
     right
     have q:enc (c % 32 * 64+d % 64)=[c,d]:=by
      unfold enc
      rw [if_neg (by omega),if_pos (by omega)]
      congr 1
      ·omega
      ·congr 1;omega
     exact ⟨⟨by omega,by omega,.inl (by omega)⟩,by rw [q];rfl,by rw [q];rfl⟩
  ·have e2:shBits c=c % 16:=by simp only [shBits];repeat' split<;>omega
   have e3:(c=224∧shLow c=160)∨(c≠224∧shLow c=128):=by simp only [shLow];repeat' split<;>omega
   have e4:(c=237∧shHigh c=159)∨(c≠237∧shHigh c=191):=by simp only [shHigh];repeat' split<;>omega
   cases t with
   | nil=>simp [nx,e,nxGo] at h
   | cons d t=>
    have hd:=hl d (by simp)
    simp only [nx,e,e2,nxGo,show (3-1:Int).toNat=2 from rfl] at h
    rw [if_neg (by omega)] at h
    split at h
    ·cases h;exact .inl ⟨rfl,rfl,by simp⟩
    ·cases t with
     | nil=>simp [nxGo] at h
     | cons f t=>
      have hf:=hl f (by simp)
      simp only [nxGo] at h
      split at h
      ·cases h;exact .inl ⟨rfl,rfl,by simp⟩
      ·cases h
       right
       have q:enc ((c % 16 * 64+d % 64) * 64+f % 64)=[c,d,f]:=by
        unfold enc
        rw [if_neg (by omega),if_neg (by omega),if_pos (by omega)]
        congr 1
        ·omega
        ·congr 1
         ·omega
         ·congr 1;omega
       exact ⟨⟨by omega,by omega,by omega⟩,by rw [q];rfl,by rw [q];rfl⟩
  ·have e2:shBits c=c % 8:=by simp only [shBits];repeat' split<;>omega
   have e3:(c=240∧shLow c=144)∨(c≠240∧shLow c=128):=by simp only [shLow];repeat' split<;>omega
   have e4:(c=244∧shHigh c=143)∨(c≠244∧shHigh c=191):=by simp only [shHigh];repeat' split<;>omega
   cases t with
   | nil=>simp [nx,e,nxGo] at h
   | cons d t=>
    have hd:=hl d (by simp)
    simp only [nx,e,e2,nxGo,show (4-1:Int).toNat=3 from rfl] at h
    rw [if_neg (by omega)] at h
    split at h
    ·cases h;exact .inl ⟨rfl,rfl,by simp⟩
    ·cases t with
     | nil=>simp [nxGo] at h
     | cons f t=>
      have hf:=hl f (by simp)
      simp only [nxGo] at h
      split at h
      ·cases h;exact .inl ⟨rfl,rfl,by simp⟩
      ·cases t with
       | nil=>simp [nxGo] at h
       | cons g t=>
        have hg:=hl g (by simp)
        simp only [nxGo] at h
        split at h
        ·cases h;exact .inl ⟨rfl,rfl,by simp⟩
        ·cases h
         right
         have q:enc (((c % 8 * 64+d % 64) * 64+f % 64) * 64+g % 64)=[c,d,f,g]:=by
          unfold enc
          rw [if_neg (by omega),if_neg (by omega),if_neg (by omega)]
          congr 1
          ·omega
          ·congr 1
           ·omega
           ·congr 1
            ·omega
            ·congr 1;omega
         exact ⟨⟨by omega,by omega,by omega⟩,by rw [q];rfl,by rw [q];rfl⟩
def stp (l:List Int):Int×Int:=if (nx l).2.2=true then (65533,1) else ((nx l).1,(nx l).2.1)
theorem stp_pos {l:List Int} (hl:Byt l):isR (stp l).1∧1≤(stp l).2∧(stp l).2≤4∧(1≤l.length→(stp l).2≤l.length):=by
 have hb:isR 65533:=⟨by omega,by omega,.inr (by omega)⟩
 unfold stp
 by_cases h:(nx l).2.2=true
 ·rw [if_pos h];exact ⟨hb,by simp,by simp,fun h=>by dsimp only;omega⟩
 ·rw [if_neg h]
  have e:nx l=((nx l).1,(nx l).2.1,false):=by
   have:(nx l).2.2=false:=by simpa using h
   rw [←this]
  rcases nx_inv hl e with ⟨h1,h2,h3⟩ | ⟨h1,h2,h3⟩
  ·dsimp only
   rw [h1,h2]
   exact ⟨hb,by omega,by omega,fun h=>by omega⟩
  ·have:=enc_len (v:=(nx l).1)
   have hlen:=congrArg List.length h2
   rw [List.length_append,List.length_drop] at hlen
   dsimp only
   exact ⟨h1,by omega,by omega,fun h=>by omega⟩
def ps (l:List Int):Nat→Nat
 | 0=>0
 | k+1=>ps l k+(stp (l.drop (ps l k))).2.toNat
def rn (l:List Int) (k:Nat):Int:=(stp (l.drop (ps l k))).1
def rs (l:List Int) (k:Nat):List Int:=(List.range k).map (rn l)
def pp (l:List Int) (k:Nat):List Int:=(List.range k).map fun i=>(ps l i:Int)
theorem rs_succ (l:List Int) (k:Nat):rs l (k+1)=rs l k++[rn l k]:=by simp [rs,List.range_succ]
theorem pp_succ (l:List Int) (k:Nat):pp l (k+1)=pp l k++[(ps l k:Int)]:=by simp [pp,List.range_succ]
theorem rs_len (l:List Int) (k:Nat):(rs l k).length=k:=by simp [rs]
theorem pp_len (l:List Int) (k:Nat):(pp l k).length=k:=by simp [pp]
theorem rn_R {l:List Int} (hl:Byt l) (k:Nat):isR (rn l k):=(stp_pos (drop_byt hl)).1
theorem ps_step {l:List Int} (hl:Byt l) (k:Nat):ps l k<ps l (k+1)∧ps l (k+1)≤ps l k+4∧(ps l k<l.length→ps l (k+1)≤l.length):=by
 have h:=stp_pos (drop_byt hl (n:=ps l k))
 rw [ps]
 refine ⟨by omega,by omega,fun hk=>?_⟩
 have:=h.2.2.2 (by rw [List.length_drop];omega)
 rw [List.length_drop] at this
 omega
theorem ps_lt {l:List Int} (hl:Byt l):∀(j i:Nat),ps l i+j≤ps l (i+j)
 | 0,i=>Nat.le_refl _
 | j+1,i=>by
  have:=ps_lt hl j i
  have:=(ps_step hl (i+j)).1
  rw [show i+(j+1)=(i+j)+1 by omega]
  omega
theorem ps_ge {l:List Int} (hl:Byt l) (k:Nat):k≤ps l k:=by have:=ps_lt hl k 0;simp [ps] at this;omega
theorem ps_mono {l:List Int} (hl:Byt l) {i k:Nat} (h:i<k):ps l i<ps l k:=by have:=ps_lt hl (k-i) i;rw [show i+(k-i)=k by omega] at this;omega
theorem ps_inj {l:List Int} (hl:Byt l) {i k:Nat} (h:ps l i=ps l k):i=k:=by
 have a:¬i<k:=fun q=>by have:=ps_mono hl q;omega
 have b:¬k<i:=fun q=>by have:=ps_mono hl q;omega
 omega
theorem bytes_str {l:List Int} (hl:Byt l):bytesOf (strOf l)=l:=by
 unfold bytesOf strOf
 simp only [List.map_map]
 conv=>rhs;rw [←List.map_id l]
 refine List.map_congr_left fun c hc=>?_
 have:=hl c hc
 simp only [Function.comp,UInt8.toNat_ofNat',id]
 omega
theorem str_size (l:List Int):(strOf l).size=l.length:=by simp [strOf,ByteArray.size]
end Go.Proofs.YtlehbfahkjhgnaaGreat
end
section
namespace Go.Proofs.YtlehbfahkjhgnaaGreat
open Go Go.Eng
def inP (l:List (Int×Int)) (r:Int):Bool:=l.any fun p=>decide (p.1≤r) && decide (r≤p.2)
def wiP:List (Int×Int)→Int→Bool
 | [],_=>false
 | p::l,a=>if a<p.1 then false else if a≤p.2 then true else wiP l a
def flat:List (Int×Int)→List Int
 | []=>[]
 | p::l=>p.1::p.2::flat l
def asc:List (Int×Int)→Bool
 | p::q::l=>decide (p.1≤q.1) && asc (q::l)
 | _=>true
theorem flat_len:∀l,(flat l).length=2 * l.length
 | []=>rfl
 | _::l=>by simp only [flat,List.length_cons,flat_len l];omega
theorem flat_0:∀(l:List (Int×Int)) (j:Nat),(flat l).getD (2 * j) 0=(l.getD j (0,0)).1
 | [],j=>by simp [flat]
 | p::l,0=>rfl
 | p::l,j+1=>by
  have:=flat_0 l j
  rw [show 2 * (j+1)=2 * j+1+1 by omega]
  simpa [flat] using this
theorem flat_1:∀(l:List (Int×Int)) (j:Nat),(flat l).getD (2 * j+1) 0=(l.getD j (0,0)).2
 | [],j=>by simp [flat]
 | p::l,0=>rfl
 | p::l,j+1=>by
  have:=flat_1 l j
  rw [show 2 * (j+1)+1=2 * j+1+1+1 by omega]
  simpa [flat] using this
theorem asc_tail {p:Int×Int} {l:List (Int×Int)} (h:asc (p::l)=true):asc l=true:=by
 cases l with
 | nil=>rfl
 | cons q l=>simp only [asc,Bool.and_eq_true] at h;exact h.2
theorem asc_low {a:Int}:∀{l:List (Int×Int)} {p:Int×Int},asc (p::l)=true→a<p.1→inP l a=false
 | [],_,_,_=>rfl
 | q::l,p,h,ha=>by
  have h1:p.1≤q.1:=by simp only [asc,Bool.and_eq_true,decide_eq_true_eq] at h;exact h.1
  have:=asc_low (asc_tail h) (show a<q.1 by omega)
  show ((decide (q.1≤a) && decide (a≤q.2)) || inP l a)=false
  rw [this,decide_eq_false (by omega)]
  rfl
theorem wi_in {a:Int}:∀{l:List (Int×Int)},asc l=true→wiP l a=inP l a
 | [],_=>rfl
 | p::l,h=>by
  show (if a<p.1 then false else if a≤p.2 then true else wiP l a)=((decide (p.1≤a) && decide (a≤p.2)) || inP l a)
  split
  ·rename_i h1
   rw [asc_low h h1,decide_eq_false (by omega)];rfl
  ·split
   ·rw [decide_eq_true (by omega),decide_eq_true (by assumption)];rfl
   ·rename_i h1 h2
    rw [wi_in (asc_tail h),decide_eq_false h2,Bool.and_false,Bool.false_or]
theorem pdrop {l:List (Int×Int)} {j:Nat} (h:j<l.length):l.drop j=l.getD j (0,0)::l.drop (j+1):=by
 rw [List.drop_eq_getElem_cons h,List.getD_eq_getElem?_getD,List.getElem?_eq_getElem h];rfl
theorem wi_loop {l : List (Int × Int)} {a0 : Int} (hn : l.length ≤ 100000) : Gives (loopO (σ := Int) (ρ := (Bool) ⊕ (Unit)) (fun s674 =>
          ck (inR .i64 (s674 + 1)) <|
          if (s674 + 1) < (((flat l).length : Nat) : Int) then
            (
              ck (0 ≤ s674 ∧ s674 < (((flat l).length : Nat) : Int)) <|
              ck (inR .i64 (s674 + 1)) <|
              ck (0 ≤ s674 + 1 ∧ s674 + 1 < (((flat l).length : Nat) : Int)) <|
              if a0 < ((flat l).getD s674.toNat 0) then
                some (.out (.inl (false)))
              else
                (
                  if a0 ≤ ((flat l).getD (s674 + 1).toNat 0) then
                    some (.out (.inl (true)))
                  else
                    (
                      ck (inR .i64 (s674 + 2)) <|
                      some (.go (s674 + 2))
                    )
                )
            )
          else
            some (.out (.inr (())))
        ) 0) (fun o => (o = .inl true ∧ wiP l a0 = true) ∨ ((o = .inl false ∨ o = .inr ()) ∧ wiP l a0 = false)) := by
  have hl := flat_len l
  refine g_loop (fun s : Int => ∃ j : Nat, s = 2 * (j : Int) ∧ j ≤ l.length ∧ wiP l a0 = wiP (l.drop j) a0) (fun s : Int => (2 * (l.length : Int) - s).toNat) ?_ ⟨0, rfl, Nat.zero_le _, rfl⟩
  rintro s ⟨j, rfl, hj, hw⟩
  refine g_i64 (by omega) (g_if (fun h => ?_) fun h => ?_)
  · have hlt : j < l.length := by omega
    have e0 : (2 * (j : Int)).toNat = 2 * j := by omega
    have e1 : (2 * (j : Int) + 1).toNat = 2 * j + 1 := by omega
    rw [e0, e1, flat_0, flat_1]
    rw [pdrop hlt] at hw
    simp only [wiP] at hw
    refine g_ck (by omega) (g_i64 (by omega) (g_ck (by omega) (g_if (fun h1 => g_out (.inr ⟨.inl rfl, by rw [hw, if_pos h1]⟩)) fun h1 => g_if (fun h2 => g_out (.inl ⟨rfl, by rw [hw, if_neg h1, if_pos h2]⟩)) fun h2 => g_i64 (by omega) (g_go ⟨j + 1, by show (2 * (j : Int) + 2) = _; omega, by omega, by rw [hw, if_neg h1, if_neg h2]⟩ ?_))))
    show (_ - (_ + 2) : Int).toNat < (_ - _ : Int).toNat
    omega
  · have : l.length ≤ j := by omega
    rw [List.drop_eq_nil_of_le this] at hw
    exact g_out (.inr ⟨.inr rfl, hw⟩)
def mkL:List (Int×Int):=[(768,879),(1155,1161),(1425,1469),(1471,1471),(1473,1474),(1476,1477),(1479,1479),(1552,1562),(1611,1631),(1648,1648),(1750,1756),(1759,1764),(1767,1768),(1770,1773),(3633,3633),(3636,3642),(3655,3662),(6832,6911),(7616,7679),(8203,8207),(8288,8292),(8400,8432),(12330,12333),(12441,12442),(65024,65039),(65056,65071),(65279,65279),(917760,917999)]
def wdL:List (Int×Int):=[(4352,4447),(8986,8987),(9001,9002),(9193,9196),(9200,9200),(9203,9203),(9725,9726),(9748,9749),(9800,9811),(9855,9855),(9875,9875),(9889,9889),(9898,9899),(9917,9918),(9924,9925),(9934,9934),(9940,9940),(9962,9962),(9970,9971),(9973,9973),(9978,9978),(9981,9981),(9989,9989),(9994,9995),(10024,10024),(10060,10060),(10062,10062),(10067,10069),(10071,10071),(10133,10135),(10160,10160),(10175,10175),(11035,11036),(11088,11088),(11093,11093),(11904,12350),(12353,19903),(19968,42191),(43360,43391),(44032,55203),(63744,64255),(65040,65049),(65072,65135),(65281,65376),(65504,65510),(127744,128591),(128640,128767),(129280,129535),(129648,129791),(131072,196605),(196608,262141)]
theorem g206_eq:g206=some mkL:=rfl
theorem g207_eq:g207=some wdL:=rfl
set_option maxRecDepth 100000 in
theorem g238_eq:g238=some (flat mkL):=rfl
set_option maxRecDepth 100000 in
theorem g235_eq:g235=some (flat wdL):=rfl
theorem mk_asc:asc mkL=true:=by kernel_rfl
theorem wd_asc:asc wdL=true:=by kernel_rfl
theorem mk_len:mkL.length≤1000:=by decide
theorem wd_len:wdL.length≤1000:=by decide
def ctl (a:Int):Prop:=(0≤a∧a≤31)∨(127≤a∧a≤159)
instance (a:Int):Decidable (ctl a):=by unfold ctl;infer_instance
def wof (a:Int):Int:=if ¬isR a∨ctl a∨inP mkL a=true then 0 else if inP wdL a=true then 2 else 1
def isMk (a:Int):Prop:=wof a=0∧isR a∧¬ctl a
instance (a:Int):Decidable (isMk a):=by unfold isMk;infer_instance
theorem ctl_go {a:Int}:Gives (if 0≤a then (if a≤31 then some true else (if 127≤a then some (decide (a≤159)) else some false)) else (if 127≤a then some (decide (a≤159)) else some false)) fun v=>v=decide (ctl a):=by
 refine g_if (fun h1=>g_if (fun h2=>g_some ?_) fun h2=>g_if (fun h3=>g_some ?_) fun h3=>g_some ?_) fun h1=>g_if (fun h3=>g_some ?_) fun h3=>g_some ?_
 ·rw [eq_comm,decide_eq_true_eq];exact .inl ⟨h1,h2⟩
 ·rw [decide_eq_decide];unfold ctl;omega
 ·rw [eq_comm,decide_eq_false_iff_not];unfold ctl;omega
 ·rw [decide_eq_decide];unfold ctl;omega
 ·rw [eq_comm,decide_eq_false_iff_not];unfold ctl;omega
theorem g163_eq (a:Int):g163 a=some (decide (ctl a)):=g_eq (by unfold g163;exact ctl_go)
theorem g166_eq (a:Int):g166 a=some (decide (ctl a)):=g_eq (by unfold g166;exact ctl_go)
theorem g171_eq (a:Int):g171 a=some (decide (ctl a)):=g_eq (by unfold g171;exact ctl_go)
theorem isr_go {a:Int}:Gives (if 0≤a then (if a≤1114111 then (if a<55296 then some true else some (decide (57343<a))) else some false) else some false) fun v=>v=decide (isR a):=by
 refine g_if (fun a=>g_if (fun b=>g_if (fun c=>g_some ?_) fun c=>g_some ?_) fun b=>g_some ?_) fun a=>g_some ?_
 ·rw [eq_comm,decide_eq_true_eq];exact ⟨a,b,.inl c⟩
 ·rw [decide_eq_decide];exact ⟨fun x=>⟨a,b,.inr x⟩,fun x=>x.2.2.resolve_left c⟩
 ·rw [eq_comm,decide_eq_false_iff_not];exact fun x=>b x.2.1
 ·rw [eq_comm,decide_eq_false_iff_not];exact fun x=>a x.1
theorem g217_eq (a:Int):g217 a=some (decide (isR a)):=g_eq (by unfold g217;exact isr_go)
theorem g162_eq (a:Int):g162 a=some (decide (isR a)):=by
 refine g_eq ?_
 unfold g162
 refine g_if (fun a=>g_if (fun b=>g_if (fun c=>g_some ?_) fun c=>g_some ?_) fun b=>g_some ?_) fun a=>g_some ?_
 ·rw [decide_eq_decide];exact ⟨fun x=>⟨a,b,.inr (by omega)⟩,fun x=>by have:=x.2.2;omega⟩
 ·rw [eq_comm,decide_eq_true_eq];exact ⟨a,b,.inl (by omega)⟩
 ·rw [eq_comm,decide_eq_false_iff_not];exact fun x=>b x.2.1
 ·rw [eq_comm,decide_eq_false_iff_not];exact fun x=>a x.1
theorem g205_eq {l:List (Int×Int)} (a:Int) (hn:l.length≤100000):g205 l a=some (inP l a):=by
 refine g_eq ?_
 unfold g205
 refine g_jo (g_bind (g_loop (R:=fun o=>(∃u,o=.inl u∧inP l a=true)∨∃u,o=.inr u∧inP l a=false) (fun i:Int=>0≤i∧i≤l.length∧inP l a=inP (l.drop i.toNat) a) (fun i:Int=>((l.length:Int)-i).toNat) ?_ ⟨Int.le_refl _,by omega,rfl⟩) ?_)
 ·rintro i ⟨h0,h1,h2⟩
  have nx:∀(hi:i<l.length),¬((l.getD i.toNat (0,0)).1≤a∧a≤(l.getD i.toNat (0,0)).2)→inP l a=inP (l.drop (i+1).toNat) a:=fun hi hc=>by
   rw [h2,pdrop (by omega),show (i+1).toNat=i.toNat+1 by omega]
   show ((decide (_≤a) && decide (a≤_)) || inP _ a)=_
   by_cases c1:(l.getD i.toNat (0,0)).1≤a
   ·rw [decide_eq_false (p:=a≤_) (fun c2=>hc ⟨c1,c2⟩),Bool.and_false,Bool.false_or]
   ·rw [decide_eq_false (p:=_≤a) c1,Bool.false_and,Bool.false_or]
  have go:∀(hi:i<l.length),¬((l.getD i.toNat (0,0)).1≤a∧a≤(l.getD i.toNat (0,0)).2)→(0≤i+1∧i+1≤l.length∧inP l a=inP (l.drop (i+1).toNat) a)∧((l.length:Int)-(i+1)).toNat<((l.length:Int)-i).toNat:=fun hi hc=>⟨⟨by omega,by omega,nx hi hc⟩,by omega⟩
  refine g_if (fun hi=>g_ck (by omega) (g_if (fun c1=>g_ck (by omega) (g_if (fun c2=>g_out (.inl ⟨_,rfl,?_⟩)) fun c2=>g_i64 (by omega) (g_go (go hi fun c=>c2 c.2).1 (go hi fun c=>c2 c.2).2))) fun c1=>g_i64 (by omega) (g_go (go hi fun c=>c1 c.1).1 (go hi fun c=>c1 c.1).2))) fun hi=>g_out (.inr ⟨_,rfl,?_⟩)
  ·rw [h2,pdrop (by omega)]
   show ((decide (_≤a) && decide (a≤_)) || inP _ a)=true
   rw [decide_eq_true (p:=(l.getD i.toNat (0,0)).1≤a) c1,decide_eq_true (p:=a≤(l.getD i.toNat (0,0)).2) c2];rfl
  ·rw [h2,List.drop_eq_nil_of_le (by omega)];rfl
 ·intro o ho
  refine g_sm (fun v hv=>?_) fun r hr=>?_
  ·rcases ho with ⟨v',e,h'⟩ | ⟨v',e,h'⟩<;>rw [e] at hv<;>cases hv
   exact g_some h'.symm
  ·rcases ho with ⟨v',e,h'⟩ | ⟨v',e,h'⟩<;>rw [e] at hr<;>cases hr
   exact g_some h'.symm
theorem g164_eq (a:Int):g164 a=some (inP mkL a):=by
 unfold g164
 rw [g206_eq,Option.bind_some,g205_eq a (by have:=mk_len;omega),Option.bind_some]
theorem g165_eq (a:Int):g165 a=some (!inP mkL a && inP wdL a):=by
 unfold g165
 rw [g164_eq,Option.bind_some,g207_eq,Option.bind_some,g205_eq a (by have:=wd_len;omega),Option.bind_some]
 cases inP mkL a<;>rfl
theorem g107_eq (a:Int):g107 a=some (wof a):=by
 unfold g107 wof
 rw [g162_eq,Option.bind_some,g163_eq,Option.bind_some,g164_eq,Option.bind_some,g165_eq,Option.bind_some]
 by_cases h1:isR a
 ·by_cases h2:ctl a
  ·simp [h1,h2]
  ·cases h3:inP mkL a
   ·cases h4:inP wdL a<;>simp [h1,h2]
   ·simp [h1,h2]
 ·simp [h1]
theorem g108_eq (a:Int):g108 a=some (decide (isMk a)):=by
 unfold g108 isMk
 rw [g107_eq,Option.bind_some,g160_eq,Option.bind_some,g166_eq,Option.bind_some]
 by_cases h1:wof a=0<;>by_cases h2:isR a<;>by_cases h3:ctl a<;>simp [h1,h2,h3]
theorem g218_eq (a:Int):g218 a=some (inP mkL a):=by
 refine g_eq ?_
 unfold g218
 rw [g238_eq,Option.bind_some]
 rw [←wi_in mk_asc]
 refine g_jo (g_bind (wi_loop (l:=mkL) (a0:=a) (by have:=mk_len;omega)) ?_)
 intro o ho
 refine g_sm (fun v hv=>?_) fun r hr=>?_
 ·rcases ho with ⟨e,h⟩ | ⟨e | e,h⟩<;>rw [e] at hv<;>cases hv
  ·exact g_some h.symm
  ·exact g_some h.symm
 ·rcases ho with ⟨e,h⟩ | ⟨e | e,h⟩<;>rw [e] at hr<;>cases hr
  exact g_some h.symm
theorem g180_eq (a:Int):g180 a=some (wof a):=by
 refine g_eq ?_
 unfold g180
 simp only [g217_eq,g171_eq,g218_eq,g235_eq,Option.bind_some]
 refine g_jn (fun v=>v=decide (¬isR a∨ctl a∨inP mkL a=true)) (fun k hk=>?_) ?_
 ·refine g_if (fun h=>hk _ ?_) fun h=>g_if (fun h2=>hk _ ?_) fun h2=>hk _ ?_
  ·simp at h;simp [h]
  ·simp at h2;simp [h2]
  ·simp at h h2;simp [h,h2]
 ·rintro _ rfl
  unfold wof
  refine g_if (fun h=>g_some ?_) fun h=>?_
  ·rw [if_pos (by simpa using h)]
  ·rw [if_neg (by simpa using h),←wi_in wd_asc]
   refine g_jo (g_bind (wi_loop (l:=wdL) (a0:=a) (by have:=wd_len;omega)) ?_)
   intro o ho
   refine g_sm (fun v hv=>?_) fun r hr=>?_
   ·rcases ho with ⟨e,h⟩ | ⟨e | e,h⟩<;>rw [e] at hv<;>cases hv
    ·exact g_if (fun _=>g_some (by rw [h];rfl)) fun h'=>absurd rfl h'
    ·exact g_if (fun h'=>by cases h') fun _=>g_some (by rw [h];rfl)
   ·rcases ho with ⟨e,h⟩ | ⟨e | e,h⟩<;>rw [e] at hr<;>cases hr
    exact g_some (by rw [h];rfl)
theorem g213_eq (a:Int):g213 a=some (decide (isMk a)):=by
 refine g_eq ?_
 unfold g213 isMk
 rw [g180_eq,Option.bind_some,g171_eq,Option.bind_some]
 refine g_if (fun h=>g_some (by simp [h])) fun h=>g_if (fun h2=>g_some (by simp at h2;simp [h2])) fun h2=>?_
 simp at h h2
 have:=isr_go (a:=a)
 obtain ⟨v,hv,e⟩:=this
 exact ⟨v,hv,by rw [e];simp [h,h2]⟩
theorem g211_eq (a:Int):g211 a=some (decide (0<wof a)):=by
 unfold g211
 rw [g180_eq,Option.bind_some]
end Go.Proofs.YtlehbfahkjhgnaaGreat
end
section
namespace Go.Proofs.YtlehbfahkjhgnaaGreat
open Go Go.Eng
def encs (R:List Int):List Int:=R.flatMap enc
theorem encs_app (R T:List Int):encs (R++T)=encs R++encs T:=by simp [encs]
theorem encs_byt {R:List Int} (h:∀r∈R,isR r):Byt (encs R):=fun c hc=>by
 obtain ⟨r,hr,hc⟩:=List.mem_flatMap.1 hc
 exact enc_byt (h r hr) c hc
def cstep (out:List (List Int)) (r:Int):List (List Int):=
 if 0<wof r then out++[enc r]
 else if isMk r∧out≠[]∧(out.getLastD []).length+(enc r).length≤64 then out.dropLast++[out.getLastD []++enc r]
 else out
def cuts (R:List Int):List (List Int):=R.foldl cstep []
def Cl (c:List Int) (R:List Int):Prop:=c=encs R∧(∀r∈R,isR r)∧c.length≤64∧∃b M,R=b::M∧0<wof b∧∀m∈M,isMk m
def AllCl (out:List (List Int)):Prop:=∀c∈out,∃R,Cl c R
theorem cstep_cl {out:List (List Int)} {r:Int} (h:AllCl out) (hr:isR r):AllCl (cstep out r):=by
 have hl:=@enc_len r
 unfold cstep
 split
 ·rename_i hw
  intro c hc
  rcases List.mem_append.1 hc with hc | hc
  ·exact h c hc
  ·rw [List.mem_singleton.1 hc]
   exact ⟨[r],by simp [encs],fun x hx=>by rw [List.mem_singleton.1 hx];exact hr,by omega,r,[],rfl,hw,fun m hm=>by cases hm⟩
 ·split
  ·rename_i hm
   obtain ⟨hm,hne,hs⟩:=hm
   intro c hc
   rcases List.mem_append.1 hc with hc | hc
   ·exact h c (List.dropLast_subset _ hc)
   ·rw [List.mem_singleton.1 hc]
    have hlast:out.getLastD []∈out:=by
     rw [List.getLastD_eq_getLast?,List.getLast?_eq_some_getLast hne]
     exact List.getLast_mem hne
    obtain ⟨R,h1,h2,h3,b,M,h4,h5,h6⟩:=h _ hlast
    refine ⟨R++[r],?_,fun x hx=>?_,by rw [List.length_append];exact hs,b,M++[r],by rw [h4];rfl,h5,fun m hm'=>?_⟩
    ·rw [encs_app,←h1];simp [encs]
    ·rcases List.mem_append.1 hx with hx | hx
     ·exact h2 x hx
     ·rw [List.mem_singleton.1 hx];exact hr
    ·rcases List.mem_append.1 hm' with hx | hx
     ·exact h6 m hx
     ·rw [List.mem_singleton.1 hx];exact hm
  ·exact h
theorem cuts_cl':∀{R:List Int} {out:List (List Int)},AllCl out→(∀r∈R,isR r)→AllCl (R.foldl cstep out)
 | [],_,h,_=>h
 | r::R,_,h,hR=>cuts_cl' (R:=R) (cstep_cl h (hR r (.head _))) fun x hx=>hR x (.tail _ hx)
theorem cuts_cl {R:List Int} (hR:∀r∈R,isR r):AllCl (cuts R):=cuts_cl' (fun c hc=>by cases hc) hR
theorem cstep_len (out:List (List Int)) (r:Int):(cstep out r).length≤out.length+1:=by
 unfold cstep
 split
 ·simp
 ·split
  ·rename_i h
   obtain ⟨_,hne,_⟩:=h
   have:0<out.length:=List.length_pos_iff.2 hne
   rw [List.length_append,List.length_dropLast,List.length_singleton]
   omega
  ·omega
theorem cuts_len':∀(R:List Int) (out:List (List Int)),(R.foldl cstep out).length≤out.length+R.length
 | [],out=>by simp
 | r::R,out=>by
  have h1:=cstep_len out r
  have h2:=cuts_len' R (cstep out r)
  rw [List.foldl_cons,List.length_cons]
  omega
theorem cuts_len (R:List Int):(cuts R).length≤R.length:=by have:=cuts_len' R [];simpa [cuts] using this
end Go.Proofs.YtlehbfahkjhgnaaGreat
end
section
namespace Go.Proofs.YtlehbfahkjhgnaaGreat
open Go Go.Eng
theorem drop_all {l:List Int} {k:Nat}:(l.drop k).take (l.length-k)=l.drop k:=List.take_of_length_le (by rw [List.length_drop];omega)
theorem stp_more {l:List Int} (h:(nx l).2.2=true):stp l=(65533,1):=by unfold stp;rw [if_pos h]
theorem stp_else {l:List Int} (h:¬(nx l).2.2=true):stp l=((nx l).1,(nx l).2.1):=by unfold stp;rw [if_neg h]
theorem ps_more {l:List Int} {k:Nat} (h:(nx (l.drop (ps l k))).2.2=true):rn l k=65533∧(ps l k:Int)+1=(ps l (k+1):Nat):=by
 unfold rn;rw [ps,stp_more h];exact ⟨rfl,by simp⟩
theorem ps_else {l:List Int} (hl:Byt l) {k:Nat} (h:¬(nx (l.drop (ps l k))).2.2=true):rn l k=(nx (l.drop (ps l k))).1∧(ps l k:Int)+(nx (l.drop (ps l k))).2.1=(ps l (k+1):Nat):=by
 have p:=stp_pos (drop_byt hl (n:=ps l k))
 unfold rn;rw [ps]
 rw [stp_else h] at p ⊢
 exact ⟨rfl,by dsimp only at p ⊢;omega⟩
theorem norm_of {v:Int} (h:isR v):norm v=v:=by unfold norm;rw [if_pos h]
theorem str_app (a b:List Int):strOf (a++b)=strOf a++strOf b:=by
 apply ByteArray.ext
 simp [strOf,ByteArray.data_append]
theorem g105_eq {l:List Int} (hl:Byt l) (hn:l.length≤100000) {N:Nat} (hN:ps l N=l.length):g105 l=some (rs l N,pp l N):=by
 refine g_eq ?_
 unfold g105
 refine g_jo (g_bind (Ω:=fun o=>o=(rs l N,pp l N)) (g_loop (fun s:List Int×List Int×Int=>∃k:Nat,s=(rs l k,pp l k,(ps l k:Int))∧ps l k≤l.length) (fun s=>((l.length:Int)-s.2.2).toNat) ?_ ⟨0,rfl,Nat.zero_le _⟩) ?_)
 ·rintro _ ⟨k,rfl,hk⟩
  dsimp only
  have st:=ps_step hl k
  have kl:=ps_ge hl k
  refine g_if (fun hlt=>g_ck (by omega) ?_) fun hge=>g_out (by rw [ps_inj hl (i:=k) (k:=N) (by omega)])
  simp only [Int.toNat_natCast,drop_all]
  refine g_call (g159_eq (drop_byt hl) (by rw [List.length_drop];omega)) (g_if (fun h=>?_) fun h=>?_)
  ·obtain ⟨r1,r2⟩:=ps_more h
   rw [r2]
   exact g_ck (by rw [rs_len];omega) (g_ck (by rw [pp_len];omega) (g_i64 (by omega) (g_go ⟨k+1,by rw [rs_succ,pp_succ,r1],by omega⟩ (by dsimp only;omega))))
  ·obtain ⟨r1,r2⟩:=ps_else hl h
   rw [r2]
   exact g_ck (by rw [rs_len];omega) (g_ck (by rw [pp_len];omega) (g_i64 (by omega) (g_go ⟨k+1,by rw [rs_succ,pp_succ,r1],by omega⟩ (by dsimp only;omega))))
 ·rintro _ rfl
  exact g_some rfl
def strs (out:List (List Int)):List ByteArray:=out.map strOf
theorem strs_app (a b:List (List Int)):strs (a++b)=strs a++strs b:=by simp [strs]
theorem strs_len (a:List (List Int)):(strs a).length=a.length:=by simp [strs]
theorem strs_last {a:List (List Int)} (h:a≠[]):(strs a).getD (a.length-1) default=strOf (a.getLastD []):=by
 obtain ⟨b,x,rfl⟩:∃b x,a=b++[x]:=⟨a.dropLast,a.getLast h,(List.dropLast_concat_getLast h).symm⟩
 rw [List.getLastD_concat,strs_app,List.getD_eq_getElem?_getD]
 simp [strs]
theorem strs_set {a:List (List Int)} (h:a≠[]) (x:List Int):(strs a).set (a.length-1) (strOf x)=strs (a.dropLast++[x]):=by
 obtain ⟨b,y,rfl⟩:∃b x,a=b++[x]:=⟨a.dropLast,a.getLast h,(List.dropLast_concat_getLast h).symm⟩
 rw [strs_app,strs_app]
 simp [strs]
theorem cuts_take {R:List Int} {k:Nat} (h:k<R.length):cuts (R.take (k+1))=cstep (cuts (R.take k)) R[k]:=by
 unfold cuts
 rw [List.take_add_one,List.getElem?_eq_getElem h,List.foldl_append]
 rfl
theorem getD_at {R:List Int} {k:Nat} (h:k<R.length):R.getD k 0=R[k]:=by simp [List.getD_eq_getElem?_getD,List.getElem?_eq_getElem h]
theorem last_le {out:List (List Int)} (h:AllCl out):(out.getLastD []).length≤64:=by
 by_cases hne:out=[]
 ·subst hne;simp
 ·have hlast:out.getLastD []∈out:=by
   rw [List.getLastD_eq_getLast?,List.getLast?_eq_some_getLast hne]
   exact List.getLast_mem hne
  obtain ⟨R,_,_,h3,_⟩:=h _ hlast
  exact h3
theorem rs_R {l:List Int} (hl:Byt l) {N:Nat}:∀r∈rs l N,isR r:=fun r hr=>by
 obtain ⟨k,_,rfl⟩:=List.mem_map.1 hr
 exact rn_R hl k
theorem take_R {R:List Int} (hR:∀r∈R,isR r) {k:Nat}:∀r∈R.take k,isR r:=fun r hr=>hR r (List.mem_of_mem_take hr)
theorem g59_eq {l:List Int} (hl:Byt l) (hn:l.length≤100000) {N:Nat} (hN:ps l N=l.length):g59 (strOf l)=some (strs (cuts (rs l N))):=by
 refine g_eq ?_
 unfold g59
 have hNl:N≤l.length:=by have:=ps_ge hl N;omega
 have hR:=rs_R hl (N:=N)
 have hlen:=rs_len l N
 generalize hRe:rs l N=R at hR hlen
 refine g_ck (by rw [str_size];omega) (g_call (by rw [bytes_str hl];exact g105_eq hl hn hN) ?_)
 rw [hRe]
 dsimp only
 refine g_jo (g_bind (Ω:=fun o=>o=strs (cuts R)) (g_loop (fun s:List ByteArray×Int=>∃k:Nat,s=(strs (cuts (R.take k)),(k:Int))∧k≤R.length) (fun s=>((R.length:Int)-s.2).toNat) ?_ ⟨0,rfl,Nat.zero_le _⟩) ?_)
 ·rintro _ ⟨k,rfl,hk⟩
  dsimp only
  refine g_if (fun hlt=>?_) fun hge=>g_out (by rw [List.take_of_length_le (by omega)])
  have hkl:k<R.length:=by omega
  have hr:isR R[k]:=hR _ (List.getElem_mem _)
  have hcl:=cuts_cl (take_R hR (k:=k))
  have hol:(cuts (R.take k)).length≤k:=by have:=cuts_len (R.take k);rw [List.length_take] at this;omega
  have hll:=last_le hcl
  have hel:=@enc_len R[k]
  have hstep:=cuts_take hkl
  have hgo:(∃k':Nat,((strs (cuts (R.take (k+1))),(k:Int)+1):List ByteArray×Int)=(strs (cuts (R.take k')),(k':Int))∧k'≤R.length):=⟨k+1,by rw [Int.natCast_add];rfl,by omega⟩
  generalize cuts (R.take k)=out at hcl hol hll hstep ⊢
  rw [hstep] at hgo
  have e0:(k:Int).toNat=k:=Int.toNat_natCast k
  rw [e0,getD_at hkl,strs_len]
  have hdec:((R.length:Int)-((k:Int)+1)).toNat<((R.length:Int)-(k:Int)).toNat:=by omega
  refine g_ck (by omega) (g_call (g106_eq _) ?_)
  rw [norm_of hr]
  refine g_ck (enc_byt hr) (g_i64 (by omega) (g_ck (by omega) (g_call (g107_eq _) (g_if (fun hw=>?_) fun hw=>?_))))
  ·refine g_ck (by omega) (g_i64 (by omega) (g_go ?_ hdec))
   have:cstep out R[k]=out++[enc R[k]]:=by unfold cstep;rw [if_pos hw]
   rw [this,strs_app] at hgo
   exact hgo
  ·refine g_ck (by omega) (g_call (g108_eq _) (g_if (fun hm=>?_) fun hm=>?_))
   ·have hm:isMk R[k]:=by simpa using hm
    refine g_if (fun hp=>?_) fun hp=>?_
    ·have hne:out≠[]:=fun e=>by rw [e] at hp;simp at hp
     have e1:((out.length:Int)-1).toNat=out.length-1:=by omega
     have hpos:0<out.length:=List.length_pos_iff.2 hne
     rw [e1,strs_last hne,str_size,str_size]
     refine g_ck (by omega) (g_i64 (by omega) (g_if (fun hs=>?_) fun hs=>?_))
     ·refine g_ck (by omega) (g_ck (by omega) (g_ck (by omega) (g_i64 (by omega) (g_go ?_ hdec))))
      have:cstep out R[k]=out.dropLast++[out.getLastD []++enc R[k]]:=by unfold cstep;rw [if_neg hw,if_pos ⟨hm,hne,by omega⟩]
      rw [this,←strs_set hne,str_app] at hgo
      exact hgo
     ·refine g_i64 (by omega) (g_go ?_ hdec)
      have:cstep out R[k]=out:=by unfold cstep;rw [if_neg hw,if_neg (fun h=>hs (by have:=h.2.2;omega))]
      rw [this] at hgo
      exact hgo
    ·refine g_i64 (by omega) (g_go ?_ hdec)
     have:cstep out R[k]=out:=by unfold cstep;rw [if_neg hw,if_neg (fun h=>hp (by have:=List.length_pos_iff.2 h.2.1;omega))]
     rw [this] at hgo
     exact hgo
   ·have hm:¬isMk R[k]:=by simpa using hm
    refine g_i64 (by omega) (g_go ?_ hdec)
    have:cstep out R[k]=out:=by unfold cstep;rw [if_neg hw,if_neg (fun h=>hm h.1)]
    rw [this] at hgo
    exact hgo
 ·rintro _ rfl
  exact g_some rfl
end Go.Proofs.YtlehbfahkjhgnaaGreat
end
section
namespace Go.Proofs.YtlehbfahkjhgnaaGreat
open Go Go.Eng
theorem ex_N {l:List Int} (hl:Byt l):∃N,ps l N=l.length:=by
 have:∀(d k:Nat),l.length-ps l k≤d→ps l k≤l.length→∃N,ps l N=l.length:=by
  intro d
  induction d with
  | zero=>exact fun k h1 h2=>⟨k,by omega⟩
  | succ d ih=>
   intro k h1 h2
   by_cases e:ps l k=l.length
   ·exact ⟨k,e⟩
   ·have s:=ps_step hl k
    exact ih (k+1) (by omega) (s.2.2 (by omega))
 exact this l.length 0 (by simp [ps]) (by simp [ps])
def bst (out:List (List Int)):List ByteArray×List Int×Bool:=if out=[] then ([],[],false) else (strs out.dropLast,out.getLastD [],true)
theorem bst_nil:bst []=([],[],false):=rfl
theorem bst_some {out:List (List Int)} (h:out≠[]):bst out=(strs out.dropLast,out.getLastD [],true):=by unfold bst;rw [if_neg h]
theorem last_byt {out:List (List Int)} (h:AllCl out):Byt (out.getLastD []):=by
 by_cases hne:out=[]
 ·subst hne;intro c hc;simp at hc
 ·have hlast:out.getLastD []∈out:=by
   rw [List.getLastD_eq_getLast?,List.getLast?_eq_some_getLast hne]
   exact List.getLast_mem hne
  obtain ⟨R,h1,h2,_⟩:=h _ hlast
  rw [h1]
  exact encs_byt h2
theorem strs_end {out:List (List Int)} (h:out≠[]):strs out.dropLast++[strOf (out.getLastD [])]=strs out:=by
 obtain ⟨b,y,rfl⟩:∃b x,out=b++[x]:=⟨out.dropLast,out.getLast h,(List.dropLast_concat_getLast h).symm⟩
 rw [List.getLastD_concat,List.dropLast_concat,strs_app]
 rfl
theorem g173_eq {out:List (List Int)} (h:AllCl out) (hn:out.length≤200000):g173 (bst out)=some (strs out,[],false):=by
 refine g_eq ?_
 unfold g173
 by_cases hne:out=[]
 ·subst hne
  rw [bst_nil]
  exact g_if (fun h=>by cases h) fun _=>g_ck (by simp) (g_some rfl)
 ·rw [bst_some hne]
  refine g_if (fun _=>g_ck (last_byt h) (g_ck ?_ (g_ck ?_ (g_some ?_)))) fun h=>absurd rfl h
  ·rw [strs_len,List.length_dropLast];omega
  ·dsimp only;omega
  ·dsimp only;rw [strs_end hne];rfl
theorem g172_eq {out:List (List Int)} {r:Int} (h:AllCl out) (hr:isR r) (hn:out.length≤100000):g172 (bst out) r=some (bst (cstep out r)):=by
 refine g_eq ?_
 unfold g172
 have hel:=@enc_len r
 refine g_call (g211_eq _) (g_if (fun hw=>?_) fun hw=>?_)
 ·have hw:0<wof r:=by simpa using hw
  refine g_call (g173_eq h (by omega)) (g_call (g212_eq _) ?_)
  rw [norm_of hr]
  have hs:cstep out r=out++[enc r]:=by unfold cstep;rw [if_pos hw]
  refine g_ck (by simp;omega) (g_some ?_)
  rw [hs,bst_some (by simp),List.dropLast_concat,List.getLastD_concat]
  rfl
 ·have hw:¬0<wof r:=by simpa using hw
  by_cases hne:out=[]
  ·subst hne
   have hs:cstep [] r=[]:=by unfold cstep;rw [if_neg hw,if_neg (fun h=>h.2.1 rfl)]
   rw [hs]
   exact g_if (fun _=>g_some rfl) fun h=>absurd (by rw [bst_nil];exact Bool.false_ne_true) h
  ·rw [bst_some hne]
   have hll:=last_le h
   refine g_if (fun h=>absurd rfl h) fun _=>g_call (g213_eq _) (g_if (fun hm=>g_some ?_) fun hm=>g_call (g212_eq _) ?_)
   ·have hm:¬isMk r:=by simpa using hm
    have hs:cstep out r=out:=by unfold cstep;rw [if_neg hw,if_neg (fun h=>hm h.1)]
    rw [hs,bst_some hne]
   ·have hm:isMk r:=by simpa using hm
    rw [norm_of hr]
    dsimp only
    refine g_i64 (by omega) (g_if (fun hs=>g_ck (by omega) (g_some ?_)) fun hs=>g_some ?_)
    ·have hs:cstep out r=out.dropLast++[out.getLastD []++enc r]:=by unfold cstep;rw [if_neg hw,if_pos ⟨hm,hne,by omega⟩]
     rw [hs,bst_some (by simp),List.dropLast_concat,List.getLastD_concat]
    ·have hs:cstep out r=out:=by unfold cstep;rw [if_neg hw,if_neg (fun h=>hs (by have:=h.2.2;omega))]
     rw [hs,bst_some hne]
theorem cstep_ctl {out:List (List Int)} {r:Int} (h:ctl r):cstep out r=out:=by
 have h0:wof r=0:=by unfold wof;rw [if_pos (.inr (.inl h))]
 unfold cstep
 rw [if_neg (by rw [h0];omega),if_neg (fun h'=>h'.1.2.2 h)]
theorem cuts_rs {l:List Int} (k:Nat):cuts (rs l (k+1))=cstep (cuts (rs l k)) (rn l k):=by
 unfold cuts
 rw [rs_succ,List.foldl_append]
 rfl
theorem g118_eq {l:List Int} (hl:Byt l) (hn:l.length≤50000) {N:Nat} (hN:ps l N=l.length):g118 (strOf l)=some (strs (cuts (rs l N))):=by
 refine g_eq ?_
 unfold g118
 rw [bytes_str hl]
 refine g_jo (g_ck (by rw [str_size];omega) (g_bind (Ω:=fun o=>o=bst (cuts (rs l N))) (g_loop (fun s:List ByteArray×List Int×Bool×Int=>∃k:Nat,(s.1,s.2.1,s.2.2.1)=bst (cuts (rs l k))∧s.2.2.2=(ps l k:Int)∧ps l k≤l.length) (fun s=>((l.length:Int)-s.2.2.2).toNat) ?_ ⟨0,rfl,rfl,Nat.zero_le _⟩) ?_))
 ·rintro ⟨b1,b2,b3,i⟩ ⟨k,hb,hi,hk⟩
  dsimp only at hb hi ⊢
  subst hi
  have st:=ps_step hl k
  have kl:=ps_ge hl k
  have hcl:=cuts_cl (rs_R hl (N:=k))
  have hol:(cuts (rs l k)).length≤k:=by have:=cuts_len (rs l k);rwa [rs_len] at this
  have hrn:=rn_R hl k
  refine g_if (fun hlt=>g_ck (by omega) ?_) fun hge=>g_out (by rw [hb,ps_inj hl (i:=k) (k:=N) (by omega)])
  simp only [Int.toNat_natCast,drop_all]
  rw [hb]
  have hdone:ctl (rn l k)→(b1,b2,b3)=bst (cuts (rs l (k+1))):=fun hc=>by rw [cuts_rs,cstep_ctl hc];exact hb
  have hadd:g172 (bst (cuts (rs l k))) (rn l k)=some (bst (cuts (rs l (k+1)))):=by rw [cuts_rs];exact g172_eq hcl hrn (by omega)
  refine g_call (g237_eq (drop_byt hl) (by rw [List.length_drop];omega)) (g_if (fun h=>?_) fun h=>?_)
  ·obtain ⟨r1,r2⟩:=ps_more h
   rw [r1] at hdone hadd
   refine g_call (g171_eq _) (g_if (fun hc=>?_) fun hc=>?_)
   ·refine g_i64 (by omega) (g_go ⟨k+1,hdone (by simpa using hc),by dsimp only;omega,by omega⟩ (by dsimp only;omega))
   ·exact g_call hadd (g_i64 (by omega) (g_go ⟨k+1,rfl,by dsimp only;omega,by omega⟩ (by dsimp only;omega)))
  ·obtain ⟨r1,r2⟩:=ps_else hl h
   rw [←r1]
   refine g_call (g171_eq _) (g_if (fun hc=>?_) fun hc=>?_)
   ·exact g_i64 (by omega) (g_go ⟨k+1,hdone (by simpa using hc),by dsimp only;omega,by omega⟩ (by dsimp only;omega))
   ·exact g_call hadd (g_i64 (by omega) (g_go ⟨k+1,rfl,by dsimp only;omega,by omega⟩ (by dsimp only;omega)))
 ·rintro _ rfl
  have hcl:=cuts_cl (rs_R hl (N:=N))
  have hol:(cuts (rs l N)).length≤N:=by have:=cuts_len (rs l N);rwa [rs_len] at this
  have kl:=ps_ge hl N
  exact g_call (g173_eq hcl (by omega)) (g_some rfl)
end Go.Proofs.YtlehbfahkjhgnaaGreat
end
section
namespace Go.Proofs.YtlehbfahkjhgnaaGreat
open Go Go.Eng
theorem bind_ite' {α β:Type} {p:Prop} [Decidable p] {a b:Option α} {f:α→Option β}:(if p then a else b).bind f=if p then a.bind f else b.bind f:=by split<;>rfl
theorem str_bytes (s:ByteArray):strOf (bytesOf s)=s:=by
 apply toList_inj
 simp [strOf,bytesOf,Function.comp_def]
theorem byt_bytes (s:ByteArray):Byt (bytesOf s):=fun c hc=>by
 obtain ⟨x,_,rfl⟩:=List.mem_map.1 hc
 have:=x.toNat_lt
 omega
theorem cut_both (s:ByteArray) (hs:s.size≤50000):∃ss:List ByteArray,g118 s=some ss∧g59 s=some ss∧ss.length≤s.size∧∀x∈ss,x.size≤64:=by
 have hb:=byt_bytes s
 have hl:(bytesOf s).length=s.size:=bytesOf_len s
 obtain ⟨N,hN⟩:=ex_N hb
 have h1:=g118_eq hb (by omega) hN
 have h2:=g59_eq hb (by omega) hN
 rw [str_bytes] at h1 h2
 refine ⟨_,h1,h2,?_,fun x hx=>?_⟩
 ·have:=cuts_len (rs (bytesOf s) N)
  have hg:=ps_ge hb N
  rw [strs_len]
  rw [rs_len] at this
  omega
 ·obtain ⟨c,hc,rfl⟩:=List.mem_map.1 hx
  obtain ⟨R,_,_,h64,_⟩:=cuts_cl (rs_R hb (N:=N)) c hc
  rw [str_size]
  exact h64
theorem bl (x:ByteArray):x.data.toList.length=x.size:=Array.length_toList
def fla (ss:List ByteArray):List UInt8:=(ss.map (·.data.toList)).flatten
theorem fla_len {ss:List ByteArray} (h:∀x∈ss,x.size≤64):(fla ss).length≤64 * ss.length:=by
 induction ss with
 | nil=>simp [fla]
 | cons x r ih=>
  have h1:=h x (.head _)
  have h2:=ih fun y hy=>h y (.tail _ hy)
  have e:=bl x
  simp only [fla,List.map_cons,List.flatten_cons,List.length_append,List.length_cons] at h2 ⊢
  omega
theorem fla_succ {ss:List ByteArray} {k:Nat} (h:k<ss.length):fla (ss.take (k+1))=fla (ss.take k)++ss[k].data.toList:=by
 unfold fla
 rw [List.take_add_one,List.getElem?_eq_getElem h]
 simp only [Option.toList_some,List.map_append,List.map_cons,List.map_nil,List.flatten_append,List.flatten_cons,List.flatten_nil,List.append_nil]
theorem join_fla (ss:List ByteArray):Lib.join (ss.map (·.data.toList)) []=fla ss:=by
 cases ss with
 | nil=>rfl
 | cons x r=>rw [List.map_cons,Lib.join_cons];simp [fla,Lib.joinTail];rfl
theorem clean_both (s:ByteArray) (hs:s.size≤50000):∃t:ByteArray,g156 s=some t∧g104 s=some t∧t.size≤3200000:=by
 obtain ⟨ss,h1,h2,h3,h4⟩:=cut_both s hs
 have hf:=fla_len h4
 have hsz:(⟨(fla ss).toArray⟩:ByteArray).size=(fla ss).length:=by simp [ByteArray.size]
 refine ⟨⟨(fla ss).toArray⟩,?_,?_,by omega⟩
 ·unfold g156
  rw [h1,Option.bind_some]
  unfold g201
  rw [show (lit []).data.toList=([]:List UInt8) from rfl,join_fla]
  unfold ck
  rw [if_pos (by omega),if_pos (by omega)]
  rfl
 ·refine g_eq ?_
  unfold g104
  refine g_call h2 (g_jo (g_bind (Ω:=fun o:ByteArray=>o=⟨(fla ss).toArray⟩) (g_loop (fun p:ByteArray×Int=>∃k:Nat,k≤ss.length∧p.2=k∧p.1.data.toList=fla (ss.take k)) (fun p=>ss.length-p.2.toNat) ?_ ⟨0,by omega,rfl,rfl⟩) ?_))
  ·rintro ⟨o,i⟩ ⟨k,hk,hi,ho⟩
   dsimp only at hi ho ⊢
   subst hi
   have hft:(fla (ss.take k)).length≤64 * k:=by
    have:=fla_len (ss:=ss.take k) fun x hx=>h4 x (List.mem_of_mem_take hx)
    rw [List.length_take] at this
    omega
   have hos:o.size=(fla (ss.take k)).length:=by rw [←ho,bl]
   refine g_if (fun hlt=>?_) fun hge=>g_out ?_
   ·have hlt:k<ss.length:=by omega
    have e:ss.getD k default=ss[k]:=by rw [List.getD_eq_getElem?_getD,List.getElem?_eq_getElem hlt];rfl
    have hx:=h4 ss[k] (List.getElem_mem _)
    rw [Int.toNat_natCast,e]
    refine g_ck (by omega) (g_ck (by omega) (g_i64 (by omega) (g_go ⟨k+1,by omega,by dsimp only;omega,?_⟩ (by dsimp only;omega))))
    dsimp only
    rw [fla_succ hlt,←ho,ByteArray.data_append,Array.toList_append]
   ·have e:k=ss.length:=by omega
    subst e
    rw [List.take_length] at ho
    exact toList_inj (by rw [ho])
  ·rintro o rfl
   exact g_some rfl
theorem flat_both (s:ByteArray) (hs:s.size≤50000):∃t:ByteArray,g96 s=some t∧g58 s=some t:=by
 obtain ⟨t,h1,h2,_⟩:=clean_both (strOf ((bytesOf s).map fl1)) (by rw [str_size,List.length_map,bytesOf_len];exact hs)
 refine ⟨t,?_,?_⟩
 ·unfold g96 ck;rw [if_pos (by omega)];exact h1
 ·unfold g58 ck;rw [if_pos (by omega)];exact h2
theorem text_both (s:ByteArray) (hs:s.size≤50000):∃(b:Prop) (n:Nat),n≤50000∧(∀lo hi,Gives (g49 s lo hi) fun r=>(r=true↔b∧lo≤n∧n≤hi)) ∧
  (Gives (g101 s) fun r=>(r=true↔b∧1≤n∧n≤64))∧∃t:ByteArray,∃ss:List ByteArray,g58 s=some t∧g59 s=some ss∧(t.data.toList=s.data.toList↔b)∧ss.length=n:=by
 obtain ⟨t,h1,h2⟩:=flat_both s hs
 obtain ⟨ss,h3,h4,h5,_⟩:=cut_both s hs
 refine ⟨t.data.toList=s.data.toList,ss.length,by omega,fun lo hi=>?_,?_,t,ss,h2,h4,Iff.rfl,rfl⟩
 ·unfold g49
  refine g_call h1 (g_if (fun h=>?_) fun h=>g_some ⟨fun h'=>(by cases h'),fun h'=>absurd h'.1 h⟩)
  have hc:g97 s=some (ss.length:Int):=by unfold g97;rw [h3];rfl
  refine g_call hc (g_if (fun h'=>g_some ?_) fun h'=>g_some ⟨fun h=>(by cases h),fun h=>absurd h.2.1 h'⟩)
  rw [decide_eq_true_eq]
  exact ⟨fun h2=>⟨h,h',h2⟩,fun h=>h.2.2⟩
 ·unfold g101
  refine g_call h2 (g_if (fun h=>?_) fun h=>g_some ⟨fun h'=>(by cases h'),fun h'=>absurd h'.1 h⟩)
  refine g_call h4 ?_
  unfold g55
  rw [bind_ite']
  refine g_if (fun h'=>?_) fun h'=>?_
  ·refine g_some ?_
   rw [decide_eq_true_eq]
   exact ⟨fun h2=>⟨h,by omega,by omega⟩,fun h=>by omega⟩
  ·exact g_some ⟨fun h=>(by cases h),fun h=>absurd h.2.1 (by omega)⟩
end Go.Proofs.YtlehbfahkjhgnaaGreat
end
section
namespace Go.Proofs.YtlehbfahkjhgnaaGreat
open Go Go.Eng
theorem label_both (x:ByteArray) (hx:x.size≤50000):∃b,g63 x=some b∧g101 x=some b:=by
 obtain ⟨p,n,_,h1,h2,_⟩:=text_both x hx
 obtain ⟨b,e1,k1⟩:=h1 1 64
 obtain ⟨c,e2,k2⟩:=h2
 have:b=c:=by
  have:=k1.trans ⟨fun h=>k2.2 ⟨h.1,by omega,by omega⟩,fun h=>⟨(k2.1 h).1,by have:=(k2.1 h).2;omega,by have:=(k2.1 h).2;omega⟩⟩
  cases b<;>cases c<;>simp_all
 subst this
 exact ⟨b,by unfold g63;rw [e1];rfl,e2⟩
theorem getD_eq {l:List ByteArray} {j:Nat} (h:j<l.length):l.getD j default=l[j]:=by rw [List.getD_eq_getElem?_getD,List.getElem?_eq_getElem h];rfl
theorem nodup_getD {l:List ByteArray}:l.Nodup↔∀j k,k<j→j<l.length→(l.getD k default).data.toList≠(l.getD j default).data.toList:=by
 unfold List.Nodup
 rw [List.pairwise_iff_getElem]
 constructor
 ·intro h j k hk hj e
  rw [getD_eq (by omega),getD_eq (by omega)] at e
  exact h k j (by omega) (by omega) hk (toList_inj e)
 ·intro h i j hi hj hij e
  refine h j i hij hj ?_
  rw [getD_eq hi,getD_eq hj,e]
theorem opts_both (l:List ByteArray) (hl:l.length≤100000) (hs:∀x∈l,x.size≤50000):∃b,g46 l=some b∧g54 l=some b:=by
 classical
 have hlab:∀x∈l,∃b,g63 x=some b∧g101 x=some b:=fun x hx=>label_both x (hs x hx)
 have e46:g46 l=if l.length<1∨256<l.length then some false else some ((l.all fun x=>(g63 x).getD false) && decide l.Nodup):=by
  unfold g46
  by_cases h:l.length<1∨256<l.length
  ·rw [if_pos h,if_pos h]
  ·rw [if_neg h,if_neg h,if_pos fun x hx=>by obtain ⟨b,hb,_⟩:=hlab x hx;rw [hb];rfl]
 have e55:g55 ((l.length:Nat):Int) 1 256=some (decide (1≤l.length∧l.length≤256)):=by
  unfold g55
  by_cases h:1≤l.length
  ·rw [if_pos (by omega)]
   congr 1
   exact decide_eq_decide.2 (by omega)
  ·rw [if_neg (by omega),decide_eq_false (by omega)]
 rw [e46]
 by_cases h:l.length<1∨256<l.length
 ·rw [if_pos h]
  refine ⟨false,rfl,g_eq ?_⟩
  unfold g54
  refine g_call e55 (g_t (by simp;omega) (g_some rfl))
 ·rw [if_neg h]
  refine ⟨_,rfl,g_eq ?_⟩
  unfold g54
  refine g_call e55 (g_f (by simp;omega) ?_)
  refine g_jo (g_bind (Ω:=fun o=>match o with | .inl _=>¬((∀x∈l,g63 x=some true)∧l.Nodup) | .inr _=>(∀x∈l,g63 x=some true)∧l.Nodup)
   (g_loop (fun s:Int=>∃i:Nat,s=i∧i≤l.length∧(∀j,j<i→g63 (l.getD j default)=some true)∧(∀j k,k<j→j<i→(l.getD k default).data.toList≠(l.getD j default).data.toList)) (fun s=>l.length-s.toNat) ?_ ⟨0,rfl,by omega,fun _ h=>by omega,fun _ _ _ h=>by omega⟩) fun o ho=>?_)
  ·rintro s ⟨i,rfl,hi,h1,h2⟩
   refine g_if (fun hlt=>?_) fun hge=>g_out ?_
   ·have hlt:i<l.length:=by omega
    have hmem:l.getD i default∈l:=by rw [getD_eq hlt];exact List.getElem_mem _
    obtain ⟨b,hb1,hb2⟩:=hlab _ hmem
    rw [Int.toNat_natCast]
    refine g_jo (g_ck (by omega) (g_call hb2 (g_if (fun hf=>g_out fun hh=>?_) fun ht=>?_)))
    ·have:=hh.1 _ hmem
     rw [hb1] at this
     exact hf (Option.some.inj this)
    ·have ht:b=true:=by simpa using ht
     subst ht
     refine g_bind (Ω:=fun o=>match o with | .inl _=>∃k,k<i∧(l.getD k default).data.toList=(l.getD i default).data.toList | .inr _=>∀k,k<i→(l.getD k default).data.toList≠(l.getD i default).data.toList)
      (g_loop (fun s:Int=>∃q:Nat,s=q∧q≤i∧∀k,k<q→(l.getD k default).data.toList≠(l.getD i default).data.toList) (fun s=>i-s.toNat) ?_ ⟨0,rfl,by omega,fun _ h=>by omega⟩) fun o ho=>?_
     ·rintro s ⟨q,rfl,hq,h3⟩
      rw [Int.toNat_natCast]
      refine g_if (fun hlt2=>g_ck (by omega) (g_ck (by omega) (g_if (fun he=>g_out ⟨q,by omega,he⟩) fun hne=>g_i64 (by omega) (g_go ⟨q+1,by omega,by omega,fun k hk=>?_⟩ (by omega))))) fun hge=>g_out fun k hk=>h3 k (by omega)
      by_cases e:k=q
      ·subst e;exact hne
      ·exact h3 k (by omega)
     ·refine g_sm (fun v hv=>?_) fun v hv=>?_
      ·subst hv
       obtain ⟨k,hk,he⟩:=ho
       exact g_out fun hh=>nodup_getD.1 hh.2 i k hk hlt he
      ·subst hv
       dsimp only
       refine g_i64 (by omega) (g_go ⟨i+1,by omega,by omega,fun j hj=>?_,fun j k hk hj=>?_⟩ (by omega))
       ·by_cases e:j=i
        ·subst e;exact hb1
        ·exact h1 j (by omega)
       ·by_cases e:j=i
        ·subst e;exact ho k hk
        ·exact h2 j k hk (by omega)
   ·have e:i=l.length:=by omega
    subst e
    refine ⟨fun x hx=>?_,nodup_getD.2 h2⟩
    obtain ⟨j,hj,rfl⟩:=List.getElem_of_mem hx
    have:=h1 j hj
    rwa [getD_eq hj] at this
  ·have hall:(l.all fun x=>(g63 x).getD false)=true↔∀x∈l,g63 x=some true:=by
    rw [List.all_eq_true]
    constructor
    ·intro h x hx
     obtain ⟨b,hb,_⟩:=hlab x hx
     have:=h x hx
     rw [hb] at this
     rw [hb]
     exact congrArg some this
    ·intro h x hx
     rw [h x hx];rfl
   cases o with
   | inl _=>
    refine g_some ?_
    have:¬(((l.all fun x=>(g63 x).getD false) && decide l.Nodup)=true):=fun hh=>by
     rw [Bool.and_eq_true,hall,decide_eq_true_eq] at hh
     exact ho hh
    simpa using this
   | inr _=>
    refine g_some ?_
    rw [hall.2 ho.1,decide_eq_true ho.2]
    rfl
end Go.Proofs.YtlehbfahkjhgnaaGreat
end
section
namespace Go.Proofs.YtlehbfahkjhgnaaGreat
open Go Go.Eng
def by8 (s:ByteArray) (k:Nat):Int:=((s.data.toList[k]?.getD 0).toNat:Int)
def dgs (s:ByteArray) (k:Nat):Prop:=∀j,j<k→48≤by8 s j∧by8 s j≤57
def dval (s:ByteArray):Nat→Int
 | 0=>0
 | k+1=>10 * dval s k+(by8 s k-48)
theorem dval_bd {s:ByteArray}:∀{k:Nat},k≤10→dgs s k→0≤dval s k∧dval s k<10 ^ k
 | 0,_,_=>by simp [dval]
 | k+1,hk,h=>by
  have ih:=dval_bd (k:=k) (by omega) fun j hj=>h j (by omega)
  have hb:=h k (by omega)
  rw [dval,Int.pow_succ]
  omega
theorem pow_le {k:Nat} (hk:k≤10):(10:Int) ^ k≤10000000000:=by
 have:k=0∨k=1∨k=2∨k=3∨k=4∨k=5∨k=6∨k=7∨k=8∨k=9∨k=10:=by omega
 rcases this with rfl | rfl | rfl | rfl | rfl | rfl | rfl | rfl | rfl | rfl | rfl<;>decide
theorem by8_bd (s:ByteArray) (k:Nat):0≤by8 s k∧by8 s k≤255:=by
 unfold by8
 have:=(s.data.toList[k]?.getD 0).toNat_lt
 omega
theorem number_both (s:ByteArray) (hs:s.size≤10):(g150 s=some (0,false)∧g167 s=some (-1))∨∃n,0≤n∧g150 s=some (n,true)∧g167 s=some n:=by
 by_cases hd:dgs s s.size
 ·right
  have hb:=dval_bd hs hd
  refine ⟨dval s s.size,hb.1,g_eq ?_,g_eq ?_⟩
  ·unfold g150
   refine g_jo (g_bind (Ω:=fun o=>o=.inr (dval s s.size)) (g_loop (fun p:Int×Int=>∃k:Nat,k≤s.size∧p.2=k∧p.1=dval s k) (fun p=>s.size-p.2.toNat) ?_ ⟨0,by omega,rfl,rfl⟩) ?_)
   ·rintro ⟨n,i⟩ ⟨k,hk,hi,hn⟩
    dsimp only at hi hn ⊢
    subst hi hn
    refine g_if (fun hlt=>?_) fun hge=>g_out (by rw [show k=s.size by omega])
    have hlt:k<s.size:=by omega
    have h8:=hd k hlt
    have hv:=dval_bd (k:=k) (by omega) fun j hj=>hd j (by omega)
    have hp:=pow_le (k:=k) (by omega)
    have e8:((s.data.toList[k]?.getD 0).toNat:Int)=by8 s k:=rfl
    simp only [Int.toNat_natCast,e8]
    exact g_ck (by omega) (g_f (by omega) (g_ck (by omega) (g_f (by omega) (g_i64 (by omega) (g_ck (by omega) (g_u8 (by omega) (g_i64 (by omega) (g_i64 (by omega) (g_i64 (by omega) (g_go ⟨k+1,by omega,by simp,rfl⟩ (by dsimp only;omega)))))))))))
   ·rintro o rfl
    exact g_some rfl
  ·unfold g167
   refine g_jo (g_bind (Ω:=fun o=>o=.inr (dval s s.size)) (g_loop (fun p:Int×Int=>∃k:Nat,k≤s.size∧p.2=k∧p.1=dval s k) (fun p=>s.size-p.2.toNat) ?_ ⟨0,by omega,rfl,rfl⟩) ?_)
   ·rintro ⟨n,i⟩ ⟨k,hk,hi,hn⟩
    dsimp only at hi hn ⊢
    subst hi hn
    refine g_if (fun hlt=>?_) fun hge=>g_out (by rw [show k=s.size by omega])
    have hlt:k<s.size:=by omega
    have h8:=hd k hlt
    have hv:=dval_bd (k:=k) (by omega) fun j hj=>hd j (by omega)
    have hp:=pow_le (k:=k) (by omega)
    have e8:((s.data.toList[k]?.getD 0).toNat:Int)=by8 s k:=rfl
    simp only [Int.toNat_natCast,e8]
    exact g_ck (by omega) (g_f (by omega) (g_ck (by omega) (g_f (by omega) (g_i64 (by omega) (g_ck (by omega) (g_u8 (by omega) (g_i64 (by omega) (g_i64 (by omega) (g_i64 (by omega) (g_go ⟨k+1,by omega,by simp,by dsimp only;rw [dval];omega⟩ (by dsimp only;omega)))))))))))
   ·rintro o rfl
    exact g_some rfl
 ·left
  refine ⟨g_eq ?_,g_eq ?_⟩
  ·unfold g150
   refine g_jo (g_bind (Ω:=fun o=>o=.inl ()) (g_loop (fun p:Int×Int=>∃k:Nat,k≤s.size∧p.2=k∧p.1=dval s k∧dgs s k) (fun p=>s.size-p.2.toNat) ?_ ⟨0,by omega,rfl,rfl,fun _ h=>by omega⟩) ?_)
   ·rintro ⟨n,i⟩ ⟨k,hk,hi,hn,hdk⟩
    dsimp only at hi hn ⊢
    subst hi hn
    have e8:((s.data.toList[k]?.getD 0).toNat:Int)=by8 s k:=rfl
    simp only [Int.toNat_natCast,e8]
    refine g_if (fun hlt=>?_) fun hge=>absurd (by rwa [show k=s.size by omega] at hdk) hd
    have hlt:k<s.size:=by omega
    have hv:=dval_bd (k:=k) (by omega) hdk
    have hp:=pow_le (k:=k) (by omega)
    have hb:=by8_bd s k
    refine g_ck (by omega) (g_if (fun _=>g_out rfl) fun h1=>g_ck (by omega) (g_if (fun _=>g_out rfl) fun h2=>?_))
    refine (g_i64 (by omega) (g_ck (by omega) (g_u8 (by omega) (g_i64 (by omega) (g_i64 (by omega) (g_i64 (by omega) (g_go ⟨k+1,by omega,by simp,rfl,fun j hj=>?_⟩ (by dsimp only;omega))))))))
    by_cases e:j=k
    ·subst e;omega
    ·exact hdk j (by omega)
   ·rintro o rfl
    exact g_some rfl
  ·unfold g167
   refine g_jo (g_bind (Ω:=fun o=>o=.inl ()) (g_loop (fun p:Int×Int=>∃k:Nat,k≤s.size∧p.2=k∧p.1=dval s k∧dgs s k) (fun p=>s.size-p.2.toNat) ?_ ⟨0,by omega,rfl,rfl,fun _ h=>by omega⟩) ?_)
   ·rintro ⟨n,i⟩ ⟨k,hk,hi,hn,hdk⟩
    dsimp only at hi hn ⊢
    subst hi hn
    have e8:((s.data.toList[k]?.getD 0).toNat:Int)=by8 s k:=rfl
    simp only [Int.toNat_natCast,e8]
    refine g_if (fun hlt=>?_) fun hge=>absurd (by rwa [show k=s.size by omega] at hdk) hd
    have hlt:k<s.size:=by omega
    have hv:=dval_bd (k:=k) (by omega) hdk
    have hp:=pow_le (k:=k) (by omega)
    have hb:=by8_bd s k
    refine g_ck (by omega) (g_if (fun _=>g_out rfl) fun h1=>g_ck (by omega) (g_if (fun _=>g_out rfl) fun h2=>?_))
    refine (g_i64 (by omega) (g_ck (by omega) (g_u8 (by omega) (g_i64 (by omega) (g_i64 (by omega) (g_i64 (by omega) (g_go ⟨k+1,by omega,by simp,by dsimp only;rw [dval];omega,fun j hj=>?_⟩ (by dsimp only;omega))))))))
    by_cases e:j=k
    ·subst e;omega
    ·exact hdk j (by omega)
   ·rintro o rfl
    exact g_some rfl
theorem gsome (s:ByteArray) (hs:s.size≤10):∃u,g150 s=some u:=by rcases number_both s hs with ⟨h,_⟩ | ⟨n,_,h,_⟩<;>exact ⟨_,h⟩
theorem gsome' (s:ByteArray) (hs:s.size≤10):∃u,g167 s=some u:=by rcases number_both s hs with ⟨_,h⟩ | ⟨n,_,_,h⟩<;>exact ⟨_,h⟩
theorem leap_both (y:Int):∃b,g188 y=some b∧g228 y=some b:=by
 unfold g188 g228
 by_cases h1:y<1
 ·exact ⟨false,by rw [if_pos h1],by rw [if_neg (by omega)]⟩
 by_cases h2:9999<y
 ·exact ⟨false,by rw [if_neg h1,if_pos h2],by rw [if_pos (by omega),if_neg (by omega)]⟩
 by_cases h3:Int.tmod y 4=0
 ·by_cases h4:Int.tmod y 100=0
  ·exact ⟨decide (Int.tmod y 400=0),by rw [if_neg h1,if_neg h2,if_neg (not_not_intro h3),if_neg (not_not_intro h4)],by rw [if_pos (by omega),if_pos (by omega),if_pos h3,if_neg (not_not_intro h4)]⟩
  ·exact ⟨true,by rw [if_neg h1,if_neg h2,if_neg (not_not_intro h3),if_pos h4],by rw [if_pos (by omega),if_pos (by omega),if_pos h3,if_pos h4]⟩
 ·exact ⟨false,by rw [if_neg h1,if_neg h2,if_pos h3],by rw [if_pos (by omega),if_pos (by omega),if_neg h3]⟩
theorem days_both (y m:Int):∃n,g151 y m=some n∧g208 y m=some n∧((y<1∨9999<y∨m<1∨12<m)→n=0):=by
 by_cases h:y<1∨9999<y∨m<1∨12<m
 ·refine ⟨0,by unfold g151;rw [if_pos h],?_,fun _=>rfl⟩
  unfold g208
  by_cases p1:y<1
  ·rw [if_pos p1]
  by_cases p2:9999<y
  ·rw [if_neg p1,if_pos p2]
  by_cases p3:m<1
  ·rw [if_neg p1,if_neg p2,if_pos p3]
  ·rw [if_neg p1,if_neg p2,if_neg p3,if_pos (by omega)]
 ·have e1:g151 y m=if m=2 then (g188 y).bind fun b=>some (if b=true then 29 else 28) else some (daysIn m):=by unfold g151;rw [if_neg h]
  have e2:g208 y m=if m=2 then (g228 y).bind fun v=>if v=true then some 29 else some 28 else if m=4 then some 30 else if m=6 then some 30 else if m=9 then some 30 else if m=11 then some 30 else some 31:=by
   unfold g208;rw [if_neg (by omega),if_neg (by omega),if_neg (by omega),if_neg (by omega)]
  by_cases h2:m=2
  ·obtain ⟨b,q1,q2⟩:=leap_both y
   rw [e1,e2,if_pos h2,if_pos h2,q1,q2,Option.bind_some,Option.bind_some]
   cases b<;>exact ⟨_,rfl,rfl,fun h'=>absurd h' h⟩
  ·refine ⟨daysIn m,by rw [e1,if_neg h2],?_,fun h'=>absurd h' h⟩
   rw [e2,if_neg h2]
   unfold daysIn
   rw [if_neg h2]
   by_cases p1:m=4
   ·rw [if_pos p1,if_pos (by omega)]
   by_cases p2:m=6
   ·rw [if_neg p1,if_pos p2,if_pos (by omega)]
   by_cases p3:m=9
   ·rw [if_neg p1,if_neg p2,if_pos p3,if_pos (by omega)]
   by_cases p4:m=11
   ·rw [if_neg p1,if_neg p2,if_neg p3,if_pos p4,if_pos (by omega)]
   ·rw [if_neg p1,if_neg p2,if_neg p3,if_neg p4,if_neg (by omega)]
theorem date_both (s:ByteArray):∃(b:Bool) (n:Int),g50 s=some n∧g60 s=some b∧(b=true↔n=0):=by
 suffices h:∃b:Bool,(∃d,g98 s=some (d,b))∧∃d,g109 s=some (d,b) by
  obtain ⟨b,⟨d,h1⟩,⟨d',h2⟩⟩:=h
  refine ⟨b,(if b then 0 else 200),?_,?_,?_⟩
  ·unfold g50;rw [h1];cases b<;>rfl
  ·unfold g60;rw [h2];rfl
  ·cases b<;>simp
 by_cases h1:(s.size:Int)=10
 rotate_left
 ·exact ⟨false,⟨(0,0,0),by unfold g98;rw [if_pos h1]⟩,⟨(0,0,0),by unfold g109;rw [if_pos h1]⟩⟩
 have k4:0≤(4:Int)∧4<(s.size:Int):=by omega
 have k7:0≤(7:Int)∧7<(s.size:Int):=by omega
 by_cases h2:((s.data.toList[(4:Int).toNat]?.getD 0).toNat:Int)=45
 rotate_left
 ·exact ⟨false,⟨(0,0,0),by unfold g98 ck;rw [if_neg (not_not_intro h1),if_pos k4,if_pos h2]⟩,⟨(0,0,0),by unfold g109 ck;rw [if_neg (not_not_intro h1),if_pos k4,if_pos h2]⟩⟩
 by_cases h3:((s.data.toList[(7:Int).toNat]?.getD 0).toNat:Int)=45
 rotate_left
 ·exact ⟨false,⟨(0,0,0),by unfold g98 ck;rw [if_neg (not_not_intro h1),if_pos k4,if_neg (not_not_intro h2),if_pos k7,if_pos h3]⟩,⟨(0,0,0),by unfold g109 ck;rw [if_neg (not_not_intro h1),if_pos k4,if_neg (not_not_intro h2),if_pos k7,if_pos h3]⟩⟩
 have c1:0≤(0:Int)∧(0:Int)≤(4:Int)∧(4:Int)≤(s.size:Int):=by omega
 have c2:0≤(5:Int)∧(5:Int)≤(7:Int)∧(7:Int)≤(s.size:Int):=by omega
 have c3:0≤(8:Int)∧(8:Int)≤(s.size:Int)∧(s.size:Int)≤(s.size:Int):=by omega
 have z1:(s.extract (0:Int).toNat (4:Int).toNat).size≤10:=by rw [ByteArray.size_extract];simp;omega
 have z2:(s.extract (5:Int).toNat (7:Int).toNat).size≤10:=by rw [ByteArray.size_extract];simp;omega
 have z3:(s.extract (8:Int).toNat (s.size:Int).toNat).size≤10:=by rw [ByteArray.size_extract];omega
 have is0:∀a b c:Int,c<1→g168 (a,b,c)=some false:=fun a b c h=>by unfold g168;rw [if_neg (by dsimp only;omega)]
 have is1:∀a b c:Int,∃n,g208 a b=some n∧(1≤c→g168 (a,b,c)=some (decide (c≤n))):=fun a b c=>by
  obtain ⟨n,_,h,_⟩:=days_both a b
  refine ⟨n,h,fun hc=>?_⟩
  unfold g168
  rw [if_pos (by dsimp only;omega)]
  dsimp only
  rw [h];rfl
 have is2:∀a b c:Int,(a<1∨b<1)→g168 (a,b,c)=some false:=fun a b c h=>by
  by_cases hc:c<1
  ·exact is0 a b c hc
  ·obtain ⟨n,e,k⟩:=is1 a b c
   obtain ⟨n',_,e',k'⟩:=days_both a b
   rw [e] at e'
   cases e'
   rw [k (by omega),k' (by omega)]
   exact congrArg some (decide_eq_false (by omega))
 have m98:∀u v w:Int×Bool,g150 (s.extract (0:Int).toNat (4:Int).toNat)=some u→g150 (s.extract (5:Int).toNat (7:Int).toNat)=some v→g150 (s.extract (8:Int).toNat (s.size:Int).toNat)=some w →
   ∀b:Bool,(u.2=true∧v.2=true∧w.2=true∧1≤w.1∧(∀n,g151 u.1 v.1=some n→w.1≤n)↔b=true)→∃d,g98 s=some (d,b):=by
  intro u v w e1 e2 e3 b hb
  suffices hG:Gives (g98 s) fun r=>r.2=b by
   obtain ⟨⟨d,b'⟩,e,rfl⟩:=hG
   exact ⟨d,e⟩
  unfold g98
  refine g_f (not_not_intro h1) (g_ck k4 (g_f (not_not_intro h2) (g_ck k7 (g_f (not_not_intro h3) (g_ck c1 (g_call e1 (g_ck c2 (g_call e2 (g_ck c3 (g_call e3 ?_))))))))))
  have bad:(¬(u.2=true∧v.2=true∧w.2=true∧1≤w.1∧(∀n,g151 u.1 v.1=some n→w.1≤n)))→Gives (some (((0:Int),(0:Int),(0:Int)),false)) fun r=>r.2=b:=fun h=>g_some (by
   have:¬b=true:=fun h'=>h (hb.2 h')
   simpa using this)
  refine g_jn (fun o:Bool=>o=true↔¬(u.2=true∧v.2=true∧w.2=true∧1≤w.1∧(∀n,g151 u.1 v.1=some n→w.1≤n))) (fun k hk=>?_) fun o ho=>?_
  ·refine g_if (fun h=>hk _ ⟨fun _ hh=>h hh.1,fun _=>rfl⟩) fun q1=>g_if (fun h=>hk _ ⟨fun _ hh=>h hh.2.1,fun _=>rfl⟩) fun q2=>g_if (fun h=>hk _ ⟨fun _ hh=>h hh.2.2.1,fun _=>rfl⟩) fun q3=>g_if (fun h=>hk _ ⟨fun _ hh=>by omega,fun _=>rfl⟩) fun q4=>?_
   obtain ⟨n,en,_⟩:=days_both u.1 v.1
   refine g_call en (hk _ ?_)
   rw [decide_eq_true_eq]
   refine ⟨fun h hh=>?_,fun h=>?_⟩
   ·have:=hh.2.2.2.2 n en;omega
   ·refine Classical.byContradiction fun h'=>h ⟨by simpa using q1,by simpa using q2,by simpa using q3,by omega,fun n' e'=>?_⟩
    rw [en] at e'
    cases e'
    omega
  ·refine g_if (fun h=>bad (ho.1 h)) fun h=>g_some ?_
   exact (hb.1 (Classical.not_not.1 fun h'=>h (ho.2 h'))).symm
 have m109:∀u v w:Int,g167 (s.extract (0:Int).toNat (4:Int).toNat)=some u→g167 (s.extract (5:Int).toNat (7:Int).toNat)=some v→g167 (s.extract (8:Int).toNat (s.size:Int).toNat)=some w →
   ∀b:Bool,g168 (u,v,w)=some b→∃d,g109 s=some (d,b):=by
  intro u v w e1 e2 e3 b hb
  suffices hG:Gives (g109 s) fun r=>r.2=b by
   obtain ⟨⟨d,b'⟩,e,rfl⟩:=hG
   exact ⟨d,e⟩
  unfold g109
  refine g_f (not_not_intro h1) (g_ck k4 (g_f (not_not_intro h2) (g_ck k7 (g_f (not_not_intro h3) (g_ck c1 (g_call e1 (g_ck c2 (g_call e2 (g_ck c3 (g_call e3 (g_call hb (g_if (fun h=>g_some ?_) fun h=>g_some ?_))))))))))))
  ·cases b<;>simp_all
  ·cases b<;>simp_all
 rcases number_both _ z1 with ⟨a1,a2⟩ | ⟨a,a0,a1,a2⟩
 ·exact ⟨false,m98 _ _ _ a1 (Classical.choose_spec (gsome _ z2)) (Classical.choose_spec (gsome _ z3)) false ⟨fun h=>(by cases h.1),fun h=>(by cases h)⟩,m109 _ _ _ a2 (Classical.choose_spec (gsome' _ z2)) (Classical.choose_spec (gsome' _ z3)) false (is2 _ _ _ (by omega))⟩
 rcases number_both _ z2 with ⟨b1,b2⟩ | ⟨b,b0,b1,b2⟩
 ·exact ⟨false,m98 _ _ _ a1 b1 (Classical.choose_spec (gsome _ z3)) false ⟨fun h=>(by cases h.2.1),fun h=>(by cases h)⟩,m109 _ _ _ a2 b2 (Classical.choose_spec (gsome' _ z3)) false (is2 _ _ _ (by omega))⟩
 rcases number_both _ z3 with ⟨d1,d2⟩ | ⟨c,c0,d1,d2⟩
 ·exact ⟨false,m98 _ _ _ a1 b1 d1 false ⟨fun h=>(by cases h.2.2.1),fun h=>(by cases h)⟩,m109 _ _ _ a2 b2 d2 false (is0 _ _ _ (by omega))⟩
 obtain ⟨n,e,k⟩:=is1 a b c
 obtain ⟨n',e1,e',_⟩:=days_both a b
 rw [e] at e'
 cases e'
 refine ⟨decide (1≤c∧c≤n),m98 _ _ _ a1 b1 d1 _ ?_,m109 _ _ _ a2 b2 d2 _ ?_⟩
 ·rw [decide_eq_true_eq]
  refine ⟨fun h=>⟨h.2.2.2.1,h.2.2.2.2 n e1⟩,fun h=>⟨rfl,rfl,rfl,h.1,fun n' h'=>?_⟩⟩
  rw [e1] at h'
  cases h'
  exact h.2
 ·by_cases hc:1≤c
  ·rw [k hc];simp [hc]
  ·rw [is0 _ _ _ (by omega)];simp [hc]
end Go.Proofs.YtlehbfahkjhgnaaGreat
end
section
namespace Go.Proofs.YtlehbfahkjhgnaaGreat
open Go Go.Eng
theorem both_of {x y:Option Bool} {p:Prop} (hx:Gives x fun b=>(b=true↔p)) (hy:Gives y fun b=>(b=true↔p)):∃b,x=some b∧y=some b∧(b=true↔p):=by
 obtain ⟨b,e1,k1⟩:=hx
 obtain ⟨c,e2,k2⟩:=hy
 have:b=c:=by cases b<;>cases c<;>simp_all
 subst this
 exact ⟨b,e1,e2,k1⟩
def fz (n:Nat):Prop:=FloatKind.f64.format.order n 0=some .eq
instance (n:Nat):Decidable (fz n):=by unfold fz;infer_instance
def Only (k:Int) (v:VV):Prop:=
 ((k=1∨k=2∨k=4)∨v.1.data.toList=(lit []).data.toList)∧((k=3∨k=6∨k=8)∨v.2.1=0)∧(k=5∨¬v.2.2.1=true)∧(k=7∨((v.2.2.2.1.length:Nat):Int)=0)∧(k=9∨fz v.2.2.2.2)
theorem g95_eq (k:Int):Gives (g95 k) fun m=>(m.1=true↔k=1∨k=2∨k=4)∧(m.2.1=true↔k=3∨k=6∨k=8)∧(m.2.2.1=true↔k=5)∧(m.2.2.2.1=true↔k=7)∧(m.2.2.2.2=true↔k=9):=by
 unfold g95
 refine g_jn (fun b:Bool=>b=true↔k=1∨k=2∨k=4) (fun K hK=>g_if (fun h=>hK _ (by simp [h])) fun h=>g_if (fun h2=>hK _ (by simp [h2])) fun h2=>hK _ (by simp [h,h2])) fun b hb=>?_
 refine g_if (fun h=>g_some ?_) fun h=>?_
 ·have:=hb.1 h
  simp;omega
 have hk:=fun h'=>h (hb.2 h')
 refine g_jn (fun b:Bool=>b=true↔k=3∨k=6∨k=8) (fun K hK=>g_if (fun h=>hK _ (by simp [h])) fun h=>g_if (fun h2=>hK _ (by simp [h2])) fun h2=>hK _ (by simp [h,h2])) fun c hc=>?_
 refine g_if (fun h=>g_some ?_) fun h'=>?_
 ·have:=hc.1 h
  simp;omega
 have hk2:=fun q=>h' (hc.2 q)
 refine g_if (fun h=>g_some (by simp;omega)) fun h3=>g_if (fun h=>g_some (by simp;omega)) fun h4=>g_if (fun h=>g_some (by simp;omega)) fun h5=>g_some ⟨⟨fun h=>(by cases h),fun h=>(hk h).elim⟩,⟨fun h=>(by cases h),fun h=>(hk2 h).elim⟩,⟨fun h=>(by cases h),fun h=>(h3 h).elim⟩,⟨fun h=>(by cases h),fun h=>(h4 h).elim⟩,⟨fun h=>(by cases h),fun h=>(h5 h).elim⟩⟩
theorem g48_tree {p1 p2 p3 p4 p5 m1 m2 m3 m4 m5:Bool} {k:Int} {v:VV} (hp:g94 v=some (p1,p2,p3,p4,p5)) (hm:g95 k=some (m1,m2,m3,m4,m5)) :
  Gives (g48 k v) fun b=>(b=true↔(p1=true→m1=true)∧(p2=true→m2=true)∧(p3=true→m3=true)∧(p4=true→m4=true)∧(p5=true→m5=true)):=by
 unfold g48
 refine g_call hp (g_call hm ?_)
 dsimp only
 repeat' (first | refine g_if (fun _=>?_) (fun _=>?_) | refine g_some ?_)
 all_goals simp_all
theorem only_both (k:Int) (v:VV):∃b,g48 k v=some b∧g57 k v=some b∧(b=true↔Only k v):=by
 refine both_of ?_ ?_
 ·obtain ⟨⟨m1,m2,m3,m4,m5⟩,hm,q1,q2,q3,q4,q5⟩:=g95_eq k
  refine g_mono (g48_tree rfl hm) fun b hb=>hb.trans ?_
  dsimp only at q1 q2 q3 q4 q5
  rw [q1,q2,q3,q4,q5]
  unfold Only fz
  simp only [decide_eq_true_eq]
  constructor
  ·rintro ⟨h1,h2,h3,h4,h5⟩
   refine ⟨Classical.or_iff_not_imp_right.2 h1,Classical.or_iff_not_imp_right.2 h2,Classical.or_iff_not_imp_right.2 fun h=>h3 (Classical.not_not.1 h),Classical.or_iff_not_imp_right.2 fun h=>h4 (by omega),Classical.or_iff_not_imp_right.2 h5⟩
  ·rintro ⟨h1,h2,h3,h4,h5⟩
   refine ⟨Classical.or_iff_not_imp_right.1 h1,Classical.or_iff_not_imp_right.1 h2,fun h=>h3.resolve_right (not_not_intro h),fun h=>h4.resolve_right (by omega),Classical.or_iff_not_imp_right.1 h5⟩
 ·unfold g57
  refine g_jn (fun b:Bool=>b=true↔k=1∨k=2∨k=4) (fun K hK=>g_if (fun h=>hK _ (by simp [h])) fun h=>g_if (fun h2=>hK _ (by simp [h2])) fun h2=>hK _ (by simp [h,h2])) fun b hb=>?_
  refine g_jn (fun b:Bool=>b=true↔k=3∨k=6∨k=8) (fun K hK=>g_if (fun h=>hK _ (by simp [h])) fun h=>g_if (fun h2=>hK _ (by simp [h2])) fun h2=>hK _ (by simp [h,h2])) fun c hc=>?_
  unfold Only
  rw [←hb,←hc]
  have e:∀n,(FloatKind.f64.format.order n 0=some .eq)=fz n:=fun _=>rfl
  simp only [e]
  repeat' (first | refine g_if (fun _=>?_) (fun _=>?_) | refine g_some ?_)
  all_goals simp_all
def OwnK (a:FF):Prop:=
 if a.1=1∨a.1=2 then 0≤a.2.2.2.2.1∧a.2.2.2.2.1≤a.2.2.2.2.2.1∧a.2.2.2.2.2.1≤4096
 else if a.1=3 then a.2.2.2.2.1≤a.2.2.2.2.2.1∧(-999999999999999≤a.2.2.2.2.1∧a.2.2.2.2.1≤999999999999999)∧-999999999999999≤a.2.2.2.2.2.1∧a.2.2.2.2.2.1≤999999999999999
 else if a.1=7 then 0≤a.2.2.2.2.1∧a.2.2.2.2.1≤a.2.2.2.2.2.1∧a.2.2.2.2.2.1≤((a.2.2.2.1.length:Nat):Int)
 else (a.1=9→∃n,g56 a=some n∧0<n)∧a.2.2.2.2.1=0∧a.2.2.2.2.2.1=0
def Own (a:FF):Prop:=
 ((a.1=6∨a.1=7∨a.1=8)→g54 a.2.2.2.1=some true)∧(¬(a.1=6∨a.1=7∨a.1=8)→a.2.2.2.1.length=0) ∧
  (a.1≠9→fz a.2.2.2.2.2.2.1∧fz a.2.2.2.2.2.2.2.1∧fz a.2.2.2.2.2.2.2.2.1)∧OwnK a
theorem g45_eq (k:Int):Gives (g45 k) fun b=>(b=true↔k=6∨k=7∨k=8):=by
 unfold g45
 exact g_if (fun h=>g_some (by simp [h])) fun h=>g_if (fun h2=>g_some (by simp [h2])) fun h2=>g_some (by simp [h,h2])
theorem g53_eq (k:Int):Gives (g53 k) fun b=>(b=true↔k=6∨k=7∨k=8):=by
 unfold g53
 exact g_if (fun h=>g_some (by simp [h])) fun h=>g_if (fun h2=>g_some (by simp [h2])) fun h2=>g_some (by simp [h,h2])
theorem g47_eq (n lo hi:Int):Gives (g47 n lo hi) fun b=>(b=true↔lo≤n∧n≤hi):=by
 unfold g47
 exact g_if (fun h=>g_some (by simp [h])) fun h=>g_some (by simp [h])
theorem g55_eq (n lo hi:Int):Gives (g55 n lo hi) fun b=>(b=true↔lo≤n∧n≤hi):=by
 unfold g55
 exact g_if (fun h=>g_some (by simp [h])) fun h=>g_some (by simp [h])
theorem ff:(false=true)↔False:=⟨fun h=>(by cases h),fun h=>h.elim⟩
theorem own_both (a:FF) (hl:a.2.2.2.1.length≤100000) (hs:∀x∈a.2.2.2.1,x.size≤50000):∃b,g19 a=some b∧g23 a=some b∧(b=true↔Own a):=by
 obtain ⟨ob,o1,o2⟩:=opts_both a.2.2.2.1 hl hs
 have hob:g54 a.2.2.2.1=some true↔ob=true:=by rw [o2];simp
 have e:∀n,(FloatKind.f64.format.order n 0=some .eq)=fz n:=fun _=>rfl
 refine both_of ?_ ?_
 ·unfold g19
  refine g_jn (fun _=>((a.1=6∨a.1=7∨a.1=8)→g54 a.2.2.2.1=some true)∧(¬(a.1=6∨a.1=7∨a.1=8)→a.2.2.2.1.length=0)) (fun K hK=>?_) fun u hu=>?_
  ·refine g_bind (g45_eq a.1) fun b hb=>g_if (fun h=>g_call o1 (g_if (fun h2=>g_some ?_) fun h2=>hK _ ⟨fun _=>hob.2 (by simpa using h2),fun h'=>absurd (hb.1 h) h'⟩)) fun h=>g_if (fun h2=>g_some ?_) fun h2=>hK _ ⟨fun h'=>absurd (hb.2 h') h,fun _=>by omega⟩
   ·exact ⟨fun h=>(by cases h),fun hO=>absurd (hob.1 (hO.1 (hb.1 h))) h2⟩
   ·exact ⟨fun h=>(by cases h),fun hO=>by have:=hO.2.1 (fun h'=>h (hb.2 h'));omega⟩
  ·simp only [e]
   refine g_jn (fun _=>a.1≠9→fz a.2.2.2.2.2.2.1∧fz a.2.2.2.2.2.2.2.1∧fz a.2.2.2.2.2.2.2.2.1) (fun K hK=>?_) fun u2 hu2=>?_
   ·refine g_if (fun h9=>g_if (fun h=>g_some ?_) fun h1=>g_if (fun h=>g_some ?_) fun h2=>g_if (fun h=>g_some ?_) fun h3=>hK _ fun _=>⟨Classical.not_not.1 h1,Classical.not_not.1 h2,Classical.not_not.1 h3⟩) fun h9=>hK _ fun h=>absurd h h9
    ·exact ⟨fun h=>(by cases h),fun hO=>absurd (hO.2.2.1 h9).1 h⟩
    ·exact ⟨fun h=>(by cases h),fun hO=>absurd (hO.2.2.1 h9).2.1 h⟩
    ·exact ⟨fun h=>(by cases h),fun hO=>absurd (hO.2.2.1 h9).2.2 h⟩
   ·have hO:Own a↔OwnK a:=⟨fun h=>h.2.2.2,fun h=>⟨hu.1,hu.2,hu2,h⟩⟩
    rw [hO]
    refine g_jn (fun b:Bool=>b=true↔a.1=1∨a.1=2) (fun K hK=>g_if (fun h=>hK _ (by simp [h])) fun h=>hK _ (by simp [h])) fun b hb=>?_
    unfold OwnK
    refine g_if (fun h=>?_) fun h=>?_
    ·rw [if_pos (hb.1 h)]
     exact g_if (fun h1=>g_bind (g47_eq _ _ _) fun c hc=>g_some (by rw [hc];simp [h1])) fun h1=>g_some (by simp [h1])
    ·rw [if_neg fun h'=>h (hb.2 h')]
     refine g_if (fun h3=>?_) fun h3=>?_
     ·rw [if_pos h3]
      exact g_if (fun h1=>g_bind (g47_eq _ _ _) fun c hc=>g_if (fun h2=>g_bind (g47_eq _ _ _) fun d hd=>g_some (by rw [hd];have:=hc.1 h2;simp [h1,this])) fun h2=>g_some (by simp only [ff,false_iff];exact fun hh=>h2 (hc.2 hh.2.1))) fun h1=>g_some (by simp only [ff,false_iff];exact fun hh=>h1 hh.1)
     ·rw [if_neg h3]
      refine g_if (fun h7=>?_) fun h7=>?_
      ·rw [if_pos h7]
       exact g_if (fun h1=>g_bind (g47_eq _ _ _) fun c hc=>g_some (by rw [hc];simp [h1])) fun h1=>g_some (by simp [h1])
      ·rw [if_neg h7]
       refine g_if (fun h9=>?_) fun h9=>?_
       ·obtain ⟨n,e',s1,s2,s3,s4,s5,s6⟩:=steps_both a.2.2.2.2.2.2.1 a.2.2.2.2.2.2.2.1 a.2.2.2.2.2.2.2.2.1
        have hn:=s6 a h9 rfl rfl rfl
        have h31:g31 a=some n:=by
         unfold g31
         rw [if_neg (not_not_intro h9),s1,Option.bind_some]
         by_cases he:e'=0
         ·rw [if_neg (not_not_intro he)]
         ·rw [if_pos he,s4 he]
        refine g_call (show g31 _=some n from h31) (g_if (fun h0=>g_some ?_) fun h0=>g_if (fun h1=>g_some ?_) fun h1=>g_some ?_)
        ·simp only [ff,false_iff]
         rintro ⟨hh,_⟩
         obtain ⟨m,hm,hm0⟩:=hh h9
         rw [hn] at hm
         cases hm
         omega
        ·rw [decide_eq_true_eq]
         exact ⟨fun h=>⟨fun _=>⟨n,hn,by omega⟩,h1,h⟩,fun h=>h.2.2⟩
        ·simp only [ff,false_iff]
         exact fun hh=>h1 hh.2.1
       ·exact g_if (fun h1=>g_some (by rw [decide_eq_true_eq];exact ⟨fun h=>⟨fun q=>absurd q h9,h1,h⟩,fun h=>h.2.2⟩)) fun h1=>g_some (by simp only [ff,false_iff];exact fun hh=>h1 hh.2.1)
 ·unfold g23
  refine g_jn (fun _=>((a.1=6∨a.1=7∨a.1=8)→g54 a.2.2.2.1=some true)∧(¬(a.1=6∨a.1=7∨a.1=8)→a.2.2.2.1.length=0)) (fun K hK=>?_) fun u hu=>?_
  ·refine g_bind (g53_eq a.1) fun b hb=>g_if (fun h=>g_call o2 (g_if (fun h2=>g_some ?_) fun h2=>g_bind (g53_eq a.1) fun c hc=>g_if (fun h3=>absurd (hc.2 (hb.1 h)) h3) fun h3=>hK _ ⟨fun _=>hob.2 (by simpa using h2),fun h'=>absurd (hb.1 h) h'⟩)) fun h=>g_bind (g53_eq a.1) fun c hc=>g_if (fun h3=>g_if (fun h2=>g_some ?_) fun h2=>hK _ ⟨fun h'=>absurd (hb.2 h') h,fun _=>by omega⟩) fun h3=>absurd (hb.2 (hc.1 (Classical.not_not.1 h3))) h
   ·exact ⟨fun h=>(by cases h),fun hO=>absurd (hob.1 (hO.1 (hb.1 h))) h2⟩
   ·exact ⟨fun h=>(by cases h),fun hO=>by have:=hO.2.1 (fun h'=>h (hb.2 h'));omega⟩
  ·simp only [e]
   refine g_jn (fun _=>a.1≠9→fz a.2.2.2.2.2.2.1∧fz a.2.2.2.2.2.2.2.1∧fz a.2.2.2.2.2.2.2.2.1) (fun K hK=>?_) fun u2 hu2=>?_
   ·refine g_if (fun h9=>g_if (fun h=>g_some ?_) fun h1=>g_if (fun h=>g_some ?_) fun h2=>g_if (fun h=>g_some ?_) fun h3=>hK _ fun _=>⟨Classical.not_not.1 h1,Classical.not_not.1 h2,Classical.not_not.1 h3⟩) fun h9=>hK _ fun h=>absurd h h9
    ·exact ⟨fun h=>(by cases h),fun hO=>absurd (hO.2.2.1 h9).1 h⟩
    ·exact ⟨fun h=>(by cases h),fun hO=>absurd (hO.2.2.1 h9).2.1 h⟩
    ·exact ⟨fun h=>(by cases h),fun hO=>absurd (hO.2.2.1 h9).2.2 h⟩
   ·have hO:Own a↔OwnK a:=⟨fun h=>h.2.2.2,fun h=>⟨hu.1,hu.2,hu2,h⟩⟩
    rw [hO]
    refine g_jn (fun b:Bool=>b=true↔a.1=1∨a.1=2) (fun K hK=>g_if (fun h=>hK _ (by simp [h])) fun h=>hK _ (by simp [h])) fun b hb=>?_
    unfold OwnK
    refine g_if (fun h=>?_) fun h=>?_
    ·rw [if_pos (hb.1 h)]
     exact g_if (fun h1=>g_if (fun h2=>g_some (by simp [h1,h2])) fun h2=>g_some (by simp [h2])) fun h1=>g_some (by simp [h1])
    ·rw [if_neg fun h'=>h (hb.2 h')]
     refine g_if (fun h3=>?_) fun h3=>?_
     ·rw [if_pos h3]
      exact g_if (fun h1=>g_bind (g55_eq _ _ _) fun c hc=>g_if (fun h2=>g_bind (g55_eq _ _ _) fun d hd=>g_some (by rw [hd];have:=hc.1 h2;simp [h1,this])) fun h2=>g_some (by simp only [ff,false_iff];exact fun hh=>h2 (hc.2 hh.2.1))) fun h1=>g_some (by simp only [ff,false_iff];exact fun hh=>h1 hh.1)
     ·rw [if_neg h3]
      refine g_if (fun h7=>?_) fun h7=>?_
      ·rw [if_pos h7]
       exact g_if (fun h1=>g_if (fun h2=>g_some (by simp [h1,h2])) fun h2=>g_some (by simp [h2])) fun h1=>g_some (by simp [h1])
      ·rw [if_neg h7]
       refine g_if (fun h9=>?_) fun h9=>?_
       ·obtain ⟨n,e',s1,s2,s3,s4,s5,s6⟩:=steps_both a.2.2.2.2.2.2.1 a.2.2.2.2.2.2.2.1 a.2.2.2.2.2.2.2.2.1
        have hn:=s6 a h9 rfl rfl rfl
        refine g_call (show g56 _=some n from hn) (g_if (fun h0=>g_if (fun h1=>g_some ?_) fun h1=>g_some ?_) fun h0=>g_some ?_)
        ·rw [decide_eq_true_eq]
         exact ⟨fun h=>⟨fun _=>⟨n,hn,by omega⟩,h1,h⟩,fun h=>h.2.2⟩
        ·simp only [ff,false_iff]
         exact fun hh=>h1 hh.2.1
        ·simp only [ff,false_iff]
         rintro ⟨hh,_⟩
         obtain ⟨m,hm,hm0⟩:=hh h9
         rw [hn] at hm
         cases hm
         omega
       ·exact g_if (fun h1=>g_some (by rw [decide_eq_true_eq];exact ⟨fun h=>⟨fun q=>absurd q h9,h1,h⟩,fun h=>h.2.2⟩)) fun h1=>g_some (by simp only [ff,false_iff];exact fun hh=>h1 hh.2.1)
end Go.Proofs.YtlehbfahkjhgnaaGreat
end
section
namespace Go.Proofs.YtlehbfahkjhgnaaGreat
open Go Go.Eng
def Rise (l:List Int) (m:Int):Prop:=∀i:Nat,i<l.length→(0≤l.getD i 0∧l.getD i 0<m)∧(0<i→l.getD (i-1) 0<l.getD i 0)
theorem g51_eq (l:List Int) (m:Int) (hl:l.length≤1000000):Gives (g51 l m) fun b=>(b=true↔Rise l m):=by
 unfold g51
 refine g_jo (g_bind (Ω:=fun o=>match o with | .inl _=>¬Rise l m | .inr _=>Rise l m) (g_loop (fun s:Int=>∃i:Nat,s=i∧i≤l.length∧∀j,j<i→(0≤l.getD j 0∧l.getD j 0<m)∧(0<j→l.getD (j-1) 0<l.getD j 0)) (fun s=>l.length-s.toNat) ?_ ⟨0,rfl,by omega,fun _ h=>by omega⟩) fun o ho=>?_)
 ·rintro s ⟨i,rfl,hi,h⟩
  refine g_if (fun hlt=>?_) fun hge=>g_out fun j hj=>h j (by omega)
  have hlt:i<l.length:=by omega
  have e1:((i:Int)-1).toNat=i-1:=by omega
  simp only [Int.toNat_natCast,e1]
  refine g_ck (by omega) (g_if (fun h1=>g_out fun hR=>by have:=(hR i hlt).1;omega) fun h1=>g_if (fun h2=>g_out fun hR=>by have:=(hR i hlt).1;omega) fun h2=>?_)
  refine g_if (fun h3=>g_i64 (by omega) (g_ck (by omega) (g_if (fun h4=>g_out fun hR=>by have:=(hR i hlt).2 (by omega);omega) fun h4=>?_))) fun h3=>?_
  ·refine g_i64 (by omega) (g_go ⟨i+1,by omega,by omega,fun j hj=>?_⟩ (by omega))
   by_cases e:j=i
   ·subst e;exact ⟨by omega,fun _=>by omega⟩
   ·exact h j (by omega)
  ·refine g_i64 (by omega) (g_go ⟨i+1,by omega,by omega,fun j hj=>?_⟩ (by omega))
   by_cases e:j=i
   ·subst e;exact ⟨by omega,fun _=>by omega⟩
   ·exact h j (by omega)
 ·refine g_sm (fun v hv=>?_) fun v hv=>?_
  ·subst hv;exact g_some ⟨fun h=>(by cases h),fun h=>absurd h ho⟩
  ·subst hv;exact g_some ⟨fun _=>ho,fun _=>rfl⟩
def Kd (k:Int):Prop:=k=1∨k=2∨k=3∨k=4∨k=5∨k=6∨k=7∨k=8∨k=9
theorem value_both (a:FF) (v:VV) (hS:v.1.size≤50000) (hL:v.2.2.2.1.length≤1000000) (hF:v.2.2.2.2<18446744073709551616) (hO:a.2.2.2.1.length≤100000) :
  ∃b,g20 a v=some b∧g24 a v=some b∧(b=true→Kd a.1∧((a.1=6∨a.1=8)→0≤v.2.1∧v.2.1<((a.2.2.2.1.length:Nat):Int))):=by
 obtain ⟨o,e1,e2,_⟩:=only_both a.1 v
 have e1:g48 a.1 (v.1,v.2.1,v.2.2.1,v.2.2.2.1,v.2.2.2.2)=some o:=e1
 have e2:g57 a.1 (v.1,v.2.1,v.2.2.1,v.2.2.2.1,v.2.2.2.2)=some o:=e2
 cases o with
 | false=>
  refine ⟨false,g_eq ?_,g_eq ?_,fun h=>by cases h⟩
  ·unfold g20;exact g_call e1 (g_t (by simp) (g_some rfl))
  ·unfold g24;exact g_call e2 (g_t (by simp) (g_some rfl))
 | true=>
 suffices hh:∃p:Prop,Gives (g20 a v) (fun b=>(b=true↔p))∧Gives (g24 a v) (fun b=>(b=true↔p))∧(p→Kd a.1∧((a.1=6∨a.1=8)→0≤v.2.1∧v.2.1<((a.2.2.2.1.length:Nat):Int))) by
  obtain ⟨p,q1,q2,q3⟩:=hh
  obtain ⟨b,r1,r2,r3⟩:=both_of q1 q2
  exact ⟨b,r1,r2,fun h=>q3 (r3.1 h)⟩
 unfold g20 g24
 have J:∀{K:Bool→Option Bool} {Φ:Bool→Prop},(∀b:Bool,(b=true↔a.1=1∨a.1=2)→Gives (K b) Φ)→Gives (jn (α:=_) (β:=Bool) (fun k=>if a.1=1 then k (decide (a.1=1)) else k (decide (a.1=2))) K) Φ:=fun {K Φ} hK=>
  g_jn (fun b:Bool=>b=true↔a.1=1∨a.1=2) (fun k hk=>g_if (fun h=>hk _ (by simp [h])) fun h=>hk _ (by simp [h])) hK
 have J2:∀{K:Bool→Option Bool} {Φ:Bool→Prop},(∀b:Bool,(b=true↔a.1=6∨a.1=8)→Gives (K b) Φ)→Gives (jn (α:=_) (β:=Bool) (fun k=>if a.1=6 then k (decide (a.1=6)) else k (decide (a.1=8))) K) Φ:=fun {K Φ} hK=>
  g_jn (fun b:Bool=>b=true↔a.1=6∨a.1=8) (fun k hk=>g_if (fun h=>hk _ (by simp [h])) fun h=>hk _ (by simp [h])) hK
 by_cases k1:a.1=1∨a.1=2
 ·obtain ⟨p,n,hn,t1,_,t,ss,t2,t3,t4,t5⟩:=text_both v.1 hS
  refine ⟨p∧(n:Int)≤a.2.2.2.2.2.1,?_,?_,fun _=>⟨by unfold Kd;omega,fun h=>by omega⟩⟩
  ·refine g_call e1 (g_f (by simp) (J fun b hb=>g_t (hb.2 k1) (g_bind (t1 _ _) fun c hc=>g_some (hc.trans ⟨fun h=>⟨h.1,h.2.2⟩,fun h=>⟨h.1,by omega,h.2⟩⟩))))
  ·refine g_call e2 (g_f (by simp) (g_jo (J fun b hb=>g_t (hb.2 k1) (g_call t2 (g_if (fun h=>g_call t3 (g_some ?_)) fun h=>g_some ?_)))))
   ·rw [decide_eq_true_eq,t5];exact ⟨fun h'=>⟨t4.1 h,h'⟩,fun h'=>h'.2⟩
   ·simp only [ff,false_iff];exact fun h'=>h (t4.2 h'.1)
 by_cases k3:a.1=3
 ·refine ⟨-999999999999999≤v.2.1∧v.2.1≤999999999999999,?_,?_,fun _=>⟨by unfold Kd;omega,fun h=>by omega⟩⟩
  ·exact g_call e1 (g_f (by simp) (J fun b hb=>g_f (fun h=>k1 (hb.1 h)) (g_t k3 (g_bind (g47_eq _ _ _) fun c hc=>g_some hc))))
  ·exact g_call e2 (g_f (by simp) (g_jo (J fun b hb=>g_f (fun h=>k1 (hb.1 h)) (g_t k3 (g_bind (g55_eq _ _ _) fun c hc=>g_some hc)))))
 by_cases k4:a.1=4
 ·obtain ⟨c,n,d1,d2,d3⟩:=date_both v.1
  refine ⟨v.1.data.toList=(lit []).data.toList∨c=true,?_,?_,fun _=>⟨by unfold Kd;omega,fun h=>by omega⟩⟩
  ·refine g_call e1 (g_f (by simp) (J fun b hb=>g_f (fun h=>k1 (hb.1 h)) (g_f k3 (g_t k4 (g_if (fun h=>g_some (by simp [h])) fun h=>g_call d1 (g_some ?_))))))
   rw [decide_eq_true_eq,←d3];simp [h]
  ·refine g_call e2 (g_f (by simp) (g_jo (J fun b hb=>g_f (fun h=>k1 (hb.1 h)) (g_f k3 (g_t k4 (g_if (fun h=>g_some (by simp [h])) fun h=>g_call d2 (g_some (by simp [h]))))))))
 by_cases k5:a.1=5
 ·refine ⟨True,?_,?_,fun _=>⟨by unfold Kd;omega,fun h=>by omega⟩⟩
  ·exact g_call e1 (g_f (by simp) (J fun b hb=>g_f (fun h=>k1 (hb.1 h)) (g_f k3 (g_f k4 (g_t k5 (g_some (by simp)))))))
  ·exact g_call e2 (g_f (by simp) (g_jo (J fun b hb=>g_f (fun h=>k1 (hb.1 h)) (g_f k3 (g_f k4 (J2 fun c hc=>g_f (fun h=>by have:=hc.1 h;omega) (g_f (by omega) (g_f (by omega) (g_some (by simp [k5]))))))))))
 by_cases k6:a.1=6∨a.1=8
 ·refine ⟨0≤v.2.1∧v.2.1≤((a.2.2.2.1.length:Nat):Int)-1,?_,?_,fun h=>⟨by unfold Kd;omega,fun _=>by omega⟩⟩
  ·exact g_call e1 (g_f (by simp) (J fun b hb=>g_f (fun h=>k1 (hb.1 h)) (g_f k3 (g_f k4 (g_f k5 (J2 fun c hc=>g_t (hc.2 k6) (g_i64 (by omega) (g_bind (g47_eq _ _ _) fun d hd=>g_some hd))))))))
  ·exact g_call e2 (g_f (by simp) (g_jo (J fun b hb=>g_f (fun h=>k1 (hb.1 h)) (g_f k3 (g_f k4 (J2 fun c hc=>g_t (hc.2 k6) (g_i64 (by omega) (g_bind (g55_eq _ _ _) fun d hd=>g_some hd))))))))
 by_cases k7:a.1=7
 ·refine ⟨Rise v.2.2.2.1 ((a.2.2.2.1.length:Nat):Int),?_,?_,fun h=>⟨by unfold Kd;omega,fun _=>by omega⟩⟩
  ·exact g_call e1 (g_f (by simp) (J fun b hb=>g_f (fun h=>k1 (hb.1 h)) (g_f k3 (g_f k4 (g_f k5 (J2 fun c hc=>g_f (fun h=>k6 (hc.1 h)) (g_t k7 (g_bind (g51_eq _ _ hL) fun d hd=>g_some hd))))))))
  ·refine g_call e2 (g_f (by simp) (g_jo (J fun b hb=>g_f (fun h=>k1 (hb.1 h)) (g_f k3 (g_f k4 (J2 fun c hc=>g_f (fun h=>k6 (hc.1 h)) (g_t k7 ?_)))))))
   have hm:(0:Int)≤((a.2.2.2.1.length:Nat):Int)∧((a.2.2.2.1.length:Nat):Int)≤100000:=by omega
   generalize ((a.2.2.2.1.length:Nat):Int)=m at hm
   generalize v.2.2.2.1=l at hL
   refine g_jo (g_bind (Ω:=fun o=>match o with | .inl _=>¬Rise l m | .inr _=>Rise l m) (g_loop (fun s:Int=>∃i:Nat,s=i∧i≤l.length∧∀j,j<i→(0≤l.getD j 0∧l.getD j 0<m)∧(0<j→l.getD (j-1) 0<l.getD j 0)) (fun s=>l.length-s.toNat) ?_ ⟨0,rfl,by omega,fun _ h=>by omega⟩) fun o ho=>?_)
   ·rintro s ⟨i,rfl,hi,h⟩
    refine g_if (fun hlt=>?_) fun hge=>g_out fun j hj=>h j (by omega)
    have hlt:i<l.length:=by omega
    have e1:((i:Int)-1).toNat=i-1:=by omega
    simp only [Int.toNat_natCast,e1]
    refine g_ck (by omega) (g_i64 (by omega) (g_bind (g55_eq _ _ _) fun d hd=>g_if (fun h1=>g_out fun hR=>h1 (hd.2 (by have:=(hR i hlt).1;omega))) fun h1=>?_))
    have h1:=hd.1 (Classical.not_not.1 h1)
    refine g_if (fun h3=>g_ck (by omega) (g_i64 (by omega) (g_ck (by omega) (g_if (fun h4=>g_out fun hR=>by have:=(hR i hlt).2 (by omega);omega) fun h4=>?_)))) fun h3=>?_
    ·refine g_i64 (by omega) (g_go ⟨i+1,by omega,by omega,fun j hj=>?_⟩ (by omega))
     by_cases e:j=i
     ·subst e;exact ⟨by omega,fun _=>by omega⟩
     ·exact h j (by omega)
    ·refine g_i64 (by omega) (g_go ⟨i+1,by omega,by omega,fun j hj=>?_⟩ (by omega))
     by_cases e:j=i
     ·subst e;exact ⟨by omega,fun _=>by omega⟩
     ·exact h j (by omega)
   ·refine g_sm (fun v hv=>?_) fun v hv=>?_
    ·subst hv;exact g_some ⟨fun h=>(by cases h),fun h=>absurd h ho⟩
    ·subst hv;exact g_some ⟨fun _=>ho,fun _=>rfl⟩
 by_cases k9:a.1=9
 ·obtain ⟨p,q,c,p1,p2⟩:=place_both (a:=a) k9 hF
  have p1:g52 (a.1,a.2.1,a.2.2.1,a.2.2.2.1,a.2.2.2.2.1,a.2.2.2.2.2.1,a.2.2.2.2.2.2.1,a.2.2.2.2.2.2.2.1,a.2.2.2.2.2.2.2.2.1,a.2.2.2.2.2.2.2.2.2.1,a.2.2.2.2.2.2.2.2.2.2.1,a.2.2.2.2.2.2.2.2.2.2.2.1,a.2.2.2.2.2.2.2.2.2.2.2.2.1,a.2.2.2.2.2.2.2.2.2.2.2.2.2.1,a.2.2.2.2.2.2.2.2.2.2.2.2.2.2.1,a.2.2.2.2.2.2.2.2.2.2.2.2.2.2.2) v.2.2.2.2=some (p,c):=p1
  have p2:g61 (a.1,a.2.1,a.2.2.1,a.2.2.2.1,a.2.2.2.2.1,a.2.2.2.2.2.1,a.2.2.2.2.2.2.1,a.2.2.2.2.2.2.2.1,a.2.2.2.2.2.2.2.2.1,a.2.2.2.2.2.2.2.2.2.1,a.2.2.2.2.2.2.2.2.2.2.1,a.2.2.2.2.2.2.2.2.2.2.2.1,a.2.2.2.2.2.2.2.2.2.2.2.2.1,a.2.2.2.2.2.2.2.2.2.2.2.2.2.1,a.2.2.2.2.2.2.2.2.2.2.2.2.2.2.1,a.2.2.2.2.2.2.2.2.2.2.2.2.2.2.2) v.2.2.2.2=some (q,c):=p2
  refine ⟨c=true,?_,?_,fun _=>⟨by unfold Kd;omega,fun h=>by omega⟩⟩
  ·exact g_call e1 (g_f (by simp) (J fun b hb=>g_f (fun h=>k1 (hb.1 h)) (g_f k3 (g_f k4 (g_f k5 (J2 fun d hd=>g_f (fun h=>k6 (hd.1 h)) (g_f k7 (g_t k9 (g_call p1 (g_some Iff.rfl))))))))))
  ·exact g_call e2 (g_f (by simp) (g_jo (J fun b hb=>g_f (fun h=>k1 (hb.1 h)) (g_f k3 (g_f k4 (J2 fun d hd=>g_f (fun h=>k6 (hd.1 h)) (g_f k7 (g_t k9 (g_call p2 (g_some Iff.rfl))))))))))
 ·refine ⟨False,?_,?_,fun h=>h.elim⟩
  ·exact g_call e1 (g_f (by simp) (J fun b hb=>g_f (fun h=>k1 (hb.1 h)) (g_f k3 (g_f k4 (g_f k5 (J2 fun d hd=>g_f (fun h=>k6 (hd.1 h)) (g_f k7 (g_f k9 (g_some ff)))))))))
  ·exact g_call e2 (g_f (by simp) (g_jo (J fun b hb=>g_f (fun h=>k1 (hb.1 h)) (g_f k3 (g_f k4 (J2 fun d hd=>g_f (fun h=>k6 (hd.1 h)) (g_f k7 (g_f k9 (g_some (by simp [k5]))))))))))
end Go.Proofs.YtlehbfahkjhgnaaGreat
end
section
namespace Go.Proofs.YtlehbfahkjhgnaaGreat
open Go Go.Eng
theorem ext_size (s:ByteArray) (n:Nat):(s.extract 0 n).size≤n:=by rw [ByteArray.size_extract];omega
theorem g5_eq (v:VV):Gives (g5 v) fun r=>r.1.size≤300∧r.2.2.2.1.length≤300∧r.2.2.2.2=v.2.2.2.2:=by
 unfold g5
 rw [gmin_eq,gmin_eq]
 refine g_ck (by omega) (g_ck (by omega) (g_some ⟨?_,?_,rfl⟩))
 ·refine Nat.le_trans (ext_size _ _) ?_
  omega
 ·dsimp only
  rw [List.length_take]
  omega
theorem g4_eq (a:FF):Gives (g4 a) fun r=>r.2.2.2.1.length≤40∧∀x∈r.2.2.2.1,x.size≤300:=by
 unfold g4
 rw [gmin_eq,gmin_eq]
 refine g_ck (by omega) (g_ck (by omega) (g_bind (g5_eq _) fun w _=>g_jo (g_bind (Ω:=fun o:List ByteArray=>o.length≤40∧∀x∈o,x.size≤300)
  (g_loop (fun p:List ByteArray×Int=>0≤p.2∧p.2≤40∧p.1.length=p.2.toNat∧∀x∈p.1,x.size≤300) (fun p=>40-p.2.toNat) ?_ ⟨by simp,by simp,rfl,fun x hx=>by cases hx⟩) fun o ho=>g_some ho)))
 rintro ⟨l,i⟩ ⟨h0,h1,h2,h3⟩
 dsimp only at h0 h1 h2 h3 ⊢
 rw [gmin_eq]
 refine g_if (fun hlt=>g_if (fun h40=>?_) fun _=>g_out ⟨by omega,h3⟩) fun _=>g_out ⟨by omega,h3⟩
 refine g_ck (by omega) (g_ck (by omega) (g_ck (by omega) (g_ck (by omega) (g_i64 (by omega) (g_go ⟨by dsimp only;omega,by dsimp only;omega,by dsimp only;rw [List.length_append,List.length_singleton];omega,fun x hx=>?_⟩ (by dsimp only;omega))))))
 rcases List.mem_append.1 hx with hx | hx
 ·exact h3 x hx
 ·obtain rfl:=List.mem_singleton.1 hx
  refine Nat.le_trans (ext_size _ _) ?_
  omega
theorem g22_eq (k:Int):Gives (g22 k) fun n=>(n=0↔¬Kd k):=by
 unfold g22
 refine g_jn (fun b:Bool=>b=true↔k=1∨k=2∨k=4∨k=6∨k=8) (fun K hK=>?_) fun b hb=>?_
 ·exact g_if (fun h=>hK _ (by simp [h])) fun h=>g_if (fun h2=>hK _ (by simp [h2])) fun h2=>g_if (fun h3=>hK _ (by simp [h3])) fun h3=>g_if (fun h4=>hK _ (by simp [h4])) fun h4=>hK _ (by simp [h,h2,h3,h4])
 ·unfold Kd
  refine g_if (fun h=>g_some ?_) fun h=>?_
  ·have:=hb.1 h;omega
  ·have h':¬(k=1∨k=2∨k=4∨k=6∨k=8):=fun q=>h (hb.2 q)
   repeat' (first | refine g_if (fun _=>?_) (fun _=>?_) | refine g_some ?_)
   all_goals omega
theorem g21_eq (k:Int):Gives (g21 k) fun n=>((k=1∨k=2∨k=4∨k=6∨k=8)→n=2)∧((k=3∨k=7∨k=9)→n=1)∧(k=5→n=3):=by
 unfold g21
 refine g_jn (fun b:Bool=>b=true↔k=1∨k=2∨k=4∨k=6∨k=8) (fun K hK=>?_) fun b hb=>?_
 ·exact g_if (fun h=>hK _ (by simp [h])) fun h=>g_if (fun h2=>hK _ (by simp [h2])) fun h2=>g_if (fun h3=>hK _ (by simp [h3])) fun h3=>g_if (fun h4=>hK _ (by simp [h4])) fun h4=>hK _ (by simp [h,h2,h3,h4])
 ·refine g_if (fun h=>g_some ?_) fun h=>?_
  ·have:=hb.1 h;omega
  ·have h':¬(k=1∨k=2∨k=4∨k=6∨k=8):=fun q=>h (hb.2 q)
   repeat' (first | refine g_if (fun _=>?_) (fun _=>?_) | refine g_some ?_)
   all_goals omega
theorem ok_both (a:FF) (v:VV) (hO:a.2.2.2.1.length≤40) (hX:∀x∈a.2.2.2.1,x.size≤300) (hS:v.1.size≤300) (hL:v.2.2.2.1.length≤300) (hF:v.2.2.2.2<18446744073709551616) :
  ∃b,g10 a v=some b∧g12 a v=some b∧(b=true→Kd a.1∧((a.1=6∨a.1=8)→0≤v.2.1∧v.2.1<((a.2.2.2.1.length:Nat):Int))):=by
 obtain ⟨b,e1,e2,_⟩:=own_both a (by omega) fun x hx=>by have:=hX x hx;omega
 obtain ⟨c,f1,f2,k⟩:=value_both a v (by omega) (by omega) hF (by omega)
 obtain ⟨t,t1,t2⟩:=g22_eq a.1
 have h10:g10 a v=some (b && c):=by
  refine g_eq ?_
  unfold g10
  refine g_call (show g19 _=some b from e1) (g_if (fun h=>g_call (show g20 _ _=some c from f1) (g_some (by rw [h];rfl))) fun h=>g_some (by cases b<;>simp_all))
 by_cases hk:Kd a.1
 ·refine ⟨b && c,h10,g_eq ?_,fun h=>k (by simp_all)⟩
  unfold g12
  refine g_call t1 (g_t (fun h=>t2.1 h hk) (g_call (show g23 _=some b from e2) (g_if (fun h=>g_call (show g24 _ _=some c from f2) (g_some (by rw [h];rfl))) fun h=>g_some (by cases b<;>simp_all))))
 ·have hc:c=false:=by
   cases c with
   | false=>rfl
   | true=>exact absurd (k rfl).1 hk
  subst hc
  refine ⟨false,by rw [h10,Bool.and_false],g_eq ?_,fun h=>by cases h⟩
  unfold g12
  exact g_call t1 (g_f (not_not_intro (t2.2 hk)) (g_some rfl))
theorem bound_both (a:FF) (v:VV) (hk:Kd a.1) (hN:(a.1=6∨a.1=8)→0≤v.2.1∧v.2.1<((a.2.2.2.1.length:Nat):Int)):∃r,g11 a v=some r∧g13 a v=some r:=by
 obtain ⟨t,t1,t2,t3,t4⟩:=g21_eq a.1
 have J2:∀{ρ:Type} {K:Bool→Option ρ} {Φ:ρ→Prop},(∀b:Bool,(b=true↔a.1=6∨a.1=8)→Gives (K b) Φ)→Gives (jn (α:=_) (β:=Bool) (fun k=>if a.1=6 then k (decide (a.1=6)) else k (decide (a.1=8))) K) Φ:=fun {ρ K Φ} hK=>
  g_jn (fun b:Bool=>b=true↔a.1=6∨a.1=8) (fun k hk=>g_if (fun h=>hk _ (by simp [h])) fun h=>hk _ (by simp [h])) hK
 have J3:∀{ρ:Type} {K:Bool→Option ρ} {Φ:ρ→Prop},(∀b:Bool,(b=true↔a.1=1∨a.1=2∨a.1=4)→Gives (K b) Φ)→Gives (jn (α:=_) (β:=Bool) (fun k=>if a.1=1 then k (decide (a.1=1)) else if a.1=2 then k (decide (a.1=2)) else k (decide (a.1=4))) K) Φ:=fun {ρ K Φ} hK=>
  g_jn (fun b:Bool=>b=true↔a.1=1∨a.1=2∨a.1=4) (fun k hk=>g_if (fun h=>hk _ (by simp [h])) fun h=>g_if (fun h2=>hk _ (by simp [h2])) fun h2=>hk _ (by simp [h,h2])) hK
 unfold g11 g13
 by_cases k6:a.1=6∨a.1=8
 ·have e:=t2 (by omega)
  subst e
  have h:=hN k6
  exact ⟨_,g_eq (g_call t1 (J3 fun b hb=>g_f (fun h=>by have:=hb.1 h;omega) (J2 fun c hc=>g_t (hc.2 k6) (g_ck h (g_some rfl))))),g_eq (J2 fun c hc=>g_t (hc.2 k6) (g_ck h (g_call (show g25 _=some _ from rfl) (g_some rfl))))⟩
 by_cases k1:a.1=1∨a.1=2∨a.1=4
 ·have e:=t2 (by omega)
  subst e
  exact ⟨_,g_eq (g_call t1 (J3 fun b hb=>g_t (hb.2 k1) (g_some rfl))),g_eq (J2 fun c hc=>g_f (fun h=>k6 (hc.1 h)) (g_f (by omega) (g_f (by omega) (g_f (by omega) (g_f (by omega) (g_call (show g25 _=some _ from rfl) (g_some rfl)))))))⟩
 by_cases k3:a.1=3
 ·have e:=t3 (by omega)
  subst e
  exact ⟨_,g_eq (g_call t1 (J3 fun b hb=>g_f (fun h=>k1 (hb.1 h)) (J2 fun c hc=>g_f (fun h=>k6 (hc.1 h)) (g_t k3 (g_some rfl))))),g_eq (J2 fun c hc=>g_f (fun h=>k6 (hc.1 h)) (g_t k3 (g_call (show g26 _=some _ from rfl) (g_some rfl))))⟩
 by_cases k7:a.1=7
 ·have e:=t3 (by omega)
  subst e
  exact ⟨_,g_eq (g_call t1 (J3 fun b hb=>g_f (fun h=>k1 (hb.1 h)) (J2 fun c hc=>g_f (fun h=>k6 (hc.1 h)) (g_f k3 (g_t k7 (g_some rfl)))))),g_eq (J2 fun c hc=>g_f (fun h=>k6 (hc.1 h)) (g_f k3 (g_t k7 (g_call (show g26 _=some _ from rfl) (g_some rfl)))))⟩
 by_cases k9:a.1=9
 ·have e:=t3 (by omega)
  subst e
  exact ⟨_,g_eq (g_call t1 (J3 fun b hb=>g_f (fun h=>k1 (hb.1 h)) (J2 fun c hc=>g_f (fun h=>k6 (hc.1 h)) (g_f k3 (g_f k7 (g_t k9 (g_some rfl))))))),g_eq (J2 fun c hc=>g_f (fun h=>k6 (hc.1 h)) (g_f k3 (g_f k7 (g_t k9 (g_call (show g26 _=some _ from rfl) (g_some rfl))))))⟩
 ·have k5:a.1=5:=by unfold Kd at hk;omega
  have e:=t4 k5
  subst e
  exact ⟨_,g_eq (g_call t1 (J3 fun b hb=>g_f (fun h=>k1 (hb.1 h)) (J2 fun c hc=>g_f (fun h=>k6 (hc.1 h)) (g_f k3 (g_f k7 (g_f k9 (g_t k5 (g_some rfl)))))))),g_eq (J2 fun c hc=>g_f (fun h=>k6 (hc.1 h)) (g_f k3 (g_f k7 (g_f k9 (g_t k5 (g_some rfl))))))⟩
theorem g8_same (r:ByteArray×Int×Nat×ByteArray×Bool):g8 r r=some true:=by
 refine g_eq ?_
 unfold g8
 refine g_f (by simp) (g_f (by simp) (g_f (by simp) (g_f (by simp) (g_if (fun _=>g_some rfl) fun h=>g_t h (g_some (by simp [h]))))))
theorem binds_law (a:FF) (v:VV) (hF:v.2.2.2.2<18446744073709551616):g3 a v=some true:=by
 refine g_eq ?_
 unfold g3
 refine g_bind (show Gives (g4 a) _ from g4_eq a) fun b hb=>g_bind (show Gives (g5 v) _ from g5_eq v) fun u hu=>?_
 obtain ⟨o,e1,e2,k⟩:=ok_both b u hb.1 hb.2 hu.1 hu.2.1 (by rw [hu.2.2];exact hF)
 suffices hh:∃r,g6 b u=some r∧g7 b u=some r by
  obtain ⟨r,h1,h2⟩:=hh
  exact g_call (show g6 _ _=some r from h1) (g_call (show g7 _ _=some r from h2) (g_t rfl (g_call (show g8 _ _=some true from g8_same _) (g_t rfl (g_call (show g9=some true from rfl) (g_some rfl))))))
 cases o with
 | false=>
  refine ⟨(((⟨#[]⟩:ByteArray),0,0,(⟨#[]⟩:ByteArray),false),1),g_eq ?_,g_eq ?_⟩
  ·unfold g6
   exact g_call (show g10 _ _=some false from e1) (g_t (by simp) (g_some rfl))
  ·unfold g7
   exact g_call (show g12 _ _=some false from e2) (g_t (by simp) (g_some rfl))
 | true=>
  obtain ⟨r,r1,r2⟩:=bound_both b u (k rfl).1 (k rfl).2
  refine ⟨(r,0),g_eq ?_,g_eq ?_⟩
  ·unfold g6
   exact g_call (show g10 _ _=some true from e1) (g_f (by simp) (g_call (show g11 _ _=some r from r1) (g_some rfl)))
  ·unfold g7
   exact g_call (show g12 _ _=some true from e2) (g_f (by simp) (g_call (show g13 _ _=some r from r2) (g_some rfl)))
end Go.Proofs.YtlehbfahkjhgnaaGreat
end
