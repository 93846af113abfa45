/- Texts that the law leans on. -/
import Derived.Test.YtejfkphoeffpeaaGreatDoorQQ7
import Derived.Test.YtejfkphoeffpeaaGreatDoorQQ3
import Derived.Test.YtejfkphoeffpeaaGreatDoorRows
import Derived.Shelf.Vars
import Derived.WalkKit
import Derived.ProofKit
import Derived.OpenShut
import Derived.ShutString
import Derived.ChangeOld
import Derived.Below
import Derived.Deep.Slices
import Derived.LaidMore
import Derived.Lay
import Derived.MakeChecks
import Derived.Stop.Joined
import Derived.LaidOnce
import Derived.SevenTiedAt
set_option linter.unusedVariables false
set_option linter.unusedSimpArgs false
section
namespace Go.Proofs.YtejfkphoeffpeaaGreatDoor
open Go Go.Eng
theorem str_app (a b:List Int):strOf (a++b)=strOf a++strOf b:=by
 apply ByteArray.ext
 unfold strOf
 apply Array.ext'
 simp
theorem str_size (l:List Int):(strOf l).size=l.length:=by simp [strOf,ByteArray.size]
theorem lit_size (l:List UInt8):(lit l).size=l.length:=by simp [lit,ByteArray.size]
theorem nd_le {U:Nat} (h:U≤9223372036854775808):nd U≤20:=by
 obtain ⟨k,h1,h2⟩:=Dk_ex (U:=U) 19 (Nat.div_eq_of_lt (Nat.lt_of_le_of_lt h (by decide)))
 rw [nd_of h1];exact h2
noncomputable def pS (n:Int):ByteArray:=strOf (prI n)
theorem pS_size {n:Int} (h:inR .i64 n):(pS n).size≤21:=by
 have h':-9223372036854775808≤n∧n≤9223372036854775807:=h
 have:=nd_le (U:=n.natAbs) (by omega)
 unfold pS prI
 rw [str_size,List.length_append,dl_len]
 split<;>simp<;>omega
theorem g9_eq {n:Int} (h:inR .i64 n):g9 n=some (pS n):=g_eq (g_ck h (g_some rfl))
theorem g10_eq {n : Int} (h : inR .i64 n) : g10 n = some (pS n) := by
  have h' : -9223372036854775808 ≤ n ∧ n ≤ 9223372036854775807 := h
  refine g_eq ?_
  generalize hU : n.natAbs = U
  have hUl : U ≤ 9223372036854775808 := by omega
  have h19 : U / 10 ^ 19 = 0 := Nat.div_eq_of_lt (Nat.lt_of_le_of_lt hUl (by decide))
  unfold g10
  refine g_jn (fun v => v = (-(U : Int), strOf (if n < 0 then [45] else []))) (fun k hk => ?_) fun v hv => ?_
  · refine g_if (fun hn => hk _ ?_) fun hn => g_i64 (by omega) (hk _ ?_)
    · rw [if_pos hn]; exact Prod.ext (by show n = _; omega) rfl
    · rw [if_neg hn]; exact Prod.ext (by show 0 - n = _; omega) rfl
  subst hv
  refine g_jn (fun v => v = strOf (dl U (nd U))) (fun k hk => ?_) fun v hv => ?_
  · refine g_bind (Ω := fun o => o = strOf (dl U (nd U))) (g_loop (fun s : Int × ByteArray => ∃ k : Nat, s = (-((U / 10 ^ k : Nat) : Int), strOf (dl U k)) ∧ k ≤ 20 ∧ (k ≤ 1 ∨ 0 < U / 10 ^ (k - 1))) (fun s => 30 - s.2.size) ?_ ⟨0, by simp [dl]; rfl, by omega, .inl (by omega)⟩) fun o ho => hk _ ho
    rintro _ ⟨k, rfl, hk20, hk1⟩
    dsimp only
    have hm : Int.tmod (-((U / 10 ^ k : Nat) : Int)) 10 = -((U / 10 ^ k % 10 : Nat) : Int) := by
      rw [Int.neg_tmod]
      generalize U / 10 ^ k = q
      have := Int.tmod_eq_emod_of_nonneg (a := (q : Int)) (b := 10) (Int.natCast_nonneg q)
      omega
    have hd : Int.tdiv (-((U / 10 ^ k : Nat) : Int)) 10 = -((U / 10 ^ (k + 1) : Nat) : Int) := by
      have e : U / 10 ^ (k + 1) = U / 10 ^ k / 10 := by rw [Nat.pow_succ, Nat.div_div_eq_div_mul]
      rw [e, Int.neg_tdiv]
      generalize U / 10 ^ k = q
      have := Int.tdiv_eq_ediv_of_nonneg (a := (q : Int)) (b := 10) (Int.natCast_nonneg q)
      omega
    have hlt := Nat.mod_lt (U / 10 ^ k) (show 10 > 0 by omega)
    have hle : U / 10 ^ k ≤ U := Nat.div_le_self _ _
    have hle2 : U / 10 ^ (k + 1) ≤ U := Nat.div_le_self _ _
    have hw : IntKind.u8.wrap (48 - -((U / 10 ^ k % 10 : Nat) : Int)) = 48 + ((U / 10 ^ k % 10 : Nat) : Int) := by rw [IntKind.wrap_u8]; omega
    have step : (k = 0 ∨ 0 < U / 10 ^ k) → Gives (
                ck (inR .i64 (48 - (Int.tmod (-((U / 10 ^ k : Nat) : Int)) 10))) <|
                ck (isBytes ([IntKind.wrap .u8 (48 - (Int.tmod (-((U / 10 ^ k : Nat) : Int)) 10))])) <|
                ck ((strOf ([IntKind.wrap .u8 (48 - (Int.tmod (-((U / 10 ^ k : Nat) : Int)) 10))])).size + (strOf (dl U k)).size ≤ 9223372036854775807) <|
                ck (inR .i64 (Int.tdiv (-((U / 10 ^ k : Nat) : Int)) 10)) <|
                some (St1.go (ρ := ByteArray) (Int.tdiv (-((U / 10 ^ k : Nat) : Int)) 10, (strOf ([IntKind.wrap .u8 (48 - (Int.tmod (-((U / 10 ^ k : Nat) : Int)) 10))])) ++ strOf (dl U k))))
        (rnd (fun s : Int × ByteArray => ∃ k : Nat, s = (-((U / 10 ^ k : Nat) : Int), strOf (dl U k)) ∧ k ≤ 20 ∧ (k ≤ 1 ∨ 0 < U / 10 ^ (k - 1))) (fun s => 30 - s.2.size) (30 - (strOf (dl U k)).size) (fun o => o = strOf (dl U (nd U)))) := fun hc => by
      have hk18 : k ≤ 18 := by
        rcases hc with h | h
        · omega
        · refine Classical.byContradiction fun hn => ?_
          have := div_zero_mono (show 19 ≤ k by omega) h19; omega
      rw [hm, hd, hw]
      refine g_i64 (by omega) (g_ck (by intro c hc; rcases List.mem_cons.1 hc with rfl | hc; (· omega); cases hc) (g_ck (by rw [str_size, str_size, dl_len]; simp; omega) (g_i64 (by generalize U / 10 ^ (k + 1) = q at hle2 ⊢; omega) (g_go ⟨k + 1, ?_, by omega, ?_⟩ ?_))))
      · rw [← str_app]; rfl
      · rcases hc with h | h
        · exact .inl (by omega)
        · exact .inr (by rw [Nat.add_sub_cancel]; exact h)
      · rw [← str_app, str_size, str_size]; simp [dl_len]; omega
    refine g_if (fun hn => step (.inr (by omega))) fun hn => g_if (fun he => ?_) fun he => g_out ?_
    · refine step (.inl ?_)
      have := congrArg List.length he
      rw [show (strOf (dl U k)).data.toList.length = (strOf (dl U k)).size from Array.length_toList, str_size, dl_len] at this
      simpa [lit] using this
    · have hk0 : k ≠ 0 := fun e => he (by subst e; rfl)
      have hD : Dk U k := ⟨by omega, by have h2 := hn; generalize U / 10 ^ k = q at h2 ⊢; omega, by omega⟩
      rw [nd_of hD]
  · subst hv
    refine g_ck ?_ (g_some ?_)
    · have := nd_le hUl
      rw [str_size, str_size, dl_len]
      split <;> simp <;> omega
    · show strOf _ ++ strOf _ = pS n
      rw [← str_app]
      unfold pS prI
      rw [hU]
noncomputable def body (ls:List ByteArray):Nat→ByteArray
 | 0=>lit []
 | i+1=>body ls i++((lit [124]++ls.getD i default)++lit [10])
theorem body_size {ls:List ByteArray} (h:∀s∈ls,s.size≤140737488355328):∀i,i≤ls.length→(body ls i).size≤i * 140737488355330
 | 0,_=>by simp [body,lit_size]
 | i+1,hi=>by
  have ih:=body_size h i (by omega)
  have:(ls.getD i default).size≤140737488355328:=by
   rw [List.getD_eq_getElem?_getD,List.getElem?_eq_getElem (by omega),Option.getD_some]
   exact h _ (List.getElem_mem _)
  simp only [body,ByteArray.size_append,lit_size,List.length_cons,List.length_nil]
  omega
theorem app_nil (a:ByteArray):a++lit []=a:=by
 apply ByteArray.ext
 rw [ByteArray.data_append]
 simp [lit]
theorem line_at {ls:List ByteArray} (h:∀s∈ls,s.size≤140737488355328) {i:Nat} (hi:i<ls.length):(ls.getD i default).size≤140737488355328:=by
 rw [List.getD_eq_getElem?_getD,List.getElem?_eq_getElem hi,Option.getD_some]
 exact h _ (List.getElem_mem _)
theorem wordP (o:Int):∃s,g8 o=some s∧g11 o=some s∧s.size≤9:=by
 unfold g8 g11
 by_cases a:o=0
 ·exact ⟨_,by rw [if_pos a],by rw [if_pos a],by decide⟩
 rw [if_neg a]
 by_cases b:o=1
 ·exact ⟨_,by rw [if_pos b],by rw [if_pos b],by decide⟩
 rw [if_neg b]
 by_cases c:o=2
 ·exact ⟨_,by rw [if_pos c],by rw [if_pos c],by decide⟩
 rw [if_neg c]
 by_cases d:o=3
 ·exact ⟨_,by rw [if_pos d],by rw [if_pos d],by decide⟩
 rw [if_neg d]
 exact ⟨_,rfl,rfl,by decide⟩
noncomputable def hdA (ws:List ByteArray) (vs:List Int):Nat→ByteArray
 | 0=>lit []
 | i+1=>hdA ws vs i++(((ws.getD i default++lit [32])++pS (vs.getD i 0))++lit [32])
theorem word_at {ws:List ByteArray} (h:∀s∈ws,s.size≤9) {i:Nat} (hi:i<ws.length):(ws.getD i default).size≤9:=by
 rw [List.getD_eq_getElem?_getD,List.getElem?_eq_getElem hi,Option.getD_some]
 exact h _ (List.getElem_mem _)
theorem val_at {vs:List Int} (h:∀n∈vs,inR .i64 n) {i:Nat} (hi:i<vs.length):inR .i64 (vs.getD i 0):=by
 rw [List.getD_eq_getElem?_getD,List.getElem?_eq_getElem hi,Option.getD_some]
 exact h _ (List.getElem_mem _)
theorem hdA_size {ws:List ByteArray} {vs:List Int} (hw:∀s∈ws,s.size≤9) (hv:∀n∈vs,inR .i64 n) (hl:ws.length=vs.length):∀i,i≤ws.length→(hdA ws vs i).size≤i * 32
 | 0,_=>by simp [hdA,lit_size]
 | i+1,hi=>by
  have ih:=hdA_size hw hv hl i (by omega)
  have h1:=word_at hw (i:=i) (by omega)
  have h2:=pS_size (val_at hv (i:=i) (by omega))
  simp only [hdA,ByteArray.size_append,lit_size,List.length_cons,List.length_nil]
  omega
theorem g7_eq {ws:List ByteArray} {vs:List Int} (hw:∀s∈ws,s.size≤9) (hv:∀n∈vs,inR .i64 n) (hl:ws.length=vs.length) (h5:ws.length≤100):g7 ws vs=some (hdA ws vs ws.length):=by
 refine g_eq ?_
 unfold g7
 refine g_jn (fun v=>v=hdA ws vs ws.length) (fun k hk=>?_) fun v hv=>g_some hv
 refine g_bind (Ω:=fun o=>o=hdA ws vs ws.length) (g_loop (fun s:ByteArray×Int=>∃i:Nat,s=(hdA ws vs i,(i:Int))∧i≤ws.length) (fun s=>100-s.2.toNat) ?_ ⟨0,rfl,by omega⟩) fun o ho=>hk _ ho
 rintro _ ⟨i,rfl,hi⟩
 dsimp only
 have hs:=hdA_size hw hv hl i hi
 refine g_if (fun hn=>?_) fun hn=>g_out ?_
 ·have h1:=word_at hw (i:=i) (by omega)
  have h2:=pS_size (val_at hv (i:=i) (by omega))
  rw [Int.toNat_natCast]
  refine g_ck (by omega) (g_ck (by omega) (g_ck (by simp only [lit_size,List.length_cons,List.length_nil];omega) (g_bind (Ω:=fun o=>o=pS (vs.getD i 0)) ⟨_,g9_eq (val_at hv (by omega)),rfl⟩ ?_)))
  rintro _ rfl
  refine g_ck ?_ (g_ck ?_ (g_ck ?_ (g_i64 (by omega) (g_go ⟨i+1,rfl,by omega⟩ (by show 100-((i:Int)+1).toNat<100-((i:Int)).toNat;omega)))))
  all_goals
   simp only [ByteArray.size_append,lit_size,List.length_cons,List.length_nil]
   omega
 ·have:i=ws.length:=by omega
  rw [this]
noncomputable def wsP:List ByteArray:=[(lit [115,116,101,112,115]),(lit [101,114,114,111,114,115]),(lit [98,101,108,108,115]),(lit [115,99,114,111,108,108,101,100]),(lit [119,114,111,110,103])]
abbrev RepT:=(Int×Int×Int×Int×List Int×Int×List (ByteArray×Int×Bool×((Option Addr×Nat)×List Int)×Nat)×List Int×List ByteArray×Int×Int)
noncomputable def txtP (a:RepT) (o:ByteArray):ByteArray:=
 (((((((hdA wsP [a.1,a.2.1,a.2.2.1,a.2.2.2.1,((a.2.2.2.2.1.length:Nat):Int)] 5++o)++lit [10])++body a.2.2.2.2.2.2.2.2.1 a.2.2.2.2.2.2.2.2.1.length)++lit [97,116,32])++pS a.2.2.2.2.2.2.2.2.2.1)++lit [32])++pS a.2.2.2.2.2.2.2.2.2.2)++lit [10]
structure Fits (a:RepT):Prop where
 n0:inR .i64 a.1
 n1:inR .i64 a.2.1
 n2:inR .i64 a.2.2.1
 n3:inR .i64 a.2.2.2.1
 n4:((a.2.2.2.2.1.length:Nat):Int)≤9223372036854775807
 x:inR .i64 a.2.2.2.2.2.2.2.2.2.1
 y:inR .i64 a.2.2.2.2.2.2.2.2.2.2
 few:a.2.2.2.2.2.2.2.2.1.length≤30
 lines:∀s∈a.2.2.2.2.2.2.2.2.1,s.size≤140737488355328
theorem ws_small:∀s∈wsP,s.size≤9:=by
 intro s hs
 simp only [wsP,List.mem_cons,List.not_mem_nil,or_false] at hs
 rcases hs with rfl | rfl | rfl | rfl | rfl<;>(rw [lit_size];decide)
theorem vs_small {a:RepT} (h:Fits a):∀n∈[a.1,a.2.1,a.2.2.1,a.2.2.2.1,((a.2.2.2.2.1.length:Nat):Int)],inR .i64 n:=by
 intro n hn
 simp only [List.mem_cons,List.not_mem_nil,or_false] at hn
 rcases hn with rfl | rfl | rfl | rfl | rfl
 ·exact h.n0
 ·exact h.n1
 ·exact h.n2
 ·exact h.n3
 ·have:=h.n4;exact ⟨by show (-9223372036854775808:Int)≤_;omega,this⟩
theorem g4_eq {a:RepT} (h:Fits a) {o:ByteArray} (ho:g8 a.2.2.2.2.2.1=some o) (hos:o.size≤9):g4 a=some (txtP a o):=by
 have hx:=pS_size h.x
 have hy:=pS_size h.y
 have hh:=hdA_size (vs:=[a.1,a.2.1,a.2.2.1,a.2.2.2.1,((a.2.2.2.2.1.length:Nat):Int)]) ws_small (vs_small h) rfl 5 (Nat.le_refl _)
 have h7:=g7_eq (vs:=[a.1,a.2.1,a.2.2.1,a.2.2.2.1,((a.2.2.2.2.1.length:Nat):Int)]) ws_small (vs_small h) rfl (by show 5≤100;omega)
 refine g_eq ?_
 unfold g4
 refine g_bind (Ω:=fun v=>v=hdA wsP [a.1,a.2.1,a.2.2.1,a.2.2.2.1,((a.2.2.2.2.1.length:Nat):Int)] 5) ⟨_,h7,rfl⟩ ?_
 rintro _ rfl
 unfold txtP
 generalize hdA wsP [a.1,a.2.1,a.2.2.1,a.2.2.2.1,((a.2.2.2.2.1.length:Nat):Int)] 5=H at hh
 refine g_bind (Ω:=fun v=>o=v) ⟨_,ho,rfl⟩ ?_
 rintro _ rfl
 have hf:=h.few
 have hls:=h.lines
 generalize hL:a.2.2.2.2.2.2.2.2.1=L at hf hls
 refine g_ck (by omega) (g_ck (by simp only [ByteArray.size_append,lit_size,List.length_cons,List.length_nil];omega) ?_)
 have hbL:=body_size hls L.length (Nat.le_refl _)
 refine g_jn (fun v=>v=((H++o)++lit [10])++body L L.length) (fun k hk=>?_) fun v hv=>?_
 ·refine g_bind (Ω:=fun v=>v=((H++o)++lit [10])++body L L.length) (g_loop (fun s:ByteArray×Int=>∃i:Nat,s=(((H++o)++lit [10])++body L i,(i:Int))∧i≤L.length) (fun s=>100-s.2.toNat) ?_ ⟨0,by rw [show body L 0=lit [] from rfl,app_nil];rfl,by omega⟩) fun v hv=>hk _ hv
  rintro _ ⟨i,rfl,hi⟩
  dsimp only
  have hs:=body_size hls i hi
  have hi30:i * 140737488355330≤30 * 140737488355330:=Nat.mul_le_mul_right _ (by omega)
  refine g_if (fun hn=>?_) fun hn=>g_out ?_
  ·have h1:=line_at hls (i:=i) (by omega)
   rw [Int.toNat_natCast]
   refine g_ck (by omega) (g_ck ?_ (g_ck ?_ (g_ck ?_ (g_i64 (by omega) (g_go ⟨i+1,?_,by omega⟩ (by show 100-((i:Int)+1).toNat<100-((i:Int)).toNat;omega))))))
   any_goals
    simp only [ByteArray.size_append,lit_size,List.length_cons,List.length_nil]
    omega
   refine Prod.ext ?_ rfl
   show _++((lit [124]++L.getD i default)++lit [10])=_++(body L i++((lit [124]++L.getD i default)++lit [10]))
   rw [ByteArray.append_assoc]
  ·have:i=L.length:=by omega
   rw [this]
 ·subst hv
  have hi30:L.length * 140737488355330≤30 * 140737488355330:=Nat.mul_le_mul_right _ (by omega)
  refine g_ck (by simp only [ByteArray.size_append,lit_size,List.length_cons,List.length_nil];omega) (g_bind (Ω:=fun v=>v=pS a.2.2.2.2.2.2.2.2.2.1) ⟨_,g9_eq h.x,rfl⟩ ?_)
  rintro _ rfl
  refine g_ck (by simp only [ByteArray.size_append,lit_size,List.length_cons,List.length_nil];omega) (g_ck (by simp only [ByteArray.size_append,lit_size,List.length_cons,List.length_nil];omega) (g_bind (Ω:=fun v=>v=pS a.2.2.2.2.2.2.2.2.2.2) ⟨_,g9_eq h.y,rfl⟩ ?_))
  rintro _ rfl
  refine g_ck (by simp only [ByteArray.size_append,lit_size,List.length_cons,List.length_nil];omega) (g_ck (by simp only [ByteArray.size_append,lit_size,List.length_cons,List.length_nil];omega) (g_some rfl))
theorem lit_app (a b:List UInt8):lit a++lit b=lit (a++b):=by
 apply ByteArray.ext
 unfold lit
 apply Array.ext'
 simp
theorem lit_app' (a b:List UInt8) (c:ByteArray):lit a++(lit b++c)=lit (a++b)++c:=by
 rw [←ByteArray.append_assoc,lit_app]
theorem g5_eq {a:RepT} (h:Fits a) {o:ByteArray} (ho:g11 a.2.2.2.2.2.1=some o) (hos:o.size≤9):g5 a=some (txtP a o):=by
 have hx:=pS_size h.x
 have hy:=pS_size h.y
 have hf:=h.few
 have hls:=h.lines
 have hv4:inR .i64 ((a.2.2.2.2.1.length:Nat):Int):=vs_small h _ (by simp)
 have p0:=pS_size h.n0
 have p1:=pS_size h.n1
 have p2:=pS_size h.n2
 have p3:=pS_size h.n3
 have p4:=pS_size hv4
 have q0:=g10_eq h.n0
 have q1:=g10_eq h.n1
 have q2:=g10_eq h.n2
 have q3:=g10_eq h.n3
 have q4:=g10_eq hv4
 have qx:=g10_eq h.x
 have qy:=g10_eq h.y
 have hT:txtP a o=(((((((((((((((((lit [115,116,101,112,115,32])++pS a.1)++(lit [32,101,114,114,111,114,115,32]))++pS a.2.1)++(lit [32,98,101,108,108,115,32]))++pS a.2.2.1)++(lit [32,115,99,114,111,108,108,101,100,32]))++pS a.2.2.2.1)++(lit [32,119,114,111,110,103,32]))++pS ((a.2.2.2.2.1.length:Nat):Int))++(lit [32]))++o)++(lit [10]))++body a.2.2.2.2.2.2.2.2.1 a.2.2.2.2.2.2.2.2.1.length)++lit [97,116,32])++pS a.2.2.2.2.2.2.2.2.2.1)++lit [32])++pS a.2.2.2.2.2.2.2.2.2.2++lit [10]:=by
  unfold txtP
  simp only [hdA,wsP,List.getD_cons_zero,List.getD_cons_succ,ByteArray.append_assoc,lit_app,lit_app',List.cons_append,List.nil_append]
 rw [hT]
 clear hT
 refine g_eq ?_
 unfold g5
 generalize hL:a.2.2.2.2.2.2.2.2.1=L at hf hls
 have hbL:=body_size hls L.length (Nat.le_refl _)
 have hi30:L.length * 140737488355330≤30 * 140737488355330:=Nat.mul_le_mul_right _ (by omega)
 generalize pS a.1=P0 at p0 q0
 generalize pS a.2.1=P1 at p1 q1
 generalize pS a.2.2.1=P2 at p2 q2
 generalize pS a.2.2.2.1=P3 at p3 q3
 generalize pS ((a.2.2.2.2.1.length:Nat):Int)=P4 at p4 q4
 generalize pS a.2.2.2.2.2.2.2.2.2.1=PX at hx qx
 generalize pS a.2.2.2.2.2.2.2.2.2.2=PY at hy qy
 refine g_bind (Ω:=fun v=>P0=v) ⟨_,q0,rfl⟩ ?_
 rintro _ rfl
 refine g_ck (by simp only [ByteArray.size_append,lit_size,List.length_cons,List.length_nil];omega) (g_ck (by simp only [ByteArray.size_append,lit_size,List.length_cons,List.length_nil];omega) (g_bind (Ω:=fun v=>P1=v) ⟨_,q1,rfl⟩ ?_))
 rintro _ rfl
 refine g_ck (by simp only [ByteArray.size_append,lit_size,List.length_cons,List.length_nil];omega) (g_ck (by simp only [ByteArray.size_append,lit_size,List.length_cons,List.length_nil];omega) (g_bind (Ω:=fun v=>P2=v) ⟨_,q2,rfl⟩ ?_))
 rintro _ rfl
 refine g_ck (by simp only [ByteArray.size_append,lit_size,List.length_cons,List.length_nil];omega) (g_ck (by simp only [ByteArray.size_append,lit_size,List.length_cons,List.length_nil];omega) (g_bind (Ω:=fun v=>P3=v) ⟨_,q3,rfl⟩ ?_))
 rintro _ rfl
 refine g_ck (by simp only [ByteArray.size_append,lit_size,List.length_cons,List.length_nil];omega) (g_ck (by simp only [ByteArray.size_append,lit_size,List.length_cons,List.length_nil];omega) (g_bind (Ω:=fun v=>P4=v) ⟨_,q4,rfl⟩ ?_))
 rintro _ rfl
 refine g_ck (by simp only [ByteArray.size_append,lit_size,List.length_cons,List.length_nil];omega) (g_ck (by simp only [ByteArray.size_append,lit_size,List.length_cons,List.length_nil];omega) (g_bind (Ω:=fun v=>o=v) ⟨_,ho,rfl⟩ ?_))
 rintro _ rfl
 refine g_ck (by simp only [ByteArray.size_append,lit_size,List.length_cons,List.length_nil];omega) (g_ck (by simp only [ByteArray.size_append,lit_size,List.length_cons,List.length_nil];omega) ?_)
 generalize hH:((((((((((((lit [115,116,101,112,115,32])++P0)++(lit [32,101,114,114,111,114,115,32]))++P1)++(lit [32,98,101,108,108,115,32]))++P2)++(lit [32,115,99,114,111,108,108,101,100,32]))++P3)++(lit [32,119,114,111,110,103,32]))++P4)++(lit [32]))++o)++(lit [10])=H
 have hHs:H.size≤300:=by
  rw [←hH]
  simp only [ByteArray.size_append,lit_size,List.length_cons,List.length_nil]
  omega
 refine g_jn (fun v=>v=H++body L L.length) (fun k hk=>?_) fun v hv=>?_
 ·refine g_bind (Ω:=fun v=>v=H++body L L.length) (g_loop (fun s:ByteArray×Int=>∃i:Nat,s=(H++body L i,(i:Int))∧i≤L.length) (fun s=>100-s.2.toNat) ?_ ⟨0,by rw [show body L 0=lit [] from rfl,app_nil];rfl,by omega⟩) fun v hv=>hk _ hv
  rintro _ ⟨i,rfl,hi⟩
  dsimp only
  have hs:=body_size hls i hi
  have hi30:i * 140737488355330≤30 * 140737488355330:=Nat.mul_le_mul_right _ (by omega)
  refine g_if (fun hn=>?_) fun hn=>g_out ?_
  ·have h1:=line_at hls (i:=i) (by omega)
   rw [Int.toNat_natCast]
   refine g_ck ?_ (g_ck (by omega) (g_ck ?_ (g_ck ?_ (g_i64 (by omega) (g_go ⟨i+1,?_,by omega⟩ (by show 100-((i:Int)+1).toNat<100-((i:Int)).toNat;omega))))))
   any_goals
    simp only [ByteArray.size_append,lit_size,List.length_cons,List.length_nil]
    omega
   refine Prod.ext ?_ rfl
   show ((_++lit [124])++L.getD i default)++lit [10]=_++(body L i++((lit [124]++L.getD i default)++lit [10]))
   simp only [ByteArray.append_assoc]
  ·have:i=L.length:=by omega
   rw [this]
 ·subst hv
  refine g_ck (by simp only [ByteArray.size_append,lit_size,List.length_cons,List.length_nil];omega) (g_bind (Ω:=fun v=>PX=v) ⟨_,qx,rfl⟩ ?_)
  rintro _ rfl
  refine g_ck (by simp only [ByteArray.size_append,lit_size,List.length_cons,List.length_nil];omega) (g_ck (by simp only [ByteArray.size_append,lit_size,List.length_cons,List.length_nil];omega) (g_bind (Ω:=fun v=>PY=v) ⟨_,qy,rfl⟩ ?_))
  rintro _ rfl
  refine g_ck (by simp only [ByteArray.size_append,lit_size,List.length_cons,List.length_nil];omega) (g_ck (by simp only [ByteArray.size_append,lit_size,List.length_cons,List.length_nil];omega) (g_some rfl))
structure Fits0 (a:RepT):Prop where
 n0:inR .i64 a.1
 n1:inR .i64 a.2.1
 n2:inR .i64 a.2.2.1
 n3:inR .i64 a.2.2.2.1
 n4:((a.2.2.2.2.1.length:Nat):Int)≤9223372036854775807
 x:inR .i64 a.2.2.2.2.2.2.2.2.2.1
 y:inR .i64 a.2.2.2.2.2.2.2.2.2.2
 lines:∀s∈a.2.2.2.2.2.2.2.2.1,s.size≤140737488355328
theorem both {a:RepT} (h:Fits a):∃t,g4 a=some t∧g5 a=some t:=by
 obtain ⟨o,h8,h11,hs⟩:=wordP a.2.2.2.2.2.1
 exact ⟨_,g4_eq h h8 hs,g5_eq h h11 hs⟩
theorem prints_gives {a:RepT} (h:Fits0 a):Gives (g3 a) fun r=>r=true:=by
 have g6_eq:g6=some true:=rfl
 unfold g3
 refine g_if (fun hn=>?_) fun hn=>?_
 ·refine g_ck (by omega) ?_
  generalize hb:((a.1,a.2.1,a.2.2.1,a.2.2.2.1,a.2.2.2.2.1,a.2.2.2.2.2.1,a.2.2.2.2.2.2.1,a.2.2.2.2.2.2.2.1,((a.2.2.2.2.2.2.2.2.1.drop (0:Int).toNat).take ((30:Int).toNat-(0:Int).toNat)),a.2.2.2.2.2.2.2.2.2.1,a.2.2.2.2.2.2.2.2.2.2):RepT)=b
  have hf:Fits b:=by
   subst hb
   exact ⟨h.n0,h.n1,h.n2,h.n3,h.n4,h.x,h.y,by show (List.take _ _).length≤30;rw [List.length_take];have:(30:Int).toNat-(0:Int).toNat=30:=rfl;omega,fun s hs=>h.lines s (List.mem_of_mem_drop (List.mem_of_mem_take hs))⟩
  obtain ⟨t,h4,h5⟩:=both hf
  refine g_bind (Ω:=fun v=>t=v) ⟨_,h4,rfl⟩ ?_
  rintro _ rfl
  refine g_bind (Ω:=fun v=>t=v) ⟨_,h5,rfl⟩ ?_
  rintro _ rfl
  rw [if_pos rfl,g6_eq]
  exact g_some rfl
 ·generalize hb:((a.1,a.2.1,a.2.2.1,a.2.2.2.1,a.2.2.2.2.1,a.2.2.2.2.2.1,a.2.2.2.2.2.2.1,a.2.2.2.2.2.2.2.1,a.2.2.2.2.2.2.2.2.1,a.2.2.2.2.2.2.2.2.2.1,a.2.2.2.2.2.2.2.2.2.2):RepT)=b
  have hf:Fits b:=by
   subst hb
   exact ⟨h.n0,h.n1,h.n2,h.n3,h.n4,h.x,h.y,by show a.2.2.2.2.2.2.2.2.1.length≤30;omega,h.lines⟩
  obtain ⟨t,h4,h5⟩:=both hf
  refine g_bind (Ω:=fun v=>t=v) ⟨_,h4,rfl⟩ ?_
  rintro _ rfl
  refine g_bind (Ω:=fun v=>t=v) ⟨_,h5,rfl⟩ ?_
  rintro _ rfl
  rw [if_pos rfl,g6_eq]
  exact g_some rfl
end Go.Proofs.YtejfkphoeffpeaaGreatDoor
end
section
namespace Go.Proofs.YtejfkphoeffpeaaGreatDoor.playPrints
open Go.Eng
open Go.ChangeShapes Go.WideShapes Go.ChangeAt Go.RowKit
open Go.ChangeMaps (open_string shut_string)
theorem own:ownKnob Tryz.prog.godebug=none:=by kernel_rfl
theorem laidOut:laidOutB Tryz.prog=true:=by kernel_rfl
theorem trod_flt {H:Type} {enc:TypeId×Value→H} {P:Program} {w:World} {base:Nat} {sp:Nat→Bool} {held:Bool} {fuel:Nat} {t:TypeId} {cs:List Value} {x:DataW H×List MemPlace} {k:FloatKind} (ht:P.underlying t=some (.float k)) (h:DataW.trod enc P w base sp held fuel t cs=some x):∃n,cs=[.float k n]∧(Lit.float k n).wf=true:=by
 cases fuel with
 | zero=>simp [DataW.trod] at h
 | succ m=>
  unfold DataW.trod at h
  rw [ht] at h
  split at h<;>simp_all
theorem dec3 {H:Type} {enc:TypeId×Value→H} {w:World} {sp:Nat→Bool} {held:Bool}:∀n cs (y:DataW H×List MemPlace),DataW.trod enc Tryz.prog w 0 sp held n 3 cs=some y→∃a:Int,cs=[.int .i64 a]∧inR .i64 a:=by
 intro n cs y h
 obtain ⟨v,rfl,_,hw⟩:=DataW.trod_int Tryz.underlying3 h
 exact ⟨v,rfl,wf_in hw⟩
theorem ecN3:∀l:List Int,ec (fun a:Int=>[Value.int .i64 a]) l=ei .i64 l
 | []=>rfl
 | x::t=>congrArg (List.cons (Value.int .i64 x)) (ecN3 t)
set_option maxRecDepth 100000 in
theorem dec51 {H:Type} {enc:TypeId×Value→H} {w:World} {sp:Nat→Bool} {held:Bool}:∀n cs (y:DataW H×List MemPlace),DataW.trod enc Tryz.prog w 0 sp held n 51 cs=some y→∃a:(ByteArray×Int×Bool×((Option Addr×Nat)×List Int)×Nat),cs=c51 a∧(a.1.size≤maxLen∧inR .i64 a.2.1∧True∧SlIn (fun a:Int=>[Value.int .i64 a]) (fun a:Int=>inR .i64 a) w a.2.2.2.1.1.1 a.2.2.2.1.2.length a.2.2.2.1.1.2 a.2.2.2.1.2∧a.2.2.2.2<18446744073709551616):=by
 intro n cs y h
 obtain ⟨xs,m,rfl,hx,hlen,hxl,hf⟩:=DataW.trod_struct Tryz.underlying51 h
 have hC:Tryz.prog.cellsOf 51=5:=by kernel_rfl
 rw [hC] at hlen
 obtain ⟨v0,v1,v2,v3,v4,rfl⟩:∃v0 v1 v2 v3 v4,cs=[v0,v1,v2,v3,v4]:=by
  match cs,hlen with
  | [v0,v1,v2,v3,v4],_=>exact ⟨_,_,_,_,_,rfl⟩
 have hx2:xs.length=5:=hxl
 have cz3:Tryz.prog.cellsOf 3=1:=by kernel_rfl
 have cz4:Tryz.prog.cellsOf 4=1:=by kernel_rfl
 have cz9:Tryz.prog.cellsOf 9=1:=by kernel_rfl
 have cz22:Tryz.prog.cellsOf 22=1:=by kernel_rfl
 have cz49:Tryz.prog.cellsOf 49=1:=by kernel_rfl
 have f0:DataW.trod enc Tryz.prog w 0 sp held m 9 (([v0,v1,v2,v3,v4].drop 0).take (Tryz.prog.cellsOf 9))=xs[0]?:=hf 0 _ rfl
 rw [cz9,show xs[0]?=some xs[0] from List.getElem?_eq_getElem (by omega)] at f0
 change DataW.trod enc Tryz.prog w 0 sp held m 9 [v0]=some xs[0] at f0
 obtain ⟨u0,e0,_,h0⟩:=DataW.trod_string Tryz.underlying9 f0
 simp only [List.cons.injEq,and_true] at e0
 have f1:DataW.trod enc Tryz.prog w 0 sp held m 3 (([v0,v1,v2,v3,v4].drop 1).take (Tryz.prog.cellsOf 3))=xs[1]?:=hf 1 _ rfl
 rw [cz3,show xs[1]?=some xs[1] from List.getElem?_eq_getElem (by omega)] at f1
 change DataW.trod enc Tryz.prog w 0 sp held m 3 [v1]=some xs[1] at f1
 obtain ⟨u1,e1,_,h1⟩:=DataW.trod_int Tryz.underlying3 f1
 simp only [List.cons.injEq,and_true] at e1
 have f2:DataW.trod enc Tryz.prog w 0 sp held m 4 (([v0,v1,v2,v3,v4].drop 2).take (Tryz.prog.cellsOf 4))=xs[2]?:=hf 2 _ rfl
 rw [cz4,show xs[2]?=some xs[2] from List.getElem?_eq_getElem (by omega)] at f2
 change DataW.trod enc Tryz.prog w 0 sp held m 4 [v2]=some xs[2] at f2
 obtain ⟨u2,e2,_⟩:=DataW.trod_bool Tryz.underlying4 f2
 simp only [List.cons.injEq,and_true] at e2
 have f3:DataW.trod enc Tryz.prog w 0 sp held m 22 (([v0,v1,v2,v3,v4].drop 3).take (Tryz.prog.cellsOf 22))=xs[3]?:=hf 3 _ rfl
 rw [cz22,show xs[3]?=some xs[3] from List.getElem?_eq_getElem (by omega)] at f3
 change DataW.trod enc Tryz.prog w 0 sp held m 22 [v3]=some xs[3] at f3
 obtain ⟨A3,len3,cap3,e3⟩:∃A len cap,[v3]=[Value.slice A len cap]:=by
  rcases Go.Deep.open_slice Tryz.underlying22 f3 with ⟨h0,_⟩ | ⟨a,len',cap',m,n,D,Pl,hcs,_⟩
  ·exact ⟨_,_,_,h0⟩
  ·exact ⟨_,_,_,hcs⟩
 simp only [List.cons.injEq,and_true] at e3
 subst e3
 obtain ⟨u3,h3⟩:=slice_in (c:=(fun a:Int=>[Value.int .i64 a])) (R:=(fun a:Int=>inR .i64 a)) (sz:=1) (fun _=>rfl) (by decide) Tryz.underlying22 (by kernel_rfl) dec3 f3
 have g3:=h3.1
 subst g3
 have f4:DataW.trod enc Tryz.prog w 0 sp held m 49 (([v0,v1,v2,Value.slice A3 u3.length cap3,v4].drop 4).take (Tryz.prog.cellsOf 49))=xs[4]?:=hf 4 _ rfl
 rw [cz49,show xs[4]?=some xs[4] from List.getElem?_eq_getElem (by omega)] at f4
 change DataW.trod enc Tryz.prog w 0 sp held m 49 [v4]=some xs[4] at f4
 obtain ⟨u4,e4,h4⟩:=trod_flt Tryz.underlying49 f4
 simp only [List.cons.injEq,and_true] at e4
 subst e0 e1 e2 e4
 exact ⟨(u0,u1,u2,((A3,cap3),u3),u4),rfl,h0,wf_in h1,trivial,h3,(by simpa [Lit.wf] using h4)⟩
theorem dec5 {H:Type} {enc:TypeId×Value→H} {w:World} {sp:Nat→Bool} {held:Bool}:∀n cs (y:DataW H×List MemPlace),DataW.trod enc Tryz.prog w 0 sp held n 5 cs=some y→∃a:Int,cs=[.int .u8 a]∧inR .u8 a:=by
 intro n cs y h
 obtain ⟨v,rfl,_,hw⟩:=DataW.trod_int Tryz.underlying5 h
 exact ⟨v,rfl,wf_in hw⟩
theorem ecN5:∀l:List Int,ec (fun a:Int=>[Value.int .u8 a]) l=ei .u8 l
 | []=>rfl
 | x::t=>congrArg (List.cons (Value.int .u8 x)) (ecN5 t)
theorem dec9 {H:Type} {enc:TypeId×Value→H} {w:World} {sp:Nat→Bool} {held:Bool}:∀n cs (y:DataW H×List MemPlace),DataW.trod enc Tryz.prog w 0 sp held n 9 cs=some y→∃a:ByteArray,cs=[.string a]∧a.size≤maxLen:=by
 intro n cs y h
 obtain ⟨v,rfl,_,hw⟩:=DataW.trod_string Tryz.underlying9 h
 exact ⟨v,rfl,hw⟩
def c28 (p:(Int×Int×Int×Int×((Option Addr×Nat)×List Int)×Int×((Option Addr×Nat)×List (ByteArray×Int×Bool×((Option Addr×Nat)×List Int)×Nat))×((Option Addr×Nat)×List Int)×((Option Addr×Nat)×List ByteArray)×Int×Int)):List Value:=[.int .i64 p.1,.int .i64 p.2.1,.int .i64 p.2.2.1,.int .i64 p.2.2.2.1,.slice p.2.2.2.2.1.1.1 p.2.2.2.2.1.2.length p.2.2.2.2.1.1.2,.int .i64 p.2.2.2.2.2.1,.slice p.2.2.2.2.2.2.1.1.1 p.2.2.2.2.2.2.1.2.length p.2.2.2.2.2.2.1.1.2,.slice p.2.2.2.2.2.2.2.1.1.1 p.2.2.2.2.2.2.2.1.2.length p.2.2.2.2.2.2.2.1.1.2,.slice p.2.2.2.2.2.2.2.2.1.1.1 p.2.2.2.2.2.2.2.2.1.2.length p.2.2.2.2.2.2.2.2.1.1.2,.int .i64 p.2.2.2.2.2.2.2.2.2.1,.int .i64 p.2.2.2.2.2.2.2.2.2.2]
set_option maxRecDepth 100000 in
theorem dec28 {H:Type} {enc:TypeId×Value→H} {w:World} {sp:Nat→Bool} {held:Bool}:∀n cs (y:DataW H×List MemPlace),DataW.trod enc Tryz.prog w 0 sp held n 28 cs=some y→∃a:(Int×Int×Int×Int×((Option Addr×Nat)×List Int)×Int×((Option Addr×Nat)×List (ByteArray×Int×Bool×((Option Addr×Nat)×List Int)×Nat))×((Option Addr×Nat)×List Int)×((Option Addr×Nat)×List ByteArray)×Int×Int),cs=c28 a∧(inR .i64 a.1∧inR .i64 a.2.1∧inR .i64 a.2.2.1∧inR .i64 a.2.2.2.1∧SlIn (fun a:Int=>[Value.int .i64 a]) (fun a:Int=>inR .i64 a) w a.2.2.2.2.1.1.1 a.2.2.2.2.1.2.length a.2.2.2.2.1.1.2 a.2.2.2.2.1.2∧inR .i64 a.2.2.2.2.2.1∧SlIn c51 (fun a:(ByteArray×Int×Bool×((Option Addr×Nat)×List Int)×Nat)=>a.1.size≤maxLen∧inR .i64 a.2.1∧True∧SlIn (fun a:Int=>[Value.int .i64 a]) (fun a:Int=>inR .i64 a) w a.2.2.2.1.1.1 a.2.2.2.1.2.length a.2.2.2.1.1.2 a.2.2.2.1.2∧a.2.2.2.2<18446744073709551616) w a.2.2.2.2.2.2.1.1.1 a.2.2.2.2.2.2.1.2.length a.2.2.2.2.2.2.1.1.2 a.2.2.2.2.2.2.1.2∧SlIn (fun a:Int=>[Value.int .u8 a]) (fun a:Int=>inR .u8 a) w a.2.2.2.2.2.2.2.1.1.1 a.2.2.2.2.2.2.2.1.2.length a.2.2.2.2.2.2.2.1.1.2 a.2.2.2.2.2.2.2.1.2∧SlIn (fun a:ByteArray=>[Value.string a]) (fun a:ByteArray=>a.size≤maxLen) w a.2.2.2.2.2.2.2.2.1.1.1 a.2.2.2.2.2.2.2.2.1.2.length a.2.2.2.2.2.2.2.2.1.1.2 a.2.2.2.2.2.2.2.2.1.2∧inR .i64 a.2.2.2.2.2.2.2.2.2.1∧inR .i64 a.2.2.2.2.2.2.2.2.2.2):=by
 intro n cs y h
 obtain ⟨xs,m,rfl,hx,hlen,hxl,hf⟩:=DataW.trod_struct Tryz.underlying28 h
 have hC:Tryz.prog.cellsOf 28=11:=by kernel_rfl
 rw [hC] at hlen
 obtain ⟨v0,v1,v2,v3,v4,v5,v6,v7,v8,v9,v10,rfl⟩:∃v0 v1 v2 v3 v4 v5 v6 v7 v8 v9 v10,cs=[v0,v1,v2,v3,v4,v5,v6,v7,v8,v9,v10]:=by
  match cs,hlen with
  | [v0,v1,v2,v3,v4,v5,v6,v7,v8,v9,v10],_=>exact ⟨_,_,_,_,_,_,_,_,_,_,_,rfl⟩
 have hx2:xs.length=11:=hxl
 have cz3:Tryz.prog.cellsOf 3=1:=by kernel_rfl
 have cz22:Tryz.prog.cellsOf 22=1:=by kernel_rfl
 have cz23:Tryz.prog.cellsOf 23=1:=by kernel_rfl
 have cz24:Tryz.prog.cellsOf 24=1:=by kernel_rfl
 have cz25:Tryz.prog.cellsOf 25=1:=by kernel_rfl
 have cz26:Tryz.prog.cellsOf 26=1:=by kernel_rfl
 have f0:DataW.trod enc Tryz.prog w 0 sp held m 3 (([v0,v1,v2,v3,v4,v5,v6,v7,v8,v9,v10].drop 0).take (Tryz.prog.cellsOf 3))=xs[0]?:=hf 0 _ rfl
 rw [cz3,show xs[0]?=some xs[0] from List.getElem?_eq_getElem (by omega)] at f0
 change DataW.trod enc Tryz.prog w 0 sp held m 3 [v0]=some xs[0] at f0
 obtain ⟨u0,e0,_,h0⟩:=DataW.trod_int Tryz.underlying3 f0
 simp only [List.cons.injEq,and_true] at e0
 have f1:DataW.trod enc Tryz.prog w 0 sp held m 3 (([v0,v1,v2,v3,v4,v5,v6,v7,v8,v9,v10].drop 1).take (Tryz.prog.cellsOf 3))=xs[1]?:=hf 1 _ rfl
 rw [cz3,show xs[1]?=some xs[1] from List.getElem?_eq_getElem (by omega)] at f1
 change DataW.trod enc Tryz.prog w 0 sp held m 3 [v1]=some xs[1] at f1
 obtain ⟨u1,e1,_,h1⟩:=DataW.trod_int Tryz.underlying3 f1
 simp only [List.cons.injEq,and_true] at e1
 have f2:DataW.trod enc Tryz.prog w 0 sp held m 3 (([v0,v1,v2,v3,v4,v5,v6,v7,v8,v9,v10].drop 2).take (Tryz.prog.cellsOf 3))=xs[2]?:=hf 2 _ rfl
 rw [cz3,show xs[2]?=some xs[2] from List.getElem?_eq_getElem (by omega)] at f2
 change DataW.trod enc Tryz.prog w 0 sp held m 3 [v2]=some xs[2] at f2
 obtain ⟨u2,e2,_,h2⟩:=DataW.trod_int Tryz.underlying3 f2
 simp only [List.cons.injEq,and_true] at e2
 have f3:DataW.trod enc Tryz.prog w 0 sp held m 3 (([v0,v1,v2,v3,v4,v5,v6,v7,v8,v9,v10].drop 3).take (Tryz.prog.cellsOf 3))=xs[3]?:=hf 3 _ rfl
 rw [cz3,show xs[3]?=some xs[3] from List.getElem?_eq_getElem (by omega)] at f3
 change DataW.trod enc Tryz.prog w 0 sp held m 3 [v3]=some xs[3] at f3
 obtain ⟨u3,e3,_,h3⟩:=DataW.trod_int Tryz.underlying3 f3
 simp only [List.cons.injEq,and_true] at e3
 have f4:DataW.trod enc Tryz.prog w 0 sp held m 22 (([v0,v1,v2,v3,v4,v5,v6,v7,v8,v9,v10].drop 4).take (Tryz.prog.cellsOf 22))=xs[4]?:=hf 4 _ rfl
 rw [cz22,show xs[4]?=some xs[4] from List.getElem?_eq_getElem (by omega)] at f4
 change DataW.trod enc Tryz.prog w 0 sp held m 22 [v4]=some xs[4] at f4
 obtain ⟨A4,len4,cap4,e4⟩:∃A len cap,[v4]=[Value.slice A len cap]:=by
  rcases Go.Deep.open_slice Tryz.underlying22 f4 with ⟨h0,_⟩ | ⟨a,len',cap',m,n,D,Pl,hcs,_⟩
  ·exact ⟨_,_,_,h0⟩
  ·exact ⟨_,_,_,hcs⟩
 simp only [List.cons.injEq,and_true] at e4
 subst e4
 obtain ⟨u4,h4⟩:=slice_in (c:=(fun a:Int=>[Value.int .i64 a])) (R:=(fun a:Int=>inR .i64 a)) (sz:=1) (fun _=>rfl) (by decide) Tryz.underlying22 (by kernel_rfl) dec3 f4
 have g4:=h4.1
 subst g4
 have f5:DataW.trod enc Tryz.prog w 0 sp held m 23 (([v0,v1,v2,v3,Value.slice A4 u4.length cap4,v5,v6,v7,v8,v9,v10].drop 5).take (Tryz.prog.cellsOf 23))=xs[5]?:=hf 5 _ rfl
 rw [cz23,show xs[5]?=some xs[5] from List.getElem?_eq_getElem (by omega)] at f5
 change DataW.trod enc Tryz.prog w 0 sp held m 23 [v5]=some xs[5] at f5
 obtain ⟨u5,e5,_,h5⟩:=DataW.trod_int Tryz.underlying23 f5
 simp only [List.cons.injEq,and_true] at e5
 have f6:DataW.trod enc Tryz.prog w 0 sp held m 24 (([v0,v1,v2,v3,Value.slice A4 u4.length cap4,v5,v6,v7,v8,v9,v10].drop 6).take (Tryz.prog.cellsOf 24))=xs[6]?:=hf 6 _ rfl
 rw [cz24,show xs[6]?=some xs[6] from List.getElem?_eq_getElem (by omega)] at f6
 change DataW.trod enc Tryz.prog w 0 sp held m 24 [v6]=some xs[6] at f6
 obtain ⟨A6,len6,cap6,e6⟩:∃A len cap,[v6]=[Value.slice A len cap]:=by
  rcases Go.Deep.open_slice Tryz.underlying24 f6 with ⟨h0,_⟩ | ⟨a,len',cap',m,n,D,Pl,hcs,_⟩
  ·exact ⟨_,_,_,h0⟩
  ·exact ⟨_,_,_,hcs⟩
 simp only [List.cons.injEq,and_true] at e6
 subst e6
 obtain ⟨u6,h6⟩:=slice_in (c:=c51) (R:=(fun a:(ByteArray×Int×Bool×((Option Addr×Nat)×List Int)×Nat)=>a.1.size≤maxLen∧inR .i64 a.2.1∧True∧SlIn (fun a:Int=>[Value.int .i64 a]) (fun a:Int=>inR .i64 a) w a.2.2.2.1.1.1 a.2.2.2.1.2.length a.2.2.2.1.1.2 a.2.2.2.1.2∧a.2.2.2.2<18446744073709551616)) (sz:=5) c51_len (by decide) Tryz.underlying24 (by kernel_rfl) dec51 f6
 have g6:=h6.1
 subst g6
 have f7:DataW.trod enc Tryz.prog w 0 sp held m 25 (([v0,v1,v2,v3,Value.slice A4 u4.length cap4,v5,Value.slice A6 u6.length cap6,v7,v8,v9,v10].drop 7).take (Tryz.prog.cellsOf 25))=xs[7]?:=hf 7 _ rfl
 rw [cz25,show xs[7]?=some xs[7] from List.getElem?_eq_getElem (by omega)] at f7
 change DataW.trod enc Tryz.prog w 0 sp held m 25 [v7]=some xs[7] at f7
 obtain ⟨A7,len7,cap7,e7⟩:∃A len cap,[v7]=[Value.slice A len cap]:=by
  rcases Go.Deep.open_slice Tryz.underlying25 f7 with ⟨h0,_⟩ | ⟨a,len',cap',m,n,D,Pl,hcs,_⟩
  ·exact ⟨_,_,_,h0⟩
  ·exact ⟨_,_,_,hcs⟩
 simp only [List.cons.injEq,and_true] at e7
 subst e7
 obtain ⟨u7,h7⟩:=slice_in (c:=(fun a:Int=>[Value.int .u8 a])) (R:=(fun a:Int=>inR .u8 a)) (sz:=1) (fun _=>rfl) (by decide) Tryz.underlying25 (by kernel_rfl) dec5 f7
 have g7:=h7.1
 subst g7
 have f8:DataW.trod enc Tryz.prog w 0 sp held m 26 (([v0,v1,v2,v3,Value.slice A4 u4.length cap4,v5,Value.slice A6 u6.length cap6,Value.slice A7 u7.length cap7,v8,v9,v10].drop 8).take (Tryz.prog.cellsOf 26))=xs[8]?:=hf 8 _ rfl
 rw [cz26,show xs[8]?=some xs[8] from List.getElem?_eq_getElem (by omega)] at f8
 change DataW.trod enc Tryz.prog w 0 sp held m 26 [v8]=some xs[8] at f8
 obtain ⟨A8,len8,cap8,e8⟩:∃A len cap,[v8]=[Value.slice A len cap]:=by
  rcases Go.Deep.open_slice Tryz.underlying26 f8 with ⟨h0,_⟩ | ⟨a,len',cap',m,n,D,Pl,hcs,_⟩
  ·exact ⟨_,_,_,h0⟩
  ·exact ⟨_,_,_,hcs⟩
 simp only [List.cons.injEq,and_true] at e8
 subst e8
 obtain ⟨u8,h8⟩:=slice_in (c:=(fun a:ByteArray=>[Value.string a])) (R:=(fun a:ByteArray=>a.size≤maxLen)) (sz:=1) (fun _=>rfl) (by decide) Tryz.underlying26 (by kernel_rfl) dec9 f8
 have g8:=h8.1
 subst g8
 have f9:DataW.trod enc Tryz.prog w 0 sp held m 3 (([v0,v1,v2,v3,Value.slice A4 u4.length cap4,v5,Value.slice A6 u6.length cap6,Value.slice A7 u7.length cap7,Value.slice A8 u8.length cap8,v9,v10].drop 9).take (Tryz.prog.cellsOf 3))=xs[9]?:=hf 9 _ rfl
 rw [cz3,show xs[9]?=some xs[9] from List.getElem?_eq_getElem (by omega)] at f9
 change DataW.trod enc Tryz.prog w 0 sp held m 3 [v9]=some xs[9] at f9
 obtain ⟨u9,e9,_,h9⟩:=DataW.trod_int Tryz.underlying3 f9
 simp only [List.cons.injEq,and_true] at e9
 have f10:DataW.trod enc Tryz.prog w 0 sp held m 3 (([v0,v1,v2,v3,Value.slice A4 u4.length cap4,v5,Value.slice A6 u6.length cap6,Value.slice A7 u7.length cap7,Value.slice A8 u8.length cap8,v9,v10].drop 10).take (Tryz.prog.cellsOf 3))=xs[10]?:=hf 10 _ rfl
 rw [cz3,show xs[10]?=some xs[10] from List.getElem?_eq_getElem (by omega)] at f10
 change DataW.trod enc Tryz.prog w 0 sp held m 3 [v10]=some xs[10] at f10
 obtain ⟨u10,e10,_,h10⟩:=DataW.trod_int Tryz.underlying3 f10
 simp only [List.cons.injEq,and_true] at e10
 subst e0 e1 e2 e3 e5 e9 e10
 exact ⟨(u0,u1,u2,u3,((A4,cap4),u4),u5,((A6,cap6),u6),((A7,cap7),u7),((A8,cap8),u8),u9,u10),rfl,wf_in h0,wf_in h1,wf_in h2,wf_in h3,h4,wf_in h5,h6,h7,h8,wf_in h9,wf_in h10⟩
set_option maxRecDepth 100000 in
theorem wgt28 {H:Type} {enc:TypeId×Value→H} {w:World} {sp:Nat→Bool} {held:Bool}:∀n (a:(Int×Int×Int×Int×((Option Addr×Nat)×List Int)×Int×((Option Addr×Nat)×List (ByteArray×Int×Bool×((Option Addr×Nat)×List Int)×Nat))×((Option Addr×Nat)×List Int)×((Option Addr×Nat)×List ByteArray)×Int×Int)) (y:DataW H×List MemPlace),DataW.trod enc Tryz.prog w 0 sp held n 28 (c28 a)=some y→SlIn (fun a:ByteArray=>[Value.string a]) (fun a:ByteArray=>a.size≤maxLen) w a.2.2.2.2.2.2.2.2.1.1.1 a.2.2.2.2.2.2.2.2.1.2.length a.2.2.2.2.2.2.2.2.1.1.2 a.2.2.2.2.2.2.2.2.1.2→(DataW.weights Tryz.prog 28 y.1).all (·≤reachBytes)=true→((a.2.2.2.2.1.2.length:Nat):Int)≤9223372036854775807∧∀s∈a.2.2.2.2.2.2.2.2.1.2,s.size≤140737488355328:=by
 intro n a y h hs hw
 obtain ⟨xs,m,rfl,hx,hlen,hxl,hf⟩:=DataW.trod_struct Tryz.underlying28 h
 subst hx
 obtain ⟨x0,x1,x2,x3,x4,x5,x6,x7,x8,x9,x10,rfl⟩:∃x0 x1 x2 x3 x4 x5 x6 x7 x8 x9 x10,xs=[x0,x1,x2,x3,x4,x5,x6,x7,x8,x9,x10]:=by
  match xs,(show xs.length=11 from hxl) with
  | [x0,x1,x2,x3,x4,x5,x6,x7,x8,x9,x10],_=>exact ⟨_,_,_,_,_,_,_,_,_,_,_,rfl⟩
 unfold DataW.weights at hw
 rw [Tryz.underlying28] at hw
 simp only [List.map_cons,List.map_nil,DataW.weightsEach,List.all_append,Bool.and_eq_true] at hw
 have f4:=hf 4 _ rfl
 have f8:=hf 8 _ rfl
 have k4:Tryz.prog.cellsOf 22=1:=by kernel_rfl
 have k8:Tryz.prog.cellsOf 26=1:=by kernel_rfl
 change DataW.trod enc Tryz.prog w 0 sp held m 22 (((c28 a).drop 4).take (Tryz.prog.cellsOf 22))=some x4 at f4
 change DataW.trod enc Tryz.prog w 0 sp held m 26 (((c28 a).drop 8).take (Tryz.prog.cellsOf 26))=some x8 at f8
 rw [k4] at f4
 rw [k8] at f8
 change DataW.trod enc Tryz.prog w 0 sp held m 22 [.slice a.2.2.2.2.1.1.1 a.2.2.2.2.1.2.length a.2.2.2.2.1.1.2]=some x4 at f4
 change DataW.trod enc Tryz.prog w 0 sp held m 26 [.slice a.2.2.2.2.2.2.2.2.1.1.1 a.2.2.2.2.2.2.2.2.1.2.length a.2.2.2.2.2.2.2.2.1.1.2]=some x8 at f8
 have hmax:maxLen=9223372036854775807:=by decide
 refine ⟨?_,lines_small Tryz.underlying26 Tryz.underlying9 (by kernel_rfl) f8 hs ?_⟩
 ·have:=slice_len Tryz.underlying22 f4
  rw [hmax] at this
  omega
 ·first | exact hw.2.2.2.2.2.2.2.2.1 | (simp_all;done)
theorem mem0 (w:World):Mem (frameW (phOf w) w S0 []) (phOf w) S0 [] w:=⟨fun _ _ h=>(by cases h),fun _ _ _ _ h=>(by cases h),fun _ _ h=>(by cases h),fun _ _ h=>(by cases h),phOf_on w,Bel.refl _,fun _ _ _ hv _=>hv⟩
theorem bel0 {w w':World} {q:PH} {S:Pl} {L:LL} (h:Mem (frameW (phOf w) w S0 []) q S L w'):Below w.heap.size w w':=⟨h.be.os,h.be.tape,h.be.output,h.be.size,fun k hk=>h.be.block k ⟨hk,fun _ _ h=>by cases h⟩⟩
theorem walk (w:World) (a0:(Int×Int×Int×Int×((Option Addr×Nat)×List Int)×Int×((Option Addr×Nat)×List (ByteArray×Int×Bool×((Option Addr×Nat)×List Int)×Nat))×((Option Addr×Nat)×List Int)×((Option Addr×Nat)×List ByteArray)×Int×Int)) (w0:(fun a:(Int×Int×Int×Int×((Option Addr×Nat)×List Int)×Int×((Option Addr×Nat)×List (ByteArray×Int×Bool×((Option Addr×Nat)×List Int)×Nat))×((Option Addr×Nat)×List Int)×((Option Addr×Nat)×List ByteArray)×Int×Int)=>inR .i64 a.1∧inR .i64 a.2.1∧inR .i64 a.2.2.1∧inR .i64 a.2.2.2.1∧SlIn (fun a:Int=>[Value.int .i64 a]) (fun a:Int=>inR .i64 a) w a.2.2.2.2.1.1.1 a.2.2.2.2.1.2.length a.2.2.2.2.1.1.2 a.2.2.2.2.1.2∧inR .i64 a.2.2.2.2.2.1∧SlIn c51 (fun a:(ByteArray×Int×Bool×((Option Addr×Nat)×List Int)×Nat)=>a.1.size≤maxLen∧inR .i64 a.2.1∧True∧SlIn (fun a:Int=>[Value.int .i64 a]) (fun a:Int=>inR .i64 a) w a.2.2.2.1.1.1 a.2.2.2.1.2.length a.2.2.2.1.1.2 a.2.2.2.1.2∧a.2.2.2.2<18446744073709551616) w a.2.2.2.2.2.2.1.1.1 a.2.2.2.2.2.2.1.2.length a.2.2.2.2.2.2.1.1.2 a.2.2.2.2.2.2.1.2∧SlIn (fun a:Int=>[Value.int .u8 a]) (fun a:Int=>inR .u8 a) w a.2.2.2.2.2.2.2.1.1.1 a.2.2.2.2.2.2.2.1.2.length a.2.2.2.2.2.2.2.1.1.2 a.2.2.2.2.2.2.2.1.2∧SlIn (fun a:ByteArray=>[Value.string a]) (fun a:ByteArray=>a.size≤maxLen) w a.2.2.2.2.2.2.2.2.1.1.1 a.2.2.2.2.2.2.2.2.1.2.length a.2.2.2.2.2.2.2.2.1.1.2 a.2.2.2.2.2.2.2.2.1.2∧inR .i64 a.2.2.2.2.2.2.2.2.2.1∧inR .i64 a.2.2.2.2.2.2.2.2.2.2) a0) (z0:((a0.2.2.2.2.1.2.length:Nat):Int)≤9223372036854775807∧∀s∈a0.2.2.2.2.2.2.2.2.1.2,s.size≤140737488355328) :
  Calls Tryz.prog 3 #[.agg (c28 a0).toArray] w fun e w'=>e=.returned (.bool true)∧Below w.heap.size w w':=by
 have h:=k3_ok.2 w (phOf w) S0 ((a0.1,a0.2.1,a0.2.2.1,a0.2.2.2.1,a0.2.2.2.2.1.2,a0.2.2.2.2.2.1,a0.2.2.2.2.2.2.1.2,a0.2.2.2.2.2.2.2.1.2,a0.2.2.2.2.2.2.2.2.1.2,a0.2.2.2.2.2.2.2.2.2.1,a0.2.2.2.2.2.2.2.2.2.2),true,(a0.2.2.2.2.1.1,a0.2.2.2.2.2.2.1.1,a0.2.2.2.2.2.2.2.1.1,a0.2.2.2.2.2.2.2.2.1.1)) [.agg (c28 a0).toArray] ⟨(g_eq (prints_gives ⟨w0.1,w0.2.1,w0.2.2.1,w0.2.2.2.1,z0.1,w0.2.2.2.2.2.2.2.2.2.1,w0.2.2.2.2.2.2.2.2.2.2,z0.2⟩)),(w0.2.2.2.2.1).2.1,(w0.2.2.2.2.2.2.1).2.1,(w0.2.2.2.2.2.2.2.1).2.1,(w0.2.2.2.2.2.2.2.2.1).2.1⟩ ⟨(by have:=slin_reads (w0.2.2.2.2.1);rwa [ecN3] at this),(by have:=slin_reads (w0.2.2.2.2.2.2.1);exact this),(by have:=slin_reads (w0.2.2.2.2.2.2.2.1);rwa [ecN5] at this),(by have:=slin_reads (w0.2.2.2.2.2.2.2.2.1);rwa [ecS] at this),trivial⟩ (mem0 w) ⟨⟨_,rfl,rfl,rfl,rfl,rfl,rfl,rfl,rfl,rfl,rfl,rfl,rfl,trivial⟩,trivial⟩
 refine h.mono ?_
 rintro e w' ⟨v,S',q',g,rfl,hv,_,hm,_⟩
 have hv:v=.bool true:=hv
 exact ⟨by rw [hv],bel0 hm⟩
theorem door_met (os:Os) (args:Array Value):laidMetH Tryz.prog Rows.playPrintsRow.laid ((World.laidAll Tryz.prog os Rows.playPrintsRow.laid).forCall (fun _ _=>0) ⟨#[],args,[]⟩).memory:=by
 rw [MakeChecks.laidMetH_plain _ _ _ (by kernel_rfl)]
 exact laidMet_laidAll _ (by kernel_rfl) (by kernel_rfl)
set_option maxRecDepth 100000 in
theorem core {H:Type} {enc:TypeId×Value→H} (W:World) (base:Nat) (args:Array Value) (ds gs:List (DataW H)) (before:List MemPlace)
  (hval0:∀(j:Nat) t v,Tryz.f3.params[j]?=some t→args[j]?=some v→Value.okWide Tryz.prog W .any base t v)
  (hW:DataW.Whole enc Tryz.prog Tryz.f3.params.toList Rows.playPrintsSpec.vars false W args.toList ds gs before)
  (hz:(DataW.weightsEach Tryz.prog (Tryz.f3.params.toList++Rows.playPrintsSpec.plain.varTypes Tryz.prog) (ds++gs)).all (·≤reachBytes)=true)
  (hsh:W.ShapedOpen Tryz.prog):Calls Tryz.prog 3 args W fun e W'=>∃v,e=.returned v∧Rows.playPrintsSpec.post enc Tryz.prog Tryz.f3 false true false false W args v W':=by
 have hval:∀(j:Nat) t v,Tryz.f3.params[j]?=some t→args[j]?=some v→Value.okWide Tryz.prog W .any base t v:=hval0
 have hW':=hW
 obtain ⟨p,q,hA0,hV,rfl,hfz,hnd⟩:=hW
 have hA:DataW.TrodAll enc Tryz.prog W 0 (fun _=>true) true Tryz.f3.params.toList args.toList ds p:=hA0
 rw [Tryz.params3] at hA hval
 obtain ⟨v0,vs0,d0,ds0,p0,q0,hargs,rfl,rfl,h0,r0⟩:=trodAll_cons hA
 obtain ⟨rfl,rfl,rfl⟩:=trodAll_nil r0
 obtain rfl:args=#[v0]:=by cases args;simp_all
 obtain ⟨rfl,rfl⟩:=trodVars_none hV
 obtain ⟨cs0,rfl⟩:∃cs,v0=Value.agg cs:=by
  have h:=hval 0 28 v0 rfl rfl
  unfold Value.okWide at h
  rw [Tryz.underlying28] at h
  obtain ⟨cs,e,_⟩:=h
  exact ⟨cs,e⟩
 have k0:=h0
 have lt0:∀x∈p0,x.block<W.heap.size:=by obtain ⟨m,hm⟩:=k0;exact DataW.trod_lt m _ _ _ hm
 obtain ⟨fuel0,hf0⟩:=h0
 obtain ⟨a0,e0,w0⟩:=dec28 _ _ _ hf0
 replace e0:cs0.toList=c28 a0:=e0
 obtain rfl:cs0=(c28 a0).toArray:=by rw [←e0]
 have z0:((a0.2.2.2.2.1.2.length:Nat):Int)≤9223372036854775807∧∀s∈a0.2.2.2.2.2.2.2.2.1.2,s.size≤140737488355328:=wgt28 _ _ _ hf0 w0.2.2.2.2.2.2.2.2.1 (by
  have h:=hz
  rw [Tryz.params3] at h
  simp only [DataW.weightsEach,List.cons_append,List.nil_append,List.all_append,Bool.and_eq_true] at h
  first | exact h.1 | exact h | (simp_all;done))
 clear hA0 hval0
 simp only [List.append_nil] at hW'
 refine (walk W a0 w0 z0).mono fun e W' ⟨he,bel⟩=>?_
 subst he
 exact ⟨_,rfl,_,_,_,[],_,[],hW',trodAll_mk1 (shut_bool Tryz.underlying4 _),(trodAll_cons_mk (Below.trod laidOut (by kernel_rfl) (of_decide_eq_true (by kernel_rfl)) k0 bel lt0) trodAll_mk0),rfl,bel.frame _,fun h=>by cases h⟩
set_option maxRecDepth 100000 in
theorem lifted (os:Os) (started:os.Started) (H:Type) (enc:TypeId×Value→H) :
  ReturnsInHanded {} Tryz.checked os 3 .any (fun w args=>(Rows.playPrintsSpec.pre enc Tryz.prog Tryz.f3 [] false w args∧laidMetH Tryz.prog Rows.playPrintsRow.laid w)∧sizedMet enc Tryz.prog Tryz.f3 (OpenSpec.ofChange Rows.playPrintsSpec) false w args) (Rows.playPrintsSpec.post enc Tryz.prog Tryz.f3 false true false false):=by
 refine returnsInHanded_of_calls (C:=Tryz.checked) own started (by kernel_rfl)
  (ChangeSpec.witness_shaped (enc:=enc) (C:=Tryz.checked) (os:=os) (X:=fun w _=>laidMetH Tryz.prog Rows.playPrintsRow.laid w) false (World.laidAll Tryz.prog os Rows.playPrintsRow.laid) #[.agg #[.int .i64 0,.int .i64 0,.int .i64 0,.int .i64 0,.slice none 0 0,.int .i64 0,.slice none 0 0,.slice none 0 0,.slice none 0 0,.int .i64 0,.int .i64 0]] 8 (World.laidAll_os _ _ _) (World.shaped_of_ZipB (by kernel_rfl) (by kernel_rfl)) (by kernel_rfl) (by kernel_rfl) (by kernel_rfl) (door_met os _)) ?_
 intro w tape i _ hsh _ hok hpre _
 obtain ⟨_,_,_,fn',hfn',_,_,_,_,hval⟩:=hok
 obtain rfl:fn'=Tryz.f3:=Option.some.inj (hfn'.symm.trans Tryz.func3)
 obtain ⟨⟨⟨ds,gs,before,hw,_⟩,_⟩,hz⟩:=hpre
 refine (core (w.forCall tape i) w.heap.size i.args ds gs before hval (DataW.Whole.of_heap (w':=w.forCall tape i) (by rfl) hw) (hz.weights hw) hsh).mono fun e W' ⟨v,he,hp⟩=>?_
 subst he
 exact ChangeSpec.post_blind hp
theorem jnf:Tryz.prog.funcNamed Rows.playPrintsRow.func=some 3:=by kernel_rfl
theorem jni:Tryz.f3.isInstance Tryz.prog Rows.playPrintsRow.origin Rows.playPrintsRow.targs:=of_decide_eq_true (by kernel_rfl)
theorem jnw:Tryz.f3.isWrapper Tryz.prog Rows.playPrintsRow.wrapper Rows.playPrintsRow.mainSum:=by unfold Func.isWrapper;first | (rw [if_pos (by decide +kernel)];kernel_rfl) | (rw [if_neg (by decide +kernel)];exact ⟨rfl,rfl⟩)
theorem over:Rows.playPrintsRow.holds Tryz.pinned (OpenSpec.ofChange Rows.playPrintsSpec):=
 OpenClaim.holds_of_wide 3 Tryz.f3 rfl rfl rfl rfl rfl rfl rfl ⟨rfl,rfl,rfl,rfl,rfl⟩ rfl rfl rfl rfl rfl jnf Tryz.func3 jnr jni jnw
  (fun os started H enc _=>lifted os started H enc)
end Go.Proofs.YtejfkphoeffpeaaGreatDoor.playPrints
end
section
namespace Go.Proofs.YtejfkphoeffpeaaGreatDoor.playPrints
open Go
noncomputable abbrev laidQ : List (String × DataW Unit) := [("internal/strconv.uint64pow10", Rows.laid_internal_strconv_uint64pow10), ("math/bits.deBruijn32tab", Rows.laid_math_bits_deBruijn32tab), ("math/bits.deBruijn64tab", Rows.laid_math_bits_deBruijn64tab)]
theorem tq0 : Tryz.pinned.checked.prog.headLifts.contains "ownunsafe" = false := by kernel_rfl
theorem tq1:Tryz.prog.worded (varsWordLater true)=true:=by kernel_rfl
theorem tq2:Tryz.prog.worded (varsWordLater !true)=false:=by kernel_rfl
theorem tq3:Tryz.prog.worded rootWordLater=true:=by kernel_rfl
theorem tq4:laidQ.map (fun x=>Tryz.prog.kindOfLater x.1)=[LaidKind.data,.data,.data].map some:=by kernel_rfl
theorem tq5 : (Tryz.prog.funcNamed "gosem.cut.vars").isSome = true := by kernel_rfl
theorem tq6:varsNamedLaterB Tryz.prog (varsId Tryz.prog) laidQ=true:=by kernel_rfl
theorem tq7 (os:Os) (tape:Tape):doorLeaves Tryz.prog 400 8 260 laidQ os tape=some (laidQ.filter fun x=>x.2.handleName?.isNone,(funcsListed laidQ).map (·.2.funcsOut)):=by kernel_rfl
theorem tieQ:Tryz.prog.laidByTextLater laidQ [.data,.data,.data] true:=
 Program.laidByTextLater_by_one 400 8 260 tq1 tq2 tq3 tq4 tq5 tq6 tq7
theorem row_tieQ:Rows.playPrintsRow.laidByTextAt .later Tryz.pinned [.data,.data,.data] true:=
 OpenClaim.laidByTextAt_later rfl rfl tieQ tq0
end Go.Proofs.YtejfkphoeffpeaaGreatDoor.playPrints
end
