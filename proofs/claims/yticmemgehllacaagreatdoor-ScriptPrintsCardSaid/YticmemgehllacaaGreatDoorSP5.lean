/- Texts that the law leans on. -/
import Derived.Test.YticmemgehllacaaGreatDoorSP4
import Derived.Test.YticmemgehllacaaGreatDoorSP3
import Derived.MapKept
import Derived.Carry
set_option linter.unusedVariables false
set_option linter.unusedSimpArgs false
section
namespace Go.Eng
open Go Go.RowKit
namespace Exe
inductive Tm (α:Type) where
 | lf
 | nd (l:Tm α) (v:Option α) (r:Tm α)
noncomputable section
def Tm.get {α:Type} (T:Tm α):Nat→Option α:=Tm.rec (motive:=fun _=>Nat→Option α) (fun _=>none)
 (fun _ v _ gl gr n=>match n with | 0=>v | m+1=>match Nat.beq (m % 2) 0 with | true=>gl (m / 2) | false=>gr (m / 2)) T
theorem Tm.get_lf {α:Type} {n:Nat}:(Tm.lf:Tm α).get n=none:=rfl
theorem Tm.get_0 {α:Type} {l r:Tm α} {v:Option α}:(Tm.nd l v r).get 0=v:=rfl
theorem Tm.get_s {α:Type} {l r:Tm α} {v:Option α} {m:Nat}:(Tm.nd l v r).get (m+1)=match Nat.beq (m % 2) 0 with | true=>l.get (m / 2) | false=>r.get (m / 2):=rfl
def Tm.put {α:Type} (f:Nat):Tm α→Nat→Option α→Tm α:=Nat.rec (motive:=fun _=>Tm α→Nat→Option α→Tm α) (fun T _ _=>T)
 (fun _ ih T n x=>match T with
  | .lf=>(match n with | 0=>.nd .lf x .lf | m+1=>match Nat.beq (m % 2) 0 with | true=>.nd (ih .lf (m / 2) x) none .lf | false=>.nd .lf none (ih .lf (m / 2) x))
  | .nd l v r=>(match n with | 0=>.nd l x r | m+1=>match Nat.beq (m % 2) 0 with | true=>.nd (ih l (m / 2) x) v r | false=>.nd l v (ih r (m / 2) x))) f
theorem beq_cases (a b:Nat):(Nat.beq a b=true∧a=b)∨(Nat.beq a b=false∧a≠b):=by
 cases h:Nat.beq a b with
 | true=>exact .inl ⟨rfl,Nat.eq_of_beq_eq_true h⟩
 | false=>exact .inr ⟨rfl,Nat.ne_of_beq_eq_false h⟩
theorem Tm.get_put {α:Type} {x:Option α}:∀(f:Nat) (T:Tm α) (n j:Nat),n+1<2 ^ f→(T.put f n x).get j=if n=j then x else T.get j
 | 0,T,n,j,h=>by simp at h
 | f+1,T,n,j,h=>by
  have hh:∀m,m+1+1<2 ^ (f+1)→m / 2+1<2 ^ f:=fun m h=>by rw [Nat.pow_succ] at h;omega
  have par:∀(a b:Nat),a % 2=b % 2→(a / 2=b / 2↔a=b):=fun a b h=>by omega
  cases T with
  | lf=>
   cases n with
   | zero=>
    show (Tm.nd .lf x .lf).get j=_
    cases j with
    | zero=>rw [Tm.get_0,if_pos rfl]
    | succ j=>rw [Tm.get_s,if_neg (by omega)];split<;>rfl
   | succ m=>
    show (match Nat.beq (m % 2) 0 with | true=>Tm.nd (Tm.put f .lf (m / 2) x) none .lf | false=>.nd .lf none (Tm.put f .lf (m / 2) x)).get j=_
    rcases beq_cases (m % 2) 0 with ⟨e,e'⟩ | ⟨e,e'⟩<;>rw [e]<;>dsimp only
    ·cases j with
     | zero=>rw [Tm.get_0,if_neg (by omega)];rfl
     | succ j=>
      rw [Tm.get_s]
      rcases beq_cases (j % 2) 0 with ⟨g,g'⟩ | ⟨g,g'⟩<;>rw [g]<;>dsimp only
      ·rw [Tm.get_put f _ _ _ (hh m h),Tm.get_lf,Tm.get_lf]
       by_cases e2:m=j
       ·subst e2;rw [if_pos rfl,if_pos rfl]
       ·rw [if_neg (by omega),if_neg (by omega)]
      ·rw [Tm.get_lf,Tm.get_lf,if_neg (by omega)]
    ·cases j with
     | zero=>rw [Tm.get_0,if_neg (by omega)];rfl
     | succ j=>
      rw [Tm.get_s]
      rcases beq_cases (j % 2) 0 with ⟨g,g'⟩ | ⟨g,g'⟩<;>rw [g]<;>dsimp only
      ·rw [Tm.get_lf,Tm.get_lf,if_neg (by omega)]
      ·rw [Tm.get_put f _ _ _ (hh m h),Tm.get_lf,Tm.get_lf]
       by_cases e2:m=j
       ·subst e2;rw [if_pos rfl,if_pos rfl]
       ·rw [if_neg (by omega),if_neg (by omega)]
  | nd l v r=>
   cases n with
   | zero=>
    show (Tm.nd l x r).get j=_
    cases j with
    | zero=>rw [Tm.get_0,if_pos rfl]
    | succ j=>rw [Tm.get_s,if_neg (by omega),Tm.get_s]
   | succ m=>
    show (match Nat.beq (m % 2) 0 with | true=>Tm.nd (Tm.put f l (m / 2) x) v r | false=>.nd l v (Tm.put f r (m / 2) x)).get j=_
    rcases beq_cases (m % 2) 0 with ⟨e,e'⟩ | ⟨e,e'⟩<;>rw [e]<;>dsimp only
    ·cases j with
     | zero=>rw [Tm.get_0,if_neg (by omega),Tm.get_0]
     | succ j=>
      rw [Tm.get_s,Tm.get_s]
      rcases beq_cases (j % 2) 0 with ⟨g,g'⟩ | ⟨g,g'⟩<;>rw [g]<;>dsimp only
      ·rw [Tm.get_put f _ _ _ (hh m h)]
       by_cases e2:m=j
       ·subst e2;rw [if_pos rfl,if_pos rfl]
       ·rw [if_neg (by omega),if_neg (by omega)]
      ·rw [if_neg (by omega)]
    ·cases j with
     | zero=>rw [Tm.get_0,if_neg (by omega),Tm.get_0]
     | succ j=>
      rw [Tm.get_s,Tm.get_s]
      rcases beq_cases (j % 2) 0 with ⟨g,g'⟩ | ⟨g,g'⟩<;>rw [g]<;>dsimp only
      ·rw [if_neg (by omega)]
      ·rw [Tm.get_put f _ _ _ (hh m h)]
       by_cases e2:m=j
       ·subst e2;rw [if_pos rfl,if_pos rfl]
       ·rw [if_neg (by omega),if_neg (by omega)]
abbrev Mm:=Tm LB
def xput (M:Mm) (k:Nat) (x:Option LB):Option Mm:=match Nat.blt k 1000000000 with | true=>some (M.put 31 k x) | false=>none
theorem xput_get {M M':Mm} {k:Nat} {x:Option LB} (h:xput M k x=some M') (j:Nat):M'.get j=if k=j then x else M.get j:=by
 unfold xput at h
 split at h
 ·rename_i e
  cases h
  have e:k<1000000000:=Nat.le_of_ble_eq_true e
  exact Tm.get_put 31 M k j (by omega)
 ·cases h
def Rep (M:Mm) (L:LL):Prop:=∀k,getL L k=M.get k
theorem Rep.new {M M':Mm} {L:LL} {k:Nat} {x:LB} (h:Rep M L) (e:xput M k (some x)=some M'):Rep M' ((k,x)::L):=fun j=>by
 rw [getL_cons,xput_get e,h j]
theorem Rep.set {M M':Mm} {L:LL} {k:Nat} {x y:LB} (h:Rep M L) (hk:getL L k=some y) (e:xput M k (some x)=some M'):Rep M' (setL L k x):=fun j=>by
 rw [getL_setL,xput_get e,h j,]
 split
 ·rename_i e;subst e;rw [hk];rfl
 ·rfl
theorem Rep.rem {M M':Mm} {L:LL} {k:Nat} (h:Rep M L) (e:xput M k none=some M'):Rep M' (remL L k):=fun j=>by
 rw [getL_remL,xput_get e,h j]
def hF (n:Nat) (fr:Fr):Prop:=∀k,hasF k fr=true→k<n
def hL (n:Nat) (L:LL):Prop:=∀k,hasLL k L=true→k<n
def hV (n:Nat) (x:SV):Prop:=∀k,x.has k=true→k<n
def hS (n:Nat) (l:List SV):Prop:=∀k,hasL k l=true→k<n
theorem hF.mono {n m:Nat} {fr:Fr} (h:hF n fr) (e:n≤m):hF m fr:=fun k hk=>Nat.lt_of_lt_of_le (h k hk) e
theorem hL.mono {n m:Nat} {L:LL} (h:hL n L) (e:n≤m):hL m L:=fun k hk=>Nat.lt_of_lt_of_le (h k hk) e
theorem hV.mono {n m:Nat} {x:SV} (h:hV n x) (e:n≤m):hV m x:=fun k hk=>Nat.lt_of_lt_of_le (h k hk) e
theorem hS.mono {n m:Nat} {x:List SV} (h:hS n x) (e:n≤m):hS m x:=fun k hk=>Nat.lt_of_lt_of_le (h k hk) e
theorem hF.cons {n t:Nat} {x:SV} {fr:Fr} (h:hF n fr) (hx:hV n x):hF n ((t,x)::fr):=fun k hk=>by
 rw [hasF_cons,Bool.or_eq_true] at hk
 exact hk.elim (hx k) (h k)
theorem hS.nil {n:Nat}:hS n []:=fun k hk=>by simp [hasL] at hk
theorem hS.cons {n:Nat} {x:SV} {l:List SV} (h:hS n l) (hx:hV n x):hS n (x::l):=fun k hk=>by
 rw [hasL_cons,Bool.or_eq_true] at hk
 exact hk.elim (hx k) (h k)
theorem hS.head {n:Nat} {x:SV} {l:List SV} (h:hS n (x::l)):hV n x:=fun k hk=>h k (by rw [hasL_cons,hk];rfl)
theorem hS.tail {n:Nat} {x:SV} {l:List SV} (h:hS n (x::l)):hS n l:=fun k hk=>h k (by rw [hasL_cons,hk,Bool.or_true])
theorem hS.append {n:Nat} {l m:List SV} (h:hS n l) (h':hS n m):hS n (l++m):=fun k hk=>(hasL_append hk).elim (h k) (h' k)
theorem hS.take {n i:Nat} {l:List SV} (h:hS n l):hS n (takeN l i):=fun k hk=>h k (hasL_takeN hk)
theorem hS.drop {n i:Nat} {l:List SV} (h:hS n l):hS n (dropN l i):=fun k hk=>h k (hasL_dropN hk)
theorem hS.valL {n:Nat} (vs:List Value):hS n (valL vs):=fun k hk=>by rw [hasL_valL] at hk;cases hk
def hB (n:Nat) (x:LB):Prop:=∀k,x.has k=true→k<n
theorem hB.row {n e sz m:Nat} {cs:List SV} (h:hS n cs):hB n (.row e sz m cs):=h
theorem hB.cells {n t:Nat} {cs:List SV} (h:hS n cs):hB n (.cells t cs):=h
theorem hL.new {n k:Nat} {x:LB} {L:LL} (h:hL n L) (hk:k<n) (hx:hB n x):hL n ((k,x)::L):=fun j hj=>by
 rw [hasLL_cons,Bool.or_eq_true,Bool.or_eq_true] at hj
 rcases hj with hj | hj | hj
 ·have:=Nat.eq_of_beq_eq_true hj;omega
 ·exact hx j hj
 ·exact h j hj
theorem hL.set {n k:Nat} {x:LB} {L:LL} (h:hL n L) (hx:hB n x):hL n (setL L k x):=fun j hj=>(hasLL_setL hj).elim (h j) (hx j)
theorem hasLL_remL {j k:Nat}:∀{L:LL},hasLL j (remL L k)=true→hasLL j L=true
 | [],h=>h
 | (u,y)::r,h=>by
  rw [remL_c] at h
  rw [hasLL_cons,Bool.or_eq_true,Bool.or_eq_true]
  cases e:Nat.beq u k with
  | true=>rw [e] at h;exact .inr (.inr (hasLL_remL h))
  | false=>
   rw [e] at h
   rw [hasLL_cons,Bool.or_eq_true,Bool.or_eq_true] at h
   exact h.imp id (fun h=>h.imp id hasLL_remL)
theorem hL.rem {n k:Nat} {L:LL} (h:hL n L):hL n (remL L k):=fun j hj=>h j (hasLL_remL hj)
theorem hL.get {n k:Nat} {L:LL} {x:LB} (h:hL n L) (hk:getL L k=some x):hB n x:=fun j hj=>h j (getL_hasLL hk (.inr hj))
theorem hL.key {n k:Nat} {L:LL} {x:LB} (h:hL n L) (hk:getL L k=some x):k<n:=h k (getL_hasLL hk (.inl rfl))
theorem hF.opv {n:Nat} {fr:Fr} (h:hF n fr) (x:Operand):hV n (opv fr x):=fun k hk=>h k (opv_has hk)
theorem hF.opvs {n:Nat} {fr:Fr} (h:hF n fr):∀(l:List Operand),hS n (opvs fr l)
 | []=>.nil
 | x::r=>(hF.opvs h r).cons (h.opv x)
mutual
theorem ltK_of:∀(x:SV) {b:Nat},hV b x→ltK b x=true
 | .v _,_,_=>rfl
 | .bb _,_,_=>rfl
 | .b _ _,_,_=>rfl
 | .bad,_,_=>rfl
 | .el _ _,_,_=>rfl
 | .lp k _,b,h=>Nat.ble_eq_true_of_le (h k (by simp [SV.has]))
 | .own k,b,h=>Nat.ble_eq_true_of_le (h k (by simp [SV.has]))
 | .yl k,b,h=>Nat.ble_eq_true_of_le (h k (by simp [SV.has]))
 | .vw k _ _ _ _,b,h=>Nat.ble_eq_true_of_le (h k (by simp [SV.has]))
 | .lq k,b,h=>Nat.ble_eq_true_of_le (h k (by simp [SV.has]))
 | .ls k _,b,h=>Nat.ble_eq_true_of_le (h k (by simp [SV.has]))
 | .mr k,b,h=>Nat.ble_eq_true_of_le (h k (by simp [SV.has]))
 | .agg l,b,h=>ltKL_of l (fun k hk=>h k (by simpa [SV.has] using hk))
 | .tup l,b,h=>ltKL_of l (fun k hk=>h k (by simpa [SV.has] using hk))
 | .fn _ l,b,h=>ltKL_of l (fun k hk=>h k (by simpa [SV.has] using hk))
theorem ltKL_of:∀(l:List SV) {b:Nat},hS b l→ltKL b l=true
 | [],_,_=>rfl
 | x::r,b,h=>by
  rw [ltKL,ltK_of x h.head]
  exact ltKL_of r h.tail
end
theorem hV_of {x:SV} {b:Nat} (h:ltK b x=true):hV b x:=fun _ hk=>ltK_has x h hk
theorem ltF_of:∀{fr:Fr} {b:Nat},hF b fr→ltF b fr=true
 | [],_,_=>rfl
 | (u,x)::r,b,h=>by
  rw [ltF_c,ltK_of x (fun k hk=>h k (by rw [hasF_cons,hk];rfl))]
  exact ltF_of (fun k hk=>h k (by rw [hasF_cons,hk,Bool.or_true]))
theorem ltLL_of:∀{L:LL} {b:Nat},hL b L→ltLL b L=true
 | [],_,_=>rfl
 | (u,x)::r,b,h=>by
  have h1:Nat.blt u b=true:=Nat.ble_eq_true_of_le (h u (by rw [hasLL_cons];simp))
  have h2:ltLL b r=true:=ltLL_of (fun k hk=>h k (by rw [hasLL_cons,hk,Bool.or_true,Bool.or_true]))
  have h3:hB b x:=fun k hk=>h k (by rw [hasLL_cons,hk,Bool.true_or,Bool.or_true])
  rw [ltLL_c,h1]
  cases x with
  | cells T l=>dsimp only;rw [ltKL_of l h3];exact h2
  | row e s n l=>dsimp only;rw [ltKL_of l h3];exact h2
  | _=>exact h2
theorem dLt_of:∀{L:LL} {b:Nat},hL b L→dLt b L=true
 | [],_,_=>rfl
 | (u,x)::r,b,h=>by
  have h1:Nat.blt u b=true:=Nat.ble_eq_true_of_le (h u (by rw [hasLL_cons];simp))
  have h2:dLt b r=true:=dLt_of (fun k hk=>h k (by rw [hasLL_cons,hk,Bool.or_true,Bool.or_true]))
  cases x<;>(unfold dLt;first | exact h2 | (rw [h1];exact h2))
def XK (nk:Nat) (fr:Fr) (M:Mm):Kt:=fun _ _ fr' L=>fr'=fr∧Rep M L∧hF nk fr∧hL nk L
variable {P:Program} {S S' Sb:Pl} {fr:Fr} {L L':LL} {q q':PH} {w0:W0} {w w':World} {a a':Act} {n0 N:Nat} {B:Nat→Prop} {E:Env}
variable {r:Option Nat} {n:Nat} {Q:Exit→Act→World→Prop}
theorem _root_.Go.Eng.Cfg.up (hc:Cfg w0 Sb B n0 N S q fr L a w) (nk:Nat):Cfg w0 S (fun d=>getL L d=some .dfr) nk N S q fr L a w:=
 ⟨fun _ _=>rfl,fun _ _ h=>h,hc.m,hc.f,hc.n,hc.d⟩
theorem _root_.Go.Eng.Cfg.down {nk:Nat} {K:Kt} (hc:Cfg w0 Sb B n0 N S q fr L a w) (h0:n0≤nk) (h:St w0 S (fun d=>getL L d=some .dfr) nk N K a' w'):St w0 Sb B n0 N K a' w':=by
 obtain ⟨S',q',fr',L',nk',hc',hK⟩:=h
 exact ⟨S',q',fr',L',nk',⟨fun k hk=>(hc'.ag k (by omega)).trans (hc.ag k hk),fun d hd hB=>hc'.b d (by omega) (hc.b d hd hB),hc'.m,hc'.f,hc'.n,hc'.d⟩,hK⟩
theorem newK_of {nk:Nat} {lb:LB} {K:LL→Prop} (h1:hF nk fr) (h2:hL nk L) (h:K ((nk,lb)::L)):newK nk nk fr L lb K:=by
 unfold newK
 have e1:hasF nk fr=false:=by
  cases hb:hasF nk fr with
  | false=>rfl
  | true=>have:=h1 nk hb;omega
 have e2:hasLL nk L=false:=by
  cases hb:hasLL nk L with
  | false=>rfl
  | true=>have:=h2 nk hb;omega
 rw [Nat.ble_eq_true_of_le (Nat.le_refl nk),e1,e2]
 exact h
theorem noF {nk:Nat} (h1:hF nk fr):hasF nk fr=false:=by
 cases hb:hasF nk fr with
 | false=>rfl
 | true=>have:=h1 nk hb;omega
theorem noL {nk:Nat} (h2:hL nk L):hasLL nk L=false:=by
 cases hb:hasLL nk L with
 | false=>rfl
 | true=>have:=h2 nk hb;omega
def putX (N:Nat) (dst:Option Nat) (y:SV) (fr:Fr):Option Fr:=
 match dst with
 | none=>some fr
 | some d=>(match Nat.blt d N with | true=>some ((d,y)::fr) | false=>none)
theorem putX_ok {dst:Option Nat} {y:SV} {fr':Fr} {K:Fr→Prop} (h:putX N dst y fr=some fr') (hK:K fr'):putK N dst y fr K:=by
 unfold putX at h
 unfold putK
 split at h
 ·cases h;exact hK
 ·split at h
  ·rename_i e;cases h;dsimp only;rw [e];exact hK
  ·cases h
theorem putX_h {nk:Nat} {dst:Option Nat} {y:SV} {fr':Fr} (h:putX N dst y fr=some fr') (hf:hF nk fr) (hy:hV nk y):hF nk fr':=by
 unfold putX at h
 split at h
 ·cases h;exact hf
 ·split at h
  ·cases h;exact hf.cons hy
  ·cases h
end
end Exe
end Go.Eng
end
section
namespace Go.Eng
open Go Go.RowKit
namespace Exe
noncomputable section
variable {P:Program} {S S' Sb:Pl} {fr fr':Fr} {L L':LL} {q q':PH} {w0:W0} {w w':World} {a a':Act} {n0 N:Nat} {B:Nat→Prop} {E:Env}
variable {r:Option Nat} {n:Nat} {Q:Exit→Act→World→Prop} {M M':Mm} {nk:Nat} {y:SV}
def XL (fr1:Fr) (L1:LL):Kt:=fun _ _ fr' L'=>fr'=fr1∧L'=L1
theorem XL.to {fr1:Fr} {L1:LL} {nk':Nat} (h1:Rep M' L1) (h2:hF nk' fr1) (h3:hL nk' L1) (h:St w0 Sb B n0 N (XL fr1 L1) a w):St w0 Sb B n0 N (XK nk' fr1 M') a w:=by
 obtain ⟨S',q',fr',L',k',hc,rfl,rfl⟩:=h
 exact ⟨S',q',_,_,k',hc,rfl,h1,h2,h3⟩
theorem XL.rowed {fr1:Fr} {e sz m:Nat} {us:List Value} {cs:List SV} {L2:LL} {D:Nat→Prop} (hok:okL S cs us) (hcs:hS nk cs)
  (h:St w0 S D nk N (XL fr1 ((nk,.arr e sz m us)::L2)) a w):St w0 S D nk N (XL fr1 ((nk,.row e sz m cs)::L2)) a w:=by
 obtain ⟨S',q',fr',L',k',hc,rfl,rfl⟩:=h
 have hok':okL S' cs us:=okL_congr cs (fun k hk=>hc.ag k (hcs k hk)) hok
 refine ⟨S',q',_,_,k',⟨hc.ag,fun d hd hD=>?_,hc.m.head hok',hc.f,hc.n,hc.d⟩,rfl,rfl⟩
 have:=hc.b d hd hD
 rw [getL_cons,if_neg (by omega)] at this ⊢
 exact this
theorem XL.rowed2 {fr1:Fr} {k e sz m:Nat} {us:List Value} {cs:List SV} {L2:LL} {D:Nat→Prop} (hok:okL S cs us) (hcs:hS nk cs) (hk:getL L2 k=some (.arr e sz m us))
  (h:St w0 S D nk N (XL fr1 L2) a w):St w0 S D nk N (XL fr1 (setL L2 k (.row e sz m cs))) a w:=by
 obtain ⟨S',q',fr',L',k',hc,rfl,rfl⟩:=h
 have hok':okL S' cs us:=okL_congr cs (fun k hk=>hc.ag k (hcs k hk)) hok
 refine ⟨S',q',_,_,k',⟨hc.ag,fun d hd hD=>?_,hc.m.retell (lb':=.row e sz m cs) hk rfl ⟨us,hc.m.ch k _ hk,hok'⟩,hc.f,hc.n,hc.d⟩,rfl,rfl⟩
 have:=hc.b d hd hD
 rw [getL_setL]
 split
 ·rename_i e;subst e;rw [hk] at this;cases this
 ·exact this
theorem xcalm_step (hE:EnvOk P E) {o:Oper} (hc:Cfg w0 S B nk N S q fr L a w) (hR:Rep M L) (hf:hF nk fr) (hl:hL nk L)
  (h:xcalm E.T o.op fr M.get=some y) (hy:hV nk y) (hp:putX N o.dst y fr=some fr'):Oper.wpIn (FF r) n P o a w (St w0 S B nk N (XK nk fr' M)) Q:=
 calm_step (nk:=0) hE.T hE.Γ (fun f s hs=>⟨(hE.Δ f s hs).1,(hE.Δ f s hs).2.1⟩) (wr:=true) hc (xcalm_ok (hR) h (putX_ok hp ⟨rfl,hR,putX_h hp hf hy,hl⟩))
def xalloc (T:Tab) (t nk:Nat) (M:Mm):Option (SV×Mm):=
 match (ty T t).d with
 | .other=>none
 | _=>(match xput M nk (some (.cells t (valL (ty T t).zero))) with | some M'=>some (.lp nk 0,M') | none=>none)
theorem hV_lp {k m o:Nat} (h:k<m):hV m (.lp k o):=fun j hj=>by
 have:Nat.beq k j=true:=by simpa [SV.has] using hj
 have:=Nat.eq_of_beq_eq_true this
 omega
theorem hV_own {k m:Nat} (h:k<m):hV m (.own k):=fun j hj=>by
 have:Nat.beq k j=true:=by simpa [SV.has] using hj
 have:=Nat.eq_of_beq_eq_true this
 omega
theorem xalloc_step (hT:TabOk P E.T) {o:Oper} {t:Nat} (hop:o.op=.alloc t) (hc:Cfg w0 S B nk N S q fr L a w) (hR:Rep M L) (hf:hF nk fr) (hl:hL nk L)
  (h:xalloc E.T t nk M=some (y,M')) (hp:putX N o.dst y fr=some fr'):Oper.wpIn (FF r) n P o a w (St w0 S B nk N (XK (nk+1) fr' M')) Q:=by
 unfold xalloc at h
 split at h
 ·cases h
 rename_i hne
 split at h
 rotate_left
 ·cases h
 rename_i M1 hM
 cases h
 have main:fSVL (valL (ty E.T t).zero) fun z=>newK nk nk fr L (.cells t z) fun L=>putK N o.dst (.lp nk 0) fr fun fr=>XK (nk+1) fr' M' 0 q fr L:=by
  rw [fSVL_eq]
  exact newK_of hf hl (putX_ok hp ⟨rfl,hR.new hM,putX_h hp (hf.mono (by omega)) (hV_lp (by omega)),(hl.mono (by omega)).new (by omega) (.cells (.valL _))⟩)
 refine alloc_step (key:=nk) (nk:=0) hT hop hc ?_
 revert main hne
 generalize ty E.T t=ti
 obtain ⟨d,_,_,_,_⟩:=ti
 cases d<;>intro hne h<;>first | exact h | exact absurd rfl hne
def xbox (T:Tab) (t:Nat) (x:SV):Option (List SV):=
 match x with
 | .agg l=>(match Nat.beq l.length (ty T t).sz,oneL l with | true,true=>some l | _,_=>none)
 | .tup _=>none
 | .bad=>none
 | .v (.agg _)=>none
 | .v (.tuple _)=>none
 | y=>(match Nat.beq (ty T t).sz 1 with | true=>some [y] | false=>none)
theorem xbox_ok {T:Tab} {t:Nat} {x:SV} {l:List SV} {K:List SV→Prop} (h:xbox T t x=some l) (hK:K l):boxCells T t x K:=by
 unfold xbox at h
 unfold boxCells
 split at h
 ·split at h
  ·rename_i e1 e2;cases h;dsimp only;rw [e1,e2];exact hK
  ·cases h
 ·cases h
 ·cases h
 ·cases h
 ·cases h
 ·rename_i N1 N2 N3 N4 N5
  split at h
  ·rename_i e
   cases h
   rw [e]
   split
   ·exact (N1 _ rfl).elim
   ·exact (N2 _ rfl).elim
   ·exact (N3 rfl).elim
   ·exact (N4 _ rfl).elim
   ·exact (N5 _ rfl).elim
   ·exact hK
  ·cases h
theorem xbox_h {T:Tab} {t m:Nat} {x:SV} {l:List SV} (h:xbox T t x=some l) (hx:hV m x):hS m l:=by
 unfold xbox at h
 split at h
 ·split at h
  ·cases h;exact fun k hk=>hx k (by simpa [SV.has] using hk)
  ·cases h
 ·cases h
 ·cases h
 ·cases h
 ·cases h
 ·split at h
  ·cases h;exact hS.nil.cons hx
  ·cases h
def xboxM (T:Tab) (t nk:Nat) (x:SV) (M:Mm):Option (SV×Mm):=
 match (ty T t).d with
 | .other=>none
 | _=>(match xbox T t x with
  | some l=>(match xput M nk (some (.cells t l)) with | some M'=>some (.lp nk 0,M') | none=>none)
  | none=>none)
theorem xbox_step {o:Oper} {t:Nat} {x:Operand} (hop:o.op=.box t x) (hc:Cfg w0 S B nk N S q fr L a w) (hR:Rep M L) (hf:hF nk fr) (hl:hL nk L)
  (h:xboxM E.T t nk (opv fr x) M=some (y,M')) (hp:putX N o.dst y fr=some fr'):Oper.wpIn (FF r) n P o a w (St w0 S B nk N (XK (nk+1) fr' M')) Q:=by
 unfold xboxM at h
 split at h
 ·cases h
 split at h
 rotate_left
 ·cases h
 rename_i l hx
 split at h
 rotate_left
 ·cases h
 rename_i M1 hM
 cases h
 exact box_step (E:=E) (key:=nk) (nk:=0) hop hc (xbox_ok hx (newK_of hf hl (putX_ok hp ⟨rfl,hR.new hM,putX_h hp (hf.mono (by omega)) (hV_lp (by omega)),(hl.mono (by omega)).new (by omega) (.cells ((xbox_h hx (hf.opv x)).mono (by omega)))⟩)))
def xbuildS (T:Tab) (t m nk:Nat) (fr:Fr) (ps:List (Nat×Operand)) (M:Mm):Option (SV×Mm):=
 match (ty T t).d with
 | .slice e=>(match (ty T e).d with
  | .other=>none
  | _=>(match xparts T (elemPl (ty T e).sz e m 0) fr ps (repl m (valL (ty T e).zero)) with
   | some cs=>(match oneL cs,Nat.ble (m * (ty T e).sz) 16777216,xput M nk (some (.row e (ty T e).sz m cs)) with
    | true,true,some M'=>some (.own nk,M')
    | _,_,_=>none)
   | none=>none))
 | _=>none
theorem repl_h {m:Nat} {l:List SV} (h:hS m l):∀i,hS m (repl i l)
 | 0=>.nil
 | i+1=>h.append (repl_h h i)
theorem xparts_h {T:Tab} {m:Nat} {fs:List (Nat×Nat)} (hf:hF m fr):∀{ps:List (Nat×Operand)} {cs l:List SV},hS m cs→xparts T fs fr ps cs=some l→hS m l
 | [],cs,l,hc,h=>by cases h;exact hc
 | (i,x)::r,cs,l,hc,h=>by
  rw [xparts_c] at h
  have hx:=hf.opv x
  split at h
  ·rename_i off t hn
   split at h
   ·rename_i l' hx'
    rw [hx'] at hx
    split at h
    ·have hl':hS m l':=fun k hk=>hx k (by simpa [SV.has] using hk)
     exact xparts_h hf ((hc.take.append hl').append hc.drop) h
    ·cases h
   ·cases h
   ·cases h
   ·cases h
   ·cases h
   ·split at h
    ·refine xparts_h hf ?_ h
     have set:∀(cs:List SV) (i:Nat),hS m cs→hS m (setN cs i (opv fr x)):=by
      intro cs
      induction cs with
      | nil=>intro i h;cases i<;>exact h
      | cons z s ih=>intro i h;cases i with
       | zero=>exact h.tail.cons hx
       | succ i=>exact (ih i h.tail).cons h.head
     exact set cs off hc
    ·cases h
  ·cases h
theorem xbuildS_step (hT:TabOk P E.T) {o:Oper} {t m:Nat} {ps:Array (Nat×Operand)} (hop:o.op=.buildSlice t m ps) (hc:Cfg w0 S B nk N S q fr L a w) (hR:Rep M L) (hf:hF nk fr) (hl:hL nk L) (hB:B=fun d=>getL L d=some .dfr)
  (h:xbuildS E.T t m nk fr ps.toList M=some (y,M')) (hp:putX N o.dst y fr=some fr'):Oper.wpIn (FF r) n P o a w (St w0 S B nk N (XK (nk+1) fr' M')) Q:=by
 unfold xbuildS at h
 split at h
 rotate_left
 ·cases h
 rename_i e hd
 split at h
 ·cases h
 rename_i h0
 replace h0:(ty E.T e).d≠.other:=fun e=>h0 e
 split at h
 rotate_left
 ·cases h
 rename_i cs hcs
 split at h
 rotate_left
 ·cases h
 rename_i M1 hone h2 hM
 cases h
 have h2:=Nat.le_of_ble_eq_true h2
 have h':=xparts_ok (K:=fun l=>l=cs) hcs rfl
 obtain ⟨ht,hsz,i,hi,hisz,_⟩:descOk P E.T t (.slice e):=by rw [←hd];exact (hT t (by rw [hd];simp)).d
 obtain ⟨i',z,hi',hisz',_,hz,hzc⟩:=(hT e h0).i
 rw [hi] at hi'
 cases hi'
 have hzl:(ty E.T e).zero.length=(ty E.T e).sz:=(hT e h0).zl
 obtain ⟨l,us,hK,hok,hf1⟩:=partsK_ok (T:=E.T) (ρ:=a.eval) hc.f (fun x=>opv_ok hc.f x) (fun i=>some (i * (ty E.T e).sz,(ty E.T e).sz)) (fun i off t h=>by
  obtain ⟨h1,h2⟩:=elemPl_nth m 0 i off t h
  rw [h1,h2];simp) ps.toList _ _ _ (okL_repl (okL_valL (S:=S) (ty E.T e).zero) m) h'
 have hrun0:m * (ty E.T e).sz≤16777216→(Instr.buildSlice t m (ps.map fun (q:Nat×Operand)=>(q.1,a.eval q.2))).run P w=.ok (.slice (some ⟨w.heap.size,0,none⟩) m m) (w.alloc (.cells us.toArray e)):=fun h2=>by
  have hus:us.length=m * (ty E.T e).sz:=by
   have hl:=okL_length hok
   have:us.toArray.size=(List.replicate m (ty E.T e).zero).flatten.toArray.size:=fill_size hf1
   simpa [hzl] using this
  have hps:(ps.map fun (q:Nat×Operand)=>(q.1,a.eval q.2)).toList=ps.toList.map fun q=>(q.1,a.eval q.2):=by simp
  have hmade:(if m * (ty E.T e).sz=0 then (#[]:Array Value) else z.cells)=(if m * (ty E.T e).sz=0 then (#[]:Array Value) else (ty E.T e).zero.toArray):=by rw [←hzc]
  have hrun:(Instr.buildSlice t m (ps.map fun (q:Nat×Operand)=>(q.1,a.eval q.2))).run P w=.ok (.slice (some ⟨w.heap.size,0,none⟩) m m) (w.alloc (.cells us.toArray e)):=by
   have hlim:¬(2 ^ 24<m * i.size):=by rw [hisz];omega
   by_cases hz0:m * i.size=0
   ·have hm0:m=0:=by
     rcases Nat.mul_eq_zero.1 hz0 with h | h
     ·exact h
     ·omega
    subst hm0
    simp only [List.replicate_zero,List.flatten_nil] at hf1
    have hr0:Array.range 0=#[]:=rfl
    simp only [Instr.buildSlice,Sem.run_bind,run_underlying ht,Result.andThen_ok,sizeOf,typeInfo,run_program,hi,Sem.run_pure,Nat.zero_mul]
    rw [if_neg (by omega)]
    simp only [Sem.run_bind,Result.andThen_ok,Sem.run_pure,if_true,hisz,Nat.zero_mul,hr0,Array.map_empty]
    rw [hps,hf1]
    simp [newRow]
   ·have hm:=made_flat (ty E.T e).zero (by omega) m
    rw [hzl] at hm
    have hf2:=hf1
    rw [←hm] at hf2
    have hz':z.cells=(ty E.T e).zero.toArray:=by rw [←hzc]
    have hz0':¬m * (ty E.T e).sz=0:=by rw [←hisz];exact hz0
    simp only [Instr.buildSlice,Sem.run_bind,run_underlying ht,Result.andThen_ok,sizeOf,typeInfo,run_program,hi,Sem.run_pure]
    rw [if_neg (by omega)]
    simp only [Sem.run_bind,hz0',if_false,zeroValue,typeInfo,run_program,Result.andThen_ok,hi,Sem.run_pure,hz,hisz,hz']
    rw [hps,hf2]
    simp [newRow]
  exact hrun
 subst hK
 have hrun:=hrun0 h2
 have hus:us.length=m * (ty E.T e).sz:=by
  have hl:=okL_length hok
  have:us.toArray.size=(List.replicate m (ty E.T e).zero).flatten.toArray.size:=fill_size hf1
  simpa [hzl] using this
 have hcsh:hS nk l:=xparts_h hf (repl_h (.valL _) m) hcs
 refine Oper.wpIn_mono (fun a w h=>XL.to (hR.new hM) (putX_h hp (hf.mono (Nat.le_succ nk)) (hV_own (Nat.lt_succ_self nk))) ((hl.mono (Nat.le_succ nk)).new (Nat.lt_succ_self nk) (.row (hcsh.mono (Nat.le_succ nk)))) (XL.rowed hok hcsh h))
  (arr_new (key:=nk) (nk:=0) (K:=XL fr' ((nk,.arr e (ty E.T e).sz m us)::L)) (cur:=us.toArray) (cap:=m) hc (nd_of hop (by simp)) rfl (run_exec (by simp only [execOp,hop]) hrun) hsz hus (Nat.le_refl _) (by
  have:=Nat.le_mul_of_pos_right m hsz
  have e:maxLen=9223372036854775807:=by decide
  omega) (by simpa using hus) (by rw [←hus];simp) (oneL_ok hone hok) (newK_of hf hl (putX_ok hp ⟨rfl,rfl⟩)))
end
end Exe
end Go.Eng
end
section
namespace Go.Eng
open Go Go.RowKit
namespace Exe
noncomputable section
variable {P:Program} {S S' Sb:Pl} {fr fr':Fr} {L L':LL} {q q':PH} {w0:W0} {w w':World} {a a':Act} {n0 N:Nat} {B:Nat→Prop} {E:Env}
variable {r:Option Nat} {n:Nat} {Q:Exit→Act→World→Prop} {M M':Mm} {nk:Nat} {y:SV}
def xmake (T:Tab) (t nk:Nat) (l c:SV) (M:Mm):Option (SV×Mm):=
 match (ty T t).d,l,c with
 | .slice e,.v (.int .i64 n),.v (.int .i64 m)=>
  (match (ty T e).d with
  | .other=>none
  | _=>(match Nat.beq (ty T e).sz 1,(ty T e).zero,oneVL (ty T e).zero,in3 n m 9223372036854775807,in3 0 (m * (ty T e).byt) 140737488355328 with
   | true,[z],true,true,true=>(match xput M nk (some (.row e (ty T e).sz n.toNat (valL (List.replicate n.toNat z)))) with | some M'=>some (.own nk,M') | none=>none)
   | _,_,_,true,true=>(match decide (n=0),xput M nk (some (.row e (ty T e).sz 0 [])) with | true,some M'=>some (.own nk,M') | _,_=>none)
   | _,_,_,_,_=>none))
 | _,_,_=>none
theorem xmake_step (hT:TabOk P E.T) {o:Oper} {t:Nat} {l c:Operand} (hop:o.op=.makeSlice t l c) (hc:Cfg w0 S B nk N S q fr L a w) (hR:Rep M L) (hf:hF nk fr) (hl:hL nk L)
  (h:xmake E.T t nk (opv fr l) (opv fr c) M=some (y,M')) (hp:putX N o.dst y fr=some fr'):Oper.wpIn (FF r) n P o a w (St w0 S B nk N (XK (nk+1) fr' M')) Q:=by
 unfold xmake at h
 split at h
 rotate_left
 ·cases h
 rename_i e k m hd hel hec
 split at h
 ·cases h
 rename_i hne
 replace hne:(ty E.T e).d≠.other:=fun e=>hne e
 have fin:∀{us:List Value} {c0:Nat} {K1:Kt},xput M nk (some (.row e (ty E.T e).sz c0 (valL us)))=some M'→y=.own nk →
   Oper.wpIn (FF r) n P o a w (St w0 S B nk N (XL fr' ((nk,.arr e (ty E.T e).sz c0 us)::L))) Q→Oper.wpIn (FF r) n P o a w (St w0 S B nk N (XK (nk+1) fr' M')) Q:=by
  intro us c0 K1 hM hy hw
  subst hy
  exact Oper.wpIn_mono (fun a w h=>XL.to (hR.new hM) (putX_h hp (hf.mono (Nat.le_succ nk)) (hV_own (Nat.lt_succ_self nk))) ((hl.mono (Nat.le_succ nk)).new (Nat.lt_succ_self nk) (.row (.valL _))) (XL.rowed (okL_valL _) (.valL _) h)) hw
 have mk:(makeK E.T t nk nk (opv fr l) (opv fr c) fr L fun x L=>putK N o.dst x fr fun fr=>XL fr' L 0 q fr L)→True:=fun _=>trivial
 split at h
 ·rename_i z h1 h2 h3 h4 h5
  split at h
  rotate_left
  ·cases h
  rename_i M1 hM
  cases h
  have h4:=in3_ok h4
  have h5:=in3_ok h5
  refine fin (K1:=XL fr' L) hM rfl (make_step (key:=nk) (nk:=0) hT hop hc ?_)
  unfold makeK
  rw [hd,hel,hec]
  dsimp only
  have main:Ob (0≤k∧k≤m∧m≤9223372036854775807∧m * (ty E.T e).byt≤140737488355328)∧∀N' zs,N'=k.toNat→zs=List.replicate k.toNat z→newK nk nk fr L (.arr e (ty E.T e).sz N' zs) fun L'=>putK N o.dst (.own nk) fr fun fr=>XL fr' ((nk,.arr e (ty E.T e).sz k.toNat (List.replicate k.toNat z))::L) 0 q fr L':=
   ⟨⟨h4.1,h4.2.1,h4.2.2,h5.2.2⟩,fun N' zs e1 e2=>by subst e1 e2;exact newK_of hf hl (putX_ok hp ⟨rfl,rfl⟩)⟩
  revert main h1 h2 h3 hne
  generalize ty E.T e=ti
  obtain ⟨d,sz,byt,zero,fl,cm⟩:=ti
  intro hne h1 h2 h3 main
  dsimp only at h1 h2 h3 main hne ⊢
  rw [h2] at h3 ⊢
  cases d<;>first
   | exact absurd rfl hne
   | (dsimp only;rw [h1,h3];exact main)
 ·rename_i h4 h5 hN
  split at h
  rotate_left
  ·cases h
  rename_i M1 h0 hM
  cases h
  have h0:k=0:=of_decide_eq_true h0
  subst h0
  have h4:=in3_ok h4
  have h5:=in3_ok h5
  refine fin (us:=[]) (K1:=XL fr' L) hM rfl (make_step (key:=nk) (nk:=0) hT hop hc ?_)
  unfold makeK
  rw [hd,hel,hec]
  dsimp only
  have main:Ob ((0:Int)=0∧0≤m∧m≤9223372036854775807∧m * (ty E.T e).byt≤140737488355328)∧newK nk nk fr L (.arr e (ty E.T e).sz 0 []) fun L'=>putK N o.dst (.own nk) fr fun fr=>XL fr' ((nk,.arr e (ty E.T e).sz 0 [])::L) 0 q fr L':=
   ⟨⟨rfl,h4.2.1,h4.2.2,h5.2.2⟩,newK_of hf hl (putX_ok hp ⟨rfl,rfl⟩)⟩
  have main2:∀z:Value,Ob ((0:Int)≤0∧0≤m∧m≤9223372036854775807∧m * (ty E.T e).byt≤140737488355328)∧∀N' zs,N'=Int.toNat 0→zs=List.replicate (Int.toNat 0) z→newK nk nk fr L (.arr e (ty E.T e).sz N' zs) fun L'=>putK N o.dst (.own nk) fr fun fr=>XL fr' ((nk,.arr e (ty E.T e).sz 0 [])::L) 0 q fr L':=
   fun z=>⟨⟨Int.le_refl _,h4.2.1,h4.2.2,h5.2.2⟩,fun N' zs e1 e2=>by subst e1 e2;exact main.2⟩
  clear hN h5 hM fin mk
  revert main main2 hne
  generalize ty E.T e=ti
  obtain ⟨d,sz,byt,zero,fl,cm⟩:=ti
  intro hne main main2
  dsimp only at main main2 hne ⊢
  have hh:∀(X:Prop) (Y:Value→Prop),X→(∀z,Y z)→(match Nat.beq sz 1,zero,oneVL zero with | true,[z],true=>Y z | _,_,_=>X):=by
   intro X Y hX hY
   split
   ·exact hY _
   ·exact hX
  cases d<;>first
   | exact absurd rfl hne
   | exact hh _ (fun z=>Ob ((0:Int)≤0∧0≤m∧m≤9223372036854775807∧m * byt≤140737488355328)∧∀N' zs,N'=Int.toNat 0→zs=List.replicate (Int.toNat 0) z→newK nk nk fr L (.arr e sz N' zs) fun L'=>putK N o.dst (.own nk) fr fun fr=>XL fr' ((nk,.arr e sz 0 [])::L) 0 q fr L') main main2
 ·cases h
def xmakeA (T:Tab) (t nk:Nat) (l c:SV) (M:Mm):Option (SV×Mm):=
 match (ty T t).d,l,c with
 | .slice e,.v (.int .i64 n),.v (.int .i64 m)=>
  (match (ty T e).d with
  | .other=>none
  | _=>(match Nat.beq (ty T e).sz 1,Nat.beq (ty T e).zero.length (ty T e).sz,oneVL (ty T e).zero,in3 n m 9223372036854775807,in3 0 (m * (ty T e).byt) 140737488355328,xput M nk (some (.row e (ty T e).sz n.toNat (repl n.toNat (valL (ty T e).zero)))) with
   | false,true,true,true,true,some M'=>some (.own nk,M')
   | _,_,_,_,_,_=>xmake T t nk l c M))
 | _,_,_=>none
theorem valL_app:∀(a b:List Value),valL (a++b)=valL a++valL b
 | [],b=>rfl
 | x::a,b=>by cases x<;>simp [valL,valL_app a b]
theorem repl_val {l:List Value}:∀n,repl n (valL l)=valL (List.replicate n l).flatten
 | 0=>rfl
 | n+1=>by
  show valL l++repl n (valL l)=_
  rw [repl_val n,List.replicate_succ,List.flatten_cons,valL_app]
theorem made_flat {z:Array Value} {sz:Nat} (h:z.size=sz):∀n,(List.range (n * sz)).map (z[· % z.size]!)=(List.replicate n z.toList).flatten
 | 0=>by simp
 | n+1=>by
  rw [Nat.succ_mul,List.range_add,List.map_append,made_flat h n,List.replicate_succ',List.flatten_append,List.map_map]
  congr 1
  simp only [List.flatten_cons,List.flatten_nil,List.append_nil]
  apply List.ext_getElem
  ·simp [h]
  ·intro i h1 h2
   have hi:i<sz:=by simpa using h1
   simp only [List.getElem_map,List.getElem_range,Function.comp,Array.getElem_toList]
   rw [h,Nat.mul_comm n sz,Nat.mul_add_mod,Nat.mod_eq_of_lt hi,getElem!_pos z i (by omega)]
theorem xmakeA_step (hT:TabOk P E.T) {o:Oper} {t:Nat} {l c:Operand} (hop:o.op=.makeSlice t l c) (hc:Cfg w0 S B nk N S q fr L a w) (hR:Rep M L) (hf:hF nk fr) (hl:hL nk L)
  (h:xmakeA E.T t nk (opv fr l) (opv fr c) M=some (y,M')) (hp:putX N o.dst y fr=some fr'):Oper.wpIn (FF r) n P o a w (St w0 S B nk N (XK (nk+1) fr' M')) Q:=by
 unfold xmakeA at h
 split at h
 rotate_left
 ·cases h
 rename_i e k m hd hel hec
 split at h
 ·cases h
 rename_i hne
 replace hne:(ty E.T e).d≠.other:=fun e=>hne e
 split at h
 rotate_left
 ·exact xmake_step hT hop hc hR hf hl h hp
 rename_i M1 h1 h2 h3 h4 h5 hM
 cases h
 have h2:=Nat.eq_of_beq_eq_true h2
 have h4:=in3_ok h4
 have h5:=in3_ok h5
 have hlv:=opv_ok hc.f l
 have hcv:=opv_ok hc.f c
 rw [hel] at hlv
 rw [hec] at hcv
 have hlv:a.eval l=.int .i64 k:=hlv
 have hcv:a.eval c=.int .i64 m:=hcv
 obtain ⟨ht,hsz,i,hi,hisz,hiby⟩:descOk P E.T t (.slice e):=by rw [←hd];exact (hT t (by rw [hd];simp)).d
 obtain ⟨i',z,hi',hisz',_,hz,hzc⟩:=(hT e hne).i
 rw [hi] at hi'
 cases hi'
 have hex:(execOp a.eval o)=(do pure (.value (←Instr.makeSlice t (.int .i64 k) (.int .i64 m)))):=by
  simp only [execOp,hop,hlv,hcv]
 have hr:=run_make (P:=P) w t e i z ht hi hz .i64 .i64 k m h4.1 h4.2.1 (by rw [hiby,Int.mul_comm];omega) h4.2.2
 have hzs:z.cells.size=(ty E.T e).sz:=by rw [←h2,←hzc];simp
 have hus:(List.replicate k.toNat (ty E.T e).zero).flatten=(List.range (k.toNat * (ty E.T e).sz)).map (z.cells[· % z.cells.size]!):=by rw [made_flat hzs,hzc]
 have hone:∀u∈(List.replicate k.toNat (ty E.T e).zero).flatten,u.oneCell'=true:=fun u hu=>by
  obtain ⟨l1,hl1,hu⟩:=List.mem_flatten.1 hu
  rw [List.eq_of_mem_replicate hl1] at hu
  exact oneVL_ok h3 u hu
 have hst:Oper.wpIn (FF r) n P o a w (St w0 S B nk N (XL fr' ((nk,.arr e (ty E.T e).sz k.toNat (List.replicate k.toNat (ty E.T e).zero).flatten)::L))) Q:=by
  refine arr_new (cap:=m.toNat) (nk:=0) hc (nd_of hop (by simp)) rfl (run_exec hex hr) hsz ?_ (by omega) (maxLen_le (by omega)) (by rw [size_madeCells,hisz]) ?_ hone (newK_of hf hl (putX_ok hp ⟨rfl,rfl⟩))
  ·rw [hus];simp
  ·rw [hus,hisz]
   unfold madeCells
   rw [Array.toList_map,Array.toList_range,←List.map_take,List.take_range]
   congr 2
   rw [Nat.min_eq_left]
   exact Nat.mul_le_mul_right _ (by omega)
 rw [repl_val] at hM
 exact Oper.wpIn_mono (fun a w h=>XL.to (hR.new hM) (putX_h hp (hf.mono (Nat.le_succ nk)) (hV_own (Nat.lt_succ_self nk))) ((hl.mono (Nat.le_succ nk)).new (Nat.lt_succ_self nk) (.row (.valL _))) (XL.rowed (okL_valL _) (.valL _) h)) hst
def xstore (T:Tab) (t:Nat) (p x:SV) (M:Mm):Option Mm:=
 match isOther T t with
 | true=>none
 | false=>(match p with
  | .lp k o=>(match xbox T t x with
   | some l=>(match M.get k with
    | some (.cells TT cs)=>(match Nat.ble (o+l.length) cs.length with | true=>xput M k (some (.cells TT (takeN cs o++l++dropN cs (o+l.length)))) | false=>none)
    | some (.row e sz n cs)=>(match Nat.ble (o+l.length) cs.length with | true=>xput M k (some (.row e sz n (takeN cs o++l++dropN cs (o+l.length)))) | false=>none)
    | _=>none)
   | none=>none)
  | _=>none)
theorem row_store (hT:TabOk P E.T) {o:Oper} {t k off e sz m:Nat} {x y:Operand} {cs l:List SV} (hop:o.op=.store t x y) (hc:Cfg w0 Sb B n0 N S q fr L a w) (h0:(ty E.T t).d≠.other)
  (hx:a.eval x=.pointer (some ⟨(S k).b,off,none⟩)) (hk:getL L k=some (.row e sz m cs)) (hok:okL S l (a.eval y).cells.toList) (hlen:l.length=(ty E.T t).sz) (h1:∀u∈(a.eval y).cells.toList,u.oneCell'=true)
  (hb:off+l.length≤cs.length) {fr1:Fr} (hp:putX N o.dst (.v undef) fr=some fr1) :
  Oper.wpIn (FF r) n P o a w (St w0 Sb B n0 N (XL fr1 (setL L k (.row e sz m (takeN cs off++l++dropN cs (off+l.length)))))) Q:=by
 obtain ⟨i,z,hi,hisz,_⟩:=(hT t h0).i
 have hpos:=(hT t h0).pos
 obtain ⟨xs,⟨⟨hl,hown⟩,hn,hsz,hone,hA⟩,hxs⟩:=hc.m.ch k _ hk
 have hcl:=okL_length hxs
 have hl2:=okL_length hok
 rcases hown with ⟨_,hz0⟩ | ⟨g,cap,cur,hval,hg0,hg,hcap,hmax,hcur,htake⟩
 ·subst hz0
  have:cs.length=0:=by rw [hcl,hl];simp
  omega
 injection hval with hval hval2 hval3
 have hAb:(S k).A=some ⟨(S k).b,0,none⟩:=by
  rcases hA with hA | hA
  ·rw [hA] at hval;cases hval
  ·exact hA
 have hgb:g=(S k).b:=by
  rw [hAb] at hval
  injection hval with hval
  injection hval with hval _ _
  exact hval.symm
 subst hgb
 have hle:m * sz≤cap * sz:=Nat.mul_le_mul_right sz hcap
 have hcl2:cs.length=m * sz:=hcl.trans hl
 have hr:=run_storeAt_own (P:=P) (o:=off) (v:=a.eval y) hi hisz (by rw [←hl2,hlen]) hg (by rw [hcur];omega) h1
 have hlv:(a.eval y).cells.toList.length=l.length:=hl2.symm
 refine wpIn_skip' (nd_of hop (by simp)) (w':=w.setRow (S k).b (cur.toList.take off++(a.eval y).cells.toList++cur.toList.drop (off+(ty E.T t).sz)).toArray) ?_ ?_
 ·simp only [execOp,hop,hx,Sem.run_bind,hr,Result.andThen_ok,Sem.run_pure]
 have htk:(cur.toList.take off++(a.eval y).cells.toList++cur.toList.drop (off+(ty E.T t).sz)).take (m * sz)=xs.take off++(a.eval y).cells.toList++xs.drop (off+l.length):=by
  have:=take_mid (l:=cur.toList) (m:=(a.eval y).cells.toList) (lo:=off) (n:=m * sz) (by rw [hlv];omega) (by rw [Array.length_toList,hcur];exact hle)
  rw [hlv,htake] at this
  rw [←hlen]
  exact this
 have hmem:Mem w0 q S (setL L k (.row e sz m (takeN cs off++l++dropN cs (off+l.length)))) (w.setRow (S k).b (cur.toList.take off++(a.eval y).cells.toList++cur.toList.drop (off+(ty E.T t).sz)).toArray):=by
  refine hc.m.turn hk (by simp [blk,hAb]) setRow_grown ?_ (by simp [blk,hAb])
  refine ⟨xs.take off++(a.eval y).cells.toList++xs.drop (off+l.length),⟨⟨?_,.inr ⟨_,cap,_,?_,hg0,setRow_heap w _ _ _ e (0,0) hg,hcap,hmax,?_,?_⟩⟩,hn,hsz,?_,hA⟩,?_⟩
  ·rw [List.length_append,List.length_append,List.length_take,List.length_drop,hlv];omega
  ·rw [hAb,hval2,hval3]
  ·simp only [List.size_toArray,List.length_append,List.length_take,List.length_drop,hlv,Array.length_toList,hlen] at *;omega
  ·simpa using htk
  ·intro u hu
   rcases List.mem_append.1 hu with hu | hu
   ·rcases List.mem_append.1 hu with hu | hu
    ·exact hone u (List.mem_of_mem_take hu)
    ·exact h1 u hu
   ·exact hone u (List.mem_of_mem_drop hu)
  ·exact okL_append (okL_append (okL_take off hxs) hok) (okL_drop _ hxs)
 obtain ⟨fr',hK',hc'⟩:=(hc.turn (lb':=.row e sz m (takeN cs off++l++dropN cs (off+l.length))) hk (by simp) hmem).put (v:=undef) (K:=fun fr=>fr=fr1) (putX_ok hp rfl) rfl
 exact ⟨S,q,fr',_,0,hc',hK',rfl⟩
theorem xstore_step (hT:TabOk P E.T) {o:Oper} {t:Nat} {x v:Operand} (hop:o.op=.store t x v) (hc:Cfg w0 S B nk N S q fr L a w) (hR:Rep M L) (hf:hF nk fr) (hl:hL nk L)
  (h:xstore E.T t (opv fr x) (opv fr v) M=some M') (hp:putX N o.dst (.v undef) fr=some fr'):Oper.wpIn (FF r) n P o a w (St w0 S B nk N (XK nk fr' M')) Q:=by
 unfold xstore at h
 split at h
 ·cases h
 rename_i ho
 have h0:(ty E.T t).d≠.other:=fun e=>by simp [isOther,e] at ho
 split at h
 rotate_left
 ·cases h
 rename_i k off ek
 split at h
 rotate_left
 ·cases h
 rename_i l hx
 have hlS:hS nk l:=xbox_h hx (hf.opv v)
 have hfv:hF nk fr':=putX_h hp hf (fun k hk=>by simp [SV.has] at hk)
 split at h
 ·rename_i TT cs hk
  split at h
  rotate_left
  ·cases h
  rename_i hb
  rw [←hR k] at hk
  refine store_gen (nk:=0) hT hop hc (opv_ok hc.f v) ?_
  unfold storeK
  rw [ho,ek]
  dsimp only
  rw [hk]
  refine xbox_ok hx ?_
  rw [hb]
  dsimp only
  rw [fLL_eq]
  have hcs:hS nk cs:=hl.get hk
  exact putX_ok hp ⟨rfl,hR.set hk h,hfv,hl.set (.cells ((hcs.take.append hlS).append hcs.drop))⟩
 ·rename_i e sz m cs hk
  split at h
  rotate_left
  ·cases h
  rename_i hb
  have hb:=Nat.le_of_ble_eq_true hb
  rw [←hR k] at hk
  have hxe:=opv_ok hc.f x
  rw [ek] at hxe
  obtain ⟨l',e',hok,hlen,_,h1⟩:=boxCells_ok (xbox_ok (K:=fun l'=>l'=l) hx rfl) (opv_ok hc.f v)
  subst e'
  have hcs:hS nk cs:=hl.get hk
  exact Oper.wpIn_mono (fun a w h'=>XL.to (hR.set hk h) hfv (hl.set (.row ((hcs.take.append hlS).append hcs.drop))) h') (row_store hT hop hc h0 hxe hk hok hlen h1 hb hp)
 ·cases h
end
end Exe
end Go.Eng
end
section
namespace Go.Eng
open Go Go.RowKit
namespace Exe
noncomputable section
variable {P:Program} {S S' Sb:Pl} {fr fr':Fr} {L L':LL} {q q':PH} {w0:W0} {w w':World} {a a':Act} {n0 N:Nat} {B:Nat→Prop} {E:Env}
variable {r:Option Nat} {n:Nat} {Q:Exit→Act→World→Prop} {M M':Mm} {nk:Nat} {y:SV}
def xsrcM (M:Mg) (sz:Nat) (x:SV):Option (Nat×List SV):=
 match x with
 | .v (.slice none 0 _)=>some (0,[])
 | .own j=>(match M j with
  | some (.row _ sz' n cs)=>(match Nat.beq sz' sz with | true=>some (n,cs) | false=>none)
  | some (.sb _ n xs)=>(match Nat.beq sz 1,oneVL xs with | true,true=>some (n,valL xs) | _,_=>none)
  | _=>none)
 | .vw j lo sz'' m _=>(match M j with
  | some (.row _ sz' n cs)=>(match Nat.beq sz'' sz,Nat.beq sz' sz,Nat.ble (lo+m) n with | true,true,true=>some (m,vwS cs lo sz m) | _,_,_=>none)
  | some (.sb _ n xs)=>(match Nat.beq sz'' 1,Nat.beq sz 1,Nat.ble (lo+m) n,oneVL xs with | true,true,true,true=>some (m,valL ((xs.drop lo).take m)) | _,_,_,_=>none)
  | _=>none)
 | _=>none
def xdstM (M:Mg) (e sz:Nat) (s:SV):Option (Option Nat×Nat×List SV):=
 match s with
 | .v (.slice none 0 0)=>some (none,0,[])
 | .own k=>(match M k with | some (.row e' sz' n cs)=>(match Nat.beq e' e,Nat.beq sz' sz with | true,true=>some (some k,n,cs) | _,_=>none) | _=>none)
 | .vw k 0 sz'' m true=>(match M k with | some (.row e' sz' n cs)=>(match Nat.beq e' e,Nat.beq sz' sz,Nat.ble m n with | true,true,true=>some (some k,m,takeN cs (m * sz)) | _,_,_=>none) | _=>none)
 | _=>none
theorem xsrc_eq (hR:Rep M L) {sz:Nat} {x:SV}:xsrc L sz x=xsrcM M.get sz x:=by
 have:M.get=getL L:=(funext hR).symm
 rw [this]
 rfl
theorem xdst_eq (hR:Rep M L) {e sz:Nat} {x:SV}:xdst L e sz x=xdstM M.get e sz x:=by
 have:M.get=getL L:=(funext hR).symm
 rw [this]
 rfl
def xremM (M:Mm) (k:Option Nat):Option Mm:=match k with | none=>some M | some k=>xput M k none
def xappM (T:Tab) (t nk:Nat) (s x:SV) (M:Mm):Option (SV×Mm):=
 match (ty T t).d with
 | .slice e=>
  (match (ty T e).d with
  | .other=>none
  | _=>(match xsrcM M.get (ty T e).sz x with
   | none=>none
   | some (m,ys)=>(match xdstM M.get e (ty T e).sz s with
    | none=>none
    | some (k,n,cs)=>(match xcap (n+m) (ty T e).byt,xput M nk (some (.row e (ty T e).sz (n+m) (catQ cs ys))) with
     | true,some M1=>(match xremM M1 k with | some M2=>some (.own nk,M2) | none=>none)
     | _,_=>none))))
 | _=>none
theorem xfresh_of (hf:hF nk fr) (hl:hL nk L):xfresh nk nk fr L=true:=by
 unfold xfresh
 rw [Nat.ble_eq_true_of_le (Nat.le_refl nk),noF hf,noL hl]
theorem Rep.newrem {M1 M2:Mm} {k:Option Nat} {x:LB} (hR:Rep M L) (hl:hL nk L) (hk:∀k',k=some k'→∃y,getL L k'=some y) (h1:xput M nk (some x)=some M1) (h2:xremM M1 k=some M2):Rep M2 ((nk,x)::xrem k L):=by
 cases k with
 | none=>cases h2;exact hR.new h1
 | some k=>
  obtain ⟨y,hy⟩:=hk k rfl
  have hlt:=hl.key hy
  intro j
  have h2:xput M1 k none=some M2:=h2
  rw [xput_get h2,xput_get h1,getL_cons]
  show (if nk=j then some x else getL (remL L k) j)=_
  rw [getL_remL,hR j]
  by_cases e:nk=j
  ·rw [if_pos e,if_pos e,if_neg (by omega)]
  ·rw [if_neg e,if_neg e]
theorem xdst_h {e sz:Nat} {s:SV} {k:Option Nat} {n' m:Nat} {cs:List SV} (hl:hL m L) (h:xdst L e sz s=some (k,n',cs)):hS m cs∧∀k',k=some k'→∃y,getL L k'=some y:=by
 unfold xdst at h
 split at h
 ·cases h;exact ⟨.nil,fun _ h=>by cases h⟩
 ·split at h
  ·rename_i hk
   split at h
   ·cases h;exact ⟨hl.get hk,fun k' e=>by cases e;exact ⟨_,hk⟩⟩
   ·cases h
  ·cases h
 ·split at h
  ·rename_i hk
   split at h
   ·cases h;exact ⟨hS.take (hl.get hk),fun k' e=>by cases e;exact ⟨_,hk⟩⟩
   ·cases h
  ·cases h
 ·cases h
theorem xsrc_h {sz:Nat} {x:SV} {n' m:Nat} {cs:List SV} (hl:hL m L) (h:xsrc L sz x=some (n',cs)):hS m cs:=by
 unfold xsrc at h
 split at h
 ·cases h;exact .nil
 ·split at h
  ·rename_i hk
   split at h
   ·cases h;exact hl.get hk
   ·cases h
  ·split at h
   ·cases h;exact .valL _
   ·cases h
  ·cases h
 ·split at h
  ·rename_i hk
   split at h
   ·cases h;exact hS.take (hS.drop (hl.get hk))
   ·cases h
  ·split at h
   ·cases h;exact .valL _
   ·cases h
  ·cases h
 ·cases h
theorem hL.xrem {m:Nat} {k:Option Nat} (hl:hL m L):hL m (xrem k L):=by
 cases k with
 | none=>exact hl
 | some k=>exact hL.rem hl
theorem xapp_stepM (hT:TabOk P E.T) {o:Oper} {t:Nat} {so xo:Operand} (hop:o.op=.call ⟨.builtin .append,#[so,xo],#[t,t]⟩) (hc:Cfg w0 S B nk N S q fr L a w) (hR:Rep M L) (hf:hF nk fr) (hl:hL nk L)
  (h:xappM E.T t nk (opv fr so) (opv fr xo) M=some (y,M')) (hp:putX N o.dst y fr=some fr'):Oper.wpIn (FF r) n P o a w (St w0 S B nk N (XK (nk+1) fr' M')) Q:=by
 unfold xappM at h
 split at h
 rotate_left
 ·cases h
 rename_i e hd
 split at h
 ·cases h
 rename_i hne
 replace hne:(ty E.T e).d≠.other:=fun e=>hne e
 split at h
 ·cases h
 rename_i m ys hsrc
 split at h
 ·cases h
 rename_i k n' cs hdst
 split at h
 rotate_left
 ·cases h
 rename_i M1 hcap hM1
 split at h
 rotate_left
 ·cases h
 rename_i M2 hM2
 cases h
 rw [←xsrc_eq hR] at hsrc
 rw [←xdst_eq hR] at hdst
 obtain ⟨hcs,hk⟩:=xdst_h hl hdst
 have hys:=xsrc_h hl hsrc
 have hx:xapp E.T t nk nk (opv fr so) (opv fr xo) fr L=some (.own nk,(nk,.row e (ty E.T e).sz (n'+m) (catQ cs ys))::xrem k L):=by
  unfold xapp
  rw [hd]
  dsimp only
  have main:(match xsrc L (ty E.T e).sz (opv fr xo) with
   | none=>none
   | some (m,ys)=>(match xdst L e (ty E.T e).sz (opv fr so) with
    | none=>none
    | some (k,n,cs)=>(match xcap (n+m) (ty E.T e).byt,xfresh nk nk fr L with
     | true,true=>some (SV.own nk,(nk,LB.row e (ty E.T e).sz (n+m) (catQ cs ys))::xrem k L)
     | _,_=>none)))=some (.own nk,(nk,.row e (ty E.T e).sz (n'+m) (catQ cs ys))::xrem k L):=by
   rw [hsrc,hdst]
   dsimp only
   rw [hcap,xfresh_of hf hl]
  revert main hne
  generalize ty E.T e=ti
  obtain ⟨d,sz,byt,zero,fl,cm⟩:=ti
  intro hne main
  cases d<;>first | exact absurd rfl hne | exact main
 refine xapp_step (key:=nk) (nk:=0) hT hop hc hx (putX_ok hp ⟨rfl,hR.newrem hl hk hM1 hM2,putX_h hp (hf.mono (Nat.le_succ nk)) (hV_own (Nat.lt_succ_self nk)),?_⟩)
 refine ((hL.xrem hl).mono (Nat.le_succ nk)).new (Nat.lt_succ_self nk) ?_
 rw [catQ_eq]
 exact hB.row ((hcs.append hys).mono (Nat.le_succ nk))
def xbv (c:ByteArray):List SV:=valL (c.data.toList.map bv)
def xappSM (T:Tab) (t u nk:Nat) (s x:SV) (M:Mm):Option (SV×Mm):=
 match (ty T t).d,(ty T u).d,x with
 | .slice e,.str,.v (.string c)=>(match isByte (ty T e) with
  | true=>(match s with
   | .v (.slice none 0 0)=>(match Nat.ble c.size 140737488355328,xput M nk (some (.row e 1 c.size (xbv c))) with | true,some M'=>some (.own nk,M') | _,_=>none)
   | .own k=>(match M.get k with
    | some (.row e' sz' n cs)=>(match Nat.beq e' e,Nat.beq sz' 1,Nat.ble (n+c.size) 140737488355328,xput M nk (some (.row e 1 (n+c.size) (catQ cs (xbv c)))) with
     | true,true,true,some M1=>(match xput M1 k none with | some M2=>some (.own nk,M2) | none=>none)
     | _,_,_,_=>none)
    | _=>none)
   | _=>none)
  | false=>none)
 | _,_,_=>none
theorem _root_.Go.Eng.Cfg.view {k e sz m:Nat} {cs:List SV} (hc:Cfg w0 Sb B n0 N S q fr L a w) (hk:getL L k=some (.row e sz m cs)) :
  ∃xs,okL S cs xs∧chunk 0 S k (.arr e sz m xs) w∧getL (setL L k (.arr e sz m xs)) k=some (.arr e sz m xs)∧Cfg w0 Sb B n0 N S q fr (setL L k (.arr e sz m xs)) a w:=by
 obtain ⟨xs,h1,h2,h3,h4⟩:=hc.m.view hk
 refine ⟨xs,h1,h2,h3,hc.ag,fun d hd hB=>?_,h4,hc.f,hc.n,hc.d⟩
 have:=hc.b d hd hB
 rw [getL_setL]
 split
 ·rename_i e;subst e;rw [hk] at this;cases this
 ·exact this
theorem hB_arr {m e sz k:Nat} {xs:List Value}:hB m (.arr e sz k xs):=fun j hj=>by simp [LB.has] at hj
theorem xapps_stepM (hT:TabOk P E.T) {o:Oper} {t u:Nat} {so xo:Operand} (hop:o.op=.call ⟨.builtin .append,#[so,xo],#[t,u]⟩) (hc:Cfg w0 S B nk N S q fr L a w) (hR:Rep M L) (hf:hF nk fr) (hl:hL nk L)
  (h:xappSM E.T t u nk (opv fr so) (opv fr xo) M=some (y,M')) (hp:putX N o.dst y fr=some fr'):Oper.wpIn (FF r) n P o a w (St w0 S B nk N (XK (nk+1) fr' M')) Q:=by
 unfold xappSM at h
 split at h
 rotate_left
 ·cases h
 rename_i e c hd hdu hx
 split at h
 rotate_left
 ·cases h
 rename_i hb
 split at h
 ·rename_i hs
  split at h
  rotate_left
  ·cases h
  rename_i M1 h1 hM
  cases h
  refine Oper.wpIn_mono (fun a w h=>XL.to (hR.new hM) (putX_h hp (hf.mono (Nat.le_succ nk)) (hV_own (Nat.lt_succ_self nk))) ((hl.mono (Nat.le_succ nk)).new (Nat.lt_succ_self nk) (.row (.valL _))) (XL.rowed (us:=c.data.toList.map bv) (okL_valL _) (.valL _) h)) (apps_step (key:=nk) (nk:=0) hT hop hc ?_)
  unfold appS
  rw [hd,hdu,hx,hs]
  dsimp only
  rw [hb]
  exact ⟨⟨Nat.le_of_ble_eq_true h1⟩,fun N' zs e1 e2=>by subst e1 e2;exact newK_of hf hl (putX_ok hp ⟨rfl,rfl⟩)⟩
 ·rename_i k hs
  split at h
  rotate_left
  ·cases h
  rename_i e' sz' m cs hk
  split at h
  rotate_left
  ·cases h
  rename_i M1 he hz h1 hM
  split at h
  rotate_left
  ·cases h
  rename_i M2 hM2
  cases h
  have he:=Nat.eq_of_beq_eq_true he
  have hz:=Nat.eq_of_beq_eq_true hz
  subst he hz
  rw [←hR k] at hk
  obtain ⟨xs,hok,hch,hk',hc'⟩:=hc.view hk
  have hkn:=hl.key hk
  have hl':hL nk (setL L k (.arr e' 1 m xs)):=hl.set hB_arr
  have hcs:hS nk cs:=hl.get hk
  have hrem:remL ((nk,LB.arr e' 1 (m+c.size) (xs++c.data.toList.map bv))::setL L k (.arr e' 1 m xs)) k=(nk,LB.arr e' 1 (m+c.size) (xs++c.data.toList.map bv))::remL L k:=by
   have hb:Nat.beq nk k=false:=by rw [Bool.eq_false_iff];exact fun e=>by have:=Nat.eq_of_beq_eq_true e;omega
   rw [remL_c,hb]
   dsimp only
   rw [remL_setL']
  refine Oper.wpIn_mono (fun a w h=>XL.to (hR.newrem (k:=some k) hl (fun k' e=>by cases e;exact ⟨_,hk⟩) hM hM2) (putX_h hp (hf.mono (Nat.le_succ nk)) (hV_own (Nat.lt_succ_self nk))) (((hL.rem hl).mono (Nat.le_succ nk)).new (Nat.lt_succ_self nk) (.row (by rw [catQ_eq];exact (hcs.append (.valL _)).mono (Nat.le_succ nk)))) (XL.rowed (us:=xs++c.data.toList.map bv) (by rw [catQ_eq];exact okL_append hok (okL_valL _)) (by rw [catQ_eq];exact hcs.append (.valL _)) h)) (apps_step (key:=nk) (nk:=0) hT hop hc' ?_)
  unfold appS
  rw [hd,hdu,hx,hs]
  dsimp only
  rw [hb]
  dsimp only
  rw [hk']
  dsimp only
  rw [Nat.beq_refl,Nat.beq_refl]
  refine ⟨⟨Nat.le_of_ble_eq_true h1⟩,fun N' zs e1 e2=>?_⟩
  subst e1 e2
  refine newK_of hf hl' ?_
  rw [hrem,fLL_eq]
  exact putX_ok hp ⟨rfl,rfl⟩
 ·cases h
theorem run_copy_rowS (P:Program) (w:World) (dT sT ty elem:TypeId) (g o dLen dCap:Nat) (a:Addr) (sLen sCap sz:Nat) (cur:Array Value) (t:TypeId) (cs:List Value)
  (hu:P.underlying dT=some (.slice elem)) (hs:(P.info? elem).map (·.size)=some sz)
  (hg:w.heap[g]?=some (.cells cur t (0,0))) (hn:cs.length=Nat.min sLen dLen * sz)
  (hsrc:∀j v,cs[j]?=some v→w.cell? (a.add j)=some v) (hfit:o+cs.length≤cur.size) (h1:∀v∈cs,v.oneCell'=true) :
  (Builtin.copy_ #[dT,sT] ty #[.slice (some ⟨g,o,none⟩) dLen dCap,.slice (some a) sLen sCap]).run P w =
   .ok (goInt (Nat.min sLen dLen)) (w.setRow g (cur.toList.take o++cs++cur.toList.drop (o+cs.length)).toArray):=by
 have hl:=run_loadCells_list (P:=P) w a cs hsrc
 have hst:=run_storeCells_at P g o t cs 0 cur w hg (by simpa using hfit) h1
 rw [hn] at hl
 cases hq:P.info? elem with
 | none=>simp [hq] at hs
 | some i=>
  have hi:i.size=sz:=by simpa [hq] using hs
  simp [Builtin.copy_,run_underlying hu,Builtin.lenOf,Builtin.firstCells,sizeOf,typeInfo,hq,hi,hl,hst]
theorem run_copy_noneS (P:Program) (w:World) (dT sT ty elem:TypeId) (d a:Option Addr) (dLen dCap sLen sCap:Nat) (hu:P.underlying dT=some (.slice elem)) (hs:((P.info? elem).map (·.size)).isSome=true) (hn:Nat.min sLen dLen=0) :
  (Builtin.copy_ #[dT,sT] ty #[.slice d dLen dCap,.slice a sLen sCap]).run P w=.ok (goInt 0) w:=by
 cases hq:P.info? elem with
 | none=>simp [hq] at hs
 | some i=>
  have hl:∀(x:Addr),(loadCells x 0).run P w=.ok #[] w:=fun x=>by simpa using run_loadCells_list (P:=P) w x [] (by simp)
  cases d<;>cases a<;>simp [Builtin.copy_,run_underlying hu,Builtin.lenOf,Builtin.firstCells,sizeOf,typeInfo,hq,hn,storeCells,hl]
theorem copy_goS {o:Oper} {t t' e e' k lo n0 nn m c c' sz nk0 n0':Nat} {A A':Option Addr} {xs ys:List Value} {dop sop:Operand} {K:Kt} (hc:Cfg w0 Sb B n0' N S q fr L a w) (hd:∀c,o.op≠.defer c)
  (ht:P.underlying t=some (.slice e)) (hsz:(P.info? e).map (·.size)=some sz)
  (hrun:∀{v:Value} {w':World},(Builtin.copy_ #[t,t'] o.type #[a.eval dop,a.eval sop]).run P w=.ok v w'→(execOp a.eval o).run P w=.ok (.value v) w')
  (hk:getL L k=some (.arr e' sz n0 xs)) (hb:lo+nn≤n0) (hdv:a.eval dop=.slice A nn c) (hA:nn=0∨A=(S k).A.map (·.add (lo * sz)))
  (hsv:a.eval sop=.slice A' m c') (hsrc:Src w A' m sz ys) (h1:∀y∈ys,y.oneCell'=true)
  (h:putK N o.dst (.v (.int .i64 ((min m nn:Nat):Int))) fr fun fr=>K nk0 q fr (setL L k (.arr e' sz n0 (xs.take (lo * sz)++ys.take (min m nn * sz)++xs.drop (lo * sz+min m nn * sz))))):Oper.wpIn (FF r) n P o a w (St w0 Sb B n0' N K) Q:=by
 obtain ⟨⟨hl,hown⟩,hn,hsz1,hone,hAk⟩:=hc.m.ch k _ hk
 have fin:∀{w':World},(Builtin.copy_ #[t,t'] o.type #[.slice A nn c,.slice A' m c']).run P w=.ok (goInt ((min m nn:Nat):Int)) w'→Mem w0 q S (setL L k (.arr e' sz n0 (xs.take (lo * sz)++ys.take (min m nn * sz)++xs.drop (lo * sz+min m nn * sz)))) w'→Oper.wpIn (FF r) n P o a w (St w0 Sb B n0' N K) Q:=by
  intro w' hr hm
  rw [←hdv,←hsv] at hr
  refine wpIn_value hd (hrun hr) ?_
  obtain ⟨fr',hK',hc'⟩:=(hc.turn hk (by simp) hm).put (v:=.int .i64 ((min m nn:Nat):Int)) h rfl
  exact ⟨S,q,fr',_,nk0,hc',hK'⟩
 by_cases hz:min m nn=0
 ·refine fin (w':=w) (by rw [hz];exact run_copy_noneS P w t t' o.type e A A' nn c m c' ht (by rw [hsz];rfl) hz) ?_
  rw [hz]
  simp only [Nat.zero_mul,List.take_zero,List.append_nil,Nat.add_zero,List.take_append_drop]
  exact hc.m.same hk
 ·have hA:=hA.resolve_left (by omega)
  rcases hown with ⟨_,hn0⟩ | ⟨g,cap,cur,hval,hg0,hg,hcap,hmax,hcur,htake⟩
  ·omega
  injection hval with hval hval2 hval3
  have hAb:(S k).A=some ⟨(S k).b,0,none⟩:=by
   rcases hAk with hAk | hAk
   ·rw [hAk] at hval;cases hval
   ·exact hAk
  have hgb:g=(S k).b:=by
   rw [hAb] at hval
   injection hval with hval
   injection hval with hval _ _
   exact hval.symm
  subst hgb
  have hA2:A=some ⟨(S k).b,lo * sz,none⟩:=by rw [hA,hAb];simp [Addr.add_lit]
  obtain ⟨hys,hcell⟩:=hsrc
  have hm1:min m nn * sz≤m * sz:=Nat.mul_le_mul_right _ (Nat.min_le_left _ _)
  have hm2:min m nn * sz≤nn * sz:=Nat.mul_le_mul_right _ (Nat.min_le_right _ _)
  have hlen:(ys.take (min m nn * sz)).length=min m nn * sz:=by rw [List.length_take];omega
  have hpos:0<ys.length:=by rw [hys];exact Nat.mul_pos (by omega) hsz1
  obtain ⟨y0,hy0⟩:∃y,ys[0]?=some y:=⟨ys[0]'hpos,List.getElem?_eq_getElem hpos⟩
  obtain ⟨a',rfl,hs',_⟩:=hcell 0 y0 hy0
  have hfit:lo * sz+min m nn * sz≤n0 * sz:=by
   have:(lo+nn) * sz≤n0 * sz:=Nat.mul_le_mul_right _ hb
   rw [Nat.add_mul] at this
   omega
  have hcap':n0 * sz≤cap * sz:=Nat.mul_le_mul_right _ hcap
  have hr:=run_copy_rowS P w t t' o.type e (S k).b (lo * sz) nn c a' m c' sz cur e' (ys.take (min m nn * sz)) ht hsz hg hlen (fun j v hv=>by
   have hj:=(List.getElem?_eq_some_iff.1 hv).1
   rw [hlen] at hj
   rw [List.getElem?_take_of_lt hj] at hv
   obtain ⟨a2,e2,_,h3⟩:=hcell j v hv
   injection e2 with e2
   subst e2
   obtain ⟨b2,o2,s2⟩:=a'
   cases hs'
   rw [Addr.add_lit]
   exact h3) (by rw [hlen,hcur];omega) (fun v hv=>h1 v (List.mem_of_mem_take hv))
  rw [←hA2,hlen] at hr
  refine fin hr (hc.m.turn hk (by simp [blk,hAb]) setRow_grown ?_ (by simp [blk,hAb]))
  refine ⟨⟨?_,.inr ⟨_,cap,_,?_,hg0,setRow_heap w _ _ _ e' (0,0) hg,hcap,hmax,?_,?_⟩⟩,hn,hsz1,?_,hAk⟩
  ·rw [List.length_append,List.length_append,List.length_take,List.length_drop,hlen];omega
  ·rw [hAb,hval2,hval3]
  ·simp only [List.size_toArray,List.length_append,List.length_take,List.length_drop,hlen,Array.length_toList];omega
  ·have:=take_mid (l:=cur.toList) (m:=ys.take (min m nn * sz)) (lo:=lo * sz) (n:=n0 * sz) (by rw [hlen];omega) (by rw [Array.length_toList];omega)
   rw [hlen,htake] at this
   exact this
  ·intro u hu
   rcases List.mem_append.1 hu with hu | hu
   ·rcases List.mem_append.1 hu with hu | hu
    ·exact hone u (List.mem_of_mem_take hu)
    ·exact h1 u (List.mem_of_mem_take hu)
   ·exact hone u (List.mem_of_mem_drop hu)
def xcopy (T:Tab) (t:Nat) (d s:SV) (M:Mm):Option (SV×Mm):=
 match (ty T t).d with
 | .slice e=>(match xsrcM M.get (ty T e).sz s with
  | some (m,ys)=>(match d with
   | .own k=>(match M.get k with
    | some (.row e' sz n cs)=>(match Nat.beq sz (ty T e).sz,xput M k (some (.row e' sz n (takeN ys (min m n * sz)++dropN cs (min m n * sz)))) with
     | true,some M'=>some (.v (.int .i64 ((min m n:Nat):Int)),M')
     | _,_=>none)
    | _=>none)
   | .vw k lo sz' nn _=>(match M.get k with
    | some (.row e' sz n cs)=>(match Nat.beq sz (ty T e).sz,Nat.beq sz' sz,Nat.ble (lo+nn) n,xput M k (some (.row e' sz n (takeN cs (lo * sz)++takeN ys (min m nn * sz)++dropN cs (lo * sz+min m nn * sz)))) with
     | true,true,true,some M'=>some (.v (.int .i64 ((min m nn:Nat):Int)),M')
     | _,_,_,_=>none)
    | _=>none)
   | _=>none)
  | none=>none)
 | _=>none
theorem xcopy_step (hT:TabOk P E.T) {o:Oper} {t t':Nat} {dop sop:Operand} (hop:o.op=.call ⟨.builtin .copy,#[dop,sop],#[t,t']⟩) (hc:Cfg w0 S B nk N S q fr L a w) (hR:Rep M L) (hf:hF nk fr) (hl:hL nk L)
  (h:xcopy E.T t (opv fr dop) (opv fr sop) M=some (y,M')) (hp:putX N o.dst y fr=some fr'):Oper.wpIn (FF r) n P o a w (St w0 S B nk N (XK nk fr' M')) Q:=by
 unfold xcopy at h
 split at h
 rotate_left
 ·cases h
 rename_i e hte
 split at h
 rotate_left
 ·cases h
 rename_i m ys hsrc
 rw [←xsrc_eq hR] at hsrc
 have hysh:=xsrc_h hl hsrc
 obtain ⟨ht,_,i,hi,hisz,_⟩:descOk P E.T t (.slice e):=by rw [←hte];exact (hT t (by rw [hte];simp)).d
 have hsz:(P.info? e).map (·.size)=some (ty E.T e).sz:=by rw [hi];simp [hisz]
 have hrun:∀{v:Value} {w':World},(Builtin.copy_ #[t,t'] o.type #[a.eval dop,a.eval sop]).run P w=.ok v w'→(execOp a.eval o).run P w=.ok (.value v) w':=by
  intro v w' hr
  simp only [execOp,hop,resolve,invoke,builtin,Sem.run_bind,Sem.run_pure,Result.andThen_ok,List.map_toArray,List.map_cons,List.map_nil,hr]
 have hs:=opv_ok hc.f sop
 have hd:=opv_ok hc.f dop
 obtain ⟨A',c',vs,hsv,hsr,hys,hone,_⟩:=xsrc_ok hc.m hsrc hs
 have go:∀{k lo nn n' sz:Nat} {e':Nat} {cs:List SV} {A:Option Addr} {c:Nat},sz=(ty E.T e).sz→getL L k=some (.row e' sz n' cs)→lo+nn≤n'→a.eval dop=.slice A nn c→(nn=0∨A=(S k).A.map (·.add (lo * sz))) →
   xput M k (some (.row e' sz n' (takeN cs (lo * sz)++takeN ys (min m nn * sz)++dropN cs (lo * sz+min m nn * sz))))=some M'→y=.v (.int .i64 ((min m nn:Nat):Int))→Oper.wpIn (FF r) n P o a w (St w0 S B nk N (XK nk fr' M')) Q:=by
  intro k lo nn n' sz e' cs A c hze hk hle hdv hA hM hy
  subst hy
  subst hze
  obtain ⟨xs,hok,hch,hk',hc'⟩:=hc.view hk
  have hcs:hS nk cs:=hl.get hk
  have hfv:hF nk fr':=putX_h hp hf (fun k hk=>by simp [SV.has] at hk)
  generalize hzz:(ty E.T e).sz=sz at *
  have hk2:getL (setL (setL L k (.arr e' sz n' xs)) k (.arr e' sz n' (xs.take (lo * sz)++vs.take (min m nn * sz)++xs.drop (lo * sz+min m nn * sz)))) k=some (.arr e' sz n' (xs.take (lo * sz)++vs.take (min m nn * sz)++xs.drop (lo * sz+min m nn * sz))):=by
   rw [getL_setL,if_pos rfl,hk'];rfl
  have hcs':hS nk (takeN cs (lo * sz)++takeN ys (min m nn * sz)++dropN cs (lo * sz+min m nn * sz)):=(hcs.take.append hysh.take).append hcs.drop
  refine Oper.wpIn_mono (fun a w h=>XL.to ?_ hfv (((hl.set hB_arr).set hB_arr).set (.row hcs')) (XL.rowed2 (okL_append (okL_append (okL_take _ hok) (okL_take _ hys)) (okL_drop _ hok)) hcs' hk2 h))
   (copy_goS (nk0:=0) hc' (nd_of hop (by simp)) ht hsz hrun hk' hle hdv hA hsv hsr hone (putX_ok hp ⟨rfl,rfl⟩))
  intro j
  rw [xput_get hM]
  by_cases e:k=j
  ·subst e
   rw [getL_setL,if_pos rfl,hk2,if_pos rfl];rfl
  ·rw [getL_setL,if_neg e,getL_setL,if_neg e,getL_setL,if_neg e,if_neg e,hR j]
 split at h
 ·rename_i k ed
  split at h
  rotate_left
  ·cases h
  rename_i e' sz n' cs hk
  split at h
  rotate_left
  ·cases h
  rename_i M1 h1 hM
  cases h
  have h1:=Nat.eq_of_beq_eq_true h1
  rw [←hR k] at hk
  rw [ed] at hd
  obtain ⟨xs,_,hch,_⟩:=hc.m.view hk
  have hd:a.eval dop=.slice (S k).A (S k).n (S k).c:=hd
  rw [hch.2.1] at hd
  have hA0:(S k).A=(S k).A.map (·.add (0 * sz)):=by
   rcases hch.2.2.2.2 with e | e<;>rw [e]<;>simp [Addr.add_lit]
  refine go (lo:=0) h1 hk (by omega) hd (.inr hA0) ?_ rfl
  rw [Nat.zero_mul,Nat.zero_add,show takeN cs 0=[] from by cases cs<;>rfl,List.nil_append]
  exact hM
 ·rename_i k lo sz' nn ex ed
  split at h
  rotate_left
  ·cases h
  rename_i e' sz n' cs hk
  split at h
  rotate_left
  ·cases h
  rename_i M1 h1 h2 h3 hM
  cases h
  have h1:=Nat.eq_of_beq_eq_true h1
  have h2:=Nat.eq_of_beq_eq_true h2
  have h3:=Nat.le_of_ble_eq_true h3
  subst h2
  rw [←hR k] at hk
  rw [ed] at hd
  obtain ⟨A,c,hdv,_,hA,_⟩:=hd
  exact go h1 hk h3 hdv hA hM rfl
 ·cases h
end
end Exe
end Go.Eng
end
section
namespace Go.Eng
open Go Go.RowKit Go.MapKept
namespace Exe
noncomputable section
variable {P:Program} {S S' Sb:Pl} {fr fr':Fr} {L L':LL} {q q':PH} {w0:W0} {w w':World} {a a':Act} {n0 N:Nat} {B:Nat→Prop} {E:Env}
variable {r:Option Nat} {n:Nat} {Q:Exit→Act→World→Prop} {M M':Mm} {nk:Nat} {y:SV}
def beqS (a b:ByteArray):Bool:=@decide _ (decStr a b)
def xfind (s:ByteArray) (es:List MapEntry):Nat→Option (Option (Nat×Value)):=
 List.rec (motive:=fun _=>Nat→Option (Option (Nat×Value))) (fun _=>some none)
  (fun e _ ih i=>match e.key with
   | .string b=>(match beqS s b with | true=>some (some (i,e.val)) | false=>ih (i+1))
   | _=>none) es
theorem xfind_ok {s:ByteArray}:∀{es:List MapEntry} {i:Nat} {x:Option (Nat×Value)},xfind s es i=some x→Instr.findNow .string (.string s) es i=some x ∧
  ∀j v,x=some (j,v)→∃e,es[j-i]?=some e∧i≤j∧e.key=.string s∧e.val=v
 | [],i,x,h=>by cases h;exact ⟨rfl,fun _ _ h=>by cases h⟩
 | e::es,i,x,h=>by
  have hc:xfind s (e::es) i=(match e.key with
   | .string b=>(match beqS s b with | true=>some (some (i,e.val)) | false=>xfind s es (i+1))
   | _=>none):=rfl
  rw [hc] at h
  split at h
  ·rename_i b hk
   split at h
   ·rename_i hb
    cases h
    have hb:s=b:=by
     have:s.data.toList=b.data.toList:=of_decide_eq_true hb
     obtain ⟨x⟩:=s;obtain ⟨y⟩:=b
     simp only at this
     rw [Array.toList_inj.1 this]
    subst hb
    refine ⟨?_,fun j v hj=>?_⟩
    ·simp [Instr.findNow,hk,Instr.sameNow,(bytes_beq s s).2 rfl]
    ·cases hj;exact ⟨e,by simp,Nat.le_refl _,hk,rfl⟩
   ·rename_i hb
    obtain ⟨h1,h2⟩:=xfind_ok h
    have hne:(s == b)=false:=by
     rw [Bool.eq_false_iff]
     intro e
     have e:=(bytes_beq s b).1 e
     subst e
     have:beqS s s=true:=decide_eq_true rfl
     rw [this] at hb
     cases hb
    refine ⟨?_,fun j v hj=>?_⟩
    ·simp [Instr.findNow,hk,Instr.sameNow,hne,h1]
    ·obtain ⟨e',g1,g2,g3,g4⟩:=h2 j v hj
     refine ⟨e',?_,by omega,g3,g4⟩
     rw [show j-i=(j-(i+1))+1 from by omega]
     simpa using g1
  ·cases h
abbrev Zt:=List (Nat×Value)
def ZOk (P:Program) (Z:Zt):Prop:=∀p∈Z,(P.info? p.1).bind (·.zero)=some p.2
def zget (Z:Zt) (t:Nat):Option Value:=List.rec (motive:=fun _=>Option Value) none (fun p _ ih=>match p with | (u,v)=>match Nat.beq u t with | true=>some v | false=>ih) Z
theorem zget_ok:∀{Z:Zt} {t:Nat} {v:Value},ZOk P Z→zget Z t=some v→∀w,(zeroValue t).run P w=.ok v w
 | [],t,v,_,h,w=>by cases h
 | (u,x)::r,t,v,hZ,h,w=>by
  have hc:zget ((u,x)::r) t=match Nat.beq u t with | true=>some x | false=>zget r t:=rfl
  rw [hc] at h
  split at h
  ·rename_i e
   cases h
   have e:=Nat.eq_of_beq_eq_true e
   subst e
   have:=hZ (u,x) (.head _)
   cases hi:P.info? u with
   | none=>rw [hi] at this;cases this
   | some i=>
    rw [hi] at this
    have hz:i.zero=some x:=this
    simp [zeroValue,typeInfo,hi,hz,Result.andThen]
  ·exact zget_ok (fun p hp=>hZ p (.tail _ hp)) h w
def nv (v:Value):SV:=match v with | .bool b=>.bb b | v=>.v v
theorem nv_ok (v:Value):okv S (nv v) v:=by cases v<;>rfl
def xlookup (T:Tab) (Z:Zt) (t:Nat) (x i:SV) (ok:Bool) (M:Mg):Option SV:=
 match (ty T t).d with
 | .map k e=>(match (ty T k).d,i with
  | .str,.v (.string s)=>(match (match x with
    | .v (.map none)=>some []
    | .mr b=>(match M b with | some (.mp es _)=>some es | _=>none)
    | _=>none) with
   | none=>none
   | some es=>(match xfind s es 0 with
    | none=>none
    | some (some (_,v))=>(match ok with | true=>some (.tup [nv v,.bb true]) | false=>some (nv v))
    | some none=>(match zget Z e with
     | none=>none
     | some v=>(match ok with | true=>some (.tup [nv v,.bb false]) | false=>some (nv v)))))
  | _,_=>none)
 | _=>none
theorem run_lookup_str {t k e:TypeId} {s:ByteArray} {m:Option Nat} {es:List MapEntry} {c:Nat} {x:Option (Nat×Value)} {ok:Bool} {u:Value} (ht:P.underlying t=some (.map k e)) (hk:P.underlying k=some .string)
  (hb:(m=none∧es=[])∨∃b,m=some b∧w.heap[b]?=some (.map es.toArray c)) (hf:Instr.findNow .string (.string s) es 0=some x)
  (hu:match x with | some (_,v)=>u=(if ok then .tuple #[v,.bool true] else v) | none=>∃z,(zeroValue e).run P w=.ok z w∧u=(if ok then .tuple #[z,.bool false] else z)) :
  (Instr.lookup t (.map m) (.string s) ok).run P w=.ok u w:=by
 have h2:=run_findKey (P:=P) (w:=w) hk hf
 rcases hb with ⟨rfl,rfl⟩ | ⟨b,rfl,hb⟩
 ·have h1:=run_checkKey (P:=P) (w:=w) hk (k:=.string s) trivial true 9999
  cases x with
  | some p=>obtain ⟨i,v⟩:=p;simp only at hu;subst hu;simp [Instr.lookup,run_underlying ht,Result.andThen,h1,h2]
  | none=>
   obtain ⟨z,hz,rfl⟩:=hu
   simp [Instr.lookup,run_underlying ht,Result.andThen,h1,h2,hz]
 ·have h1:=run_checkKey (P:=P) (w:=w) hk (k:=.string s) trivial es.isEmpty 9999
  cases x with
  | some p=>obtain ⟨i,v⟩:=p;simp only at hu;subst hu;simp [Instr.lookup,run_underlying ht,Result.andThen,h1,h2,Go.MapKept.run_getObj_map hb]
  | none=>
   obtain ⟨z,hz,rfl⟩:=hu
   simp [Instr.lookup,run_underlying ht,Result.andThen,h1,h2,hz,Go.MapKept.run_getObj_map hb]
theorem xlookup_step (hT:TabOk P E.T) {Z:Zt} (hZ:ZOk P Z) {o:Oper} {t:Nat} {x i:Operand} {ok:Bool} (hop:o.op=.lookup t x i ok) (hc:Cfg w0 S B nk N S q fr L a w) (hR:Rep M L) (hf:hF nk fr) (hl:hL nk L)
  (h:xlookup E.T Z t (opv fr x) (opv fr i) ok M.get=some y) (hy:hV nk y) (hp:putX N o.dst y fr=some fr'):Oper.wpIn (FF r) n P o a w (St w0 S B nk N (XK nk fr' M)) Q:=by
 have hx:=opv_ok hc.f x
 have hi:=opv_ok hc.f i
 unfold xlookup at h
 split at h
 rotate_left
 ·cases h
 rename_i k e hd
 split at h
 rotate_left
 ·cases h
 rename_i s hdk ei
 rw [ei] at hi
 have hi:a.eval i=.string s:=hi
 have ht:P.underlying t=some (.map k e):=by have:=(hT t (by rw [hd];simp)).d;rw [hd] at this;exact this
 have hk:P.underlying k=some .string:=by have:=(hT k (by rw [hdk];simp)).d;rw [hdk] at this;exact this
 split at h
 ·cases h
 rename_i es hes
 have hm:∃m c,a.eval x=.map m∧((m=none∧es=[])∨∃b,m=some b∧w.heap[b]?=some (.map es.toArray c)):=by
  split at hes
  ·rename_i ex
   cases hes
   rw [ex] at hx
   exact ⟨none,0,hx,.inl ⟨rfl,rfl⟩⟩
  ·rename_i b ex
   rw [ex] at hx
   split at hes
   ·rename_i c hb
    cases hes
    rw [←hR b] at hb
    exact ⟨_,c,hx,.inr ⟨_,rfl,(hc.m.ch b _ hb).2⟩⟩
   ·cases hes
  ·cases hes
 obtain ⟨m,c,hxe,hb⟩:=hm
 have fin:∀{u:Value},okv S y u→(Instr.lookup t (.map m) (.string s) ok).run P w=.ok u w→Oper.wpIn (FF r) n P o a w (St w0 S B nk N (XK nk fr' M)) Q:=by
  intro u hu hr
  refine wpIn_value (nd_of hop (by simp)) (w':=w) (v:=u) ?_ ?_
  ·simp only [execOp,hop,hxe,hi,Sem.run_bind,hr,Result.andThen_ok,Sem.run_pure]
  ·obtain ⟨fr1,hK',hc'⟩:=hc.put (K:=fun fr=>fr=fr') (putX_ok hp rfl) hu
   subst hK'
   exact ⟨S,q,_,L,0,hc',rfl,hR,putX_h hp hf hy,hl⟩
 split at h
 ·cases h
 ·rename_i j v hf1
  obtain ⟨h1,_⟩:=xfind_ok hf1
  split at h
  ·cases h
   exact fin ⟨[v,.bool true],rfl,nv_ok v,rfl,trivial⟩ (run_lookup_str ht hk hb h1 (by simp))
  ·cases h
   exact fin (nv_ok v) (run_lookup_str ht hk hb h1 (by simp))
 ·rename_i hf1
  obtain ⟨h1,_⟩:=xfind_ok hf1
  split at h
  ·cases h
  rename_i v hz
  have hz:=zget_ok hZ hz w
  split at h
  ·cases h
   exact fin ⟨[v,.bool false],rfl,nv_ok v,rfl,trivial⟩ (run_lookup_str ht hk hb h1 ⟨v,hz,by simp⟩)
  ·cases h
   exact fin (nv_ok v) (run_lookup_str ht hk hb h1 ⟨v,hz,by simp⟩)
def xmakeMap (r:Option Operand) (nk:Nat) (M:Mm):Option (SV×Mm):=
 match r with
 | none=>(match xput M nk (some (.mp [] 0)) with | some M'=>some (.mr nk,M') | none=>none)
 | some _=>none
theorem hV_mr {k m:Nat} (h:k<m):hV m (.mr k):=fun j hj=>by
 have:Nat.beq k j=true:=by simpa [SV.has] using hj
 have:=Nat.eq_of_beq_eq_true this
 omega
theorem hB_mp {m c:Nat} {es:List MapEntry}:hB m (.mp es c):=fun j hj=>by simp [LB.has] at hj
theorem xmakeMap_step {o:Oper} {t:Nat} {rs:Option Operand} (hop:o.op=.makeMap t rs) (hc:Cfg w0 S B nk N S q fr L a w) (hR:Rep M L) (hf:hF nk fr) (hl:hL nk L)
  (h:xmakeMap rs nk M=some (y,M')) (hp:putX N o.dst y fr=some fr'):Oper.wpIn (FF r) n P o a w (St w0 S B nk N (XK (nk+1) fr' M')) Q:=by
 unfold xmakeMap at h
 split at h
 rotate_left
 ·cases h
 split at h
 rotate_left
 ·cases h
 rename_i M1 hM
 cases h
 have hr:=run_makeMap (P:=P) t w
 refine wpIn_value (nd_of hop (by simp)) (w':=w.alloc (.map #[] 0)) (v:=.map (some w.heap.size)) ?_ ?_
 ·simp only [execOp,hop,Option.map_none,Sem.run_bind,hr,Result.andThen_ok,Sem.run_pure]
 have hm:Mem w0 q (updS S nk ⟨w.heap.size,none,0,0,default⟩) ((nk,.mp [] 0)::L) (w.alloc (.map #[] 0)):=by
  refine hc.m.new (noL hl) ((Below.refl _ w).alloc (Nat.le_refl _) _) ?_ fun b hb=>?_
  ·simp only [chunk,updS_same]
   exact ⟨Nat.zero_le _,(heap_alloc w _).1⟩
  ·simp only [blk,updS_same,Option.some.injEq] at hb
   omega
 obtain ⟨fr1,hK',hc'⟩:=(hc.new (Nat.le_refl _) (noF hf) (noL hl) hm).put (v:=.map (some w.heap.size)) (K:=fun fr=>fr=fr') (putX_ok hp rfl) (by simp [okv,updS_same])
 subst hK'
 exact ⟨_,q,_,_,0,hc',rfl,hR.new hM,putX_h hp (hf.mono (Nat.le_succ nk)) (hV_mr (Nat.lt_succ_self nk)),(hl.mono (Nat.le_succ nk)).new (Nat.lt_succ_self nk) hB_mp⟩
def xmodE (es:List MapEntry) (v:Value):Nat→List MapEntry:=
 List.rec (motive:=fun _=>Nat→List MapEntry) (fun _=>[]) (fun e r ih i=>match i with | 0=>{ e with val:=v } :: r | i+1=>e::ih i) es
def xmapUpd (T:Tab) (t:Nat) (m k x:SV) (M:Mm):Option Mm:=
 match (ty T t).d with
 | .map kt e=>(match (ty T kt).d,k,toV x with
  | .str,.v (.string s),some v=>(match m with
   | .mr b=>(match M.get b with
    | some (.mp es c)=>(match xfind s es 0 with
     | none=>none
     | some (some (i,_))=>xput M b (some (.mp (xmodE es v i) c))
     | some none=>xput M b (some (.mp (catQ es [{ key:=.string s,val:=v,born:=c }]) (c+1))))
    | _=>none)
   | _=>none)
  | _,_,_=>none)
 | _=>none
theorem xmodE_ok {v:Value} {key:Value} {f:MapEntry→MapEntry} (hf:∀e:MapEntry,e.key=key→f e={ e with val:=v }):∀(es:List MapEntry) (i:Nat),(∀e,es[i]?=some e→e.key=key)→es.modify i f=xmodE es v i
 | [],i,_=>by cases i<;>rfl
 | e::r,0,h=>by
  have:=hf e (h e rfl)
  show f e::r={ e with val:=v } :: r
  rw [this]
 | e::r,i+1,h=>by
  show e::r.modify i f=e::xmodE r v i
  rw [xmodE_ok hf r i (fun e' he'=>h e' (by simpa using he'))]
theorem map_turn {k b:Nat} {es es':List MapEntry} {c c':Nat} (hm:Mem w0 q S L w) (hk:getL L k=some (.mp es c)) :
  Mem w0 q S (setL L k (.mp es' c')) { w with heap:=w.heap.setIfInBounds (S k).b (.map es'.toArray c') }:=by
 have hb:=(hm.ch k _ hk).2
 refine hm.turn hk rfl ⟨rfl,rfl,rfl,by simp,fun j hj hne=>?_⟩ ⟨Nat.zero_le _,(heap_set hb).1⟩ rfl
 exact (heap_set hb).2 j (fun e=>hne (by rw [e]))
theorem xmapUpd_step (hT:TabOk P E.T) {o:Oper} {t:Nat} {m k x:Operand} (hop:o.op=.mapUpdate t m k x∨o.op=.insert t m k x) (hc:Cfg w0 S B nk N S q fr L a w) (hR:Rep M L) (hf:hF nk fr) (hl:hL nk L)
  (h:xmapUpd E.T t (opv fr m) (opv fr k) (opv fr x) M=some M') (hp:putX N o.dst (.v undef) fr=some fr'):Oper.wpIn (FF r) n P o a w (St w0 S B nk N (XK nk fr' M')) Q:=by
 have hm:=opv_ok hc.f m
 have hk:=opv_ok hc.f k
 have hx:=opv_ok hc.f x
 unfold xmapUpd at h
 split at h
 rotate_left
 ·cases h
 rename_i kt e hd
 split at h
 rotate_left
 ·cases h
 rename_i s v hdk ek ex
 rw [ek] at hk
 have hk:a.eval k=.string s:=hk
 have hx:a.eval x=v:=toV_ok _ ex hx
 split at h
 rotate_left
 ·cases h
 rename_i b em
 rw [em] at hm
 have hm:a.eval m=.map (some (S b).b):=hm
 split at h
 rotate_left
 ·cases h
 rename_i es c hb
 rw [←hR b] at hb
 have hbw:=(hc.m.ch b _ hb).2
 have ht:P.underlying t=some (.map kt e):=by have:=(hT t (by rw [hd];simp)).d;rw [hd] at this;exact this
 have hkt:P.underlying kt=some .string:=by have:=(hT kt (by rw [hdk];simp)).d;rw [hdk] at this;exact this
 have hck:=run_checkKey (P:=P) (w:=w) hkt (k:=.string s) trivial false 9999
 have hnd:∀c,o.op≠.defer c:=by rcases hop with h | h<;>exact nd_of h (by simp)
 have fin:∀{es':List MapEntry} {c':Nat},xput M b (some (.mp es' c'))=some M'→(Instr.mapUpdate t (.map (some (S b).b)) (.string s) v).run P w=.ok () { w with heap:=w.heap.setIfInBounds (S b).b (.map es'.toArray c') } →
   Oper.wpIn (FF r) n P o a w (St w0 S B nk N (XK nk fr' M')) Q:=by
  intro es' c' hM hr
  refine wpIn_skip' hnd (w':={ w with heap:=w.heap.setIfInBounds (S b).b (.map es'.toArray c') }) ?_ ?_
  ·rcases hop with hop | hop<;>simp only [execOp,hop,hm,hk,hx,Sem.run_bind,hr,Result.andThen_ok,Sem.run_pure]
  ·obtain ⟨fr1,hK',hc'⟩:=(hc.turn (lb':=.mp es' c') hb (by simp) (map_turn (b:=0) hc.m hb)).put (v:=undef) (K:=fun fr=>fr=fr') (putX_ok hp rfl) rfl
   subst hK'
   exact ⟨S,q,_,_,0,hc',rfl,hR.set hb hM,putX_h hp hf (fun k hk=>by simp [SV.has] at hk),hl.set hB_mp⟩
 split at h
 ·cases h
 ·rename_i i v0 hf1
  obtain ⟨h1,h2⟩:=xfind_ok hf1
  obtain ⟨e1,g1,_,g3,g4⟩:=h2 i v0 rfl
  rw [Nat.sub_zero] at g1
  have hfk:=run_findKey (P:=P) (w:=w) hkt h1
  refine fin h ?_
  have hsb:Instr.sameBits 10000 (.string s) (.string s)=true:=by simp [Instr.sameBits,(bytes_beq s s).2 rfl]
  have hkey:((es.toArray[i]?).map (·.key)).getD (.string s)=.string s:=by simp [g1,g3]
  have hks:(Instr.keyThatStays (.string s) (.string s)).run P w=.ok (.string s) w:=by
   unfold Instr.keyThatStays
   rw [if_pos hsb]
   rfl
  have hmod:es.toArray.modify i (fun e=>{ e with key:=.string s,val:=v })=(xmodE es v i).toArray:=by
   apply Array.ext'
   rw [Array.toList_modify]
   exact xmodE_ok (key:=.string s) (fun e he=>by rw [←he]) es i (fun e he=>by rw [g1] at he;cases he;exact g3)
  have hso:=run_setObj_map (P:=P) (.map (xmodE es v i).toArray c) hbw
  simp only [Instr.mapUpdate,Sem.run_bind,run_underlying ht,Result.andThen_ok,Go.MapKept.run_getObj_map hbw,hck,hfk,hkey,hks,hmod,hso]
 ·rename_i hf1
  obtain ⟨h1,_⟩:=xfind_ok hf1
  have hfk:=run_findKey (P:=P) (w:=w) hkt h1
  refine fin h ?_
  have hpush:es.toArray.push { key:=.string s,val:=v,born:=c }=(catQ es [{ key:=.string s,val:=v,born:=c }]).toArray:=by
   rw [catQ_eq];simp
  have hso:=run_setObj_map (P:=P) (.map (catQ es [{ key:=.string s,val:=v,born:=c }]).toArray (c+1)) hbw
  simp only [Instr.mapUpdate,Sem.run_bind,run_underlying ht,Result.andThen_ok,Go.MapKept.run_getObj_map hbw,hck,hfk,hpush,hso]
end
end Exe
end Go.Eng
end
section
namespace Go.Eng
open Go Go.RowKit
namespace Exe
noncomputable section
variable {P:Program} {S S' Sb:Pl} {fr fr':Fr} {L L':LL} {q q':PH} {w0:W0} {w w':World} {a a':Act} {n0 N:Nat} {B:Nat→Prop} {E:Env}
variable {r:Option Nat} {n:Nat} {Q:Exit→Act→World→Prop} {M M':Mm} {nk:Nat} {y:SV}
def xsb (T:Tab) (t nk:Nat) (x:SV) (M:Mm):Option (SV×Mm):=
 match (ty T t).d,x with
 | .slice e,.v (.string s)=>(match (ty T e).d,Nat.ble s.size 140737488355328,xput M nk (some (.sb e s.size (s.data.toList.map bv))) with
  | .int .u8,true,some M'=>some (.own nk,M')
  | _,_,_=>none)
 | _,_=>none
theorem hB_sb {m e k:Nat} {xs:List Value}:hB m (.sb e k xs):=fun j hj=>by simp [LB.has] at hj
theorem xsb_step (hT:TabOk P E.T) {o:Oper} {src t:Nat} {x:Operand} (hop:o.op=.convert src t x) (h1:(ty E.T src).d=.str) (hc:Cfg w0 S B nk N S q fr L a w) (hR:Rep M L) (hf:hF nk fr) (hl:hL nk L)
  (h:xsb E.T t nk (opv fr x) M=some (y,M')) (hp:putX N o.dst y fr=some fr'):Oper.wpIn (FF r) n P o a w (St w0 S B nk N (XK (nk+1) fr' M')) Q:=by
 have hxv:=opv_ok hc.f x
 unfold xsb at h
 split at h
 rotate_left
 ·cases h
 rename_i e s h2 hx
 split at h
 rotate_left
 ·cases h
 rename_i M1 h3 hsz hM
 cases h
 rw [hx] at hxv
 have hxv:a.eval x=.string s:=hxv
 have t1:P.underlying src=some .string:=by have:=(hT src (by rw [h1];simp)).d;rw [h1] at this;exact this
 have t2:P.underlying t=some (.slice e):=by have:=(hT t (by rw [h2];simp)).d;rw [h2] at this;exact this.1
 have t3:P.underlying e=some (.int .u8):=by have:=(hT e (by rw [h3];simp)).d;rw [h3] at this;exact this
 have hr:=run_bytes_of_string (P:=P) w src t e s t1 t2 t3
 have hge:=grownCap_ge w s.size 0 e
 generalize hcap:grownCap w s.size 0 e=cap at hr hge
 have hbb:Below w.heap.size w (w.drew.alloc (.cells (bytesRow s cap) e ((bytesRow s cap).size,(bytesRow s cap).size+1))):=
  ((Below.refl _ w).drew).alloc (Nat.le_refl _) _
 refine wpIn_value (nd_of hop (by simp)) (run_exec (s:=convert src t (a.eval x)) (by simp only [execOp,hop]) (by rw [hxv];exact hr)) ?_
 have hh:(w.drew.alloc (.cells (bytesRow s cap) e ((bytesRow s cap).size,(bytesRow s cap).size+1))).heap[w.heap.size]?=some (.cells (bytesRow s cap) e ((bytesRow s cap).size,(bytesRow s cap).size+1)):=heap_alloc_new w.drew _
 have hm:Mem w0 q (updS S nk ⟨w.heap.size,some ⟨w.heap.size,0,none⟩,s.size,cap,default⟩) ((nk,.sb e s.size (s.data.toList.map bv))::L) (w.drew.alloc (.cells (bytesRow s cap) e ((bytesRow s cap).size,(bytesRow s cap).size+1))):=by
  refine hc.m.new (noL hl) hbb ?_ fun b hb=>?_
  ·simp only [chunk,updS_same]
   have hsl:(s.data.toList.map bv).length=s.size:=by rw [List.length_map,Array.length_toList];rfl
   refine ⟨Nat.zero_le _,trivial,trivial,hge,hsl,_,_,hh,?_⟩
   rw [bytesRow,Array.toList_append,Array.toList_map]
   have e1:List.map (fun c:UInt8=>Value.int .u8 c.toNat) s.data.toList=s.data.toList.map bv:=rfl
   rw [e1,List.take_append_of_le_length (Nat.le_of_eq hsl.symm),List.take_of_length_le (Nat.le_of_eq hsl)]
  ·simp only [blk,updS_same,Option.some.injEq] at hb
   omega
 obtain ⟨fr1,hK',hc'⟩:=(hc.new (Nat.le_refl _) (noF hf) (noL hl) hm).put (v:=.slice (some ⟨w.heap.size,0,none⟩) s.size cap) (K:=fun fr=>fr=fr') (putX_ok hp rfl) (by simp [okv,updS_same])
 subst hK'
 exact ⟨_,q,_,_,0,hc',rfl,hR.new hM,putX_h hp (hf.mono (Nat.le_succ nk)) (hV_own (Nat.lt_succ_self nk)),(hl.mono (Nat.le_succ nk)).new (Nat.lt_succ_self nk) hB_sb⟩
theorem via_sb (hE:EnvOk P E) {o:Oper} (hc:Cfg w0 S B nk N S q fr L a w) (hR:Rep M L) (hf:hF nk fr) (hl:hL nk L) {k e m:Nat} {xs:List Value} (hk:getL L k=some (.sb e m xs)) {fr2:Fr} (hf2:okF S fr2 a.tmps) {sv:SV}
  (hcalm:∀q',Reads q' (some ⟨(S k).b,0,none⟩) xs→calmK E.T E.Γ E.Δ true q' o.op fr2 (remL L k) (fun z=>z=sv)) (hy:∀x,okv S sv x→okv S y x) (hyv:hV nk y) (hp:putX N o.dst y fr=some fr') :
  Oper.wpIn (FF r) n P o a w (St w0 S B nk N (XK nk fr' M)) Q:=by
 obtain ⟨_,hA,hn,hnc,hxl,cur,fz,hh,htk⟩:=hc.m.ch k _ hk
 have hblk:blk S k (.sb e m xs)=some (S k).b:=rfl
 let qp:PH:=growPH q (S k).b xs
 have hq0:∀o,q (S k).b o=none:=fun o=>hc.m.po k _ hk _ hblk o
 have hcell:∀o v,xs[o]?=some v→w.cell? ⟨(S k).b,o,none⟩=some v:=by
  intro o v hv
  rw [cell_of_heap hh,←Array.getElem?_toList]
  rw [←htk,List.getElem?_take] at hv
  split at hv
  ·exact hv
  ·cases hv
 have hmr:Mem w0 qp S (remL L k) w:=by
  have h0:=hc.m.rem k
  refine ⟨h0.ch,h0.ap,fun j lb hj b hb o=>?_,h0.fz,fun b o v hv=>?_,h0.be,fun b o v hv hF=>?_⟩
  ·simp only [qp,growPH]
   rw [getL_remL] at hj
   split at hj
   ·cases hj
   ·rename_i hkj
    rw [if_neg]
    ·exact hc.m.po j lb hj b hb o
    ·intro e;subst e
     exact hc.m.ap k _ j lb hk hj hkj _ hblk hb
  ·simp only [qp,growPH] at hv
   split at hv
   ·rename_i e;subst e;exact hcell o v hv
   ·exact hc.m.on b o v hv
  ·simp only [qp,growPH] at hv
   split at hv
   ·rename_i e;subst e;exact (hc.m.fz k _ hk _ hblk hF).elim
   ·exact hc.m.gw b o v hv hF
 have hreads:Reads qp (some ⟨(S k).b,0,none⟩) xs:=fun j hj=>by simp [rd,qp,growPH]
 let C:World→Prop:=fun w'=>Cl w0 qp S (remL L k) w w'∧w'.heap[(S k).b]?=w.heap[(S k).b]?
 obtain ⟨x,z,hz,hx,hyl⟩:=calm_ok (C:=C) hE.T hE.Γ (fun f s hs=>⟨(hE.Δ f s hs).1,(hE.Δ f s hs).2.1⟩) hmr.ch (fun _ h=>h.1) hf2 (hcalm qp hreads)
 subst hz
 have hlt:(S k).b<w.heap.size:=(Array.getElem?_eq_some_iff.1 hh).1
 have hCc:∀w1 w2,C w1→Below w1.heap.size w1 w2→C w2:=fun w1 w2 h1 hb=>by
  have hl1:(S k).b<w1.heap.size:=by
   have:=h1.2
   rw [hh] at this
   exact (Array.getElem?_eq_some_iff.1 this).1
  exact ⟨Cl.below hmr.ch h1.1 hb,(hb.block _ hl1).trans h1.2⟩
 refine wpIn_calm (calm_nd (hcalm qp hreads)) hCc hyl ⟨hmr.cl,rfl⟩ fun w' hw'=>?_
 have hcl:Cl w0 q S L w w':=by
  refine ⟨fun j lb hj b hb=>?_,fun b o v hv=>?_,hw'.1.be⟩
  ·by_cases e:k=j
   ·subst e
    rw [hk] at hj
    cases hj
    cases hb
    exact hw'.2
   ·exact hw'.1.ch j lb (by rw [getL_remL,if_neg e];exact hj) b hb
  ·refine hw'.1.on b o v ?_
   simp only [qp,growPH]
   split
   ·rename_i e;subst e;rw [hq0] at hv;cases hv
   ·exact hv
 obtain ⟨fr1,hK',hc'⟩:=(hc.mem (hc.m.of_cl hcl)).put (K:=fun fr=>fr=fr') (putX_ok hp rfl) (hy x hx)
 subst hK'
 exact ⟨S,q,_,L,0,hc',rfl,hR,putX_h hp hf hyv,hl⟩
theorem via_val (hE:EnvOk P E) {o:Oper} (hc:Cfg w0 S B nk N S q fr L a w) (hR:Rep M L) (hf:hF nk fr) (hl:hL nk L) {fr2:Fr} (hf2:okF S fr2 a.tmps) {sv:SV}
  (hcalm:calmK E.T E.Γ E.Δ true q o.op fr2 L (fun z=>z=sv)) (hy:∀x,okv S sv x→okv S y x) (hyv:hV nk y) (hp:putX N o.dst y fr=some fr') :
  Oper.wpIn (FF r) n P o a w (St w0 S B nk N (XK nk fr' M)) Q:=by
 obtain ⟨x,z,hz,hx,hyl⟩:=calm_ok (C:=fun w'=>Cl w0 q S L w w') hE.T hE.Γ (fun f s hs=>⟨(hE.Δ f s hs).1,(hE.Δ f s hs).2.1⟩) hc.m.ch (fun _ h=>h) hf2 hcalm
 subst hz
 refine wpIn_calm (calm_nd hcalm) (fun w1 w2 h1 hb=>Cl.below hc.m.ch h1 hb) hyl hc.m.cl fun w' hw'=>?_
 obtain ⟨fr1,hK',hc'⟩:=(hc.mem (hc.m.of_cl hw')).put (K:=fun fr=>fr=fr') (putX_ok hp rfl) (hy x hx)
 subst hK'
 exact ⟨S,q,_,L,0,hc',rfl,hR,putX_h hp hf hyv,hl⟩
def xfz (T:Tab) (t:Nat) (x:SV) (M:Mm):Option (SV×Mm):=
 match (ty T t).d,x with
 | .slice e,.own k=>(match (ty T e).d,M.get k with
  | .int .u8,some (.row e' sz n cs)=>(match Nat.beq sz 1,Nat.blt 0 n,rowVL cs with
   | true,true,some xs=>(match xput M k (some (.sb e' n xs)) with | some M'=>some (.own k,M') | none=>none)
   | _,_,_=>none)
  | _,_=>none)
 | _,_=>none
theorem xfz_step (hT:TabOk P E.T) {o:Oper} {src t:Nat} {x:Operand} (hop:o.op=.convert src t x) (h0:src=t) (hc:Cfg w0 S B nk N S q fr L a w) (hR:Rep M L) (hf:hF nk fr) (hl:hL nk L)
  (h:xfz E.T t (opv fr x) M=some (y,M')) (hp:putX N o.dst y fr=some fr'):hV nk y∧Oper.wpIn (FF r) n P o a w (St w0 S B nk N (XK nk fr' M')) Q:=by
 subst h0
 have hxv:=opv_ok hc.f x
 unfold xfz at h
 split at h
 rotate_left
 ·cases h
 rename_i e k h2 hx
 split at h
 rotate_left
 ·cases h
 rename_i e' sz m cs h3 hk
 split at h
 rotate_left
 ·cases h
 rename_i xs h4 h5 h6
 split at h
 rotate_left
 ·cases h
 rename_i M1 hM
 cases h
 have h4:=Nat.eq_of_beq_eq_true h4
 subst h4
 have h5:0<m:=Nat.le_of_ble_eq_true h5
 rw [←hR k] at hk
 rw [hx] at hxv
 have hxv:a.eval x=.slice (S k).A (S k).n (S k).c:=hxv
 have t2:P.underlying src=some (.slice e):=by have:=(hT src (by rw [h2];simp)).d;rw [h2] at this;exact this.1
 have t3:P.underlying e=some (.int .u8):=by have:=(hT e (by rw [h3];simp)).d;rw [h3] at this;exact this
 have hkn:hV nk (.own k):=hV_own (hl.key hk)
 obtain ⟨us,⟨⟨g1,hown⟩,g3,_,g5,g6⟩,hok⟩:=hc.m.ch k _ hk
 have hus:=rowVL_ok h6 hok
 subst hus
 rcases hown with ⟨_,hn0⟩ | ⟨g,cap,cur,hv,hg,hh,hcap,hcm,hcs,htake⟩
 ·omega
 injection hv with hA e2 e3
 have hb0:(S k).A=some ⟨(S k).b,0,none⟩:=by
  rcases g6 with g6 | g6
  ·rw [g6] at hA;cases hA
  ·exact g6
 have hgb:g=(S k).b:=by
  rw [hb0] at hA
  injection hA with hA
  injection hA with hA _ _
  exact hA.symm
 subst hgb
 have hlt:(S k).b<w.heap.size:=(Array.getElem?_eq_some_iff.1 hh).1
 have hsh:w.shape? (S k).b=some (e',cur.size):=by simp [World.shape?,hh]
 have hr:(convert src src (.slice (S k).A (S k).n (S k).c)).run P w=.ok (.slice (S k).A (S k).n (S k).c) (w.freeze ⟨(S k).b,cur.size,none⟩ 1):=by
  rw [hb0]
  simp [convert,run_underlying t2,run_underlying t3,markStringish,hsh]
 have hh2:∃fz,(w.freeze ⟨(S k).b,cur.size,none⟩ 1).heap[(S k).b]?=some (.cells cur e' fz):=by
  unfold World.freeze
  rw [if_neg (by decide)]
  simp only [Array.getElem?_modify,if_true,hh]
  exact ⟨_,rfl⟩
 have hm:Mem w0 q S (setL L k (.sb e' m us)) (w.freeze ⟨(S k).b,cur.size,none⟩ 1):=by
  refine hc.m.turn hk (b:=(S k).b) (by simp [blk,hb0]) (grownBy_freeze w _ _ hlt) ?_ rfl
  obtain ⟨fz,hh2⟩:=hh2
  exact ⟨Nat.zero_le _,hb0,g3,by omega,by simpa using g1,cur,fz,hh2,by simpa using htake⟩
 refine ⟨hkn,wpIn_value (nd_of hop (by simp)) (run_exec (s:=convert src src (a.eval x)) (by simp only [execOp,hop]) (by rw [hxv];exact hr)) ?_⟩
 obtain ⟨fr1,hK',hc'⟩:=(hc.turn hk (by simp) hm).put (v:=.slice (S k).A (S k).n (S k).c) (K:=fun fr=>fr=fr') (putX_ok hp rfl) (by simp [okv])
 subst hK'
 exact ⟨S,q,_,_,0,hc',rfl,hR.set hk hM,putX_h hp hf hkn,hl.set hB_sb⟩
def xne (op:BinOp):Option SV:=match op with | .eql=>some (.bb false) | .neq=>some (.bb true) | _=>none
def isNilS (x:SV):Bool:=match x with | .v (.slice none _ _)=>true | _=>false
def xnil (op:BinOp) (d:Ty) (x y:SV) (M:Mg):Option SV:=
 match xne op with
 | none=>none
 | some r=>(match d,isNilS y,x with
  | .slice _,true,.own k=>(match M k with
   | some (.row _ _ n _)=>(match Nat.beq n 0 with | false=>some r | true=>none)
   | some (.sb _ _ _)=>some r
   | _=>none)
  | .slice _,true,.vw k _ _ m _=>(match M k,Nat.beq m 0 with
   | some (.row _ _ n _),false=>(match Nat.beq n 0 with | false=>some r | true=>none)
   | some (.sb _ _ _),false=>some r
   | _,_=>none)
  | _,_,_=>none)
def xsl (op:BinOp) (a b:ByteArray):Option Bool:=
 match op with
 | .lss=>some (Op.bytesLess a.data.toList b.data.toList)
 | .geq=>some (!Op.bytesLess a.data.toList b.data.toList)
 | _=>none
theorem xsl_step {o:Oper} {op:BinOp} {t t2:Nat} {x u:Operand} {c d:ByteArray} {b:Bool} (hop:o.op=.binOp op t x u t2) (hc:Cfg w0 S B nk N S q fr L a w) (hR:Rep M L) (hf:hF nk fr) (hl:hL nk L)
  (hx:opv fr x=.v (.string c)) (hu:opv fr u=.v (.string d)) (h:xsl op c d=some b) (hp:putX N o.dst (.b (b=true) (instDecidableEqBool b true)) fr=some fr'):Oper.wpIn (FF r) n P o a w (St w0 S B nk N (XK nk fr' M)) Q:=by
 have ex:=opv_ok hc.f x
 have eu:=opv_ok hc.f u
 rw [hx] at ex
 rw [hu] at eu
 have ex:a.eval x=.string c:=ex
 have eu:a.eval u=.string d:=eu
 have hr:(binOp op t (.string c) (.string d)).run P w=.ok (.bool b) w:=by
  unfold xsl at h
  split at h<;>first
   | cases h
   | skip
  all_goals simp only [binOp,Op.stringOp,ByteArray.toList_eq];rfl
 have hrun:(execOp a.eval o).run P w=.ok (.value (.bool b)) w:=by
  refine run_exec (s:=do eqGuard op t x u (a.eval x) (a.eval u);binOp op t (a.eval x) (a.eval u)) (by simp only [execOp,hop]) ?_
  rw [ex,eu]
  exact bin_run (eqGuard_at_string ..) hr
 refine wpIn_value (nd_of hop (by simp)) hrun ?_
 obtain ⟨fr1,hK',hc'⟩:=hc.put (v:=.bool b) (K:=fun fr=>fr=fr') (putX_ok hp rfl) (by cases b<;>rfl)
 subst hK'
 exact ⟨S,q,_,L,0,hc',rfl,hR,putX_h hp hf (fun k hk=>by simp [SV.has] at hk),hl⟩
def xbinR (op:BinOp) (d:Ty) (x y:SV) (s:Option SV) (M:Mg):Option SV:=
 match x,y with
 | .v (.string a),.v (.string b)=>(match xsl op a b with | some b=>some (.b (b=true) (instDecidableEqBool b true)) | none=>none)
 | _,_=>(match s with | some x=>xnil op d x y M | none=>none)
def tmpV (fr:Fr) (x:Operand):Option SV:=match x with | .tmp s=>some (get fr s) | _=>none
def bytesV (xs:List Value):Option SV:=match xbytes xs with | some bs=>some (.v (.string ⟨bs.toArray⟩)) | none=>none
def allInt (l:List Value):Bool:=List.rec (motive:=fun _=>Bool) true (fun x _ ih=>match x with | .int _ _=>ih | _=>false) l
theorem allInt_ok:∀{l:List Value},allInt l=true→∀x∈l,x.oneCell'=true
  | [],_,x,hx=>by cases hx
  | y::r,h,x,hx=>by
    cases y<;>first
      | (rcases List.mem_cons.1 hx with rfl | hx
         · rfl
         · exact allInt_ok (l:=r) h x hx)
      | cases h
def xallocB (T:Tab) (t nk:Nat) (M:Mm):Option (SV×Mm):=
 match (ty T t).d with
 | .arr n e=>(match (ty T e).d,Nat.beq (ty T t).zero.length n,Nat.blt 0 n,Nat.ble n 140737488355328,allInt (ty T t).zero with
  | .int .u8,true,true,true,true=>(match xput M nk (some (.row t 1 n (valL (ty T t).zero))) with | some M'=>some (.lp nk 0,M') | none=>none)
  | _,_,_,_,_=>xalloc T t nk M)
 | _=>xalloc T t nk M
theorem xallocB_step (hT:TabOk P E.T) {o:Oper} {t:Nat} (hop:o.op=.alloc t) (hc:Cfg w0 S B nk N S q fr L a w) (hR:Rep M L) (hf:hF nk fr) (hl:hL nk L)
  (h:xallocB E.T t nk M=some (y,M')) (hp:putX N o.dst y fr=some fr'):Oper.wpIn (FF r) n P o a w (St w0 S B nk N (XK (nk+1) fr' M')) Q:=by
 unfold xallocB at h
 split at h
 rotate_left
 ·exact xalloc_step hT hop hc hR hf hl h hp
 rename_i m e hd
 split at h
 rotate_left
 ·exact xalloc_step hT hop hc hR hf hl h hp
 rename_i h1 h2 h3 h4 h5
 split at h
 rotate_left
 ·cases h
 rename_i M1 hM
 cases h
 have h2:=Nat.eq_of_beq_eq_true h2
 have h3:0<m:=Nat.le_of_ble_eq_true h3
 have h4:=Nat.le_of_ble_eq_true h4
 have h0:(ty E.T t).d≠.other:=by rw [hd];simp
 refine wpIn_value (nd_of hop (by simp)) (run_exec (s:=Instr.alloc t true (.tuple #[])) (by simp only [execOp,hop]) (run_alloc hT h0 w)) ?_
 have hh:(w.alloc (.cells (ty E.T t).zero.toArray t)).heap[w.heap.size]?=some (.cells (ty E.T t).zero.toArray t (0,0)):=heap_alloc_new w _
 have hm:Mem w0 q (updS S nk ⟨w.heap.size,some ⟨w.heap.size,0,none⟩,m,m,default⟩) ((nk,.row t 1 m (valL (ty E.T t).zero))::L) (w.alloc (.cells (ty E.T t).zero.toArray t)):=by
  refine hc.m.new (noL hl) ((Below.refl _ w).alloc (Nat.le_refl _) _) ?_ fun b hb=>?_
  ·simp only [chunk,updS_same]
   refine ⟨(ty E.T t).zero,⟨⟨by rw [h2,Nat.mul_one],.inr ⟨w.heap.size,m,_,rfl,Nat.zero_le _,hh,Nat.le_refl _,?_,by simp [h2],?_⟩⟩,by first | trivial | rfl,by omega,allInt_ok h5,by simp⟩,okL_valL _⟩
   ·simp only [maxLen];omega
   ·rw [Nat.mul_one,List.take_of_length_le];simp [h2]
  ·simp only [blk,updS_same,Option.map_some,Option.some.injEq] at hb
   omega
 obtain ⟨fr1,hK',hc'⟩:=(hc.new (Nat.le_refl _) (noF hf) (noL hl) hm).put (v:=.pointer (some ⟨w.heap.size,0,none⟩)) (K:=fun fr=>fr=fr') (putX_ok hp rfl) (by simp [okv,updS_same])
 subst hK'
 exact ⟨_,q,_,_,0,hc',rfl,hR.new hM,putX_h hp (hf.mono (Nat.le_succ nk)) (hV_lp (Nat.lt_succ_self nk)),(hl.mono (Nat.le_succ nk)).new (Nat.lt_succ_self nk) (hB.row (.valL _))⟩
def xarS (M:Mg) (k l n:Nat):Option SV:=
 match M k with
 | some (.row _ sz m _)=>(match Nat.beq sz 1,Nat.beq m n with | true,true=>some (.vw k l 1 (n-l) false) | _,_=>none)
 | _=>none
def xrd (T:Tab) (op:Op) (fr:Fr) (M:Mg):Option SV:=
 match op with
 | .call ⟨.builtin .len,xs,ts⟩=>(match xs.toList,ts.toList with
  | [.tmp s],[t]=>(match (ty T t).d,get fr s with
   | .slice _,.own k=>(match M k with | some (.sb _ n _)=>some (.v (.int .i64 n)) | _=>none)
   | _,_=>none)
  | _,_=>none)
 | .binOp op t u x _=>xbinR op (ty T t).d (opv fr u) (opv fr x) (tmpV fr u) M
 | .indexAddr t (.tmp s) x=>(match (ty T t).d,get fr s,opv fr x with
  | .slice e,.own k,.v (.int _ i)=>(match M k with
   | some (.sb _ n _)=>(match Nat.beq (ty T e).sz 1,inI i n with | true,true=>some (.lp k i.toNat) | _,_=>none)
   | _=>none)
  | .slice e,.vw k lo sz m _,.v (.int _ i)=>(match M k with
   | some (.sb _ n _)=>(match Nat.beq (ty T e).sz 1,Nat.beq sz 1,inI i m with | true,true,true=>some (.lp k (lo+i.toNat)) | _,_,_=>none)
   | _=>none)
  | _,_,_=>none)
 | .slice t (.tmp s) lo hi none=>(match (ty T t).d,get fr s with
  | .arr n e,.lp k 0=>(match hi,M k with
   | none,some (.row _ _ _ _)=>(match Nat.beq (ty T e).sz 1,xbnd (optv fr lo) 0,Nat.blt 0 n with
    | true,some l,true=>(match in3 0 l n with | true=>xarS M k l.toNat n | false=>none)
    | _,_,_=>none)
   | _,_=>none)
  | .slice e,.own k=>(match M k with
   | some (.sb _ n _)=>(match Nat.beq (ty T e).sz 1,xbnd (optv fr lo) 0,xbnd (optv fr hi) n with
    | true,some l,some h=>(match in3 l h n with | true=>some (.vw k l.toNat 1 (h.toNat-l.toNat) false) | false=>none)
    | _,_,_=>none)
   | _=>none)
  | _,_=>none)
 | .load t (.tmp s)=>(match get fr s with
  | .lp k o=>(match M k with
   | some (.sb _ n xs)=>(match (ty T t).d,(ty T t).flat,nth xs o with
    | .int _,[.int k2],some (.int k3 v)=>(match Nat.beq (kc k2) (kc k3) with | true=>some (.v (.int k3 v)) | false=>none)
    | _,_,_=>none)
   | _=>none)
  | _=>none)
 | .convert src dst (.tmp s)=>(match (ty T src).d,(ty T dst).d,get fr s with
  | .slice e,.str,.own k=>(match (ty T e).d,M k with
   | .int .u8,some (.sb _ n xs)=>bytesV xs
   | _,_=>none)
  | .slice e,.str,.vw k lo sz m _=>(match (ty T e).d,M k with
   | .int .u8,some (.sb _ n xs)=>(match Nat.beq sz 1,Nat.ble (lo+m) n with | true,true=>bytesV (vwC xs lo 1 m) | _,_=>none)
   | _,_=>none)
  | _,_,_=>none)
 | .build t ps=>(match (ty T t).d,ps.toList with | .arr _ _,[]=>some (.agg (valL (ty T t).zero)) | _,_=>none)
 | _=>none
theorem kc_inj:∀{a b:IntKind},kc a=kc b→a=b:=by intro a b;cases a<;>cases b<;>first | (intro _;rfl) | (intro h;simp [kc] at h)
theorem okF_at {S:Pl} {tm:Array Value} {s:Nat} (h:okF S fr tm):okF S ((s,.v (tm.getD s undef))::fr) tm:=fun t=>by
 rw [get_cons]
 split
 ·rename_i e;subst e;rfl
 ·exact h t
theorem opv_at {s:Nat} {v:SV}:opv ((s,v)::fr) (.tmp s)=v:=by simp [opv,get_cons]
theorem opv_off {s k:Nat} {v:SV} {x:Operand} {k':IntKind} {i:Int} (hs:get fr s=.own k) (h:opv fr x=.v (.int k' i)):opv ((s,v)::fr) x=.v (.int k' i):=by
 cases x with
 | tmp t=>
  simp only [opv,get_cons] at h ⊢
  split
  ·rename_i e;subst e;rw [hs] at h;cases h
  ·exact h
 | const u=>cases u<;>exact h
 | global g=>exact h
 | func f=>exact h
theorem opv_offV {s:Nat} {v:SV} {x:Operand} {u:Value} (hs:∀u',get fr s≠.v u') (h:opv fr x=.v u):opv ((s,v)::fr) x=.v u:=by
 cases x with
 | tmp t=>
  simp only [opv,get_cons] at h ⊢
  split
  ·rename_i e;subst e;exact (hs _ h).elim
  ·exact h
 | const u=>cases u<;>exact h
 | global g=>exact h
 | func f=>exact h
theorem nil_step (hE:EnvOk P E) {o:Oper} (hc:Cfg w0 S B nk N S q fr L a w) (hR:Rep M L) (hf:hF nk fr) (hl:hL nk L) {op:BinOp} {t t2 s e m c:Nat} {x:Operand} {A:Option Addr}
  (hop:o.op=.binOp op t (.tmp s) x t2) (hs:∀u',get fr s≠.v u') (hd:(ty E.T t).d=.slice e) (hx:isNilS (opv fr x)=true) (hv:a.tmps.getD s undef=.slice A m c) (hA:A≠none) (h:xne op=some y) (hp:putX N o.dst y fr=some fr') :
  Oper.wpIn (FF r) n P o a w (St w0 S B nk N (XK nk fr' M)) Q:=by
 unfold isNilS at hx
 split at hx
 rotate_left
 ·cases hx
 rename_i n1 c1 hx1
 have hx1:=opv_offV (s:=s) (v:=.v (a.tmps.getD s undef)) hs hx1
 unfold xne at h
 split at h
 ·cases h
  refine via_val hE hc hR hf hl (okF_at (s:=s) hc.f) (sv:=.b (A=none) (decNone A)) ?_ (fun x hx=>?_) (fun k hk=>by simp [SV.has] at hk) hp
  ·rw [hop]
   dsimp only [calmK]
   rw [hx1,opv_at,hv,hd]
   rfl
  ·have hx:x=.bool (@decide (A=none) (decNone A)):=hx
   show x=.bool false
   rw [hx,@decide_eq_false _ (decNone A) hA]
 ·cases h
  refine via_val hE hc hR hf hl (okF_at (s:=s) hc.f) (sv:=.b (¬A=none) (@instDecidableNot _ (decNone A))) ?_ (fun x hx=>?_) (fun k hk=>by simp [SV.has] at hk) hp
  ·rw [hop]
   dsimp only [calmK]
   rw [hx1,opv_at,hv,hd]
   rfl
  ·have hx:x=.bool (@decide (¬A=none) (@instDecidableNot _ (decNone A))):=hx
   show x=.bool true
   rw [hx,@decide_eq_true _ (@instDecidableNot _ (decNone A)) hA]
 ·cases h
theorem xbnd_off {s k:Nat} {v:SV} {x:Option Operand} {d i:Int} (hs:get fr s=.own k) (h:xbnd (optv fr x) d=some i):xbnd (optv ((s,v)::fr) x) d=some i:=by
 cases x with
 | none=>exact h
 | some x=>
  unfold optv at h ⊢
  unfold xbnd at h
  split at h
  ·rename_i e;cases e
  ·rename_i k' i' e
   cases h
   have e:=Option.some.inj e
   show xbnd (some (opv ((s,v)::fr) x)) d=some _
   rw [opv_off hs e]
   rfl
  ·cases h
theorem opv_off' {s k lo sz m:Nat} {ex:Bool} {v:SV} {x:Operand} {k':IntKind} {i:Int} (hs:get fr s=.vw k lo sz m ex) (h:opv fr x=.v (.int k' i)):opv ((s,v)::fr) x=.v (.int k' i):=by
 cases x with
 | tmp t=>
  simp only [opv,get_cons] at h ⊢
  split
  ·rename_i e;subst e;rw [hs] at h;cases h
  ·exact h
 | const u=>cases u<;>exact h
 | global g=>exact h
 | func f=>exact h
theorem bytesV_ok {xs:List Value} (h:bytesV xs=some y):∃bs,xbytes xs=some bs∧y=.v (.string ⟨bs.toArray⟩):=by
 unfold bytesV at h
 split at h
 ·rename_i bs hb;cases h;exact ⟨bs,hb,rfl⟩
 ·cases h
theorem nth_eq {α}:∀(l:List α) (i:Nat),nth l i=l[i]?
 | [],i=>by cases i<;>rfl
 | x::r,0=>rfl
 | x::r,i+1=>by rw [List.getElem?_cons_succ];exact nth_eq r i
theorem xbz_step (hE:EnvOk P E) {o:Oper} {t n' e:Nat} {ps:Array (Nat×Operand)} (hop:o.op=.build t ps) (hd:(ty E.T t).d=.arr n' e) (hps:ps.toList=[]) (hc:Cfg w0 S B nk N S q fr L a w) (hR:Rep M L) (hf:hF nk fr) (hl:hL nk L)
  (hy:hV nk (.agg (valL (ty E.T t).zero))) (hp:putX N o.dst (.agg (valL (ty E.T t).zero)) fr=some fr'):Oper.wpIn (FF r) n P o a w (St w0 S B nk N (XK nk fr' M)) Q:=by
 have ht:=hE.T t (by rw [hd];simp)
 obtain ⟨hu,hs⟩:descOk P E.T t (.arr n' e):=by rw [←hd];exact ht.d
 obtain ⟨i,z,hi,_,_,hz,hzc⟩:=ht.i
 obtain ⟨_,i2,hi2,_⟩:=hs
 have hps':ps=#[]:=by apply Array.ext';simpa using hps
 have hz':z.cells=(ty E.T t).zero.toArray:=by rw [←hzc]
 have hrun:(execOp a.eval o).run P w=.ok (.value (.agg (ty E.T t).zero.toArray)) w:=by
  refine run_exec (s:=Instr.build t (ps.map fun (i,x)=>(i,a.eval x))) (by simp only [execOp,hop]) ?_
  subst hps'
  simp only [Instr.build,Sem.run_bind,zeroValue,typeInfo,run_program,Result.andThen_ok,hi,Sem.run_pure,hz,run_underlying hu,Go.sizeOf,hi2]
  simp [Instr.fill,hz']
 refine wpIn_value (nd_of hop (by simp)) hrun ?_
 obtain ⟨fr1,hK',hc'⟩:=hc.put (v:=.agg (ty E.T t).zero.toArray) (K:=fun fr=>fr=fr') (putX_ok hp rfl) ⟨_,rfl,okL_valL _⟩
 subst hK'
 exact ⟨S,q,_,L,0,hc',rfl,hR,putX_h hp hf hy,hl⟩
theorem xrd_step (hE:EnvOk P E) {o:Oper} (hc:Cfg w0 S B nk N S q fr L a w) (hR:Rep M L) (hf:hF nk fr) (hl:hL nk L)
  (h:xrd E.T o.op fr M.get=some y) (hy:hV nk y) (hp:putX N o.dst y fr=some fr'):Oper.wpIn (FF r) n P o a w (St w0 S B nk N (XK nk fr' M)) Q:=by
 have ownv:∀{s k:Nat},get fr s=.own k→a.tmps.getD s undef=.slice (S k).A (S k).n (S k).c:=fun {s k} e=>by
  have:=hc.f s;rw [e] at this;exact this
 have sbv:∀{s k e m:Nat} {xs:List Value},get fr s=.own k→getL L k=some (.sb e m xs)→a.tmps.getD s undef=.slice (some ⟨(S k).b,0,none⟩) m (S k).c∧m≤(S k).c∧xs.length=m:=fun {s k e m xs} e1 hk=>by
  obtain ⟨_,hA,hn,hnc,hxl,_⟩:=hc.m.ch k _ hk
  rw [ownv e1,hA,hn]
  exact ⟨rfl,hnc,hxl⟩
 have sbw:∀{s k e m lo sz m':Nat} {ex:Bool} {xs:List Value},get fr s=.vw k lo sz m' ex→getL L k=some (.sb e m xs)→∃A c,a.tmps.getD s undef=.slice A m' c∧m'≤c∧(m'≠0→A=some ⟨(S k).b,lo * sz,none⟩):=fun {s k e m lo sz m' ex xs} e1 hk=>by
  obtain ⟨_,hA,_⟩:=hc.m.ch k _ hk
  have:=hc.f s
  rw [e1] at this
  obtain ⟨A,c,h1,h2,h3,_⟩:=this
  refine ⟨A,c,h1,h2,fun hne=>?_⟩
  rcases h3 with h3 | h3
  ·exact absurd h3 hne
  ·rw [h3,hA]
   show some (Addr.add _ _)=_
   rw [Addr.add_lit,Nat.zero_add]
 generalize hop:o.op=op at h
 unfold xrd at h
 split at h
 ·rename_i xs ts
  split at h
  rotate_left
  ·cases h
  rename_i s t e1 e2
  split at h
  rotate_left
  ·cases h
  rename_i e k hd hs
  split at h
  rotate_left
  ·cases h
  rename_i e' m' ys hk
  cases h
  rw [←hR k] at hk
  obtain ⟨hv,hnc,hxl⟩:=sbv hs hk
  refine via_sb hE hc hR hf hl hk (okF_at (s:=s) hc.f) (sv:=.v (.int .i64 m')) (fun q' _=>?_) (fun x hx=>hx) hy hp
  rw [hop]
  simp only [calmK,callK,e1,e2,opvs,opv_at,builtK,hd,hv,lenK]
 ·rename_i op t u0 x t2
  unfold xbinR at h
  split at h
  ·rename_i c d hx hu
   split at h
   ·rename_i b hb
    cases h
    exact xsl_step hop hc hR hf hl hx hu hb hp
   ·cases h
  split at h
  rotate_left
  ·cases h
  rename_i z hz
  unfold tmpV at hz
  split at hz
  rotate_left
  ·cases hz
  rename_i s hno
  cases hz
  have row:∀{k e sz n:Nat} {cs:List SV},getL L k=some (.row e sz n cs)→(S k).n=n∧(n≠0→(S k).A≠none):=fun {k e sz n cs} hk=>by
   obtain ⟨xs,⟨⟨_,h⟩,hn,_⟩,_⟩:=hc.m.ch k _ hk
   refine ⟨hn,fun hne=>?_⟩
   rcases h with ⟨_,h⟩ | ⟨g,cap,cur,h,_⟩
   ·exact absurd h hne
   ·intro e
    rw [e] at h
    cases h
  unfold xnil at h
  split at h
  ·cases h
  rename_i r0 hne0
  split at h
  ·rename_i e k hd hx hs
   split at h
   ·rename_i e2 sz m cs hk
    split at h
    ·rename_i hm
     have hm:m≠0:=fun e=>by rw [e] at hm;cases hm
     rw [←hR k] at hk
     exact nil_step hE hc hR hf hl hop (fun u e=>by rw [hs] at e;cases e) hd hx (ownv hs) ((row hk).2 hm) (hne0.trans h) hp
    ·cases h
   ·rename_i e2 m xs hk
    rw [←hR k] at hk
    exact nil_step hE hc hR hf hl hop (fun u e=>by rw [hs] at e;cases e) hd hx (ownv hs) (by rw [(hc.m.ch k _ hk).2.1];simp) (hne0.trans h) hp
   ·cases h
  ·rename_i e k lo sz0 m0 ex hd hx hs
   have vw:(S k).A≠none→m0≠0→∃A c,a.tmps.getD s undef=.slice A m0 c∧A≠none:=fun h1 h2=>by
    have:=hc.f s
    rw [hs] at this
    obtain ⟨A,c,e1,_,e2,_⟩:=this
    refine ⟨A,c,e1,?_⟩
    rcases e2 with e2 | e2
    ·exact absurd e2 h2
    ·rw [e2]
     intro e
     cases hA:(S k).A with
     | none=>exact h1 hA
     | some a0=>rw [hA] at e;cases e
   split at h
   ·rename_i e2 sz m cs hk hm
    have hm:m0≠0:=fun e=>by rw [e] at hm;cases hm
    split at h
    ·rename_i hm2
     have hm2:m≠0:=fun e=>by rw [e] at hm2;cases hm2
     rw [←hR k] at hk
     obtain ⟨A,c,h1,h2⟩:=vw ((row hk).2 hm2) hm
     exact nil_step hE hc hR hf hl hop (fun u e=>by rw [hs] at e;cases e) hd hx h1 h2 (hne0.trans h) hp
    ·cases h
   ·rename_i e2 m xs hk hm
    have hm:m0≠0:=fun e=>by rw [e] at hm;cases hm
    rw [←hR k] at hk
    obtain ⟨A,c,h1,h2⟩:=vw (by rw [(hc.m.ch k _ hk).2.1];simp) hm
    exact nil_step hE hc hR hf hl hop (fun u e=>by rw [hs] at e;cases e) hd hx h1 h2 (hne0.trans h) hp
   ·cases h
  ·cases h
 ·rename_i t s x
  split at h
  ·rename_i e k ik i hd hs hi
   split at h
   rotate_left
   ·cases h
   rename_i e' m' ys hk
   split at h
   rotate_left
   ·cases h
   rename_i hz hin
   cases h
   have hz:=Nat.eq_of_beq_eq_true hz
   have hin:=inI_ok hin
   rw [←hR k] at hk
   obtain ⟨hv,hnc,hxl⟩:=sbv hs hk
   refine via_sb hE hc hR hf hl hk (okF_at (s:=s) hc.f) (sv:=.el (some ⟨(S k).b,0,none⟩) i.toNat) (fun q' _=>?_) (fun x hx=>?_) hy hp
   ·rw [hop]
    dsimp only [calmK]
    rw [opv_at,opv_off hs hi,hv]
    unfold idxK
    rw [hd]
    refine ⟨⟨hin.1,hin.2,by simp⟩,?_⟩
    rw [elK_eq,hz]
    simp only [Nat.mul_one]
   ·obtain ⟨a0,ha,hx⟩:=hx
    cases ha
    subst hx
    show Value.pointer (some (Addr.add _ _))=_
    rw [Addr.add_lit,Nat.zero_add]
  ·rename_i e k lo sz m ex ik i hd hs hi
   split at h
   rotate_left
   ·cases h
   rename_i e' m' ys hk
   split at h
   rotate_left
   ·cases h
   rename_i hz hz2 hin
   cases h
   have hz:=Nat.eq_of_beq_eq_true hz
   have hz2:=Nat.eq_of_beq_eq_true hz2
   subst hz2
   have hin:=inI_ok hin
   rw [←hR k] at hk
   obtain ⟨A,c,hv,hnc,hA⟩:=sbw hs hk
   have hA:=hA (by omega)
   subst hA
   refine via_sb hE hc hR hf hl hk (okF_at (s:=s) hc.f) (sv:=.el (some ⟨(S k).b,lo,none⟩) i.toNat) (fun q' _=>?_) (fun x hx=>?_) hy hp
   ·rw [hop]
    dsimp only [calmK]
    rw [opv_at,opv_off' hs hi,hv]
    unfold idxK
    rw [hd]
    refine ⟨⟨hin.1,hin.2,by simp⟩,?_⟩
    rw [elK_eq,hz]
    simp only [Nat.mul_one]
   ·obtain ⟨a0,ha,hx⟩:=hx
    cases ha
    subst hx
    show Value.pointer (some (Addr.add _ _))=_
    rw [Addr.add_lit]
  ·cases h
 ·rename_i t s lo hi
  split at h
  ·rename_i m e k hd hs
   split at h
   rotate_left
   ·cases h
   rename_i e2 sz m2 cs hk
   split at h
   rotate_left
   ·cases h
   rename_i l hz h1 hpos
   split at h
   rotate_left
   ·cases h
   rename_i h3
   unfold xarS at h
   rw [hk] at h
   dsimp only at h
   split at h
   rotate_left
   ·cases h
   rename_i hs1 hm1
   cases h
   have hs1:=Nat.eq_of_beq_eq_true hs1
   have hm1:=Nat.eq_of_beq_eq_true hm1
   subst hs1 hm1
   have hz:=Nat.eq_of_beq_eq_true hz
   have hpos:0<m2:=Nat.le_of_ble_eq_true hpos
   have h3:=in3_ok h3
   rw [←hR k] at hk
   obtain ⟨xs,⟨⟨_,hown⟩,hn,_,_,hA⟩,_⟩:=hc.m.ch k _ hk
   have hA:(S k).A=some ⟨(S k).b,0,none⟩:=by
    rcases hA with hA | hA
    ·rw [hA] at hown
     rcases hown with ⟨_,h⟩ | ⟨g,cap,cur,h,_⟩
     ·omega
     ·cases h
    ·exact hA
   have hv:a.tmps.getD s undef=.pointer (some ⟨(S k).b,0,none⟩):=by
    have:=hc.f s;rw [hs] at this;exact this
   obtain ⟨ht,_,j,hj,hsz,_⟩:descOk P E.T t (.arr m2 e):=by rw [←hd];exact (hE.T t (by rw [hd];simp)).d
   have hlo:(lo=none∧l=0)∨∃u k',lo=some u∧a.eval u=.int k' l:=by
    cases lo with
    | none=>cases h1;exact .inl ⟨rfl,rfl⟩
    | some u=>
     right
     unfold xbnd optv at h1
     dsimp only at h1
     split at h1
     ·rename_i e;cases e
     ·rename_i k' i' e
      cases h1
      have e:=Option.some.inj e
      have:=opv_ok hc.f u
      rw [e] at this
      exact ⟨u,k',rfl,this⟩
     ·cases h1
   have hrun:(execOp a.eval o).run P w=.ok (.value (.slice (some (if m2=l.toNat then ⟨(S k).b,0,none⟩ else Addr.add ⟨(S k).b,0,none⟩ (l.toNat * 1))) (m2-l.toNat) (m2-l.toNat))) w:=by
    have b1:=fun k' code=>run_bnd (P:=P) k' l m2 code h3.2.1 h3.2.2 w
    refine run_exec (s:=Instr.sliceAt t (a.eval (.tmp s)) (lo.map a.eval) none none) (by simp only [execOp,hop];rfl) ?_
    have hv':a.eval (.tmp s)=.pointer (some ⟨(S k).b,0,none⟩):=hv
    rw [hv']
    rcases hlo with ⟨rfl,rfl⟩ | ⟨u,k',rfl,hu⟩
    ·simp [Instr.sliceAt,Instr.sliceBounds,run_underlying ht,Instr.sureAddr,sizeOf,typeInfo,hj,hsz,hz]
    ·simp [Instr.sliceAt,Instr.sliceBounds,run_underlying ht,Instr.sureAddr,sizeOf,typeInfo,hj,hsz,hz,hu,b1]
   refine wpIn_value (nd_of hop (by simp)) hrun ?_
   obtain ⟨fr1,hK',hc'⟩:=hc.put (v:=.slice (some (if m2=l.toNat then ⟨(S k).b,0,none⟩ else Addr.add ⟨(S k).b,0,none⟩ (l.toNat * 1))) (m2-l.toNat) (m2-l.toNat)) (K:=fun fr=>fr=fr') (putX_ok hp rfl) ⟨_,_,rfl,Nat.le_refl _,(by
    by_cases e0:m2-l.toNat=0
    ·exact .inl e0
    ·right
     rw [if_neg (by omega),hA]
     rfl),fun e=>by cases e⟩
   subst hK'
   exact ⟨S,q,_,L,0,hc',rfl,hR,putX_h hp hf hy,hl⟩
  rotate_left
  ·cases h
  rename_i e k hd hs
  split at h
  rotate_left
  ·cases h
  rename_i e' m' ys hk
  split at h
  rotate_left
  ·cases h
  rename_i l hh hz h1 h2
  split at h
  rotate_left
  ·cases h
  rename_i h3
  cases h
  have hz:=Nat.eq_of_beq_eq_true hz
  have h3:=in3_ok h3
  rw [←hR k] at hk
  obtain ⟨hv,hnc,hxl⟩:=sbv hs hk
  refine via_sb hE hc hR hf hl hk (okF_at (s:=s) hc.f) (sv:=.v (.slice (if (S k).c=l.toNat then some ⟨(S k).b,0,none⟩ else (some ⟨(S k).b,0,none⟩:Option Addr).map (·.add l.toNat)) (hh.toNat-l.toNat) ((S k).c-l.toNat))) (fun q' _=>?_) (fun x hx=>?_) hy hp
  ·rw [hop]
   dsimp only [calmK,sliceOpK,optv]
   rw [opv_at,hv]
   unfold slcK
   rw [hd]
   dsimp only
   refine xbnd_ok (xbnd_off hs h1) (xbnd_ok (xbnd_off hs h2) ⟨⟨h3.1,h3.2.1,by omega⟩,?_⟩)
   rw [elK_eq,hz,Nat.mul_one]
   intro m hm
   rw [hm]
  ·have hx:x=.slice _ _ _:=hx
   refine ⟨_,_,hx,by omega,?_,fun e=>by cases e⟩
   by_cases e:hh.toNat-l.toNat=0
   ·exact .inl e
   ·right
    have hA:(S k).A=some ⟨(S k).b,0,none⟩:=(hc.m.ch k _ hk).2.1
    rw [if_neg (by omega),hA,Nat.mul_one]
 ·rename_i t s
  split at h
  rotate_left
  ·cases h
  rename_i k j hs
  split at h
  rotate_left
  ·cases h
  rename_i e' m' ys hk
  split at h
  rotate_left
  ·cases h
  rename_i k1 k2 k3 v h1 h2 h3
  split at h
  rotate_left
  ·cases h
  rename_i hkc
  cases h
  have hkc:=kc_inj (Nat.eq_of_beq_eq_true hkc)
  subst hkc
  rw [←hR k] at hk
  rw [nth_eq] at h3
  have hpv:a.tmps.getD s undef=.pointer (some ⟨(S k).b,j,none⟩):=by
   have:=hc.f s;rw [hs] at this;exact this
  refine via_sb hE hc hR hf hl hk (okF_at (s:=s) hc.f) (sv:=.v (.int k2 v)) (fun q' hq'=>?_) (fun x hx=>hx) hy hp
  have hcl:rd q' (some ⟨(S k).b,j,none⟩) 0=some (.int k2 v):=by
   have hj:j<ys.length:=by
    rcases Nat.lt_or_ge j ys.length with h | h
    ·exact h
    ·rw [List.getElem?_eq_none h] at h3;cases h3
   rw [←h3,←hq' j hj]
   simp [rd]
  rw [hop]
  show loadK _ _ _ _ _ _
  rw [opv_at,hpv]
  unfold loadK
  generalize hty:ty E.T t=tt at h1 h2
  rcases tt with ⟨d,sz,x1,x2,fl,x3⟩
  dsimp only at h1 h2
  subst h1 h2
  dsimp only [loadK1,ldK]
  refine ⟨⟨v,hcl⟩,fun x hx=>?_⟩
  rw [hcl] at hx
  cases hx
  rfl
 ·rename_i src dst s
  split at h
  rotate_left
  ·rename_i e k lo sz m ex h1 h2 hs
   split at h
   rotate_left
   ·cases h
   rename_i e' m' ys h3 hk
   split at h
   rotate_left
   ·cases h
   rename_i hz hle
   have hz:=Nat.eq_of_beq_eq_true hz
   subst hz
   have hle:=Nat.le_of_ble_eq_true hle
   obtain ⟨bs,hbs,hyv⟩:=bytesV_ok h
   rw [←hR k] at hk
   obtain ⟨A,c,hv,hnc,hA⟩:=sbw hs hk
   have hxl:ys.length=m':=(hc.m.ch k _ hk).2.2.2.2.1
   have hlen:(vwC ys lo 1 m).length=m:=by simp only [vwC,List.length_take,List.length_drop];omega
   refine via_sb hE hc hR hf hl hk (okF_at (s:=s) hc.f) (sv:=y) (fun q' hq'=>?_) (fun x hx=>hx) hy hp
   have hq2:Reads q' A (vwC ys lo 1 m):=by
    by_cases e:m=0
    ·intro j hj;omega
    ·rw [hA e]
     have:=reads_vw (lo:=lo) (sz:=1) (m:=m) hq'
     rw [show (some (⟨(S k).b,0,none⟩:Addr)).map (·.add (lo * 1))=some ⟨(S k).b,lo * 1,none⟩ from by
      show some (Addr.add _ _)=_
      rw [Addr.add_lit,Nat.zero_add]] at this
     exact this
   rw [hop]
   dsimp only [calmK]
   rw [opv_at,hv]
   unfold convK
   rw [h1,h2]
   dsimp only
   rw [h3]
   dsimp only [sliceK]
   refine ⟨⟨_,by rw [hlen,Nat.mul_one],hq2⟩,fun zs hz hrz=>?_⟩
   have:zs=vwC ys lo 1 m:=hrz.uniq hq2 (by rw [hz,hlen,Nat.mul_one])
   subst this
   exact sl_bytes (K:=fun z=>z=y) hbs hyv.symm
  ·cases h
  rename_i e k h1 h2 hs
  split at h
  rotate_left
  ·cases h
  rename_i e' m' ys h3 hk
  obtain ⟨bs,hbs,hyv⟩:=bytesV_ok h
  rw [←hR k] at hk
  obtain ⟨hv,hnc,hxl⟩:=sbv hs hk
  refine via_sb hE hc hR hf hl hk (okF_at (s:=s) hc.f) (sv:=y) (fun q' hq'=>?_) (fun x hx=>hx) hy hp
  rw [hop]
  dsimp only [calmK]
  rw [opv_at,hv]
  unfold convK
  rw [h1,h2]
  dsimp only
  rw [h3]
  dsimp only [sliceK]
  refine ⟨⟨ys,by rw [hxl,Nat.mul_one],hq'⟩,fun zs hz hrz=>?_⟩
  have:zs=ys:=hrz.uniq hq' (by rw [hz,hxl,Nat.mul_one])
  subst this
  exact sl_bytes (K:=fun z=>z=y) hbs hyv.symm
 ·rename_i t ps
  split at h
  ·rename_i n' e hd hps
   cases h
   exact xbz_step hE hop hd hps hc hR hf hl hy hp
  ·cases h
 ·cases h
def xcalm2 (T:Tab) (op:Op) (fr:Fr) (M:Mg):Option SV:=match xcalm T op fr M with | some y=>some y | none=>xrd T op fr M
theorem xcalm2_step (hE:EnvOk P E) {o:Oper} (hc:Cfg w0 S B nk N S q fr L a w) (hR:Rep M L) (hf:hF nk fr) (hl:hL nk L)
  (h:xcalm2 E.T o.op fr M.get=some y) (hy:hV nk y) (hp:putX N o.dst y fr=some fr'):Oper.wpIn (FF r) n P o a w (St w0 S B nk N (XK nk fr' M)) Q:=by
 unfold xcalm2 at h
 split at h
 ·rename_i z hz
  cases h
  exact xcalm_step hE hc hR hf hl hz hy hp
 ·exact xrd_step hE hc hR hf hl h hy hp
end
end Exe
end Go.Eng
end
section
namespace Go.Eng
open Go Go.RowKit
namespace Exe
noncomputable section
abbrev XH:=List SV→Nat→Mm→Option (SV×Nat×Mm)
abbrev Yx:=List (Nat×XH)
def yxGet (Y:Yx) (k:Nat):Option XH:=List.rec (motive:=fun _=>Option XH) none (fun p _ ih=>match p with | (j,h)=>match Nat.beq j k with | true=>some h | false=>ih) Y
theorem yxGet_c {j k:Nat} {h:XH} {r:Yx}:yxGet ((j,h)::r) k=match Nat.beq j k with | true=>some h | false=>yxGet r k:=rfl
abbrev XI:=Yx→Nat→XH
structure XE where
 E:Env
 Z:Zt
 ext:Tr (List SV→Option SV)
 prim:Tr XH
def nb (x:SV):SV:=match x with | .b p d=>(match @decide p d with | true=>.bb true | false=>.bb false) | x=>x
def lift1 (nk:Nat) (x:Option (SV×Mm)):Option (SV×Nat×Mm):=match x with | some (y,M')=>some (y,nk+1,M') | none=>none
def liftU (nk:Nat) (x:Option Mm):Option (SV×Nat×Mm):=match x with | some M'=>some (.v undef,nk,M') | none=>none
def xck (nk:Nat) (x:Option (SV×Nat×Mm)):Option (SV×Nat×Mm):=
 match x with
 | some (y,nk',M')=>(match Nat.ble nk nk',R.ltK nk' y with | true,true=>some (y,nk',M') | _,_=>none)
 | none=>none
def liftC (nk:Nat) (M:Mm) (x:Option SV):Option (SV×Nat×Mm):=match x with | some y=>(match R.ltK nk y with | true=>some (nb y,nk,M) | false=>none) | none=>none
def xcall2 (X:XE) (xi:XI) (Y:Yx) (nk:Nat) (fr:Fr) (M:Mm) (f:Nat) (xs:List SV):Option (SV×Nat×Mm):=
 match X.ext.get f with
 | some g=>liftC nk M (g xs)
 | none=>xck nk (xi Y f xs nk M)
def xapp2 (X:XE) (nk:Nat) (fr:Fr) (M:Mm) (xs:List Operand) (ts:List Nat):Option (SV×Nat×Mm):=
 match xs,ts with
 | [s,x],[t,t']=>(match Nat.beq t t' with
  | true=>lift1 nk (xappM X.E.T t nk (opv fr s) (opv fr x) M)
  | false=>lift1 nk (xappSM X.E.T t t' nk (opv fr s) (opv fr x) M))
 | _,_=>none
def xcopy2 (X:XE) (nk:Nat) (fr:Fr) (M:Mm) (xs:List Operand) (ts:List Nat):Option (SV×Nat×Mm):=
 match xs,ts with
 | [d,s],[t,t']=>(match xcopy X.E.T t (opv fr d) (opv fr s) M with | some (y,M')=>some (y,nk,M') | none=>none)
 | _,_=>none
def xfn (X:XE) (xi:XI) (Y:Yx) (nk:Nat) (fr:Fr) (M:Mm) (g:SV) (xs:List SV):Option (SV×Nat×Mm):=
 match g with
 | .fn f cs=>xck nk (xi Y f (catQ xs cs) nk M)
 | .yl k=>(match yxGet Y k with | some h=>xck nk (h xs nk M) | none=>none)
 | _=>none
def xconv2 (X:XE) (nk:Nat) (fr:Fr) (M:Mm) (s t:Nat) (x:Operand):Option (SV×Nat×Mm):=
 match (ty X.E.T s).d,(ty X.E.T t).d with
 | .str,.slice _=>lift1 nk (xsb X.E.T t nk (opv fr x) M)
 | .slice _,.slice _=>(match Nat.beq s t,xfz X.E.T t (opv fr x) M with | true,some (y,M')=>some (y,nk,M') | _,_=>none)
 | _,_=>liftC nk M (xcalm2 X.E.T (.convert s t x) fr M.get)
def xop (X:XE) (xi:XI) (Y:Yx) (nk:Nat) (fr:Fr) (M:Mm) (op:Op):Option (SV×Nat×Mm):=
 match op with
 | .alloc t=>lift1 nk (xallocB X.E.T t nk M)
 | .box t x=>lift1 nk (xboxM X.E.T t nk (opv fr x) M)
 | .buildSlice t m ps=>lift1 nk (xbuildS X.E.T t m nk fr ps.toList M)
 | .makeSlice t l c=>lift1 nk (xmakeA X.E.T t nk (opv fr l) (opv fr c) M)
 | .store t p x=>liftU nk (xstore X.E.T t (opv fr p) (opv fr x) M)
 | .makeMap _ rs=>lift1 nk (xmakeMap rs nk M)
 | .mapUpdate t m k x=>liftU nk (xmapUpd X.E.T t (opv fr m) (opv fr k) (opv fr x) M)
 | .insert t m k x=>liftU nk (xmapUpd X.E.T t (opv fr m) (opv fr k) (opv fr x) M)
 | .lookup t x i ok=>liftC nk M (xlookup X.E.T X.Z t (opv fr x) (opv fr i) ok M.get)
 | .call ⟨.builtin .append,xs,ts⟩=>xapp2 X nk fr M xs.toList ts.toList
 | .call ⟨.builtin .copy,xs,ts⟩=>xcopy2 X nk fr M xs.toList ts.toList
 | .call ⟨.value (.func f),xs,_⟩=>xcall2 X xi Y nk fr M f (opvs fr xs.toList)
 | .call ⟨.value (.tmp t),xs,_⟩=>xfn X xi Y nk fr M (get fr t) (opvs fr xs.toList)
 | .convert s t x=>xconv2 X nk fr M s t x
 | op=>liftC nk M (xcalm2 X.E.T op fr M.get)
def xguard (all:List Oper) (g:Option (Nat×Bool)) (fr:Fr):Option Bool:=
 match g with
 | none=>some true
 | some (j,want)=>(match dstOf all j with
  | none=>none
  | some t=>(match get fr t with
   | .bb b=>(match b,want with | true,true=>some true | false,false=>some true | _,_=>some false)
   | .v (.tuple _)=>some false
   | _=>none))
def xstep (X:XE) (xi:XI) (Y:Yx) (all:List Oper) (o:Oper) (nk:Nat) (fr:Fr) (M:Mm):Option (SV×Nat×Mm):=
 match xguard all o.guard fr with
 | none=>none
 | some false=>some (.v undef,nk,M)
 | some true=>xop X xi Y nk fr M o.op
def xops (X:XE) (xi:XI) (Y:Yx) (N:Nat) (all:List Oper) (l:List Oper):Nat→Fr→Mm→Option (Nat×Fr×Mm):=
 List.rec (motive:=fun _=>Nat→Fr→Mm→Option (Nat×Fr×Mm)) (fun nk fr M=>some (nk,fr,M))
  (fun o _ ih nk fr M=>match xstep X xi Y all o nk fr M with
   | none=>none
   | some (y,nk',M')=>(match putX N o.dst y fr with
    | none=>none
    | some fr'=>ih nk' fr' M')) l
structure Tc where
 nk:Nat
 fr:Fr
 M:Mm
 y:SV
def xtrace (X:XE) (xi:XI) (Y:Yx) (N:Nat) (all:List Oper) (l:List Oper):Nat→Fr→Mm→Option (List Tc×Nat×Fr×Mm):=
 List.rec (motive:=fun _=>Nat→Fr→Mm→Option (List Tc×Nat×Fr×Mm)) (fun nk fr M=>some ([],nk,fr,M))
  (fun o _ ih nk fr M=>match xstep X xi Y all o nk fr M with
   | none=>none
   | some (y,nk',M')=>(match putX N o.dst y fr,Nat.ble nk nk',R.ltK nk' y with
    | some fr',true,true=>(match ih nk' fr' M' with
     | none=>none
     | some (l,z)=>some (⟨nk,fr,M,y⟩::l,z))
    | _,_,_=>none)) l
def isEff (X:XE) (op:Op):Bool:=
 match op with
 | .convert s t _=>(match (ty X.E.T s).d,(ty X.E.T t).d with | .str,.slice _=>true | .slice _,.slice _=>true | _,_=>false)
 | .alloc _ | .box _ _ | .buildSlice _ _ _ | .makeSlice _ _ _ | .store _ _ _ | .makeMap _ _ | .mapUpdate _ _ _ _ | .insert _ _ _ _=>true
 | .call ⟨.builtin .append,_,_⟩=>true
 | .call ⟨.builtin .copy,_,_⟩=>true
 | .call ⟨.builtin _,_,_⟩=>false
 | .call ⟨.value (.func f),_,_⟩=>(match X.ext.get f with | some _=>false | none=>true)
 | .call _=>true
 | _=>false
def isPure (op:Op):Bool:=
 match op with
 | .binOp op _ _ _ _=>(match op with | .eql=>false | .neq=>false | _=>true)
 | .move _ | .assign _ | .pick _ _ _ | .unOp _ _ _ | .extract _ _ | .field _ _ _ | .fieldAddr _ _ _ | .nilCheck _ | .index _ _ _ | .build _ _ | .makeFunc _ _ _=>true
 | _=>false
def bit (m i:Nat):Bool:=Nat.testBit m i
def befs1 (bs:List Nat) (es:List Edge):Nat:=
 List.rec (motive:=fun _=>Nat) 0 (fun e _ ih=>match Region.binds .any e with
  | true=>(match nth bs e.on with | some m=>Nat.lor (Nat.lor (2 ^ e.on) m) ih | none=>ih)
  | false=>ih) es
def befs (ops:List Oper):List Nat→List Nat:=
 List.rec (motive:=fun _=>List Nat→List Nat) (fun bs=>bs) (fun o _ ih bs=>ih (catQ bs [befs1 bs o.after.toList])) ops
mutual
def svEq:SV→SV→Bool
 | .v x,.v y=>vEq x y
 | .bb a,.bb b=>a == b
 | .lp k o,.lp k' o'=>Nat.beq k k' && Nat.beq o o'
 | .own k,.own k'=>Nat.beq k k'
 | .mr k,.mr k'=>Nat.beq k k'
 | .yl k,.yl k'=>Nat.beq k k'
 | .vw k a b c d,.vw k' a' b' c' d'=>Nat.beq k k' && Nat.beq a a' && Nat.beq b b' && Nat.beq c c' && d == d'
 | .agg l,.agg l'=>svEqL l l'
 | .tup l,.tup l'=>svEqL l l'
 | .fn f l,.fn f' l'=>Nat.beq f f' && svEqL l l'
 | .bad,.bad=>true
 | _,_=>false
def svEqL:List SV→List SV→Bool
 | [],[]=>true
 | x::r,y::s=>svEq x y && svEqL r s
 | _,_=>false
end
def opsL (o:Oper):List Nat:=(o.op.operands.toList.filterMap fun | .tmp t=>some t | _=>none)
def guardL (all:List Oper) (o:Oper):List Nat:=match o.guard with | none=>[] | some (j,_)=>(match dstOf all j with | some t=>[t] | none=>[])
def readersOk (X:XE) (d:Nat) (all:List Oper):List Oper→Bool
 | []=>true
 | o::r=>((opsL o++guardL all o).all (fun t=>!(Nat.beq t d)) || isEff X o.op) && readersOk X d all r
def srcOk (X:XE) (o:Oper):List Oper→Bool
 | []=>true
 | o'::r=>(!(isEff X o'.op) || (match o'.dst with | some d=>(opsL o).all (fun t=>!(Nat.beq t d)) | none=>true)) && srcOk X o r
def earlyAl (X:XE) (all:List Oper) (o:Oper):Bool:=
 match o.op,o.guard,o.dst with
 | .alloc t,none,some d=>(match (ty X.E.T t).d with | .arr _ _=>false | .other=>false | _=>readersOk X d all all)
 | .buildSlice _ _ _,none,some d=>readersOk X d all all && srcOk X o all
 | _,_,_=>false
def xsame (X:XE) (xi:XI) (Y:Yx) (all:List Oper) (o:Oper) (tc:Tc) (nk:Nat) (M:Mm):Bool:=
 match R.ltK nk tc.y with
 | true=>(match isPure o.op with
  | true=>true
  | false=>(match xstep X xi Y all o nk tc.fr M with
   | some (y,_,_)=>svEq y tc.y
   | none=>false))
 | false=>false
def passed (X:XE) (all:List Oper) (m e:Nat):List Oper→Nat→Bool
 | [],_=>false
 | o::r,j=>(match isEff X o.op,earlyAl X all o,Nat.blt e j,bit m j with | true,false,true,true=>true | _,_,_,_=>passed X all m e r (j+1))
def earlyOf (X:XE) (all:List Oper) (bs:List Nat) (i e:Nat) (oe:Oper):Bool:=
 match earlyAl X all oe with
 | false=>false
 | true=>(match nth bs i with | some m=>!(passed X all m e all 0) | none=>true)
def xpair (X:XE) (xi:XI) (Y:Yx) (all:List Oper) (bs:List Nat) (ea:Bool) (i e:Nat) (oi:Oper) (ti te:Tc) (nke:Nat) (Me:Mm):Bool:=
 match Nat.blt e i with
 | true=>(match nth bs i with
  | some m=>(match bit m e,ea with | true,false=>true | _,_=>xsame X xi Y all oi ti te.nk te.M)
  | none=>false)
 | false=>(match nth bs e with
  | some m=>(match bit m i with | true=>true | false=>xsame X xi Y all oi ti nke Me)
  | none=>false)
def xpairs (X:XE) (xi:XI) (Y:Yx) (all:List Oper) (bs:List Nat) (i:Nat) (oi:Oper) (ti:Tc) (nkF:Nat) (MF:Mm):List Oper→List Tc→Nat→Bool
 | [],[],_=>true
 | oe::r,te::s,e=>(match isEff X oe.op with
  | true=>(match s with
   | tn::_=>xpair X xi Y all bs (earlyOf X all bs i e oe) i e oi ti te tn.nk tn.M
   | []=>xpair X xi Y all bs (earlyOf X all bs i e oe) i e oi ti te nkF MF)
  | false=>true) && xpairs X xi Y all bs i oi ti nkF MF r s (e+1)
 | _,_,_=>false
def xeffs (X:XE) (bs:List Nat) (m:Nat):List Oper→Nat→Bool
 | [],_=>true
 | oe::r,e=>(match isEff X oe.op with
  | true=>Nat.blt e m == false || bit ((nth bs m).getD 0) e
  | false=>true) && xeffs X bs m r (e+1)
def ldKey (fr:Fr) (o:Oper):Option Nat:=
 match o.op,o.guard with
 | .load _ p,none=>(match opv fr p with | .lp k _=>some k | _=>none)
 | _,_=>none
def effKeeps (k:Nat) (o:Oper) (t:Tc):Bool:=
 match Nat.beq k t.nk with
 | true=>false
 | false=>(match o.op with
  | .alloc _=>true
  | .box _ _=>true
  | .store _ p _=>(match opv t.fr p with | .lp k2 _=>(match Nat.beq k k2 with | true=>false | false=>true) | _=>false)
  | _=>false)
def allKeep (X:XE) (bs:List Nat) (i k:Nat):List Oper→List Tc→Nat→Bool
 | [],[],_=>true
 | o::r,t::s,e=>(match isEff X o.op with | true=>(match Nat.blt i e && bit ((nth bs e).getD 0) i with | true=>true | false=>effKeeps k o t) | false=>true) && allKeep X bs i k r s (e+1)
 | _,_,_=>false
def ldSafe (X:XE) (bs:List Nat) (i:Nat) (all:List Oper) (tr:List Tc) (o:Oper) (t:Tc):Bool:=
 match ldKey t.fr o,tr with
 | some k,t0::_=>R.ltK t0.nk t.y && allKeep X bs i k all tr 0
 | _,_=>false
def xchk (X:XE) (xi:XI) (Y:Yx) (all:List Oper) (bs:List Nat) (tr:List Tc) (nkF:Nat) (MF:Mm):List Oper→List Tc→Nat→Bool
 | [],[],_=>true
 | o::r,t::s,i=>(match isEff X o.op with
  | true=>(match earlyAl X all o with | true=>true | false=>xeffs X bs i all 0)
  | false=>(ldSafe X bs i all tr o t || xpairs X xi Y all bs i o t nkF MF all tr 0)) && xchk X xi Y all bs tr nkF MF r s (i+1)
 | _,_,_=>false
def slotOk (bs:List Nat) (i:Nat) (t:Nat):List Oper→Nat→Bool
 | [],_=>true
 | o::r,j=>(match o.dst with
  | some d=>(match Nat.beq d t with
   | true=>(match Nat.beq i j,Nat.blt j i with
    | true,_=>true
    | false,true=>bit ((nth bs i).getD 0) j
    | false,false=>bit ((nth bs j).getD 0) i)
   | false=>true)
  | none=>true) && slotOk bs i t r (j+1)
def dstOk (i:Nat) (d:Nat):List Oper→Nat→Bool
 | [],_=>true
 | o::r,j=>(match o.dst with
  | some d'=>(match Nat.beq d' d with | true=>Nat.beq i j | false=>true)
  | none=>true) && dstOk i d r (j+1)
def slotsOk (bs:List Nat) (all:List Oper):List Oper→Nat→Bool
 | [],_=>true
 | o::r,i=>(opsL o++guardL all o).all (fun t=>slotOk bs i t all 0) && (match o.dst with | some d=>dstOk i d all 0 | none=>true) && slotsOk bs all r (i+1)
def edgesOk (all:List Oper):List Oper→Nat→Bool
 | [],_=>true
 | o::r,i=>o.after.toList.all (fun e=>!Region.binds .any e || Nat.blt e.on i) && edgesOk all r (i+1)
def regOk (ops:Array Oper):Bool:=edgesOk ops.toList ops.toList 0 && slotsOk (befs ops.toList []) ops.toList ops.toList 0 && noDefer ops && Region.noSelect ops
def xdraw (X:XE) (xi:XI) (Y:Yx) (N:Nat) (ops:List Oper) (nk:Nat) (fr:Fr) (M:Mm):Option (Nat×Fr×Mm):=
 match xtrace X xi Y N ops ops nk fr M with
 | none=>none
 | some (tr,nk',fr',M')=>(match xchk X xi Y ops (befs ops []) tr nk' M' ops tr 0 with | true=>some (nk',fr',M') | false=>none)
abbrev XR:=Option (Ex×Nat×Fr×Mm)
def xputs (ps:List Nat) (N:Nat):List SV→Fr→Option Fr:=
 List.rec (motive:=fun _=>List SV→Fr→Option Fr) (fun xs fr=>match xs with | []=>some fr | _::_=>none)
  (fun p _ ih xs fr=>match xs with
   | x::xs=>(match Nat.blt p N with | true=>ih xs ((p,x)::fr) | false=>none)
   | []=>none) ps
def xround (xa xb:Nat→Fr→Mm→XR) (N nk:Nat) (ps:List Nat) (fr:Fr):XH:=fun args nk1 M=>
 match M.get nk with
 | some (.loop .ready none)=>(match xputs ps N args fr with
  | none=>none
  | some fr1=>(match xa nk1 fr1 M with
   | some (.norm,nk2,fr2,M2)=>(match M2.get nk with
    | some (.loop .ready none)=>(match xput M2 nk (some (.loop .busy none)) with
     | none=>none
     | some M3=>(match xb nk2 fr2 M3 with
      | some (ex,nk3,_,M4)=>(match M4.get nk with
       | some (.loop .busy none)=>(match ex with
        | .norm=>(match xput M4 nk (some (.loop .ready none)) with | some M5=>some (.bb true,nk3,M5) | none=>none)
        | ex=>(match xput M4 nk (some (.loop .done (some ex))) with | some M5=>some (.bb false,nk3,M5) | none=>none))
       | _=>none)
      | none=>none))
    | _=>none)
   | _=>none))
 | _=>none
def xdone (nk:Nat) (fr:Fr) (nk1:Nat) (M:Mm):XR:=
 let out (ex:Ex):XR:=(match xput M nk none with | some M1=>(match xput M1 (nk+1) none with | some M2=>some (ex,nk1,fr,M2) | none=>none) | none=>none)
 match M.get nk with
 | some (.loop .ready none)=>out .norm
 | some (.loop .done (some .ret))=>out .ret
 | some (.loop .done (some (.exit n)))=>out (.exit n)
 | some (.loop .done (some (.goto n)))=>out (.goto n)
 | _=>none
def xnorm (fr:Fr):Nat→Fr:=List.rec (motive:=fun _=>Nat→Fr) (fun _=>[])
 (fun p _ ih seen=>match p with | (t,x)=>(match bit seen t with | true=>ih seen | false=>(t,x)::ih (Nat.lor seen (2 ^ t)))) fr
def xloop (body:Nat→Fr→Mm→XR) (f:Nat):Nat→Fr→Mm→XR:=
 Nat.rec (motive:=fun _=>Nat→Fr→Mm→XR) (fun _ _ _=>none)
  (fun _ ih nk fr M=>match body nk (xnorm fr 0) M with
   | some (.norm,nk',fr',M')=>ih nk' fr' M'
   | r=>r) f
def xgo (xi:XI) (N:Nat) (Y:Yx) (va vb:Option Nat→Nat→Fr→Mm→XR) (ps:Array Nat) (it:Nat) (cs:List SV) (nk:Nat) (fr:Fr) (M1:Mm):XR:=
 match xput M1 nk (some (.loop .ready none)) with
 | none=>none
 | some M2=>(match xi ((nk,xround (va (some nk)) (vb (some nk)) N nk ps.toList fr)::Y) it (.yl nk::cs) (nk+2) M2 with
  | some (_,nk1,M3)=>(match Nat.ble nk nk1 with | true=>xdone nk fr nk1 M3 | false=>none)
  | none=>none)
def xrange (xi:XI) (N:Nat) (Y:Yx) (va vb:Option Nat→Nat→Fr→Mm→XR) (g:Operand) (ps:Array Nat) (ro:Option Nat) (nk:Nat) (fr:Fr) (M:Mm):XR:=
 match opv fr g with
 | .fn it cs=>(match ro with
  | none=>(match xput M (nk+1) (some .dfr) with | some M1=>xgo xi N Y va vb ps it cs nk fr M1 | none=>none)
  | some l0=>(match M.get l0 with | some (.loop _ _)=>xgo xi N Y va vb ps it cs nk fr M | _=>none))
 | _=>none
def xC (X:XE) (xi:XI) (lf N:Nat) (Y:Yx) (c:Code):Option Nat→Nat→Fr→Mm→XR:=
 Code.rec (motive:=fun _=>Option Nat→Nat→Fr→Mm→XR)
  (fun _ nk fr M=>some (.norm,nk,fr,M))
  (fun _ ops draw _ nk fr M=>match draw with
   | false=>(match xops X xi Y N ops.toList ops.toList nk fr M with | some (nk',fr',M')=>some (.norm,nk',fr',M') | none=>none)
   | true=>(match xdraw X xi Y N ops.toList nk fr M with | some (nk',fr',M')=>some (.norm,nk',fr',M') | none=>none))
  (fun _ _ va vb ro nk fr M=>match va ro nk fr M with
   | some (.norm,nk',fr',M')=>vb ro nk' fr' M'
   | r=>r)
  (fun c _ _ vx vy ro nk fr M=>match opv fr c with
   | .bb true=>vx ro nk fr M
   | .bb false=>vy ro nk fr M
   | _=>none)
  (fun id _ vc ro nk fr M=>match vc ro nk fr M with
   | some (.exit n,nk',fr',M')=>(match Nat.beq n id with | true=>some (.norm,nk',fr',M') | false=>some (.exit n,nk',fr',M'))
   | r=>r)
  (fun _ vb ro nk fr M=>xloop (vb ro) lf nk fr M)
  (fun g ps _ _ va vb=>xrange xi N Y va vb g ps)
  (fun id _ nk fr M=>some (.exit id,nk,fr,M))
  (fun _ vc ro nk fr M=>match vc ro nk fr M with
   | some (.goto _,_,_,_)=>none
   | r=>r)
  (fun _ _ nk fr M=>some (.norm,nk,fr,M))
  (fun l _ nk fr M=>some (.goto l,nk,fr,M))
  (fun _ nk fr M=>some (.ret,nk,fr,M))
  (fun _ _ _ _ _=>none)
  c
def codeOk (c:Code):Bool:=
 match c with
 | .region _ ops draw=>(match draw with | true=>regOk ops | false=>true)
 | .seq a b=>codeOk a && codeOk b
 | .cond _ a b=>codeOk a && codeOk b
 | .block _ a=>codeOk a
 | .loop a=>codeOk a
 | .rangeFunc _ _ a b=>codeOk a && codeOk b
 | .scope a=>codeOk a
 | _=>true
def xres (T:Tab) (rs:List ResultVar) (fr:Fr) (M:Mm):Option (List SV):=
 List.rec (motive:=fun _=>Option (List SV)) (some [])
  (fun v _ ih=>match (match v with | .tmp t=>some (get fr t) | .cell t ty=>xload T M.get ty (get fr t)) with
   | some x=>(match ih with | some l=>some (x::l) | none=>none)
   | none=>none) rs
def xN (X:XE) (lf:Nat) (d:Nat):XI:=Nat.rec (motive:=fun _=>XI) (fun _ _ _ _ _=>none)
 (fun _ ih Y f args nk M=>match X.prim.get f with
  | some p=>p args nk M
  | none=>(match X.E.FT.get f with
   | none=>none
   | some fn=>(match fn.body with
    | none=>none
    | some c=>(match Nat.ble args.length fn.ntmps with
     | false=>none
     | true=>(match xC X ih lf fn.ntmps Y c none nk (argF args 0) M with
      | some (ex,nk',fr',M')=>(match (match ex with | .norm=>true | .ret=>true | _=>false) with
       | true=>(match xres X.E.T fn.results.toList fr' M' with
        | some l=>some (oneOr l,nk',M')
        | none=>none)
       | false=>none)
      | none=>none))))) d
end
end Exe
end Go.Eng
end
section
namespace Go.Eng
open Go Go.RowKit
namespace Exe
noncomputable section
variable {P:Program} {S S' Sb:Pl} {fr fr':Fr} {L L':LL} {q q':PH} {w0:W0} {w w':World} {a a':Act} {n0 N:Nat} {B:Nat→Prop} {X:XE} {xi:XI} {Yx':Yx}
variable {r:Option Nat} {n:Nat} {Q:Exit→Act→World→Prop} {M M':Mm} {nk nk':Nat} {y:SV}
def YRel (Yx':Yx) (Y:Ye):Prop:=∀k hx,yxGet Yx' k=some hx→∃h,yGet Y k=some h∧∀args nk q L M r nk' M' (K:SV→Nat→PH→LL→Prop),k+2≤nk→Rep M L→hL nk L→hS nk args →
 hx args nk M=some (r,nk',M')→(∀q' L',Rep M' L'→hL nk' L'→K r nk' q' L')→h args nk q L K
def XInl (xi:XI):Inl:=fun Y f args nk q L K=>∃Yx' M r nk' M',YRel Yx' Y∧Rep M L∧hL nk L∧hS nk args∧xi Yx' f args nk M=some (r,nk',M')∧∀q' L',Rep M' L'→hL nk' L'→K r nk' q' L'
def ExtOk (P:Program) (T:Tr (List SV→Option SV)):Prop:=∀f g,T.get f=some g→∀(S:Pl) args vs y,okL S args vs→g args=some y→∃v,okv S y v∧((∀w,(callFunc f vs.toArray).run P w=.ok (.value v) w) ∨
 ((∀args w,(callFunc f args).run P w=.ok (.enter f args) w)∧∀w,Calls P f vs.toArray w fun e w'=>e=.returned v∧Below w.heap.size w w'))
structure XOk (P:Program) (X:XE):Prop where
 e:EnvOk P X.E
 z:ZOk P X.Z
 x:ExtOk P X.ext
theorem ltKR {b:Nat} {x:SV} (h:R.ltK b x=true):hV b x:=by rw [R.ltK_eq] at h;exact hV_of h
theorem nb_ok {x:SV} {v:Value} (h:okv S x v):okv S (nb x) v:=by
 cases x with
 | b p d=>
  have h:v=.bool (@decide p d):=h
  subst h
  unfold nb
  dsimp only
  cases d with
  | isTrue hp=>rfl
  | isFalse hp=>rfl
 | _=>exact h
theorem nb_h {m:Nat} {x:SV} (h:hV m x):hV m (nb x):=by
 cases x with
 | b p d=>
  intro k hk
  unfold nb at hk
  dsimp only at hk
  split at hk<;>simp [SV.has] at hk
 | _=>exact h
theorem putX_nb {dst:Option Nat} {fr1:Fr} (h:putX N dst (nb y) fr=some fr1):∃fr2,putX N dst y fr=some fr2∧∀(S:Pl) tm,okF S fr2 tm→okF S fr1 tm:=by
 unfold putX at h ⊢
 split at h
 ·cases h;exact ⟨_,rfl,fun _ _ h=>h⟩
 ·rename_i d
  split at h
  ·rename_i e
   cases h
   refine ⟨_,rfl,fun S tm hf t=>?_⟩
   have:=hf t
   rw [get_cons] at this ⊢
   split
   ·rename_i e2;rw [if_pos e2] at this;exact nb_ok this
   ·rename_i e2;rw [if_neg e2] at this;exact this
  ·cases h
theorem XK.nb {o:Oper} {dst:Option Nat} {fr1:Fr} (hp:putX N dst (nb y) fr=some fr1) (hf:hF nk fr1) (hw:∀fr2,putX N dst y fr=some fr2→Oper.wpIn (FF r) n P o a w (St w0 S B nk N (XK nk fr2 M)) Q) :
  Oper.wpIn (FF r) n P o a w (St w0 S B nk N (XK nk fr1 M)) Q:=by
 obtain ⟨fr2,h2,h3⟩:=putX_nb hp
 refine Oper.wpIn_mono ?_ (hw fr2 h2)
 rintro a w ⟨S',q',fr',L',k',hc,rfl,g1,g2,g3⟩
 exact ⟨S',q',fr1,L',k',hc.frame (h3 _ _ hc.f),rfl,g1,hf,g3⟩
theorem liftC_step {o:Oper} {x:Option SV} (h:liftC nk M x=some (y,nk',M')) (hf:hF nk fr) (hp:putX N o.dst y fr=some fr')
  (hw:∀z fr2,x=some z→hV nk z→putX N o.dst z fr=some fr2→Oper.wpIn (FF r) n P o a w (St w0 S B nk N (XK nk fr2 M)) Q):nk'=nk∧hV nk' y∧Oper.wpIn (FF r) n P o a w (St w0 S B nk N (XK nk' fr' M')) Q:=by
 unfold liftC at h
 split at h
 ·rename_i z
  split at h
  ·rename_i hz
   cases h
   have hz:=ltKR hz
   refine ⟨rfl,nb_h hz,XK.nb hp (putX_h hp hf (nb_h hz)) fun fr2 h2=>hw z fr2 rfl hz h2⟩
  ·cases h
 ·cases h
theorem ofList {α:Type} {xs:Array α} {l:List α} (h:xs.toList=l):xs=l.toArray:=by rw [←h]
theorem xop_step (hX:XOk P X) (hI:InlOk P (XInl xi)) {Y:Ye} (hYr:YRel Yx' Y) (hY:YOk P S Y nk) {o:Oper} (hc:Cfg w0 S B nk N S q fr L a w) (hB:B=fun d=>getL L d=some .dfr) (hR:Rep M L) (hf:hF nk fr) (hl:hL nk L)
  (h:xop X xi Yx' nk fr M o.op=some (y,nk',M')) (hp:putX N o.dst y fr=some fr'):nk≤nk'∧hV nk' y∧Oper.wpIn (FF r) n P o a w (St w0 S B nk N (XK nk' fr' M')) Q:=by
 have l1:∀{x:Option (SV×Mm)},lift1 nk x=some (y,nk',M')→x=some (y,M')∧nk'=nk+1:=by
  intro x hx
  unfold lift1 at hx
  split at hx<;>cases hx
  exact ⟨rfl,rfl⟩
 have lu:∀{x:Option Mm},liftU nk x=some (y,nk',M')→x=some M'∧nk'=nk∧y=.v undef:=by
  intro x hx
  unfold liftU at hx
  split at hx<;>cases hx
  exact ⟨rfl,rfl,rfl⟩
 have hu:hV nk (.v undef):=fun k hk=>by simp [SV.has] at hk
 have kk:∀{x:Option (SV×Mm)},x=some (y,M')→(hV (nk+1) y)→nk'=nk+1→Oper.wpIn (FF r) n P o a w (St w0 S B nk N (XK (nk+1) fr' M')) Q→nk≤nk'∧hV nk' y∧Oper.wpIn (FF r) n P o a w (St w0 S B nk N (XK nk' fr' M')) Q:=
  fun _ hy e hw=>by subst e;exact ⟨Nat.le_succ nk,hy,hw⟩
 have T:=hX.e.T
 obtain ⟨dst,op,oty,pos,after,guard⟩:=o
 have hmap:∀(xs:Array Operand),xs.map a.eval=(xs.toList.map a.eval).toArray:=fun xs=>by apply Array.ext';simp
 have calm:liftC nk M (xcalm2 X.E.T op fr M.get)=some (y,nk',M')→nk≤nk'∧hV nk' y∧Oper.wpIn (FF r) n P ⟨dst,op,oty,pos,after,guard⟩ a w (St w0 S B nk N (XK nk' fr' M')) Q:=fun h=>by
  obtain ⟨e,g1,g2⟩:=liftC_step (P:=P) (w:=w) (w0:=w0) (S:=S) (B:=B) (a:=a) (r:=r) (n:=n) (Q:=Q) (o:=⟨dst,op,oty,pos,after,guard⟩) h hf hp (fun z fr2 hz hzv hp2=>xcalm2_step hX.e hc hR hf hl hz hzv hp2)
  exact ⟨by omega,g1,g2⟩
 have own:y=.own nk→hV (nk+1) y:=fun e=>by subst e;exact hV_own (Nat.lt_succ_self nk)
 replace h:xop X xi Yx' nk fr M op=some (y,nk',M'):=h
 unfold xop at h
 split at h
 ·obtain ⟨h,e⟩:=l1 h
  refine kk h ?_ e (xallocB_step T rfl hc hR hf hl h hp)
  have old:∀{t:Nat},xalloc X.E.T t nk M=some (y,M')→hV (nk+1) y:=fun h=>by
   unfold xalloc at h
   split at h
   ·cases h
   ·split at h<;>cases h;exact hV_lp (Nat.lt_succ_self nk)
  unfold xallocB at h
  split at h
  ·split at h
   ·split at h<;>cases h;exact hV_lp (Nat.lt_succ_self nk)
   ·exact old h
  ·exact old h
 ·obtain ⟨h,e⟩:=l1 h
  refine kk h ?_ e (xbox_step rfl hc hR hf hl h hp)
  unfold xboxM at h
  split at h
  ·cases h
  ·split at h
   ·split at h<;>cases h;exact hV_lp (Nat.lt_succ_self nk)
   ·cases h
 ·obtain ⟨h,e⟩:=l1 h
  refine kk h (own ?_) e (xbuildS_step T rfl hc hR hf hl hB h hp)
  unfold xbuildS at h
  split at h
  ·split at h
   ·cases h
   ·split at h
    ·split at h<;>cases h;rfl
    ·cases h
  ·cases h
 ·obtain ⟨h,e⟩:=l1 h
  refine kk h (own ?_) e (xmakeA_step T rfl hc hR hf hl h hp)
  have old:∀{l c:SV} {t:Nat},xmake X.E.T t nk l c M=some (y,M')→y=.own nk:=fun h=>by
   unfold xmake at h
   split at h
   ·split at h
    ·cases h
    ·split at h
     ·split at h<;>cases h;rfl
     ·split at h<;>cases h;rfl
     ·cases h
   ·cases h
  unfold xmakeA at h
  split at h
  ·split at h
   ·cases h
   ·split at h
    ·cases h;rfl
    ·exact old h
  ·cases h
 ·obtain ⟨h3,e,e2⟩:=lu h
  subst e e2
  exact ⟨Nat.le_refl _,hu,xstore_step T rfl hc hR hf hl h3 hp⟩
 ·obtain ⟨h,e⟩:=l1 h
  refine kk h ?_ e (xmakeMap_step rfl hc hR hf hl h hp)
  unfold xmakeMap at h
  split at h
  ·split at h<;>cases h;exact hV_mr (Nat.lt_succ_self nk)
  ·cases h
 ·obtain ⟨h3,e,e2⟩:=lu h
  subst e e2
  exact ⟨Nat.le_refl _,hu,xmapUpd_step T (.inl rfl) hc hR hf hl h3 hp⟩
 ·obtain ⟨h3,e,e2⟩:=lu h
  subst e e2
  exact ⟨Nat.le_refl _,hu,xmapUpd_step T (.inr rfl) hc hR hf hl h3 hp⟩
 ·rename_i t x i ok
  obtain ⟨e,g1,g2⟩:=liftC_step (P:=P) (w:=w) (w0:=w0) (S:=S) (B:=B) (a:=a) (r:=r) (n:=n) (Q:=Q) (o:=⟨dst,.lookup t x i ok,oty,pos,after,guard⟩) h hf hp (fun z fr2 hz hzv hp2=>xlookup_step T hX.z rfl hc hR hf hl hz hzv hp2)
  exact ⟨by omega,g1,g2⟩
 ·rename_i xs ts
  unfold xapp2 at h
  split at h
  ·rename_i s x t t' e1 e2
   have e1:=ofList e1
   have e2:=ofList e2
   subst e1 e2
   split at h
   ·rename_i e
    have e:=Nat.eq_of_beq_eq_true e
    subst e
    obtain ⟨h,e⟩:=l1 h
    refine kk h (own ?_) e (xapp_stepM T rfl hc hR hf hl h hp)
    unfold xappM at h
    split at h
    ·split at h
     ·cases h
     ·split at h
      ·cases h
      ·split at h
       ·cases h
       ·split at h
        ·split at h<;>cases h;rfl
        ·cases h
    ·cases h
   ·obtain ⟨h,e⟩:=l1 h
    refine kk h (own ?_) e (xapps_stepM T rfl hc hR hf hl h hp)
    unfold xappSM at h
    split at h
    ·split at h
     ·split at h
      ·split at h<;>cases h;rfl
      ·split at h
       ·split at h
        ·split at h<;>cases h;rfl
        ·cases h
       ·cases h
      ·cases h
     ·cases h
    ·cases h
  ·cases h
 ·rename_i xs ts
  unfold xcopy2 at h
  split at h
  ·rename_i s x t t' e1 e2
   have e1:=ofList e1
   have e2:=ofList e2
   subst e1 e2
   split at h
   ·rename_i y1 M1 hcp
    cases h
    refine ⟨Nat.le_refl _,?_,xcopy_step T rfl hc hR hf hl hcp hp⟩
    unfold xcopy at hcp
    split at hcp
    ·split at hcp
     ·split at hcp
      ·split at hcp
       ·split at hcp<;>cases hcp;exact fun k hk=>by simp [SV.has] at hk
       ·cases hcp
      ·split at hcp
       ·split at hcp<;>cases hcp;exact fun k hk=>by simp [SV.has] at hk
       ·cases hcp
      ·cases hcp
     ·cases hcp
    ·cases hcp
   ·cases h
  ·cases h
 ·rename_i f xs ts
  have hxs:=opvs_ok hc.f xs.toList
  unfold xcall2 at h
  split at h
  ·rename_i g hg
   obtain ⟨e,g1,g2⟩:=liftC_step (P:=P) (w:=w) (w0:=w0) (S:=S) (B:=B) (a:=a) (r:=r) (n:=n) (Q:=Q) (o:=⟨dst,.call ⟨.value (.func f),xs,ts⟩,oty,pos,after,guard⟩) h hf hp (fun z fr2 hz hzv hp2=>by
    obtain ⟨v,hv,hrun⟩:=hX.x f g hg S _ _ z hxs hz
    rcases hrun with hrun | ⟨hen,hcall⟩
    ·refine wpIn_value (by simp) (w':=w) (v:=v) ?_ ?_
     ·have:=hrun w
      simp only [execOp,resolve,Act.eval,Deferred.ofValue,invoke,hmap,Sem.run_bind,Sem.run_pure,Result.andThen_ok]
      simpa using this
     ·obtain ⟨fr1,hK',hc'⟩:=hc.put (K:=fun fr=>fr=fr2) (putX_ok hp2 rfl) hv
      subst hK'
      exact ⟨S,q,_,L,0,hc',rfl,hR,putX_h hp2 hf hzv,hl⟩
    ·refine inl_step (f:=f) (inl:=fun _ f' args' nk1 q1 L1 K1=>f'=f∧args'=opvs fr xs.toList∧nk1=nk∧(∀k,getL L1 k=getL L k)∧K1 z nk1 q1 L1) ?_ hY (by simp) hc hxs ?_ (nk:=nk) ?_
     ·rintro w0 Y f' args' nk1 q1 L1 K1 vs w1 S1 r1 n1 ⟨rfl,rfl,rfl,hL1,hK1⟩ hY1 hvs1 hm1
      obtain ⟨v1,hv1,hrun1⟩:=hX.x f' g hg S1 _ _ z hvs1 hz
      rcases hrun1 with hrun1 | ⟨_,hcall1⟩
      ·exfalso
       have h1:=hrun1 w1
       rw [hen] at h1
       cases h1
      ·refine ⟨hen,(calls_ff (hcall1 w1)).mono ?_⟩
       rintro e w' ⟨rfl,hb⟩
       exact ⟨v1,z,S1,q1,L1,nk1,rfl,hv1,fun _ _=>rfl,hm1.below hb,fun _ _ h=>h,hK1⟩
     ·intro w' he
      simp only [execOp,resolve,Act.eval,Deferred.ofValue,invoke,hmap,Sem.run_bind,Sem.run_pure,Result.andThen_ok]
      simpa using he
     ·rw [Nat.ble_eq_true_of_le (Nat.le_refl nk),ltF_of hf,dLt_of hl]
      exact ⟨rfl,rfl,rfl,fun _=>rfl,putX_ok hp2 ⟨rfl,hR,putX_h hp2 hf hzv,hl⟩⟩)
   exact ⟨by omega,g1,g2⟩
  ·unfold xck at h
   split at h
   rotate_left
   ·cases h
   rename_i y1 nk1 M1 hxi
   split at h
   rotate_left
   ·cases h
   rename_i h1 h2
   cases h
   have h1:=Nat.le_of_ble_eq_true h1
   have h2:=ltKR h2
   refine ⟨h1,h2,inl_step (f:=f) hI hY (by simp) hc hxs ?_ (nk:=nk) ?_⟩
   ·intro w' he
    have:(callFunc f ((xs.toList.map a.eval).toArray ++ #[])).run P w=.ok (.enter f (xs.toList.map a.eval).toArray) w':=by simpa using he
    simp only [execOp,resolve,Act.eval,Deferred.ofValue,invoke,hmap,Sem.run_bind,Sem.run_pure,Result.andThen_ok]
    simpa using he
   ·rw [Nat.ble_eq_true_of_le (Nat.le_refl nk),ltF_of hf,dLt_of hl]
    exact ⟨Yx',M,y,nk',M',hYr,hR,hl,hf.opvs _,hxi,fun q' L' hR' hl'=>putX_ok hp ⟨rfl,hR',putX_h hp (hf.mono h1) h2,hl'⟩⟩
 ·rename_i t xs ts
  have hxs:=opvs_ok hc.f xs.toList
  have hft:=hc.f t
  have hgt:hV nk (get fr t):=hf.opv (.tmp t)
  unfold xfn at h
  split at h
  ·rename_i f cs e
   rw [e] at hft hgt
   obtain ⟨cvs,hfv,hcs⟩:=hft
   rw [catQ_eq] at h
   unfold xck at h
   split at h
   rotate_left
   ·cases h
   rename_i y1 nk1 M1 hxi
   split at h
   rotate_left
   ·cases h
   rename_i h1 h2
   cases h
   have h1:=Nat.le_of_ble_eq_true h1
   have h2:=ltKR h2
   refine ⟨h1,h2,inl_step (f:=f) hI hY (by simp) hc (okL_append hxs hcs) ?_ (nk:=nk) ?_⟩
   ·intro w' he
    have hev:a.eval (.tmp t)=.func (.func f) #[] cvs.toArray:=hfv
    simp only [execOp,resolve,hev,Deferred.ofValue,invoke,hmap,Sem.run_bind,Sem.run_pure,Result.andThen_ok]
    simpa using he
   ·rw [Nat.ble_eq_true_of_le (Nat.le_refl nk),ltF_of hf,dLt_of hl]
    exact ⟨Yx',M,y,nk',M',hYr,hR,hl,(hf.opvs _).append (fun k hk=>hgt k (by simpa [SV.has] using hk)),hxi,fun q' L' hR' hl'=>putX_ok hp ⟨rfl,hR',putX_h hp (hf.mono h1) h2,hl'⟩⟩
  ·rename_i k e
   rw [e] at hft
   split at h
   rotate_left
   ·cases h
   rename_i hx hyk
   unfold xck at h
   split at h
   rotate_left
   ·cases h
   rename_i y1 nk1 M1 hxi
   split at h
   rotate_left
   ·cases h
   rename_i h1 h2
   cases h
   have h1:=Nat.le_of_ble_eq_true h1
   have h2:=ltKR h2
   obtain ⟨hh,hyk',hrel⟩:=hYr k hx hyk
   have hk2:=(hY k hh hyk').1
   refine ⟨h1,h2,yl_step hY (by simp) hc hxs ?_ (k:=k) (nk:=nk) ?_⟩
   ·intro x hr
    have hev:a.eval (.tmp t)=.func (.yield (S k).b) #[] #[]:=hft
    simp only [execOp,resolve,hev,Deferred.ofValue,invoke,hmap,Sem.run_bind,Sem.run_pure,Result.andThen_ok]
    simpa using hr
   ·rw [Nat.ble_eq_true_of_le (Nat.le_refl nk),ltF_of hf,dLt_of hl,hyk']
    exact hrel _ _ _ _ M _ _ M' _ hk2 hR hl (hf.opvs _) hxi (fun q' L' hR' hl'=>putX_ok hp ⟨rfl,hR',putX_h hp (hf.mono h1) h2,hl'⟩)
  ·cases h
 ·rename_i s t x
  unfold xconv2 at h
  split at h
  ·rename_i h1 h2
   obtain ⟨h,e⟩:=l1 h
   refine kk h (own ?_) e (xsb_step T rfl h1 hc hR hf hl h hp)
   unfold xsb at h
   split at h
   ·split at h
    ·cases h;rfl
    ·cases h
   ·cases h
  ·split at h
   ·rename_i y1 M1 hb hz
    cases h
    obtain ⟨g1,g2⟩:=xfz_step (P:=P) (w:=w) (w0:=w0) (S:=S) (B:=B) (a:=a) (r:=r) (n:=n) (Q:=Q) (o:=⟨dst,.convert s t x,oty,pos,after,guard⟩) T rfl (Nat.eq_of_beq_eq_true hb) hc hR hf hl hz hp
    exact ⟨Nat.le_refl _,g1,g2⟩
   ·cases h
  ·exact calm h
 ·exact calm h
end
end Exe
end Go.Eng
end
section
namespace Go.Eng
open Go Go.RowKit
namespace Exe
noncomputable section
variable {P:Program} {S S' Sb:Pl} {fr fr':Fr} {L L':LL} {q q':PH} {w0:W0} {w w':World} {a a':Act} {n0 N:Nat} {B:Nat→Prop} {X:XE} {xi:XI} {Yx':Yx}
variable {r:Option Nat} {n:Nat} {Q:Exit→Act→World→Prop} {M M':Mm} {nk nk':Nat} {y:SV} {Y:Ye} {all:List Oper}
theorem xguard_ok {o:Oper} {b:Bool} (hf:okF S fr a.tmps) (h:xguard all o.guard fr=some b):Region.wanted o (yielded all.toArray a.tmps)=b:=by
 unfold xguard at h
 unfold Region.wanted
 split at h
 ·rename_i e;rw [e];cases h;rfl
 ·rename_i j want e
  rw [e]
  dsimp only
  split at h
  ·cases h
  ·rename_i t ht
   have hft:=hf t
   split at h
   ·rename_i c hg
    rw [hg] at hft
    rw [yielded_of ht hft]
    cases c<;>cases want<;>(cases h;rfl)
   ·rename_i x hg
    rw [hg] at hft
    have hft:a.tmps.getD t undef=.tuple x:=hft
    rw [yielded_none ht (fun b=>by rw [hft];simp)]
    cases h
    rfl
   ·cases h
theorem noUndef {m:Nat}:hV m (.v undef):=fun k hk=>by simp [SV.has] at hk
theorem xstep_run (hX:XOk P X) (hI:InlOk P (XInl xi)) (hYr:YRel Yx' Y) (hY:YOk P Sb Y n0) {o:Oper} (hc:Cfg w0 Sb B n0 N S q fr L a w) (h0:n0≤nk) (hR:Rep M L) (hf:hF nk fr) (hl:hL nk L)
  (h:xstep X xi Yx' all o nk fr M=some (y,nk',M')) (hp:putX N o.dst y fr=some fr') :
  nk≤nk'∧hV nk' y∧((Region.wanted o (yielded all.toArray a.tmps)=true∧Oper.wpIn (FF r) n P o a w (St w0 Sb B n0 N (XK nk' fr' M')) Q) ∨
   (Region.wanted o (yielded all.toArray a.tmps)=false∧St w0 Sb B n0 N (XK nk' fr' M') (a.put o.dst undef) w)):=by
 unfold xstep at h
 split at h
 ·cases h
 ·rename_i hg
  cases h
  refine ⟨Nat.le_refl _,noUndef,.inr ⟨xguard_ok hc.f hg,?_⟩⟩
  obtain ⟨fr1,hK',hc'⟩:=hc.put (K:=fun fr=>fr=fr') (v:=undef) (putX_ok hp rfl) rfl
  subst hK'
  exact ⟨S,q,_,L,0,hc',rfl,hR,putX_h hp hf noUndef,hl⟩
 ·rename_i hg
  have hY1:YOk P S Y nk:=(hY.congr fun k hk=>hc.ag k hk).more h0
  obtain ⟨g1,g2,g3⟩:=xop_step (r:=r) (n:=n) (Q:=Q) hX hI hYr hY1 (hc.up nk) rfl hR hf hl h hp
  exact ⟨g1,g2,.inl ⟨xguard_ok hc.f hg,Oper.wpIn_mono (fun a w h=>hc.down h0 h) g3⟩⟩
theorem xops_c {fr:Fr} {o:Oper} {l:List Oper}:xops X xi Yx' N all (o::l) nk fr M=(match xstep X xi Yx' all o nk fr M with
   | none=>none
   | some (y,nk',M')=>(match putX N o.dst y fr with
    | none=>none
    | some fr'=>xops X xi Yx' N all l nk' fr' M')):=rfl
theorem xops_ok (hX:XOk P X) (hI:InlOk P (XInl xi)) (hYr:YRel Yx' Y) (hY:YOk P Sb Y n0) {nkF:Nat} {frF:Fr} {MF:Mm} :
  ∀(l:List Oper) {nk:Nat} {S:Pl} {q:PH} {fr:Fr} {L:LL} {M:Mm} {a:Act} {w:World},Cfg w0 Sb B n0 N S q fr L a w→n0≤nk→Rep M L→hF nk fr→hL nk L →
   xops X xi Yx' N all l nk fr M=some (nkF,frF,MF)→(nk≤nkF→∀a w,St w0 Sb B n0 N (XK nkF frF MF) a w→Q .normal a w)→wpListIn (FF r) n P all.toArray Q l a w
 | [],nk,S,q,fr,L,M,a,w,hc,h0,hR,hf,hl,h,hQ=>by
  cases h
  exact hQ (Nat.le_refl _) a w ⟨S,q,_,L,0,hc,rfl,hR,hf,hl⟩
 | o::l,nk,S,q,fr,L,M,a,w,hc,h0,hR,hf,hl,h,hQ=>by
  rw [xops_c] at h
  split at h
  ·cases h
  rename_i y nk' M' hs
  split at h
  ·cases h
  rename_i fr' hp
  obtain ⟨g1,g2,g3⟩:=xstep_run (r:=r) (n:=n) (Q:=Q) hX hI hYr hY hc h0 hR hf hl hs hp
  have next:∀a w,St w0 Sb B n0 N (XK nk' fr' M') a w→wpListIn (FF r) n P all.toArray Q l a w:=by
   rintro a w ⟨S',q',fr1,L',k',hc',rfl,h1,h2,h3⟩
   exact xops_ok hX hI hYr hY l hc' (Nat.le_trans h0 g1) h1 h2 h3 h (fun hle=>hQ (Nat.le_trans g1 hle))
  rcases g3 with ⟨hw,g3⟩ | ⟨hw,g3⟩
  ·simp only [wpListIn,hw,if_true]
   exact Oper.wpIn_mono next g3
  ·simp only [wpListIn,hw]
   exact ⟨fun _ _=>trivial,next _ _ g3⟩
theorem opvs_congr {fr fr':Fr}:∀{l:List Operand},(∀x∈l,opv fr x=opv fr' x)→opvs fr l=opvs fr' l
 | [],_=>rfl
 | x::r,h=>by
  show opv fr x::opvs fr r=opv fr' x::opvs fr' r
  rw [h x (.head _),opvs_congr fun z hz=>h z (.tail _ hz)]
theorem xparts_congr {T:Tab} {fs:List (Nat×Nat)}:∀{ps:List (Nat×Operand)} {cs:List SV},(∀p∈ps,opv fr p.2=opv fr' p.2)→xparts T fs fr ps cs=xparts T fs fr' ps cs
 | [],_,_=>rfl
 | (i,x)::r,cs,h=>by
  have hx:opv fr x=opv fr' x:=h (i,x) (.head _)
  have ih:∀cs,xparts T fs fr r cs=xparts T fs fr' r cs:=fun cs=>xparts_congr fun p hp=>h p (.tail _ hp)
  rw [xparts_c,xparts_c,hx]
  simp only [ih]
theorem xrd_congr {T:Tab} {M:Mg} {op:Op} (h:∀x∈op.operands.toList,opv fr x=opv fr' x):xrd T op fr M=xrd T op fr' M:=by
 cases op
 case call c=>
  obtain ⟨callee,xs,ts⟩:=c
  have hh:∀x∈xs.toList,opv fr x=opv fr' x:=fun x hx=>h x (by
   simp only [Op.operands,Call.operands,Array.toList_append,List.mem_append]
   exact .inr hx)
  cases callee with
  | builtin b=>
   cases b
   case len=>
    unfold xrd
    dsimp only
    split
    ·rename_i s t e1 e2
     rw [e1] at hh
     have:get fr s=get fr' s:=hh (.tmp s) (.head _)
     rw [this]
    ·rfl
   all_goals rfl
  | _=>rfl
 case indexAddr t x i=>
  cases x with
  | tmp s=>
   have h1:get fr s=get fr' s:=h (.tmp s) (by simp [Op.operands])
   have h2:opv fr i=opv fr' i:=h i (by simp [Op.operands])
   unfold xrd
   dsimp only
   rw [h1,h2]
  | _=>rfl
 case binOp op t x y t2=>
  have h1:opv fr x=opv fr' x:=h x (by simp [Op.operands])
  have h2:opv fr y=opv fr' y:=h y (by simp [Op.operands])
  have h3:tmpV fr x=tmpV fr' x:=by
   cases x with
   | tmp s=>exact congrArg some h1
   | _=>rfl
  unfold xrd
  dsimp only
  rw [h1,h2,h3]
 case slice t x lo hi mx=>
  cases x with
  | tmp s=>
   cases mx with
   | some v=>rfl
   | none=>
    have h1:get fr s=get fr' s:=h (.tmp s) (by simp [Op.operands])
    have hlo:optv fr lo=optv fr' lo:=by cases lo with
     | none=>rfl
     | some v=>exact congrArg some (h v (by simp [Op.operands]))
    have hhi:optv fr hi=optv fr' hi:=by cases hi with
     | none=>rfl
     | some v=>exact congrArg some (h v (by simp [Op.operands]))
    unfold xrd
    dsimp only
    rw [h1,hlo,hhi]
  | _=>rfl
 case load t x=>
  cases x with
  | tmp s=>
   have h1:get fr s=get fr' s:=h (.tmp s) (by simp [Op.operands])
   unfold xrd
   dsimp only
   rw [h1]
  | _=>rfl
 case convert src dst x=>
  cases x with
  | tmp s=>
   have h1:get fr s=get fr' s:=h (.tmp s) (by simp [Op.operands])
   unfold xrd
   dsimp only
   rw [h1]
  | _=>rfl
 all_goals rfl
theorem xop_congr {op:Op} (h:∀x∈op.operands.toList,opv fr x=opv fr' x):xop X xi Yx' nk fr M op=xop X xi Yx' nk fr' M op:=by
 have one:∀{x:Operand},x∈op.operands.toList→opv fr x=opv fr' x:=fun hx=>h _ hx
 have hr:=xrd_congr (T:=X.E.T) (M:=M.get) h
 cases op
 case call c=>
  obtain ⟨callee,xs,ts⟩:=c
  have hxs:opvs fr xs.toList=opvs fr' xs.toList:=opvs_congr fun x hx=>h x (by
   simp only [Op.operands,Call.operands,Array.toList_append,List.mem_append]
   exact .inr hx)
  cases callee with
  | builtin b=>
   cases b
   case append=>
    simp only [xop,xapp2]
    split
    ·rename_i s x t t' e1 e2
     rw [e1] at hxs
     simp only [opvs,List.cons.injEq] at hxs
     rw [hxs.1,hxs.2.1]
    ·rfl
   case copy=>
    simp only [xop,xcopy2]
    split
    ·rename_i s x t t' e1 e2
     rw [e1] at hxs
     simp only [opvs,List.cons.injEq] at hxs
     rw [hxs.1,hxs.2.1]
    ·rfl
   all_goals simp only [xop,xcalm2,xconv2,hr,xcalm,hxs]
  | value v=>
   have hv:opv fr v=opv fr' v:=h v (by simp [Op.operands,Call.operands])
   cases v with
   | tmp t=>
    have hv:get fr t=get fr' t:=hv
    simp only [xop,xfn,hxs,hv]
   | func f=>simp only [xop,xcall2,hxs]
   | _=>simp only [xop,xcalm2,xconv2,hr,xcalm]
  | _=>simp only [xop,xcalm2,xconv2,hr,xcalm]
 case build t ps=>
  simp only [xop,xcalm2,xconv2,hr,xcalm,xbuild]
  have:∀fs cs,xparts X.E.T fs fr ps.toList cs=xparts X.E.T fs fr' ps.toList cs:=fun fs cs=>xparts_congr fun p hp=>h p.2 (by simp [Op.operands];exact ⟨p.1,by simpa using hp⟩)
  simp only [this]
 case buildSlice t m ps=>
  simp only [xop,xbuildS]
  have:∀fs cs,xparts X.E.T fs fr ps.toList cs=xparts X.E.T fs fr' ps.toList cs:=fun fs cs=>xparts_congr fun p hp=>h p.2 (by simp [Op.operands];exact ⟨p.1,by simpa using hp⟩)
  simp only [this]
 case makeFunc fn first cs=>
  have h1:opvs fr first.toList=opvs fr' first.toList:=opvs_congr fun x hx=>h x (by simp [Op.operands];exact .inl (by simpa using hx))
  have h2:opvs fr cs.toList=opvs fr' cs.toList:=opvs_congr fun x hx=>h x (by simp [Op.operands];exact .inr (by simpa using hx))
  simp only [xop,xcalm2,xconv2,hr,xcalm,h1,h2]
 case slice t x lo hi mx=>
  have hx:opv fr x=opv fr' x:=h x (by simp [Op.operands])
  have hlo:optv fr lo=optv fr' lo:=by cases lo with
   | none=>rfl
   | some v=>exact congrArg some (h v (by simp [Op.operands]))
  have hhi:optv fr hi=optv fr' hi:=by cases hi with
   | none=>rfl
   | some v=>exact congrArg some (h v (by simp [Op.operands]))
  cases mx with
  | none=>simp only [xop,xcalm2,xconv2,hr,xcalm,hx,hlo,hhi]
  | some v=>
   have hv:opv fr v=opv fr' v:=h v (by simp [Op.operands])
   simp only [xop,xcalm2,xconv2,hr,xcalm,hx,hlo,hhi,hv]
 case move x=>
  have h_x:opv fr x=opv fr' x:=h x (by simp [Op.operands])
  simp only [xop,xcalm2,xconv2,hr,xcalm,h_x]
 case assign x=>
  have h_x:opv fr x=opv fr' x:=h x (by simp [Op.operands])
  simp only [xop,xcalm2,xconv2,hr,xcalm,h_x]
 case pick c x y=>
  have h_c:opv fr c=opv fr' c:=h c (by simp [Op.operands])
  have h_x:opv fr x=opv fr' x:=h x (by simp [Op.operands])
  have h_y:opv fr y=opv fr' y:=h y (by simp [Op.operands])
  simp only [xop,xcalm2,xconv2,hr,xcalm,h_c,h_x,h_y]
 case box t x=>
  have h_x:opv fr x=opv fr' x:=h x (by simp [Op.operands])
  simp only [xop,xcalm2,xconv2,hr,xcalm,h_x]
 case insert t m k x=>
  have h_m:opv fr m=opv fr' m:=h m (by simp [Op.operands])
  have h_k:opv fr k=opv fr' k:=h k (by simp [Op.operands])
  have h_x:opv fr x=opv fr' x:=h x (by simp [Op.operands])
  simp only [xop,xcalm2,xconv2,hr,xcalm,h_m,h_k,h_x]
 case load t x=>
  have h_x:opv fr x=opv fr' x:=h x (by simp [Op.operands])
  simp only [xop,xcalm2,xconv2,hr,xcalm,h_x]
 case store t p x=>
  have h_p:opv fr p=opv fr' p:=h p (by simp [Op.operands])
  have h_x:opv fr x=opv fr' x:=h x (by simp [Op.operands])
  simp only [xop,xcalm2,xconv2,hr,xcalm,h_p,h_x]
 case nilCheck x=>
  have h_x:opv fr x=opv fr' x:=h x (by simp [Op.operands])
  simp only [xop,xcalm2,xconv2,hr,xcalm,h_x]
 case binOp op t x y t2=>
  have h_x:opv fr x=opv fr' x:=h x (by simp [Op.operands])
  have h_y:opv fr y=opv fr' y:=h y (by simp [Op.operands])
  simp only [xop,xcalm2,xconv2,hr,xcalm,h_x,h_y]
 case unOp op t x=>
  have h_x:opv fr x=opv fr' x:=h x (by simp [Op.operands])
  simp only [xop,xcalm2,xconv2,hr,xcalm,h_x]
 case convert s t x=>
  have h_x:opv fr x=opv fr' x:=h x (by simp [Op.operands])
  simp only [xop,xcalm2,xconv2,hr,xcalm,h_x]
 case makeSlice t l c=>
  have h_l:opv fr l=opv fr' l:=h l (by simp [Op.operands])
  have h_c:opv fr c=opv fr' c:=h c (by simp [Op.operands])
  simp only [xop,xcalm2,xconv2,hr,xcalm,h_l,h_c]
 case fieldAddr t x f=>
  have h_x:opv fr x=opv fr' x:=h x (by simp [Op.operands])
  simp only [xop,xcalm2,xconv2,hr,xcalm,h_x]
 case field t x f=>
  have h_x:opv fr x=opv fr' x:=h x (by simp [Op.operands])
  simp only [xop,xcalm2,xconv2,hr,xcalm,h_x]
 case indexAddr t x i=>
  have h_x:opv fr x=opv fr' x:=h x (by simp [Op.operands])
  have h_i:opv fr i=opv fr' i:=h i (by simp [Op.operands])
  simp only [xop,xcalm2,xconv2,hr,xcalm,h_x,h_i]
 case index t x i=>
  have h_x:opv fr x=opv fr' x:=h x (by simp [Op.operands])
  have h_i:opv fr i=opv fr' i:=h i (by simp [Op.operands])
  simp only [xop,xcalm2,xconv2,hr,xcalm,h_x,h_i]
 case lookup t x i ok=>
  have h_x:opv fr x=opv fr' x:=h x (by simp [Op.operands])
  have h_i:opv fr i=opv fr' i:=h i (by simp [Op.operands])
  simp only [xop,xcalm2,xconv2,hr,xcalm,h_x,h_i]
 case mapUpdate t m k x=>
  have h_m:opv fr m=opv fr' m:=h m (by simp [Op.operands])
  have h_k:opv fr k=opv fr' k:=h k (by simp [Op.operands])
  have h_x:opv fr x=opv fr' x:=h x (by simp [Op.operands])
  simp only [xop,xcalm2,xconv2,hr,xcalm,h_m,h_k,h_x]
 case extract x i=>
  have h_x:opv fr x=opv fr' x:=h x (by simp [Op.operands])
  simp only [xop,xcalm2,xconv2,hr,xcalm,h_x]
 all_goals rfl
end
end Exe
end Go.Eng
end
section
namespace Go.Eng
open Go Go.RowKit
namespace Exe
noncomputable section
variable {P:Program} {S S' Sb:Pl} {fr fr':Fr} {L L':LL} {q q':PH} {w0:W0} {w w':World} {a a':Act} {n0 N:Nat} {B:Nat→Prop} {X:XE} {xi:XI} {Yx':Yx}
variable {r:Option Nat} {n:Nat} {Q:Exit→Act→World→Prop} {M M':Mm} {nk nk':Nat} {y:SV} {Y:Ye} {all:List Oper}
mutual
theorem svEq_ok:∀(x y:SV),svEq x y=true→x=y
 | .v x,.v y,h=>by rw [vEq_eq (a:=x) (b:=y) (by simpa [svEq] using h)]
 | .bb a,.bb b,h=>by simp [svEq] at h;rw [h]
 | .lp k o,.lp k' o',h=>by simp [svEq] at h;rw [h.1,h.2]
 | .own k,.own k',h=>by simp [svEq] at h;rw [h]
 | .mr k,.mr k',h=>by simp [svEq] at h;rw [h]
 | .yl k,.yl k',h=>by simp [svEq] at h;rw [h]
 | .vw k a b c d,.vw k' a' b' c' d',h=>by
  simp [svEq] at h
  obtain ⟨⟨⟨⟨h1,h2⟩,h3⟩,h4⟩,h5⟩:=h
  rw [h1,h2,h3,h4,h5]
 | .agg l,.agg l',h=>by rw [svEqL_ok l l' (by simpa [svEq] using h)]
 | .tup l,.tup l',h=>by rw [svEqL_ok l l' (by simpa [svEq] using h)]
 | .fn f l,.fn f' l',h=>by
  simp [svEq] at h
  rw [h.1,svEqL_ok l l' h.2]
 | .v _,.bb _,h | .v _,.b _ _,h | .v _,.lp _ _,h | .v _,.own _,h | .v _,.el _ _,h | .v _,.agg _,h | .v _,.tup _,h | .v _,.fn _ _,h | .v _,.yl _,h | .v _,.vw _ _ _ _ _,h | .v _,.lq _,h | .v _,.ls _ _,h | .v _,.mr _,h | .v _,.bad,h=>by simp [svEq] at h
 | .bb _,.v _,h | .bb _,.b _ _,h | .bb _,.lp _ _,h | .bb _,.own _,h | .bb _,.el _ _,h | .bb _,.agg _,h | .bb _,.tup _,h | .bb _,.fn _ _,h | .bb _,.yl _,h | .bb _,.vw _ _ _ _ _,h | .bb _,.lq _,h | .bb _,.ls _ _,h | .bb _,.mr _,h | .bb _,.bad,h=>by simp [svEq] at h
 | .lp _ _,.v _,h | .lp _ _,.bb _,h | .lp _ _,.b _ _,h | .lp _ _,.own _,h | .lp _ _,.el _ _,h | .lp _ _,.agg _,h | .lp _ _,.tup _,h | .lp _ _,.fn _ _,h | .lp _ _,.yl _,h | .lp _ _,.vw _ _ _ _ _,h | .lp _ _,.lq _,h | .lp _ _,.ls _ _,h | .lp _ _,.mr _,h | .lp _ _,.bad,h=>by simp [svEq] at h
 | .own _,.v _,h | .own _,.bb _,h | .own _,.b _ _,h | .own _,.lp _ _,h | .own _,.el _ _,h | .own _,.agg _,h | .own _,.tup _,h | .own _,.fn _ _,h | .own _,.yl _,h | .own _,.vw _ _ _ _ _,h | .own _,.lq _,h | .own _,.ls _ _,h | .own _,.mr _,h | .own _,.bad,h=>by simp [svEq] at h
 | .mr _,.v _,h | .mr _,.bb _,h | .mr _,.b _ _,h | .mr _,.lp _ _,h | .mr _,.el _ _,h | .mr _,.agg _,h | .mr _,.tup _,h | .mr _,.fn _ _,h | .mr _,.yl _,h | .mr _,.vw _ _ _ _ _,h | .mr _,.lq _,h | .mr _,.ls _ _,h | .mr _,.own _,h | .mr _,.bad,h=>by simp [svEq] at h
 | .yl _,.v _,h | .yl _,.bb _,h | .yl _,.b _ _,h | .yl _,.lp _ _,h | .yl _,.el _ _,h | .yl _,.agg _,h | .yl _,.tup _,h | .yl _,.fn _ _,h | .yl _,.own _,h | .yl _,.vw _ _ _ _ _,h | .yl _,.lq _,h | .yl _,.ls _ _,h | .yl _,.mr _,h | .yl _,.bad,h=>by simp [svEq] at h
 | .vw _ _ _ _ _,.v _,h | .vw _ _ _ _ _,.bb _,h | .vw _ _ _ _ _,.b _ _,h | .vw _ _ _ _ _,.lp _ _,h | .vw _ _ _ _ _,.el _ _,h | .vw _ _ _ _ _,.agg _,h | .vw _ _ _ _ _,.tup _,h | .vw _ _ _ _ _,.fn _ _,h | .vw _ _ _ _ _,.own _,h | .vw _ _ _ _ _,.yl _,h | .vw _ _ _ _ _,.lq _,h | .vw _ _ _ _ _,.ls _ _,h | .vw _ _ _ _ _,.mr _,h | .vw _ _ _ _ _,.bad,h=>by simp [svEq] at h
 | .agg _,.v _,h | .agg _,.bb _,h | .agg _,.b _ _,h | .agg _,.lp _ _,h | .agg _,.el _ _,h | .agg _,.vw _ _ _ _ _,h | .agg _,.tup _,h | .agg _,.fn _ _,h | .agg _,.own _,h | .agg _,.yl _,h | .agg _,.lq _,h | .agg _,.ls _ _,h | .agg _,.mr _,h | .agg _,.bad,h=>by simp [svEq] at h
 | .tup _,.v _,h | .tup _,.bb _,h | .tup _,.b _ _,h | .tup _,.lp _ _,h | .tup _,.el _ _,h | .tup _,.vw _ _ _ _ _,h | .tup _,.agg _,h | .tup _,.fn _ _,h | .tup _,.own _,h | .tup _,.yl _,h | .tup _,.lq _,h | .tup _,.ls _ _,h | .tup _,.mr _,h | .tup _,.bad,h=>by simp [svEq] at h
 | .fn _ _,.v _,h | .fn _ _,.bb _,h | .fn _ _,.b _ _,h | .fn _ _,.lp _ _,h | .fn _ _,.el _ _,h | .fn _ _,.vw _ _ _ _ _,h | .fn _ _,.agg _,h | .fn _ _,.tup _,h | .fn _ _,.own _,h | .fn _ _,.yl _,h | .fn _ _,.lq _,h | .fn _ _,.ls _ _,h | .fn _ _,.mr _,h | .fn _ _,.bad,h=>by simp [svEq] at h
 | .bad,.bad,_=>rfl
 | .bad,.v _,h | .bad,.bb _,h | .bad,.b _ _,h | .bad,.lp _ _,h | .bad,.el _ _,h | .bad,.vw _ _ _ _ _,h | .bad,.tup _,h | .bad,.agg _,h | .bad,.own _,h | .bad,.yl _,h | .bad,.lq _,h | .bad,.ls _ _,h | .bad,.mr _,h | .bad,.fn _ _,h=>by simp [svEq] at h
 | .b _ _,_,h | .el _ _,_,h | .lq _,_,h | .ls _ _,_,h=>by simp [svEq] at h
theorem svEqL_ok:∀(x y:List SV),svEqL x y=true→x=y
 | [],[],_=>rfl
 | x::r,z::s,h=>by
  simp only [svEqL,Bool.and_eq_true] at h
  rw [svEq_ok x z h.1,svEqL_ok r s h.2]
 | [],_::_,h=>by simp [svEqL] at h
 | _::_,[],h=>by simp [svEqL] at h
end
theorem liftC_same {x:Option SV} (h:liftC nk M x=some (y,nk',M')):nk'=nk∧M'=M∧∃z,x=some z∧y=nb z∧R.ltK nk z=true:=by
 unfold liftC at h
 split at h
 ·split at h
  ·rename_i e;cases h;exact ⟨rfl,rfl,_,rfl,rfl,e⟩
  ·cases h
 ·cases h
theorem calm_same {op:Op} (he:isEff X op=false) (h:xop X xi Yx' nk fr M op=some (y,nk',M')):nk'=nk∧M'=M:=by
 unfold xop at h
 split at h<;>first
  | exact ⟨(liftC_same h).1,(liftC_same h).2.1⟩
  | exact Bool.noConfusion he
  | skip
 ·rename_i f xs ts
  have he:(match X.ext.get f with | some _=>false | none=>true)=false:=he
  unfold xcall2 at h
  split at h
  ·exact ⟨(liftC_same h).1,(liftC_same h).2.1⟩
  ·rename_i hn;rw [hn] at he;cases he
 ·unfold xconv2 at h
  split at h
  ·rename_i h1 h2
   simp [isEff,h1,h2] at he
  ·rename_i h1 h2
   simp [isEff,h1,h2] at he
  ·obtain ⟨h1,h2,_⟩:=liftC_same h;exact ⟨h1,h2⟩
theorem xstep_same {o:Oper} (he:isEff X o.op=false) (h:xstep X xi Yx' all o nk fr M=some (y,nk',M')):nk'=nk∧M'=M:=by
 unfold xstep at h
 split at h
 ·cases h
 ·cases h;exact ⟨rfl,rfl⟩
 ·exact calm_same he h
theorem pure_same {T:Tab} {op:Op} {M1 M2:Mg} (hp:isPure op=true):xcalm2 T op fr M1=xcalm2 T op fr M2:=by
  cases op<;>first
    | rfl
    | (simp [isPure] at hp;done)
    | skip
  rename_i op t x y t2
  cases op<;>first
    | (simp [isPure] at hp;done)
    | (simp only [xcalm2,xcalm]
       cases x<;>rfl)
theorem nb_lt {b:Nat} {x:SV} (h:R.ltK b (nb x)=true):R.ltK b x=true:=by
 cases x with
 | b p d=>rfl
 | _=>exact h
theorem xsame_ok {o:Oper} {tc:Tc} {nk1 nk2 nk3:Nat} {M1 M2 M3:Mm} (he:isEff X o.op=false) (h0:xstep X xi Yx' all o nk1 tc.fr M1=some (tc.y,nk2,M2)) (h:xsame X xi Yx' all o tc nk M=true) :
  xstep X xi Yx' all o nk tc.fr M=some (tc.y,nk,M):=by
 unfold xsame at h
 split at h
 rotate_left
 ·cases h
 rename_i hlt
 split at h
 ·rename_i hp
  unfold xstep at h0 ⊢
  split at h0
  ·cases h0
  ·rename_i hg
   simp only [Option.some.injEq,Prod.mk.injEq] at h0
   rw [h0.1]
  ·rename_i hg
   have form:∀{nk:Nat} {M:Mm},xop X xi Yx' nk tc.fr M o.op=liftC nk M (xcalm2 X.E.T o.op tc.fr M.get):=by
    intro nk M
    generalize o.op=op at hp
    cases op<;>first
     | rfl
     | (simp [isPure] at hp;done)
   rw [form] at h0 ⊢
   obtain ⟨_,_,z,hz,hy,_⟩:=liftC_same h0
   rw [pure_same (M2:=M1.get) hp,hz]
   unfold liftC
   dsimp only
   rw [hy] at hlt
   rw [nb_lt hlt,←hy]
 ·split at h
  ·rename_i y1 k1 M4 hs
   have:=svEq_ok _ _ h
   subst this
   obtain ⟨e1,e2⟩:=xstep_same he hs
   subst e1 e2
   exact hs
  ·cases h
theorem bit_lor {a b i:Nat}:bit (Nat.lor a b) i=(bit a i || bit b i):=Nat.testBit_or a b i
theorem bit_pow {j i:Nat}:bit (2 ^ j) i=decide (j=i):=by
 unfold bit
 rw [Nat.testBit_two_pow]
theorem befs1_c {bs:List Nat} {e:Edge} {es:List Edge}:befs1 bs (e::es)=(match Region.binds .any e with
  | true=>(match nth bs e.on with | some m=>Nat.lor (Nat.lor (2 ^ e.on) m) (befs1 bs es) | none=>befs1 bs es)
  | false=>befs1 bs es):=rfl
theorem befs1_ok {bs:List Nat}:∀{es:List Edge} {j:Nat},bit (befs1 bs es) j=true→∃e∈es,Region.binds .any e=true∧∃m,nth bs e.on=some m∧(j=e.on∨bit m j=true)
 | [],j,h=>by simp [befs1,bit] at h
 | e::es,j,h=>by
  rw [befs1_c] at h
  have rest:bit (befs1 bs es) j=true→∃e'∈e::es,Region.binds .any e'=true∧∃m,nth bs e'.on=some m∧(j=e'.on∨bit m j=true):=fun h=>by
   obtain ⟨e',h1,h2⟩:=befs1_ok h
   exact ⟨e',.tail _ h1,h2⟩
  split at h
  ·rename_i hb
   split at h
   ·rename_i m hm
    rw [bit_lor,bit_lor,Bool.or_eq_true,Bool.or_eq_true,bit_pow] at h
    rcases h with (h | h) | h
    ·exact ⟨e,.head _,hb,m,hm,.inl (of_decide_eq_true h).symm⟩
    ·exact ⟨e,.head _,hb,m,hm,.inr h⟩
    ·exact rest h
   ·exact rest h
  ·exact rest h
theorem befs_c {o:Oper} {l:List Oper} {bs:List Nat}:befs (o::l) bs=befs l (catQ bs [befs1 bs o.after.toList]):=rfl
theorem befs_get:∀{l:List Oper} {bs:List Nat},(∀i,i<bs.length→(befs l bs)[i]?=bs[i]?)∧(befs l bs).length=bs.length+l.length ∧
  ∀i o,l[i]?=some o→∃pre,(befs l bs)[bs.length+i]?=some (befs1 pre o.after.toList)∧pre.length=bs.length+i∧∀j,j<pre.length→pre[j]?=(befs l bs)[j]?
 | [],bs=>⟨fun _ _=>rfl,rfl,fun i o h=>by simp at h⟩
 | o::l,bs=>by
  rw [befs_c,catQ_eq]
  obtain ⟨h1,h2,h3⟩:=befs_get (l:=l) (bs:=bs++[befs1 bs o.after.toList])
  refine ⟨fun i hi=>?_,?_,fun i o' ho=>?_⟩
  ·rw [h1 i (by simp;omega),List.getElem?_append_left hi]
  ·rw [h2];simp;omega
  ·cases i with
   | zero=>
    cases ho
    refine ⟨bs,?_,rfl,fun j hj=>?_⟩
    ·rw [Nat.add_zero,h1 _ (by simp)];simp
    ·rw [h1 j (by simp;omega),List.getElem?_append_left hj]
   | succ i=>
    obtain ⟨pre,g1,g2,g3⟩:=h3 i o' (by simpa using ho)
    refine ⟨pre,?_,?_,g3⟩
    ·rw [←g1];congr 1;simp;omega
    ·rw [g2];simp;omega
variable {ops:Array Oper}
theorem bef_listed {listed:Array Bool} (hcl:ClosedL ops listed):∀(i:Nat) {m j:Nat},(befs ops.toList [])[i]?=some m→bit m j=true→(∀o,ops[i]?=some o→∀e∈o.after,Region.binds .any e=true→listed.getD e.on false=true)→listed.getD j false=true∧j<i:=by
 intro i
 induction i using Nat.strongRecOn with
 | _ i ih=>
  intro m j hm hb hall
  obtain ⟨_,h2,h3⟩:=befs_get (l:=ops.toList) (bs:=[])
  have hi:i<ops.toList.length:=by
   have:=(List.getElem?_eq_some_iff.1 hm).1
   rw [h2] at this
   simpa using this
  obtain ⟨o,ho⟩:∃o,ops.toList[i]?=some o:=⟨ops.toList[i],List.getElem?_eq_getElem hi⟩
  obtain ⟨pre,g1,g2,g3⟩:=h3 i o ho
  simp only [List.length_nil,Nat.zero_add] at g1 g2
  rw [hm] at g1
  cases g1
  obtain ⟨e,he,hbn,m',hm',hj⟩:=befs1_ok hb
  rw [nth_get] at hm'
  have hon:e.on<i:=by have:=(List.getElem?_eq_some_iff.1 hm').1;omega
  have ho':ops[i]?=some o:=by rw [←Array.getElem?_toList];exact ho
  have hl:=hall o ho' e (by simpa using he) hbn
  rcases hj with rfl | hj
  ·exact ⟨hl,hon⟩
  ·rw [g3 e.on (by omega)] at hm'
   obtain ⟨k1,k2⟩:=ih e.on hon hm' hj (fun o2 ho2 e2 he2 hb2=>hcl e.on o2 hl ho2 e2 he2 hb2)
   exact ⟨k1,by omega⟩
end
end Exe
end Go.Eng
end
section
namespace Go.Eng
open Go Go.RowKit
namespace Exe
noncomputable section
variable {P:Program} {S S' Sb:Pl} {fr fr':Fr} {L L':LL} {q q':PH} {w0:W0} {w w':World} {a a':Act} {n0 N:Nat} {B:Nat→Prop} {X:XE} {xi:XI} {Yx':Yx}
variable {r:Option Nat} {n:Nat} {Q:Exit→Act→World→Prop} {M M':Mm} {nk nk':Nat} {y:SV} {Y:Ye} {all:List Oper} {ops:Array Oper}
def stX (tr:List Tc) (z:Nat×Fr×Mm) (i:Nat):Nat×Fr×Mm:=match tr[i]? with | some t=>(t.nk,t.fr,t.M) | none=>z
theorem xtrace_c {o:Oper} {l:List Oper} {fr:Fr}:xtrace X xi Yx' N all (o::l) nk fr M=(match xstep X xi Yx' all o nk fr M with
   | none=>none
   | some (y,nk',M')=>(match putX N o.dst y fr,Nat.ble nk nk',R.ltK nk' y with
    | some fr',true,true=>(match xtrace X xi Yx' N all l nk' fr' M' with
     | none=>none
     | some (l,z)=>some (⟨nk,fr,M,y⟩::l,z))
    | _,_,_=>none)):=rfl
structure TrAt (X:XE) (xi:XI) (Yx':Yx) (N:Nat) (all:List Oper) (tr:List Tc) (z:Nat×Fr×Mm) (i:Nat) (o:Oper) (t:Tc):Prop where
 get:tr[i]?=some t
 step:xstep X xi Yx' all o t.nk t.fr t.M=some (t.y,(stX tr z (i+1)).1,(stX tr z (i+1)).2.2)
 put:putX N o.dst t.y t.fr=some (stX tr z (i+1)).2.1
 le:t.nk≤(stX tr z (i+1)).1
 lt:hV (stX tr z (i+1)).1 t.y
theorem xtrace_ok:∀{l:List Oper} {nk:Nat} {fr:Fr} {M:Mm} {tr:List Tc} {z:Nat×Fr×Mm},xtrace X xi Yx' N all l nk fr M=some (tr,z) →
  tr.length=l.length∧stX tr z 0=(nk,fr,M)∧∀i o,l[i]?=some o→∃t,TrAt X xi Yx' N all tr z i o t
 | [],nk,fr,M,tr,z,h=>by
  cases h
  exact ⟨rfl,rfl,fun i o h=>by simp at h⟩
 | o::l,nk,fr,M,tr,z,h=>by
  rw [xtrace_c] at h
  split at h
  ·cases h
  rename_i y nk' M' hs
  split at h
  rotate_left
  ·cases h
  rename_i fr' hp hle hlt
  split at h
  ·cases h
  rename_i tr' z' hx
  cases h
  obtain ⟨h1,h2,h3⟩:=xtrace_ok hx
  have e1:stX (⟨nk,fr,M,y⟩::tr') z 1=(nk',fr',M'):=h2
  refine ⟨by simp [h1],rfl,fun i o' ho=>?_⟩
  cases i with
  | zero=>
   cases ho
   refine ⟨⟨nk,fr,M,y⟩,rfl,?_,?_,?_,?_⟩
   ·rw [Nat.zero_add,e1];exact hs
   ·rw [Nat.zero_add,e1];exact hp
   ·rw [Nat.zero_add,e1];exact Nat.le_of_ble_eq_true hle
   ·rw [Nat.zero_add,e1];exact ltKR hlt
  | succ i=>
   obtain ⟨t,g1,g2,g3,g4,g5⟩:=h3 i o' (by simpa using ho)
   exact ⟨t,by simpa using g1,g2,g3,g4,g5⟩
section
variable {tr:List Tc} {z:Nat×Fr×Mm}
theorem stX_at {i:Nat} {t:Tc} (h:tr[i]?=some t):stX tr z i=(t.nk,t.fr,t.M):=by unfold stX;rw [h]
structure Trc (X:XE) (xi:XI) (Yx':Yx) (N:Nat) (all:List Oper) (tr:List Tc) (z:Nat×Fr×Mm) (nk:Nat) (fr:Fr) (M:Mm):Prop where
 len:tr.length=all.length
 zero:stX tr z 0=(nk,fr,M)
 at_:∀i o,all[i]?=some o→∃t,TrAt X xi Yx' N all tr z i o t
theorem Trc.mono (h:Trc X xi Yx' N all tr z nk fr M):∀(d i:Nat),i+d≤all.length→(stX tr z i).1≤(stX tr z (i+d)).1
 | 0,i,_=>Nat.le_refl _
 | d+1,i,hd=>by
  have h1:=Trc.mono h d i (by omega)
  obtain ⟨t,g⟩:=h.at_ (i+d) _ (List.getElem?_eq_getElem (by omega))
  have:=g.le
  rw [stX_at g.get] at h1
  exact Nat.le_trans h1 this
theorem Trc.mono' (h:Trc X xi Yx' N all tr z nk fr M) {i j:Nat} (hij:i≤j) (hj:j≤all.length):(stX tr z i).1≤(stX tr z j).1:=by
 have:=h.mono (j-i) i (by omega)
 rwa [Nat.add_sub_cancel' hij] at this
theorem Trc.calm (h:Trc X xi Yx' N all tr z nk fr M):∀(d i:Nat),i+d≤all.length→(∀e o,all[e]?=some o→isEff X o.op=true→i≤e→e<i+d→False)→(stX tr z (i+d)).1=(stX tr z i).1∧(stX tr z (i+d)).2.2=(stX tr z i).2.2
 | 0,i,_,_=>⟨rfl,rfl⟩
 | d+1,i,hd,hno=>by
  obtain ⟨h1,h2⟩:=Trc.calm h d i (by omega) (fun e o ho he hi hd=>hno e o ho he hi (by omega))
  have ho:=List.getElem?_eq_getElem (l:=all) (i:=i+d) (by omega)
  obtain ⟨t,g⟩:=h.at_ (i+d) _ ho
  have hc:isEff X all[i+d].op=false:=by
   cases hb:isEff X all[i+d].op with
   | false=>rfl
   | true=>exact (hno (i+d) _ ho hb (by omega) (by omega)).elim
  obtain ⟨k1,k2⟩:=xstep_same hc g.step
  rw [stX_at g.get] at h1 h2
  exact ⟨k1.trans h1,k2.trans h2⟩
theorem Trc.calm' (h:Trc X xi Yx' N all tr z nk fr M) {i j:Nat} (hij:i≤j) (hj:j≤all.length) (hno:∀e o,all[e]?=some o→isEff X o.op=true→i≤e→e<j→False):(stX tr z j).1=(stX tr z i).1∧(stX tr z j).2.2=(stX tr z i).2.2:=by
 have:=h.calm (j-i) i (by omega) (fun e o ho he hi hd=>hno e o ho he hi (by omega))
 rwa [Nat.add_sub_cancel' hij] at this
theorem Trc.hFs (h:Trc X xi Yx' N all tr z nk fr M) (hf:hF nk fr):∀i,i≤all.length→hF (stX tr z i).1 (stX tr z i).2.1
 | 0,_=>by rw [h.zero];exact hf
 | i+1,hi=>by
  have ih:=Trc.hFs h hf i (by omega)
  obtain ⟨t,g⟩:=h.at_ i _ (List.getElem?_eq_getElem (by omega))
  rw [stX_at g.get] at ih
  exact putX_h g.put (ih.mono g.le) g.lt
theorem allKeep_ok {bs:List Nat} {i k:Nat}:∀{l:List Oper} {s:List Tc} {e0:Nat},allKeep X bs i k l s e0=true→∀(e:Nat) (oe:Oper) (te:Tc),l[e]?=some oe→s[e]?=some te→isEff X oe.op=true→(i<e0+e∧bit ((nth bs (e0+e)).getD 0) i=true)∨effKeeps k oe te=true
 | [],_,_,_,e,oe,te,ho,_,_=>by simp at ho
 | _::_,[],_,_,e,oe,te,_,ht,_=>by simp at ht
 | o::l,t::s,e0,h,e,oe,te,ho,ht,he=>by
  simp only [allKeep,Bool.and_eq_true] at h
  cases e with
  | zero=>
   cases ho
   cases ht
   have h1:=h.1
   rw [he] at h1
   dsimp only at h1
   split at h1
   ·rename_i hb
    simp only [Bool.and_eq_true] at hb
    exact .inl ⟨Nat.le_of_ble_eq_true hb.1,hb.2⟩
   ·exact .inr h1
  | succ e=>
   have:=allKeep_ok h.2 e oe te (by simpa using ho) (by simpa using ht) he
   rw [show e0+(e+1)=e0+1+e from by omega]
   exact this
theorem xput_other {M M':Mm} {k j:Nat} {x:Option LB} (h:xput M k x=some M') (hk:Nat.beq j k=false):M'.get j=M.get j:=by
 rw [xput_get h,if_neg (fun e=>by subst e;rw [Nat.beq_refl] at hk;cases hk)]
theorem effKeeps_ok {k:Nat} {o:Oper} {t:Tc} (h:effKeeps k o t=true) (hs:xstep X xi Yx' all o t.nk t.fr t.M=some (y,nk',M')):M'.get k=t.M.get k:=by
 unfold xstep at hs
 split at hs
 ·cases hs
 ·cases hs;rfl
 unfold effKeeps at h
 split at h
 ·cases h
 rename_i hk
 generalize o.op=op at h hs
 cases op<;>first
  | (cases h;done)
  | skip
 ·-- alloc
  rename_i t1
  have hs:lift1 t.nk (xallocB X.E.T t1 t.nk t.M)=some (y,nk',M'):=hs
  unfold lift1 at hs
  split at hs
  rotate_left
  ·cases hs
  rename_i y1 M1 h1
  cases hs
  have al:∀{y M'},xalloc X.E.T t1 t.nk t.M=some (y,M')→M'.get k=t.M.get k:=fun {y M'} h=>by
   unfold xalloc at h
   split at h
   ·cases h
   ·split at h
    ·rename_i h2;cases h;exact xput_other h2 hk
    ·cases h
  unfold xallocB at h1
  split at h1
  ·split at h1
   ·split at h1
    ·rename_i h2;cases h1;exact xput_other h2 hk
    ·cases h1
   ·exact al h1
  ·exact al h1
 ·-- box
  rename_i t1 x
  have hs:lift1 t.nk (xboxM X.E.T t1 t.nk (opv t.fr x) t.M)=some (y,nk',M'):=hs
  unfold lift1 at hs
  split at hs
  rotate_left
  ·cases hs
  rename_i y1 M1 h1
  cases hs
  unfold xboxM at h1
  split at h1
  ·cases h1
  split at h1
  rotate_left
  ·cases h1
  split at h1
  ·rename_i h2;cases h1;exact xput_other h2 hk
  ·cases h1
 ·-- store
  rename_i t1 p x
  have hs:liftU t.nk (xstore X.E.T t1 (opv t.fr p) (opv t.fr x) t.M)=some (y,nk',M'):=hs
  unfold liftU at hs
  split at hs
  rotate_left
  ·cases hs
  rename_i M1 h1
  cases hs
  dsimp only at h
  split at h
  rotate_left
  ·cases h
  rename_i k2 o2 hp
  split at h
  ·cases h
  rename_i hk2
  rw [hp] at h1
  unfold xstore at h1
  split at h1
  ·cases h1
  dsimp only at h1
  split at h1
  ·split at h1
   ·split at h1
    ·exact xput_other h1 hk2
    ·cases h1
   ·split at h1
    ·exact xput_other h1 hk2
    ·cases h1
   ·cases h1
  ·cases h1
theorem Trc.keep (h:Trc X xi Yx' N all tr z nk fr M) {bs:List Nat} {i0 k:Nat} (hk:allKeep X bs i0 k all tr 0=true):∀i,i≤all.length→(∀e oe,all[e]?=some oe→isEff X oe.op=true→i0<e→e<i→bit ((nth bs e).getD 0) i0=true→False)→(stX tr z i).2.2.get k=M.get k
 | 0,_,_=>by rw [h.zero]
 | i+1,hi,hno=>by
  have ih:=Trc.keep h hk i (by omega) (fun e oe g1 g2 g3 g4=>hno e oe g1 g2 g3 (by omega))
  have ho:=List.getElem?_eq_getElem (l:=all) (i:=i) (by omega)
  obtain ⟨t,g⟩:=h.at_ i _ ho
  rw [stX_at g.get] at ih
  cases he:isEff X all[i].op with
  | false=>
   obtain ⟨_,e2⟩:=xstep_same he g.step
   rw [e2];exact ih
  | true=>
   have hkk:=allKeep_ok hk i _ t ho g.get he
   rw [Nat.zero_add] at hkk
   rcases hkk with ⟨h1,h2⟩ | h1
   ·exact (hno i _ ho he h1 (by omega) h2).elim
   ·rw [effKeeps_ok h1 g.step];exact ih
theorem ldSafe_ok (h:Trc X xi Yx' N all tr z nk fr M) {bs:List Nat} {o:Oper} {t:Tc} {i:Nat} (hg:tr[i]?=some t) (hls:ldSafe X bs i all tr o t=true) (hc:xstep X xi Yx' all o t.nk t.fr t.M=some (t.y,t.nk,t.M)) {p:Nat} (hp:p≤all.length)
  (hno:∀e oe,all[e]?=some oe→isEff X oe.op=true→i<e→e<p→bit ((nth bs e).getD 0) i=true→False) :
  xstep X xi Yx' all o (stX tr z p).1 t.fr (stX tr z p).2.2=some (t.y,(stX tr z p).1,(stX tr z p).2.2):=by
 have hi:i<tr.length:=(List.getElem?_eq_some_iff.1 hg).1
 unfold ldSafe at hls
 split at hls
 rotate_left
 ·cases hls
 rename_i k t0 r hk
 simp only [Bool.and_eq_true] at hls
 obtain ⟨h1,h2⟩:=hls
 have hz:(stX (t0::r) z 0).1=t0.nk:=rfl
 have hle:t0.nk≤(stX (t0::r) z p).1:=by rw [←hz];exact h.mono' (Nat.zero_le _) hp
 have e1:=h.keep h2 i (by rw [←h.len];omega) (fun e _ _ _ g1 g2 _=>by omega)
 rw [stX_at hg] at e1
 have e2:=h.keep h2 p hp hno
 have e3:(stX (t0::r) z p).2.2.get k=t.M.get k:=e2.trans e1.symm
 generalize (stX (t0::r) z p).1=nk2 at hle
 generalize (stX (t0::r) z p).2.2=M2 at e3
 unfold ldKey at hk
 split at hk
 rotate_left
 ·cases hk
 rename_i t1 x hop hgd
 split at hk
 rotate_left
 ·cases hk
 rename_i k' o' hx
 cases hk
 have form:∀nk M,xstep X xi Yx' all o nk t.fr M=liftC nk M (xcalm2 X.E.T (.load t1 x) t.fr M.get):=by
  intro nk M
  unfold xstep
  rw [hgd]
  show xop X xi Yx' nk t.fr M o.op=_
  rw [hop]
  rfl
 rw [form] at hc ⊢
 have e4:xcalm2 X.E.T (.load t1 x) t.fr M2.get=xcalm2 X.E.T (.load t1 x) t.fr t.M.get:=by
  have e5:xload X.E.T M2.get t1 (opv t.fr x)=xload X.E.T t.M.get t1 (opv t.fr x):=by
   rw [hx]
   unfold xload
   dsimp only
   rw [e3]
  have e6:xrd X.E.T (.load t1 x) t.fr M2.get=xrd X.E.T (.load t1 x) t.fr t.M.get:=by
   cases x with
   | tmp s=>
    have hx':get t.fr s=.lp k o':=hx
    simp only [xrd,hx',e3]
   | _=>rfl
  unfold xcalm2
  rw [e6]
  unfold xcalm
  dsimp only
  rw [e5]
 rw [e4]
 obtain ⟨_,_,u,hu,hy,_⟩:=liftC_same hc
 rw [hu]
 have hlt:R.ltK nk2 u=true:=by
  rw [hy] at h1
  have:=(ltKR (nb_lt h1)).mono hle
  rw [R.ltK_eq]
  exact ltK_of u this
 unfold liftC
 dsimp only
 rw [hlt,←hy]
theorem putX_get {dst:Option Nat} {fr1:Fr} (h:putX N dst y fr=some fr1) (t:Nat):get fr1 t=if dst=some t then y else get fr t:=by
 unfold putX at h
 split at h
 ·cases h;simp
 ·split at h
  ·cases h;rw [get_cons];simp
  ·cases h
theorem Trc.keeps (h:Trc X xi Yx' N all tr z nk fr M) {t:Nat}:∀i,i≤all.length→(∀j o,j<i→all[j]?=some o→o.dst≠some t)→get (stX tr z i).2.1 t=get fr t
 | 0,_,_=>by rw [h.zero]
 | i+1,hi,hno=>by
  have ih:=Trc.keeps h i (by omega) (fun j o hj ho=>hno j o (by omega) ho)
  have ho:=List.getElem?_eq_getElem (l:=all) (i:=i) (by omega)
  obtain ⟨tc,g⟩:=h.at_ i _ ho
  rw [stX_at g.get] at ih
  rw [putX_get g.put,if_neg (hno i _ (by omega) ho)]
  exact ih
theorem Trc.lays (h:Trc X xi Yx' N all tr z nk fr M) {j t:Nat} {o:Oper} {tc:Tc} (ho:all[j]?=some o) (hd:o.dst=some t) (htc:tr[j]?=some tc) (hun:∀j' o',all[j']?=some o'→o'.dst=some t→j'=j) :
  ∀i,i≤all.length→j<i→get (stX tr z i).2.1 t=tc.y
 | 0,_,hj=>by omega
 | i+1,hi,hj=>by
  have ho2:=List.getElem?_eq_getElem (l:=all) (i:=i) (by omega)
  obtain ⟨t2,g⟩:=h.at_ i _ ho2
  rw [putX_get g.put]
  by_cases e:j=i
  ·subst e
   rw [ho] at ho2
   cases ho2
   have hg:=g.get
   rw [htc] at hg
   cases hg
   rw [if_pos hd]
  ·rw [if_neg (fun hd2=>e (hun i _ ho2 hd2).symm)]
   have:=Trc.lays h ho hd htc hun i (by omega) (by omega)
   rw [stX_at g.get] at this
   exact this
end
theorem slotOk_ok {bs:List Nat} {i t:Nat}:∀{l:List Oper} {j0:Nat},slotOk bs i t l j0=true→∀j o,l[j]?=some o→o.dst=some t→i=j0+j∨(j0+j<i∧bit ((nth bs i).getD 0) (j0+j)=true)∨(i<j0+j∧bit ((nth bs (j0+j)).getD 0) i=true)
 | [],j0,_,j,o,ho,_=>by simp at ho
 | o1::l,j0,h,j,o,ho,hd=>by
  simp only [slotOk,Bool.and_eq_true] at h
  cases j with
  | zero=>
   cases ho
   have h1:=h.1
   rw [hd] at h1
   dsimp only at h1
   rw [Nat.beq_refl] at h1
   dsimp only at h1
   rw [Nat.add_zero]
   split at h1
   ·rename_i e;exact .inl (Nat.eq_of_beq_eq_true e)
   ·rename_i e1 e2;exact .inr (.inl ⟨Nat.le_of_ble_eq_true e2,h1⟩)
   ·rename_i e1 e2
    refine .inr (.inr ⟨?_,h1⟩)
    have:¬j0<i:=fun hlt=>by
     have:Nat.blt j0 i=true:=Nat.ble_eq_true_of_le hlt
     rw [this] at e2;cases e2
    have:i≠j0:=Nat.ne_of_beq_eq_false e1
    omega
  | succ j=>
   have:=slotOk_ok h.2 j o (by simpa using ho) hd
   rw [show j0+(j+1)=j0+1+j from by omega]
   exact this
theorem dstOk_ok {i d:Nat}:∀{l:List Oper} {j0:Nat},dstOk i d l j0=true→∀j o,l[j]?=some o→o.dst=some d→i=j0+j
 | [],j0,_,j,o,ho,_=>by simp at ho
 | o1::l,j0,h,j,o,ho,hd=>by
  simp only [dstOk,Bool.and_eq_true] at h
  cases j with
  | zero=>
   cases ho
   have h1:=h.1
   rw [hd] at h1
   dsimp only at h1
   rw [Nat.beq_refl] at h1
   exact Nat.eq_of_beq_eq_true h1
  | succ j=>
   have:=dstOk_ok h.2 j o (by simpa using ho) hd
   omega
theorem slotsOk_ok {bs:List Nat}:∀{l:List Oper} {i0:Nat},slotsOk bs all l i0=true→∀i o,l[i]?=some o→(∀t∈opsL o++guardL all o,slotOk bs (i0+i) t all 0=true)∧∀d,o.dst=some d→dstOk (i0+i) d all 0=true
 | [],i0,_,i,o,ho=>by simp at ho
 | o1::l,i0,h,i,o,ho=>by
  simp only [slotsOk,Bool.and_eq_true,List.all_eq_true] at h
  cases i with
  | zero=>
   cases ho
   refine ⟨h.1.1,fun d hd=>?_⟩
   have:=h.1.2
   rw [hd] at this
   exact this
  | succ i=>
   have:=slotsOk_ok h.2 i o (by simpa using ho)
   rw [show i0+(i+1)=i0+1+i from by omega]
   exact this
theorem xeffs_ok {bs:List Nat} {m:Nat}:∀{l:List Oper} {e0:Nat},xeffs X bs m l e0=true→∀e o,l[e]?=some o→isEff X o.op=true→e0+e<m→bit ((nth bs m).getD 0) (e0+e)=true
 | [],e0,_,e,o,ho,_,_=>by simp at ho
 | o1::l,e0,h,e,o,ho,he,hlt=>by
  simp only [xeffs,Bool.and_eq_true] at h
  cases e with
  | zero=>
   cases ho
   have h1:=h.1
   rw [he] at h1
   simp only [Bool.or_eq_true,beq_iff_eq] at h1
   have:Nat.blt e0 m=true:=Nat.ble_eq_true_of_le hlt
   rw [this] at h1
   simpa using h1
  | succ e=>
   rw [show e0+(e+1)=e0+1+e from by omega]
   exact xeffs_ok h.2 e o (by simpa using ho) he (by omega)
theorem passed_ok {m e:Nat}:∀{l:List Oper} {j0:Nat},passed X all m e l j0=true→∀{A:Prop},(∀j o,l[j]?=some o→isEff X o.op=true→earlyAl X all o=false→e<j0+j→bit m (j0+j)=true→A)→A
 | [],j0,h,A,hA=>by simp [passed] at h
 | o::l,j0,h,A,hA=>by
  have hrec:passed X all m e l (j0+1)=true→A:=fun h=>passed_ok h fun j o' g1 g2 g3 g4 g5=>hA (j+1) o' (by simpa using g1) g2 g3 (by omega) (by rw [show j0+(j+1)=j0+1+j from by omega];exact g5)
  unfold passed at h
  split at h
  ·rename_i h1 h2 h3 h4
   exact hA 0 o rfl h1 h2 (Nat.le_of_ble_eq_true h3) h4
  ·exact hrec h
theorem xpairs_ok {bs:List Nat} {i:Nat} {oi:Oper} {ti:Tc} {nkF:Nat} {MF:Mm} {frF:Fr}:∀{l:List Oper} {s:List Tc} {e0:Nat},xpairs X xi Yx' all bs i oi ti nkF MF l s e0=true→∀e oe te,l[e]?=some oe→s[e]?=some te→isEff X oe.op=true →
  xpair X xi Yx' all bs (earlyOf X all bs i (e0+e) oe) i (e0+e) oi ti te (stX s (nkF,frF,MF) (e+1)).1 (stX s (nkF,frF,MF) (e+1)).2.2=true
 | [],[],e0,_,e,oe,te,ho,_,_=>by simp at ho
 | [],_::_,e0,h,e,oe,te,ho,_,_=>by simp at ho
 | _::_,[],e0,h,e,oe,te,ho,ht,_=>by simp at ht
 | o1::l,t1::s,e0,h,e,oe,te,ho,ht,he=>by
  simp only [xpairs,Bool.and_eq_true] at h
  cases e with
  | zero=>
   cases ho
   cases ht
   have h1:=h.1
   rw [he] at h1
   dsimp only at h1
   cases s with
   | nil=>exact h1
   | cons t2 s=>exact h1
  | succ e=>
   have:=xpairs_ok (frF:=frF) h.2 e oe te (by simpa using ho) (by simpa using ht) he
   rw [show e0+(e+1)=e0+1+e from by omega]
   exact this
theorem xchk_ok {bs:List Nat} {tr:List Tc} {nkF:Nat} {MF:Mm}:∀{l:List Oper} {s:List Tc} {i0:Nat},xchk X xi Yx' all bs tr nkF MF l s i0=true→∀i o t,l[i]?=some o→s[i]?=some t →
  (isEff X o.op=true→(match earlyAl X all o with | true=>true | false=>xeffs X bs (i0+i) all 0)=true)∧(isEff X o.op=false→(ldSafe X bs (i0+i) all tr o t || xpairs X xi Yx' all bs (i0+i) o t nkF MF all tr 0)=true)
 | [],[],i0,_,i,o,t,ho,_=>by simp at ho
 | [],_::_,i0,h,i,o,t,ho,_=>by simp at ho
 | _::_,[],i0,h,i,o,t,ho,ht=>by simp at ht
 | o1::l,t1::s,i0,h,i,o,t,ho,ht=>by
  simp only [xchk,Bool.and_eq_true] at h
  cases i with
  | zero=>
   cases ho
   cases ht
   have h1:=h.1
   exact ⟨fun he=>by rw [he] at h1;exact h1,fun he=>by rw [he] at h1;exact h1⟩
  | succ i=>
   have:=xchk_ok h.2 i o t (by simpa using ho) (by simpa using ht)
   rw [show i0+(i+1)=i0+1+i from by omega]
   exact this
theorem edgesOk_ok:∀{l:List Oper} {i0:Nat},edgesOk all l i0=true→∀i o,l[i]?=some o→∀e∈o.after,Region.binds .any e=true→e.on<i0+i
 | [],i0,_,i,o,ho,_,_,_=>by simp at ho
 | o1::l,i0,h,i,o,ho,e,he,hb=>by
  simp only [edgesOk,Bool.and_eq_true,List.all_eq_true] at h
  cases i with
  | zero=>
   cases ho
   have:=h.1 e (by simpa using he)
   rw [hb] at this
   simp only [Bool.not_true,Bool.false_or] at this
   exact Nat.le_of_ble_eq_true this
  | succ i=>
   have:=edgesOk_ok h.2 i o (by simpa using ho) e he hb
   omega
theorem befs_some {i:Nat} (hi:i<ops.toList.length):∃m,(befs ops.toList [])[i]?=some m∧(nth (befs ops.toList []) i).getD 0=m:=by
 obtain ⟨_,h2,_⟩:=befs_get (l:=ops.toList) (bs:=[])
 have:i<(befs ops.toList []).length:=by rw [h2];simpa using hi
 refine ⟨_,List.getElem?_eq_getElem this,?_⟩
 rw [nth_get,List.getElem?_eq_getElem this]
 rfl
structure Ea where
 j:Nat
 d:Nat
 lb:LB
 pl:Loc
 ow:Bool
def Ea.wd (x:Ea) (k:Nat):SV:=match x.ow with | true=>.own k | false=>.lp k 0
def Ea.vl (x:Ea):Value:=match x.ow with | true=>.slice x.pl.A x.pl.n x.pl.c | false=>.pointer (some ⟨x.pl.b,0,none⟩)
def Ea.bk (x:Ea):Option Nat:=blk (fun _=>x.pl) 0 x.lb
theorem Ea.okv_wd {x:Ea} {S:Pl} {k:Nat} {v:Value} (h:S k=x.pl):okv S (x.wd k) v↔v=x.vl:=by
 unfold Ea.wd Ea.vl
 cases x.ow<;>simp [okv,h]
theorem Ea.blk_eq {x:Ea} {S:Pl} {k:Nat} (h:S k=x.pl):blk S k x.lb=x.bk:=by
 unfold Ea.bk
 cases x.lb<;>simp [blk,h]
theorem Ea.hV {x:Ea} {k:Nat}:hV (k+1) (x.wd k):=by
 unfold Ea.wd
 cases x.ow
 ·exact hV_lp (Nat.lt_succ_self _)
 ·exact hV_own (Nat.lt_succ_self _)
theorem chunk_key {N0:Nat} {S S':Pl} {k k':Nat} {lb:LB} {w:World} (h1:S' k'=S k) (h2:∀j,lb.has j=true→S' j=S j) (h:chunk N0 S k lb w):chunk N0 S' k' lb w:=by
 cases lb with
 | cells T cs=>obtain ⟨a1,vs,a2,a3⟩:=h;exact ⟨by rw [h1];exact a1,vs,by rw [h1];exact a2,okL_congr cs h2 a3⟩
 | row E sz n cs=>obtain ⟨xs,a2,a3⟩:=h;exact ⟨xs,by rw [h1];exact a2,okL_congr cs h2 a3⟩
 | arr E sz n xs=>simp only [chunk,h1] at h ⊢;exact h
 | dfr=>simp only [chunk,h1] at h ⊢;exact h
 | mp es c=>simp only [chunk,h1] at h ⊢;exact h
 | sb E n xs=>simp only [chunk,h1] at h ⊢;exact h
 | loop st pe=>simp only [chunk,h1] at h ⊢;exact h
theorem chunk_lt {N0:Nat} {S:Pl} {k:Nat} {lb:LB} {w:World} (h:chunk N0 S k lb w) (hd:lb≠.dfr) {b:Nat} (hb:blk S k lb=some b):∃y,w.heap[b]?=some y∧y≠.deferred (some []):=by
 cases lb with
 | cells T cs=>obtain ⟨_,vs,a2,_⟩:=h;cases hb;exact ⟨_,a2,by simp⟩
 | row E sz n cs=>
  obtain ⟨xs,⟨⟨_,h2⟩,_⟩,_⟩:=h
  rcases h2 with h2 | ⟨g,cap,cur,hv,hg,hh,r⟩
  ·obtain ⟨h2,_⟩:=h2
   injection h2 with h2 _ _
   simp [blk,h2] at hb
  ·injection hv with hv _ _
   simp only [blk,hv,Option.map_some,Option.some.injEq] at hb
   subst hb
   exact ⟨_,hh,by simp⟩
 | arr E sz n xs=>
  obtain ⟨⟨_,h2⟩,_⟩:=h
  rcases h2 with h2 | ⟨g,cap,cur,hv,hg,hh,r⟩
  ·obtain ⟨h2,_⟩:=h2
   injection h2 with h2 _ _
   simp [blk,h2] at hb
  ·injection hv with hv _ _
   simp only [blk,hv,Option.map_some,Option.some.injEq] at hb
   subst hb
   exact ⟨_,hh,by simp⟩
 | dfr=>exact (hd rfl).elim
 | mp es c=>cases hb;exact ⟨_,h.2,by simp⟩
 | sb E n xs=>obtain ⟨_,_,_,_,_,cur,fz,h6,_⟩:=h;cases hb;exact ⟨_,h6,by simp⟩
 | loop st pe=>cases hb;exact ⟨_,h.2,by simp⟩
structure EFact (w0:W0) (q:PH) (S:Pl) (L:LL) (w:World) (m:Nat) (x:Ea):Prop where
 h:∀k,x.lb.has k=false→chunk 0 (updS S k x.pl) k x.lb w
 k:∀k,x.lb.has k=true→k<m
 f:∀b,x.bk=some b→¬w0.F b
 q:∀b,x.bk=some b→∀o,q b o=none
 l:∀k lb,getL L k=some lb→∀b,blk S k lb=some b→x.bk≠some b
 z:∀b,x.bk=some b→∃y,w.heap[b]?=some y∧y≠.deferred (some [])
def w0E (w0:W0) (w:World) (q:PH) (E:List Ea) (hs:w0.w.heap.size≤w.heap.size):W0 where
 w:=w
 F:=fun b=>w0.F b∨(b<w.heap.size∧∃x∈E,x.bk=some b)
 lt:=fun b h=>h.elim (fun h=>Nat.lt_of_lt_of_le (w0.lt b h) hs) (fun h=>h.1)
 F0:=w0.F0
 sub:=fun b h=>.inl (w0.sub b h)
 q:=fun b o=>@ite _ (∃x∈E,x.bk=some b) (Classical.propDecidable _) none (q b o)
theorem exec (hX:XOk P X) (hI:InlOk P (XInl xi)) (hYr:YRel Yx' Y) (hY:YOk P Sb Y n0) {o:Oper} {fr':Fr} {E:List Ea} (hc:Cfg w0 Sb B n0 N S q fr L a w) (hE:∀x∈E,EFact w0 q S L w nk x) (h0:n0≤nk) (hR:Rep M L) (hf:hF nk fr) (hl:hL nk L)
  (h:xstep X xi Yx' all o nk fr M=some (y,nk',M')) (hp:putX N o.dst y fr=some fr') {R:Act→World→Prop}
  (hK:∀a' w' S' q' L',Cfg w0 Sb B n0 N S' q' fr' L' a' w'→Rep M' L'→hF nk' fr'→hL nk' L'→(∀k,k<nk→S' k=S k)→(∀x∈E,EFact w0 q' S' L' w' nk' x)→R a' w') :
  nk≤nk'∧hV nk' y∧((Region.wanted o (yielded all.toArray a.tmps)=true∧Oper.wpIn (FF r) n P o a w R Q) ∨
   (Region.wanted o (yielded all.toArray a.tmps)=false∧R (a.put o.dst undef) w)):=by
 let w1:W0:=w0E w0 w q E hc.m.be.size
 have hlt:∀x∈E,∀b,x.bk=some b→b<w.heap.size:=fun x hx b hb=>by
  obtain ⟨y,hh,_⟩:=(hE x hx).z b hb
  exact (Array.getElem?_eq_some_iff.1 hh).1
 have q1:∀{b o v},w1.q b o=some v→(¬ ∃x∈E,x.bk=some b)∧q b o=some v:=fun {b o v} hq=>by
  have hq:@ite _ (∃x∈E,x.bk=some b) (Classical.propDecidable _) none (q b o)=some v:=hq
  split at hq
  ·cases hq
  ·rename_i hn;exact ⟨hn,hq⟩
 have hext:Ext w0 w1:=⟨rfl,fun b hb=>.inl hb,hc.m.be,fun b o v hq hF=>hc.m.gw b o v (q1 hq).2 hF⟩
 have hm1:Mem w1 q S L w:=by
  refine ⟨hc.m.ch,hc.m.ap,hc.m.po,fun k lb hk b hb hF=>?_,hc.m.on,Bel.refl w1,fun b o v hq hF=>?_⟩
  ·rcases hF with hF | ⟨_,x,hx,hxb⟩
   ·exact hc.m.fz k lb hk b hb hF
   ·exact (hE x hx).l k lb hk b hb hxb
  ·show @ite _ (∃x∈E,x.bk=some b) (Classical.propDecidable _) none (q b o)=some v
   split
   ·rename_i hx
    obtain ⟨x,hx,hxb⟩:=hx
    rw [(hE x hx).q b hxb o] at hq
    cases hq
   ·exact hq
 have hc1:Cfg w1 Sb B n0 N S q fr L a w:=by
  refine ⟨hc.ag,hc.b,hm1,hc.f,hc.n,?_⟩
  obtain ⟨Hs,e1,e2,e3⟩:=hc.d
  exact ⟨Hs,e1,e2,fun b hb=>⟨.inl (e3 b hb).1,(e3 b hb).2.1,(hc.m.be.block b (e3 b hb).1).trans (e3 b hb).2.2⟩⟩
 have hY1:YOk P S Y nk:=(hY.congr fun k hk=>hc.ag k hk).more h0
 obtain ⟨g1,g2,g3⟩:=xstep_run (r:=r) (n:=n) (Q:=Q) (fr':=fr') hX hI hYr hY1 (hc1.up nk) (Nat.le_refl nk) hR hf hl h hp
 have back:∀a' w',St w1 S (fun d=>getL L d=some .dfr) nk N (XK nk' fr' M') a' w'→R a' w':=by
  rintro a' w' ⟨S',q',fr1,L',k',hc',hfr,h1,h2,h3⟩
  rw [hfr] at hc'
  have hS:∀k,k<nk→S' k=S k:=hc'.ag
  refine hK a' w' S' q' L' ⟨fun k hk=>(hS k (Nat.lt_of_lt_of_le hk h0)).trans (hc.ag k hk),fun d hd hB=>hc'.b d (Nat.lt_of_lt_of_le hd h0) (hc.b d hd hB),hext.mem hc'.m,hc'.f,hc'.n,?_⟩ h1 h2 h3 hS fun x hx=>?_
  ·obtain ⟨Hs,e1,e2,e3⟩:=hc'.d
   refine ⟨Hs,e1,e2,fun b hb=>?_⟩
   obtain ⟨f1,f2,f3⟩:=e3 b hb
   rcases f1 with f1 | ⟨_,x,hx,hxb⟩
   ·exact ⟨f1,f2,(hc.m.be.block b f1).symm.trans f3⟩
   ·obtain ⟨y,hh,hne⟩:=(hE x hx).z b hxb
    have f3:w.heap[b]?=some (.deferred (some [])):=f3
    rw [hh] at f3
    cases f3
    exact (hne rfl).elim
  ·have hF1:∀b,x.bk=some b→w1.F b:=fun b hb=>.inr ⟨hlt x hx b hb,x,hx,hb⟩
   have hbl:∀b,x.bk=some b→w'.heap[b]?=w.heap[b]?:=fun b hb=>hc'.m.be.block b (hF1 b hb)
   refine ⟨fun k hk=>?_,fun k hk=>Nat.lt_of_lt_of_le ((hE x hx).k k hk) g1,(hE x hx).f,fun b hb o=>?_,fun k lb hk b hb hxb=>hc'.m.fz k lb hk b hb (hF1 b hxb),fun b hb=>by rw [hbl b hb];exact (hE x hx).z b hb⟩
   ·refine chunk_same (w:=w) (chunk_congr (S:=updS S k x.pl) (by rw [updS_same,updS_same]) (fun j hj=>?_) ((hE x hx).h k hk)) (fun b hb=>hbl b (by rw [←hb];exact (Ea.blk_eq updS_same).symm))
    have hjk:j≠k:=fun e=>by subst e;rw [hk] at hj;cases hj
    rw [updS_other hjk,updS_other hjk]
    exact hS j ((hE x hx).k j hj)
   ·cases hq:q' b o with
    | none=>rfl
    | some v=>exact ((q1 (hc'.m.gw b o v hq (hF1 b hb))).1 ⟨x,hx,hb⟩).elim
 refine ⟨g1,g2,?_⟩
 rcases g3 with ⟨hw,g3⟩ | ⟨hw,g3⟩
 ·exact .inl ⟨hw,Oper.wpIn_mono back g3⟩
 ·exact .inr ⟨hw,back _ _ g3⟩
def hS' (cs:List SV) (fr:Fr):Prop:=∀m,hF m fr→hS m cs
theorem srcOk_ok {o:Oper}:∀{l:List Oper},srcOk X o l=true→∀(i:Nat) (o':Oper) (d:Nat),l[i]?=some o'→isEff X o'.op=true→o'.dst=some d→d ∉ opsL o
 | [],_,i,o',d,ho,_,_=>by simp at ho
 | o1::l,h,i,o',d,ho,he,hd=>by
  simp only [srcOk,Bool.and_eq_true] at h
  cases i with
  | zero=>
   cases ho
   have h1:=h.1
   rw [he,hd] at h1
   simp only [Bool.not_true,Bool.false_or,List.all_eq_true,Bool.not_eq_true'] at h1
   intro hm
   have:=h1 d hm
   rw [Nat.beq_refl] at this
   cases this
  | succ i=>exact srcOk_ok h.2 i o' d (by simpa using ho) he hd
theorem readersOk_ok {d:Nat}:∀{l:List Oper},readersOk X d all l=true→∀(i:Nat) (o:Oper),l[i]?=some o→d∈opsL o++guardL all o→isEff X o.op=true
 | [],_,i,o,ho,_=>by simp at ho
 | o1::l,h,i,o,ho,hd=>by
  simp only [readersOk,Bool.and_eq_true,Bool.or_eq_true,List.all_eq_true] at h
  cases i with
  | zero=>
   cases ho
   rcases h.1 with h1 | h1
   ·have:=h1 d hd
    rw [Nat.beq_refl] at this
    cases this
   ·exact h1
  | succ i=>exact readersOk_ok h.2 i o (by simpa using ho) hd
theorem earlyAl_ok {o:Oper} (h:earlyAl X all o=true):∃d,o.guard=none∧o.dst=some d∧isEff X o.op=true∧(∀(i:Nat) (o':Oper),all[i]?=some o'→d∈opsL o'++guardL all o'→isEff X o'.op=true) ∧
  (∀(i:Nat) (o':Oper) (d':Nat),all[i]?=some o'→isEff X o'.op=true→o'.dst=some d'→d' ∉ opsL o++guardL all o):=by
 unfold earlyAl at h
 split at h
 ·rename_i t d h1 h2 h3
  have hg:guardL all o=[]:=by unfold guardL;rw [h2]
  have ho:opsL o=[]:=by unfold opsL;rw [h1];rfl
  split at h
  ·cases h
  ·cases h
  ·exact ⟨d,h2,h3,by rw [h1];rfl,fun i o'=>readersOk_ok h i o',fun i o' d' _ _ _ hm=>by rw [hg,ho] at hm;cases hm⟩
 ·rename_i t m ps d h1 h2 h3
  have hg:guardL all o=[]:=by unfold guardL;rw [h2]
  simp only [Bool.and_eq_true] at h
  exact ⟨d,h2,h3,by rw [h1];rfl,fun i o'=>readersOk_ok h.1 i o',fun i o' d' g1 g2 g3 hm=>by rw [hg,List.append_nil] at hm;exact srcOk_ok h.2 i o' d' g1 g2 g3 hm⟩
 ·cases h
theorem early_step {o:Oper} {y:SV} {nk':Nat} {M':Mm} (h:earlyAl X all o=true) (hs:xstep X xi Yx' all o nk fr M=some (y,nk',M')) :
  ∃lb ow,(∀m,hF m fr→∀k,lb.has k=true→k<m)∧(lb≠.dfr)∧(y=match ow with | true=>.own nk | false=>.lp nk 0)∧nk'=nk+1∧xput M nk (some lb)=some M' ∧
   ∀nk2 M2 Mx,xput M2 nk2 (some lb)=some Mx→xstep X xi Yx' all o nk2 fr M2=some ((match ow with | true=>SV.own nk2 | false=>.lp nk2 0),nk2+1,Mx):=by
 unfold earlyAl at h
 split at h
 ·rename_i t d h1 h2 h3
  have key:(ty X.E.T t).d≠.other→(∀n e,(ty X.E.T t).d≠.arr n e)→∀nk M,xstep X xi Yx' all o nk fr M=(match xput M nk (some (.cells t (valL (ty X.E.T t).zero))) with | some M'=>some (.lp nk 0,nk+1,M') | none=>none):=by
   intro n1 n2 nk M
   unfold xstep xguard
   rw [h2]
   dsimp only
   rw [h1]
   show lift1 nk (xallocB X.E.T t nk M)=_
   unfold xallocB
   split
   ·rename_i n e hd;exact (n2 n e hd).elim
   ·unfold xalloc
    split
    ·rename_i hd;exact (n1 hd).elim
    ·unfold lift1
     cases xput M nk (some (.cells t (valL (ty X.E.T t).zero)))<;>rfl
  split at h
  ·cases h
  ·cases h
  rename_i n1 n2
  rw [key n2 n1] at hs
  split at hs
  rotate_left
  ·cases hs
  rename_i M1 hM1
  cases hs
  refine ⟨.cells t (valL (ty X.E.T t).zero),false,fun m _ k hk=>?_,by simp,rfl,rfl,hM1,fun nk2 M2 Mx hx=>?_⟩
  ·have h0:hS 0 (valL (ty X.E.T t).zero):=hS.valL _
   have:=h0 k hk
   omega
  ·rw [key n2 n1,hx]
 ·rename_i t m ps d h1 h2 h3
  have e:∀nk M,xstep X xi Yx' all o nk fr M=lift1 nk (xbuildS X.E.T t m nk fr ps.toList M):=by
   intro nk M
   unfold xstep xguard
   rw [h2]
   dsimp only
   rw [h1]
   rfl
  rw [e] at hs
  have key:∃el cs,hS' cs fr∧∀nk M,xbuildS X.E.T t m nk fr ps.toList M=(match xput M nk (some (.row el (ty X.E.T el).sz m cs)) with | some M'=>some (.own nk,M') | none=>none):=by
   unfold xbuildS at hs ⊢
   split at hs
   rotate_left
   ·cases hs
   rename_i el hd
   split at hs
   ·cases hs
   rename_i n1
   split at hs
   rotate_left
   ·cases hs
   rename_i cs hcs
   have hcS:hS' cs fr:=fun m hm=>xparts_h hm (repl_h (hS.valL _) _) hcs
   cases hone:oneL cs with
   | false=>rw [hone] at hs;cases hs
   | true=>
   cases hble:Nat.ble (m * (ty X.E.T el).sz) 16777216 with
   | false=>rw [hone,hble] at hs;cases hs
   | true=>
   refine ⟨el,cs,hcS,fun nk M=>?_⟩
   cases xput M nk (some (.row el (ty X.E.T el).sz m cs))<;>rfl
  obtain ⟨el,cs,hcs,key⟩:=key
  rw [key] at hs
  cases hM1:xput M nk (some (.row el (ty X.E.T el).sz m cs)) with
  | none=>rw [hM1] at hs;cases hs
  | some M1=>
  rw [hM1] at hs
  cases hs
  refine ⟨.row el (ty X.E.T el).sz m cs,true,fun m hm k hk=>hcs m hm k hk,by simp,rfl,rfl,hM1,fun nk2 M2 Mx hx=>?_⟩
  rw [e,key,hx]
  rfl
 ·cases h
structure DS (X:XE) (w0:W0) (Sb:Pl) (B:Nat→Prop) (n0 N:Nat) (ops:Array Oper) (tr:List Tc) (z:Nat×Fr×Mm) (fr:Fr) (listed:Array Bool) (a:Act) (w:World) (p:Nat) (S:Pl) (q:PH) (L:LL) (G:Fr) (E:List Ea):Prop where
 pn:p≤ops.toList.length
 pe:∀e o,ops.toList[e]?=some o→isEff X o.op=true→(listed.getD e false=true↔e<p∨∃x∈E,x.j=e)
 c:Cfg w0 Sb B n0 N S q G L a w
 r:Rep (stX tr z p).2.2 L
 f:hF (stX tr z p).1 G
 l:hL (stX tr z p).1 L
 g1:∀i o t d,ops.toList[i]?=some o→tr[i]?=some t→listed.getD i false=true→(∀x∈E,x.j≠i)→o.dst=some d→get G d=t.y
 g2:∀t,(∀i o,ops.toList[i]?=some o→listed.getD i false=true→o.dst≠some t)→get G t=get fr t
 e:∀x∈E,p≤x.j∧(∃o,ops.toList[x.j]?=some o∧earlyAl X ops.toList o=true∧o.dst=some x.d ∧
  ∀tc,tr[x.j]?=some tc→tc.y=x.wd tc.nk∧(stX tr z (x.j+1)).1=tc.nk+1∧xput tc.M tc.nk (some x.lb)=some (stX tr z (x.j+1)).2.2)∧EFact w0 q S L w (stX tr z p).1 x∧get G x.d=.v x.vl
 nd:∀x∈E,∀y∈E,∀b,x.bk=some b→y.bk=some b→x.j=y.j
structure DInv (X:XE) (w0:W0) (Sb:Pl) (B:Nat→Prop) (n0 N:Nat) (ops:Array Oper) (tr:List Tc) (z:Nat×Fr×Mm) (fr:Fr) (listed:Array Bool) (a:Act) (w:World):Prop where
 cl:ClosedL ops listed
 sz:listed.size=ops.size
 ex:∃p S q L G E,DS X w0 Sb B n0 N ops tr z fr listed a w p S q L G E
theorem opsL_mem {o:Oper} {t:Nat} (h:Operand.tmp t∈o.op.operands.toList):t∈opsL o:=List.mem_filterMap.2 ⟨_,h,rfl⟩
theorem DS.adv1 {tr:List Tc} {z:Nat×Fr×Mm} {fr:Fr} {listed:Array Bool} {p:Nat} {G:Fr} {E:List Ea} (hT:Trc X xi Yx' N ops.toList tr z nk fr M) (h0:n0≤nk) (hslots:slotsOk (befs ops.toList []) ops.toList ops.toList 0=true)
  (h:DS X w0 Sb B n0 N ops tr z fr listed a w p S q L G E) (hp:p<ops.toList.length) (hno:∀o,ops.toList[p]?=some o→isEff X o.op=true→∃x∈E,x.j=p) :
  ∃S' L' G' E',DS X w0 Sb B n0 N ops tr z fr listed a w (p+1) S' q L' G' E'∧∀x∈E',x∈E:=by
 have ho:=List.getElem?_eq_getElem (l:=ops.toList) (i:=p) hp
 obtain ⟨tc,ht⟩:=hT.at_ p _ ho
 cases he:isEff X ops.toList[p].op with
 | false=>
  obtain ⟨k1,k2⟩:=xstep_same he ht.step
  have e1:(stX tr z (p+1)).1=(stX tr z p).1:=by rw [stX_at ht.get];exact k1
  have e2:(stX tr z (p+1)).2.2=(stX tr z p).2.2:=by rw [stX_at ht.get];exact k2
  refine ⟨S,L,G,E,⟨hp,fun e o hoe hee=>?_,h.c,by rw [e2];exact h.r,by rw [e1];exact h.f,by rw [e1];exact h.l,h.g1,h.g2,fun x hx=>?_,h.nd⟩,fun x hx=>hx⟩
  ·rw [h.pe e o hoe hee]
   have:e≠p:=fun e'=>by subst e';rw [ho] at hoe;cases hoe;rw [he] at hee;cases hee
   constructor
   ·rintro (h | h)
    ·exact .inl (by omega)
    ·exact .inr h
   ·rintro (h | h)
    ·exact .inl (by omega)
    ·exact .inr h
  ·rw [e1]
   obtain ⟨f1,⟨o,f2,f3⟩,f4⟩:=h.e x hx
   refine ⟨?_,⟨o,f2,f3⟩,f4⟩
   have:x.j≠p:=fun e'=>by
    rw [e',ho] at f2
    cases f2
    obtain ⟨d,_,_,g,_⟩:=earlyAl_ok f3.1
    rw [g] at he
    cases he
   omega
 | true=>
  obtain ⟨x,hx,hxj⟩:=hno _ ho he
  obtain ⟨_,⟨o,f2,f3,f5,f6⟩,fE,fG⟩:=h.e x hx
  rw [hxj,ho] at f2
  cases f2
  have g3:ops.toList[p].dst=some x.d:=f5
  obtain ⟨hy,hk,hM1⟩:=f6 tc (by rw [hxj];exact ht.get)
  rw [hxj] at hk hM1
  have hP:stX tr z p=(tc.nk,tc.fr,tc.M):=stX_at ht.get
  have hn0:n0≤tc.nk:=by
   have:=hT.mono' (Nat.zero_le p) h.pn
   rw [hT.zero,hP] at this
   exact Nat.le_trans h0 this
  have hR:=h.r
  have hf:=h.f
  have hl:=h.l
  rw [hP] at hR hf hl fE
  have hR:Rep tc.M L:=hR
  have hf:hF tc.nk G:=hf
  have hl:hL tc.nk L:=hl
  have fE:EFact w0 q S L w tc.nk x:=fE
  let S1:=updS S tc.nk x.pl
  have hS1:∀k,k≠tc.nk→S1 k=S k:=fun k hk=>updS_other hk
  have hlk:∀k lb,getL L k=some lb→k<tc.nk:=fun k lb hk=>hl.key hk
  have hLk:∀k,hasLL k L=true→S1 k=S k:=fun k hk=>hS1 k (fun e=>by have:=hl k hk;omega)
  have hch:∀k lb,getL L k=some lb→chunk 0 S1 k lb w∧blk S1 k lb=blk S k lb:=fun k lb hk=>by
   have hm:=(h.c.m.congr hLk).ch k lb hk
   exact ⟨hm,blk_congr (hLk k (getL_hasLL hk (.inl rfl)))⟩
  have hxk:x.lb.has tc.nk=false:=by
   cases hh:x.lb.has tc.nk with
   | false=>rfl
   | true=>have:=fE.k _ hh;omega
  have hb1:blk S1 tc.nk x.lb=x.bk:=Ea.blk_eq updS_same
  have gl:∀k lb,getL ((tc.nk,x.lb)::L) k=some lb→(k=tc.nk∧lb=x.lb)∨(k≠tc.nk∧getL L k=some lb):=fun k lb hk=>by
   rw [getL_cons] at hk
   split at hk
   ·rename_i e;cases hk;exact .inl ⟨e.symm,rfl⟩
   ·rename_i e;exact .inr ⟨fun e'=>e e'.symm,hk⟩
  have hm:Mem w0 q S1 ((tc.nk,x.lb)::L) w:=by
   refine ⟨fun k lb hk=>?_,fun k lb k' lb' hk hk' hne b hb hb'=>?_,fun k lb hk b hb o=>?_,fun k lb hk b hb=>?_,h.c.m.on,h.c.m.be,h.c.m.gw⟩
   ·rcases gl k lb hk with ⟨rfl,rfl⟩ | ⟨_,hk⟩
    ·exact fE.h _ hxk
    ·exact (hch k lb hk).1
   ·rcases gl k lb hk with ⟨rfl,rfl⟩ | ⟨h1,hk⟩<;>rcases gl k' lb' hk' with ⟨rfl,rfl⟩ | ⟨h2,hk'⟩
    ·exact hne rfl
    ·rw [hb1] at hb
     rw [(hch k' lb' hk').2] at hb'
     exact fE.l k' lb' hk' b hb' hb
    ·rw [hb1] at hb'
     rw [(hch k lb hk).2] at hb
     exact fE.l k lb hk b hb hb'
    ·rw [(hch k lb hk).2] at hb
     rw [(hch k' lb' hk').2] at hb'
     exact h.c.m.ap k lb k' lb' hk hk' hne b hb hb'
   ·rcases gl k lb hk with ⟨rfl,rfl⟩ | ⟨h1,hk⟩
    ·rw [hb1] at hb;exact fE.q b hb o
    ·rw [(hch k lb hk).2] at hb;exact h.c.m.po k lb hk b hb o
   ·rcases gl k lb hk with ⟨rfl,rfl⟩ | ⟨h1,hk⟩
    ·rw [hb1] at hb;exact fE.f b hb
    ·rw [(hch k lb hk).2] at hb;exact h.c.m.fz k lb hk b hb
  have hget:∀t,get ((x.d,x.wd tc.nk)::G) t=if x.d=t then x.wd tc.nk else get G t:=fun t=>by rw [get_cons]
  have hcfg:Cfg w0 Sb B n0 N S1 q ((x.d,x.wd tc.nk)::G) ((tc.nk,x.lb)::L) a w:=by
   refine ⟨fun k hk=>(hS1 k (by omega)).trans (h.c.ag k hk),fun d hd hB=>?_,hm,fun t=>?_,h.c.n,h.c.d⟩
   ·rw [getL_cons,if_neg (by omega)]
    exact h.c.b d hd hB
   ·rw [hget]
    split
    ·rename_i e
     subst e
     have:=h.c.f x.d
     rw [fG] at this
     have this:a.tmps.getD x.d undef=x.vl:=this
     rw [this]
     exact (Ea.okv_wd updS_same).2 rfl
    ·exact okv_congr _ (fun k hk=>hS1 k (fun e=>by subst e;have:=hf.opv (.tmp t) tc.nk hk;omega)) (h.c.f t)
  have hE:∀y∈E,y.j≠p→EFact w0 q S1 ((tc.nk,x.lb)::L) w (tc.nk+1) y:=fun y hy hyp=>by
   obtain ⟨_,_,gE,_⟩:=h.e y hy
   rw [hP] at gE
   have gE:EFact w0 q S L w tc.nk y:=gE
   refine ⟨fun k hk=>?_,fun k hk=>Nat.lt_succ_of_lt (gE.k k hk),gE.f,gE.q,fun k lb hk b hb hyb=>?_,gE.z⟩
   ·refine chunk_congr (S:=updS S k y.pl) (by rw [updS_same,updS_same]) (fun j hj=>?_) (gE.h k hk)
    have hjk:j≠k:=fun e=>by subst e;rw [hk] at hj;cases hj
    rw [updS_other hjk,updS_other hjk]
    exact hS1 j (fun e=>by have:=gE.k j hj;omega)
   ·rcases gl k lb hk with ⟨rfl,rfl⟩ | ⟨h1,hk⟩
    ·rw [hb1] at hb
     exact hyp ((h.nd y hy x hx b hyb hb).trans hxj)
    ·rw [(hch k lb hk).2] at hb
     exact gE.l k lb hk b hb hyb
  have uniq:∀{j:Nat} {oj:Oper} {d:Nat},ops.toList[j]?=some oj→oj.dst=some d→∀j' o',ops.toList[j']?=some o'→o'.dst=some d→j'=j:=fun {j oj d} hoj hdj j' o' ho' hd'=>by
   have:=dstOk_ok ((slotsOk_ok hslots j oj hoj).2 d (by simpa using hdj)) j' o' ho' hd'
   omega
  have hlp:listed.getD p false=true:=(h.pe p _ ho he).2 (.inr ⟨x,hx,hxj⟩)
  refine ⟨S1,_,(x.d,x.wd tc.nk)::G,E.filter (fun y=>!(Nat.beq y.j p)),⟨hp,fun e o hoe hee=>?_,hcfg,?_,?_,?_,fun i o t d hoi hti hli hni hdi=>?_,fun t hno=>?_,fun y hy=>?_,fun y hy y' hy' b hb=>?_⟩,fun y hy=>(List.mem_filter.1 hy).1⟩
  ·rw [h.pe e o hoe hee]
   constructor
   ·rintro (h1 | ⟨y,hy,rfl⟩)
    ·exact .inl (by omega)
    ·by_cases hyp:y.j=p
     ·exact .inl (by omega)
     ·exact .inr ⟨y,List.mem_filter.2 ⟨hy,by cases hb:Nat.beq y.j p with | false=>rfl | true=>exact (hyp (Nat.eq_of_beq_eq_true hb)).elim⟩,rfl⟩
   ·rintro (h1 | ⟨y,hy,rfl⟩)
    ·by_cases hep:e=p
     ·exact .inr ⟨x,hx,by rw [hep,hxj]⟩
     ·exact .inl (by omega)
    ·exact .inr ⟨y,(List.mem_filter.1 hy).1,rfl⟩
  ·exact hR.new hM1
  ·rw [hk]
   exact (hf.mono (Nat.le_succ _)).cons Ea.hV
  ·rw [hk]
   exact (hl.mono (Nat.le_succ _)).new (Nat.lt_succ_self _) (fun k hk=>Nat.lt_succ_of_lt (fE.k k hk))
  ·rw [hget]
   by_cases hip:i=p
   ·subst hip
    rw [ho] at hoi
    cases hoi
    rw [ht.get] at hti
    cases hti
    rw [g3] at hdi
    cases hdi
    rw [if_pos rfl]
    exact hy.symm
   ·rw [if_neg (fun e=>hip (uniq ho g3 i o hoi (by rw [hdi,e])))]
    refine h.g1 i o t d hoi hti hli (fun y hyE hyi=>?_) hdi
    exact hni y (List.mem_filter.2 ⟨hyE,by cases hb:Nat.beq y.j p with | false=>rfl | true=>exact (hip (hyi.symm.trans (Nat.eq_of_beq_eq_true hb))).elim⟩) hyi
  ·rw [hget,if_neg (fun e=>hno p _ ho hlp (by rw [g3,e]))]
   exact h.g2 t hno
  ·obtain ⟨hyE,hyp⟩:=List.mem_filter.1 hy
   have hyp:y.j≠p:=fun e=>by rw [e,Nat.beq_refl] at hyp;cases hyp
   obtain ⟨k1,⟨o,k2,k3,k5,k6⟩,_,k7⟩:=h.e y hyE
   refine ⟨by omega,⟨o,k2,k3,k5,k6⟩,by rw [hk];exact hE y hyE hyp,?_⟩
   rw [hget,if_neg (fun e=>hyp (uniq ho g3 y.j o k2 (by rw [k5,e])))]
   exact k7
  ·exact h.nd y (List.mem_filter.1 hy).1 y' (List.mem_filter.1 hy').1 b hb
theorem DS.adv {tr:List Tc} {z:Nat×Fr×Mm} {fr:Fr} {listed:Array Bool} (hT:Trc X xi Yx' N ops.toList tr z nk fr M) (h0:n0≤nk) (hslots:slotsOk (befs ops.toList []) ops.toList ops.toList 0=true) :
  ∀(d:Nat) {p:Nat} {S:Pl} {L:LL} {G:Fr} {E:List Ea},DS X w0 Sb B n0 N ops tr z fr listed a w p S q L G E→p+d≤ops.toList.length→(∀e o,ops.toList[e]?=some o→isEff X o.op=true→p≤e→e<p+d→∃x∈E,x.j=e) →
  ∃S' L' G' E',DS X w0 Sb B n0 N ops tr z fr listed a w (p+d) S' q L' G' E'∧∀x∈E',x∈E
 | 0,p,S,L,G,E,h,_,_=>⟨S,L,G,E,h,fun _ h=>h⟩
 | d+1,p,S,L,G,E,h,hp,hno=>by
  obtain ⟨S1,L1,G1,E1,h1,h2⟩:=DS.adv1 hT h0 hslots h (by omega) (fun o ho he=>hno p o ho he (Nat.le_refl _) (by omega))
  obtain ⟨S2,L2,G2,E2,h3,h4⟩:=DS.adv hT h0 hslots d h1 (by omega) (fun e o ho he g1 g2=>by
   rcases (h1.pe e o ho he).1 ((h.pe e o ho he).2 (.inr (hno e o ho he (by omega) (by omega)))) with h5 | h5
   ·omega
   ·exact h5)
  refine ⟨S2,L2,G2,E2,?_,fun x hx=>h2 x (h4 x hx)⟩
  rw [show p+(d+1)=p+1+d from by omega]
  exact h3
theorem xput_le {M M2:Mm} {k j:Nat} {x y:Option LB} {M':Mm} (h:xput M k x=some M') (hj:j≤k):∃M3,xput M2 j y=some M3:=by
 unfold xput at h ⊢
 split at h
 ·rename_i hb
  have hb:Nat.blt k 1000000000=true:=hb
  have:Nat.blt j 1000000000=true:=Nat.ble_eq_true_of_le (Nat.le_trans (Nat.succ_le_succ hj) (Nat.le_of_ble_eq_true hb))
  rw [this]
  exact ⟨_,rfl⟩
 ·cases h
theorem dinv_step (hX:XOk P X) (hI:InlOk P (XInl xi)) (hYr:YRel Yx' Y) (hY:YOk P Sb Y n0) {tr:List Tc} {z:Nat×Fr×Mm} {fr:Fr} {nk:Nat} {M:Mm} (hT:Trc X xi Yx' N ops.toList tr z nk fr M) (h0:n0≤nk)
  (hreg:regOk ops=true) (hchk:xchk X xi Yx' ops.toList (befs ops.toList []) tr z.1 z.2.2 ops.toList tr 0=true) {listed:Array Bool} (hd:DInv X w0 Sb B n0 N ops tr z fr listed a w) {i:Nat} (hi:i∈Region.ready .any ops listed) :
  wpOpIn (FF r) n P ops Q i (fun a' w'=>DInv X w0 Sb B n0 N ops tr z fr (listed.setIfInBounds i true) a' w') a w:=by
 obtain ⟨hcl,hsz,p,S,q,L,G,E,hD⟩:=hd
 have hcl':=Closed_ready hcl hi
 obtain ⟨hun,o,hop,hall⟩:=mem_ready.1 hi
 have ho:ops.toList[i]?=some o:=by rw [Array.getElem?_toList];exact hop
 have hil:i<ops.toList.length:=(List.getElem?_eq_some_iff.1 ho).1
 have hil2:i<listed.size:=by rw [hsz];simpa using hil
 have hunf:listed.getD i false=false:=by
  rw [Array.getD_eq_getD_getElem?,Array.getElem?_eq_getElem hil2] at hun ⊢
  exact hun
 simp only [regOk,Bool.and_eq_true] at hreg
 obtain ⟨⟨⟨hedge,hslots⟩,hnd⟩,hsel⟩:=hreg
 have hall':∀o',ops[i]?=some o'→∀e∈o'.after,Region.binds .any e=true→listed.getD e.on false=true:=fun o' ho'=>by rw [hop] at ho';cases ho';exact hall
 have bef_i:∀{j:Nat},bit ((nth (befs ops.toList []) i).getD 0) j=true→listed.getD j false=true∧j<i:=fun {j} hb=>by
  obtain ⟨m,hm1,hm2⟩:=befs_some hil
  rw [hm2] at hb
  exact bef_listed hcl i hm1 hb hall'
 have bef_j:∀{j:Nat},j<ops.toList.length→bit ((nth (befs ops.toList []) j).getD 0) i=true→listed.getD j false=false:=fun {j} hj hb=>by
  obtain ⟨m,hm1,hm2⟩:=befs_some hj
  rw [hm2] at hb
  cases hl:listed.getD j false with
  | false=>rfl
  | true=>
   have:=(bef_listed hcl j hm1 hb (fun o2 ho2 e he hbn=>hcl j o2 hl ho2 e he hbn)).1
   rw [hunf] at this
   cases this
 obtain ⟨tc,ht⟩:=hT.at_ i o ho
 obtain ⟨hs1,hs2⟩:=slotsOk_ok hslots i o ho
 rw [Nat.zero_add] at hs1 hs2
 have uniq:∀{j:Nat} {oj:Oper} {d:Nat},ops.toList[j]?=some oj→oj.dst=some d→∀j' o',ops.toList[j']?=some o'→o'.dst=some d→j'=j:=fun {j oj d} hoj hdj j' o' ho' hd'=>by
  have:=dstOk_ok ((slotsOk_ok hslots j oj hoj).2 d (by simpa using hdj)) j' o' ho' hd'
  omega
 have hii:(listed.setIfInBounds i true).getD i false=true:=by simp [hil2]
 have slot:∀{p S L G E},DS X w0 Sb B n0 N ops tr z fr listed a w p S q L G E→(∀x∈E,x.d∈opsL o++guardL ops.toList o→i≤x.j)→∀t,t∈opsL o++guardL ops.toList o→get G t=get tc.fr t:=fun {p S L G E} hD hEi t htm=>by
  have hst:tc.fr=(stX tr z i).2.1:=by rw [stX_at ht.get]
  rw [hst]
  have hok:=slotOk_ok (hs1 t htm)
  by_cases hw:∃j oj,ops.toList[j]?=some oj∧oj.dst=some t∧listed.getD j false=true
  ·obtain ⟨j,oj,hoj,hdj,hlj⟩:=hw
   obtain ⟨tj,gj⟩:=hT.at_ j oj hoj
   have hjl:j<ops.toList.length:=(List.getElem?_eq_some_iff.1 hoj).1
   have hji:j<i:=by
    rcases hok j oj hoj hdj with e | ⟨e1,e2⟩ | ⟨e1,e2⟩
    ·rw [Nat.zero_add] at e;subst e;rw [hunf] at hlj;cases hlj
    ·rw [Nat.zero_add] at e1;exact e1
    ·rw [Nat.zero_add] at e1 e2
     rw [bef_j hjl e2] at hlj
     cases hlj
   rw [hD.g1 j oj tj t hoj gj.get hlj (fun x hx hxj=>by
    obtain ⟨_,⟨o2,f2,f3,f5,_⟩,_⟩:=hD.e x hx
    rw [hxj,hoj] at f2
    cases f2
    rw [hdj] at f5
    cases f5
    have:=hEi x hx htm
    omega) hdj]
   exact (hT.lays hoj hdj gj.get (uniq hoj hdj) i (by omega) hji).symm
  ·rw [hD.g2 t (fun j oj hoj hlj hdj=>hw ⟨j,oj,hoj,hdj,hlj⟩)]
   refine (hT.keeps i (by omega) fun j oj hj hoj hdj=>?_).symm
   rcases hok j oj hoj hdj with e | ⟨e1,e2⟩ | ⟨e1,e2⟩
   ·omega
   ·rw [Nat.zero_add] at e2
    exact hw ⟨j,oj,hoj,hdj,(bef_i e2).1⟩
   ·omega
 have conv:∀{p S L G E},DS X w0 Sb B n0 N ops tr z fr listed a w p S q L G E→(∀x∈E,isEff X o.op=true→i≤x.j)→∀x∈E,x.d∈opsL o++guardL ops.toList o→i≤x.j:=fun {p S L G E} hD hEi x hx hm=>by
  obtain ⟨_,⟨o2,f2,f3,f5,_⟩,_⟩:=hD.e x hx
  obtain ⟨d,_,k3,_,k6,_⟩:=earlyAl_ok f3
  rw [f5] at k3
  cases k3
  exact hEi x hx (k6 i o ho hm)
 have step_congr:∀{G:Fr},(∀t,t∈opsL o++guardL ops.toList o→get G t=get tc.fr t)→∀{nk:Nat} {M:Mm},xstep X xi Yx' ops.toList o nk G M=xstep X xi Yx' ops.toList o nk tc.fr M:=fun {G} slot {nk M}=>by
  have hop2:xop X xi Yx' nk G M o.op=xop X xi Yx' nk tc.fr M o.op:=xop_congr fun x hx=>by
   cases x with
   | tmp t=>exact slot t (List.mem_append_left _ (opsL_mem hx))
   | const v=>cases v<;>rfl
   | _=>rfl
  have hg:xguard ops.toList o.guard G=xguard ops.toList o.guard tc.fr:=by
   unfold xguard
   cases hgd:o.guard with
   | none=>rfl
   | some g=>
    obtain ⟨j,want⟩:=g
    dsimp only
    cases hds:dstOf ops.toList j with
    | none=>rfl
    | some t=>
     dsimp only
     rw [slot t (List.mem_append_right _ (by unfold guardL;rw [hgd];dsimp only;rw [hds];simp))]
  unfold xstep
  rw [hg,hop2]
 have putG:∀{y:SV} {G fr1 fr2:Fr} {y':SV},putX N o.dst y' fr1=some fr2→∃G',putX N o.dst y G=some G':=fun {y G fr1 fr2 y'} h=>by
  unfold putX at h ⊢
  split
  ·exact ⟨_,rfl⟩
  ·rename_i d hd
   rw [hd] at h
   dsimp only at h
   split at h
   ·exact ⟨_,rfl⟩
   ·cases h
 have h0p:∀{p},p≤ops.toList.length→n0≤(stX tr z p).1:=fun {p} hpn=>by
  have:=hT.mono' (Nat.zero_le p) hpn
  rw [hT.zero] at this
  exact Nat.le_trans h0 this
 have lay:∀{R:Act→World→Prop},((Region.wanted o (yielded ops.toList.toArray a.tmps)=true∧Oper.wpIn (FF r) n P o a w R Q)∨(Region.wanted o (yielded ops.toList.toArray a.tmps)=false∧R (a.put o.dst undef) w))→wpOpIn (FF r) n P ops Q i R a w:=fun {R} g3=>by
  unfold wpOpIn
  rw [hop]
  dsimp only
  have hto:ops.toList.toArray=ops:=by simp
  rw [hto] at g3
  rcases g3 with ⟨hw,g3⟩ | ⟨hw,g3⟩
  ·rw [if_pos hw]
   exact g3
  ·rw [if_neg (by rw [hw];simp)]
   exact ⟨fun _ _=>trivial,g3⟩
 have run:∀{p p' nk':Nat} {M':Mm} {S L G E},DS X w0 Sb B n0 N ops tr z fr listed a w p S q L G E→(∀x∈E,isEff X o.op=true→i≤x.j)→xstep X xi Yx' ops.toList o (stX tr z p).1 tc.fr (stX tr z p).2.2=some (tc.y,nk',M')→p'≤ops.toList.length→nk'=(stX tr z p').1→M'=(stX tr z p').2.2 →
   (∀e oe,ops.toList[e]?=some oe→isEff X oe.op=true→((listed.setIfInBounds i true).getD e false=true↔e<p'∨∃x∈E,x.j=e))→(∀x∈E,p'≤x.j) →
   wpOpIn (FF r) n P ops Q i (fun a' w'=>DInv X w0 Sb B n0 N ops tr z fr (listed.setIfInBounds i true) a' w') a w:=by
  intro p p' nk' M' S L G E hD hEi hst hp' e1 e2 hpe' hEp
  obtain ⟨G',hG'⟩:=putG (y:=tc.y) (G:=G) ht.put
  have hget:∀t,get G' t=if o.dst=some t then tc.y else get G t:=putX_get hG'
  have:=exec (r:=r) (n:=n) (Q:=Q) (fr':=G') (E:=E) (R:=fun a' w'=>DInv X w0 Sb B n0 N ops tr z fr (listed.setIfInBounds i true) a' w') hX hI hYr hY hD.c (fun x hx=>(hD.e x hx).2.2.1) (h0p hD.pn) hD.r hD.f hD.l ((step_congr (slot hD (conv hD hEi))).trans hst) hG' (by
   intro a w S' q' L' hc' h1 h2 h3 _ hE'
   refine ⟨hcl',by simpa using hsz,p',S',q',L',G',E,hp',hpe',hc',by rw [←e2];exact h1,by rw [←e1];exact h2,by rw [←e1];exact h3,fun j oj tj d hoj htj hlj hnE hdj=>?_,fun t hno=>?_,fun x hx=>?_,hD.nd⟩
   ·rw [hget]
    by_cases hji:j=i
    ·subst hji
     rw [ho] at hoj
     cases hoj
     rw [ht.get] at htj
     cases htj
     rw [if_pos hdj]
    ·rw [if_neg (fun hd2=>hji (uniq ho hd2 j oj hoj hdj))]
     rw [getD_set_ne false (Ne.symm hji)] at hlj
     exact hD.g1 j oj tj d hoj htj hlj hnE hdj
   ·rw [hget]
    rw [if_neg (hno i o ho hii)]
    exact hD.g2 t fun j oj hoj hlj=>hno j oj hoj (getD_set_true hlj)
   ·obtain ⟨k1,⟨o2,k2,k3,k5,k6⟩,_,k7⟩:=hD.e x hx
    refine ⟨hEp x hx,⟨o2,k2,k3,k5,k6⟩,by rw [←e1];exact hE' x hx,?_⟩
    rw [hget]
    have hli:listed.getD x.j false=true:=(hD.pe x.j o2 k2 ((earlyAl_ok k3).elim fun _ k=>k.2.2.1)).2 (.inr ⟨x,hx,rfl⟩)
    have hxi:x.j≠i:=fun e=>by rw [e,hunf] at hli;cases hli
    rw [if_neg (fun hd2=>hxi (uniq ho hd2 x.j o2 k2 k5))]
    exact k7)
  exact lay this.2.2
 obtain ⟨hck1,hck2⟩:=xchk_ok hchk i o tc ho ht.get
 rw [Nat.zero_add] at hck1 hck2
 have xne:∀{p S L G E},DS X w0 Sb B n0 N ops tr z fr listed a w p S q L G E→∀x∈E,x.j≠i:=fun {p S L G E} hD x hx e=>by
  obtain ⟨_,⟨o2,k2,k3,_⟩,_⟩:=hD.e x hx
  have hli:listed.getD x.j false=true:=(hD.pe x.j o2 k2 ((earlyAl_ok k3).elim fun _ k=>k.2.2.1)).2 (.inr ⟨x,hx,rfl⟩)
  rw [e,hunf] at hli
  cases hli
 cases he:isEff X o.op with
 | true=>
  have hip:∀{p S L G E},DS X w0 Sb B n0 N ops tr z fr listed a w p S q L G E→p≤i:=fun {p S L G E} hD=>by
   rcases Nat.lt_or_ge i p with h | h
   ·have:=(hD.pe i o ho he).2 (.inl h)
    rw [hunf] at this
    cases this
   ·exact h
  cases hea:earlyAl X ops.toList o with
  | false=>
   have hck1:=hck1 he
   rw [hea] at hck1
   have hx:=xeffs_ok hck1
   have hall2:∀e oe,ops.toList[e]?=some oe→isEff X oe.op=true→p≤e→e<i→∃x∈E,x.j=e:=fun e oe hoe hee h1 h2=>by
    have:=hx e oe hoe hee (by rw [Nat.zero_add];exact h2)
    rw [Nat.zero_add] at this
    rcases (hD.pe e oe hoe hee).1 (bef_i this).1 with h | h
    ·omega
    ·exact h
   obtain ⟨S1,L1,G1,E1,hD1,hsub⟩:=DS.adv hT h0 hslots (i-p) hD (by have:=hip hD;omega) (fun e oe hoe hee h1 h2=>hall2 e oe hoe hee h1 (by have:=hip hD;omega))
   rw [show p+(i-p)=i by have:=hip hD;omega] at hD1
   have hst:=ht.step
   have hP:stX tr z i=(tc.nk,tc.fr,tc.M):=stX_at ht.get
   refine run (p:=i) (p':=i+1) hD1 (fun x hx _=>(hD1.e x hx).1) (by rw [hP];exact hst) (by omega) rfl rfl (fun e oe hoe hee=>?_) (fun x hx=>?_)
   ·by_cases hei:e=i
    ·subst hei;simp [hil2]
    ·rw [getD_set_ne false (Ne.symm hei),hD1.pe e oe hoe hee]
     constructor
     ·rintro (h | h)
      ·exact .inl (by omega)
      ·exact .inr h
     ·rintro (h | h)
      ·exact .inl (by omega)
      ·exact .inr h
   ·have h1:=(hD1.e x hx).1
    have h2:=xne hD1 x hx
    omega
  | true=>
   obtain ⟨d,g2,g3,_,_,g7⟩:=earlyAl_ok hea
   have hEi:∀x∈E,x.d∈opsL o++guardL ops.toList o→i≤x.j:=fun x hx hm=>by
    obtain ⟨_,⟨o2,f2,f3,f5,_⟩,_⟩:=hD.e x hx
    exact (g7 x.j o2 x.d f2 ((earlyAl_ok f3).elim fun _ k=>k.2.2.1) f5 hm).elim
   have hsl:=slot hD hEi
   obtain ⟨lb,ow,lk,lnd,ly,lnk,lM,lall⟩:=early_step hea ((step_congr hsl).trans ht.step)
   have hle:(stX tr z p).1≤tc.nk:=by
    have:=hT.mono' (hip hD) (by omega)
    rw [stX_at ht.get] at this
    exact this
   obtain ⟨M2,hM2⟩:=xput_le (M2:=(stX tr z p).2.2) (y:=some lb) lM hle
   have hgen:∀(k:Nat) (hk:k=(stX tr z p).1),wpOpIn (FF r) n P ops Q i (fun a' w'=>DInv X w0 Sb B n0 N ops tr z fr (listed.setIfInBounds i true) a' w') a w:=by
    intro k hk
    rw [←hk] at hM2
    let xw:Ea:=⟨i,d,lb,S 0,ow⟩
    obtain ⟨G',hG'⟩:=putG (y:=xw.wd k) (G:=G) ht.put
    have hG2:G'=(d,xw.wd k)::G:=by
     unfold putX at hG'
     rw [g3] at hG'
     dsimp only at hG'
     split at hG'<;>cases hG'
     rfl
    have hf:=hD.f
    have hl:=hD.l
    have hR:=hD.r
    rw [←hk] at hf hl
    have hst2:xstep X xi Yx' ops.toList o k G (stX tr z p).2.2=some (xw.wd k,k+1,M2):=lall k _ _ hM2
    have:=exec (r:=r) (n:=n) (Q:=Q) (fr':=G') (E:=E) (R:=fun a' w'=>DInv X w0 Sb B n0 N ops tr z fr (listed.setIfInBounds i true) a' w') hX hI hYr hY hD.c (fun x hx=>by rw [hk];exact (hD.e x hx).2.2.1) (by rw [hk];exact h0p hD.pn) hR hf hl hst2 hG' (by
     intro a w S' q' L' hc' h1 h2 h3 hSS hE'
     subst hG2
     have hgl:∀j,getL L' j=if k=j then some lb else getL L j:=fun j=>by
      rw [h1 j,xput_get hM2,hR j]
     have hnk:getL L' k=some lb:=by rw [hgl,if_pos rfl]
     have hin:∀j lb,getL L j=some lb→getL L' j=some lb∧j≠k:=fun j lb hj=>by
      have hjk:j≠k:=fun e=>by have:=hl.key hj;omega
      exact ⟨by rw [hgl,if_neg (Ne.symm hjk)];exact hj,hjk⟩
     have hm:Mem w0 q' S' L w:=⟨fun j lb hj=>hc'.m.ch j lb (hin j lb hj).1,fun j lb j' lb' hj hj'=>hc'.m.ap j lb j' lb' (hin j lb hj).1 (hin j' lb' hj').1,fun j lb hj=>hc'.m.po j lb (hin j lb hj).1,fun j lb hj=>hc'.m.fz j lb (hin j lb hj).1,hc'.m.on,hc'.m.be,hc'.m.gw⟩
     have hchk:=hc'.m.ch k _ hnk
     let x0:Ea:=⟨i,d,lb,S' k,ow⟩
     have hbk:blk S' k lb=x0.bk:=Ea.blk_eq (x:=x0) rfl
     have hx0:EFact w0 q' S' L w k x0:=⟨fun k' hk'=>chunk_key (S:=S') (k:=k) updS_same (fun j hj=>updS_other (fun e=>by subst e;rw [hk'] at hj;cases hj)) hchk,fun j hj=>lk k hf j hj,
      fun b hb=>hc'.m.fz k _ hnk _ (hbk.trans hb),fun b hb=>hc'.m.po k _ hnk _ (hbk.trans hb),fun j lb hj b hb hxb=>hc'.m.ap j lb k _ (hin j lb hj).1 hnk (hin j lb hj).2 _ hb (hbk.trans hxb),fun b hb=>chunk_lt hchk lnd (hbk.trans hb)⟩
     have hget:∀u,get ((d,SV.v x0.vl)::G) u=if d=u then .v x0.vl else get G u:=fun u=>by rw [get_cons]
     refine ⟨hcl',by simpa using hsz,p,S',q',L,(d,.v x0.vl)::G,x0::E,hD.pn,fun e oe hoe hee=>?_,⟨hc'.ag,fun e he hB=>hD.c.b e he hB,hm,fun u=>?_,hc'.n,hc'.d⟩,hR,?_,hD.l,fun j oj tj e hoj htj hlj hnE hdj=>?_,fun u hno=>?_,fun x hx=>?_,fun x hx y hy b hb hb2=>?_⟩
     ·by_cases hei:e=i
      ·subst hei
       simp only [hii,true_iff]
       exact .inr ⟨x0,.head _,rfl⟩
      ·rw [getD_set_ne false (Ne.symm hei),hD.pe e oe hoe hee]
       constructor
       ·rintro (h | ⟨x,hx,h⟩)
        ·exact .inl h
        ·exact .inr ⟨x,.tail _ hx,h⟩
       ·rintro (h | ⟨x,hx,h⟩)
        ·exact .inl h
        ·rcases List.mem_cons.1 hx with rfl | hx
         ·exact (hei h.symm).elim
         ·exact .inr ⟨x,hx,h⟩
     ·have:=hc'.f u
      rw [get_cons] at this
      rw [hget]
      split at this
      ·rename_i e;rw [if_pos e];exact (Ea.okv_wd (x:=x0) (S:=S') (k:=k) rfl).1 this
      ·rename_i e;rw [if_neg e];exact this
     ·rw [←hk]
      exact hf.cons (fun j hj=>by simp [SV.has] at hj)
     ·rw [hget]
      have hji:j≠i:=fun e'=>hnE x0 (.head _) e'.symm
      rw [if_neg (fun e'=>hji (uniq ho g3 j oj hoj (by rw [hdj,e'])))]
      rw [getD_set_ne false (Ne.symm hji)] at hlj
      exact hD.g1 j oj tj e hoj htj hlj (fun x hx=>hnE x (.tail _ hx)) hdj
     ·rw [hget,if_neg (fun e'=>hno i o ho hii (by rw [g3,e']))]
      exact hD.g2 u fun j oj hoj hlj=>hno j oj hoj (getD_set_true hlj)
     ·rcases List.mem_cons.1 hx with rfl | hx
      ·refine ⟨hip hD,⟨o,ho,hea,g3,fun t2 ht2=>?_⟩,by rw [←hk];exact hx0,by rw [hget,if_pos rfl]⟩
       rw [ht.get] at ht2
       cases ht2
       refine ⟨ly,?_,?_⟩
       ·exact lnk
       ·exact lM
      ·obtain ⟨k1,⟨o2,k2,k3,k5,k6⟩,kE,k7⟩:=hD.e x hx
       have hE'':=hE' x hx
       refine ⟨k1,⟨o2,k2,k3,k5,k6⟩,⟨hE''.h,kE.k,hE''.f,hE''.q,fun j lb hj b hb=>hE''.l j lb (hin j lb hj).1 b hb,hE''.z⟩,?_⟩
       rw [hget,if_neg (fun e'=>xne hD x hx (uniq ho g3 x.j o2 k2 (by rw [k5,e'])))]
       exact k7
     ·rcases List.mem_cons.1 hx with rfl | hx<;>rcases List.mem_cons.1 hy with rfl | hy
      ·rfl
      ·exact ((hE' y hy).l k _ hnk b (hbk.trans hb) hb2).elim
      ·exact ((hE' x hx).l k _ hnk b (hbk.trans hb2) hb).elim
      ·exact hD.nd x hx y hy b hb hb2)
    exact lay this.2.2
   exact hgen _ rfl
 | false=>
  have hEi:∀x∈E,isEff X o.op=true→i≤x.j:=fun x hx h=>by rw [he] at h;cases h
  have hpairs0:=hck2 he
  have fin:xstep X xi Yx' ops.toList o (stX tr z p).1 tc.fr (stX tr z p).2.2=some (tc.y,(stX tr z p).1,(stX tr z p).2.2)→wpOpIn (FF r) n P ops Q i (fun a' w'=>DInv X w0 Sb B n0 N ops tr z fr (listed.setIfInBounds i true) a' w') a w:=fun h=>by
   refine run hD hEi h hD.pn rfl rfl (fun e oe hoe hee=>?_) (fun x hx=>(hD.e x hx).1)
   have hei:e≠i:=fun e'=>by subst e';rw [ho] at hoe;cases hoe;rw [he] at hee;cases hee
   rw [getD_set_ne false (Ne.symm hei)]
   exact hD.pe e oe hoe hee
  have canon:xstep X xi Yx' ops.toList o tc.nk tc.fr tc.M=some (tc.y,tc.nk,tc.M):=by
   have:=ht.step
   obtain ⟨e1,e2⟩:=xstep_same he this
   rw [e1,e2] at this
   exact this
  have hpn:=hD.pn
  rcases Bool.or_eq_true_iff.1 hpairs0 with hls | hpairs
  ·refine fin (ldSafe_ok hT ht.get hls canon hpn fun e oe g1 g2 g3 g4 hbit=>?_)
   have hel:e<ops.toList.length:=(List.getElem?_eq_some_iff.1 g1).1
   obtain ⟨m,hm1,hm2⟩:=befs_some hel
   have:=bef_j hel hbit
   have h':=(hD.pe e oe g1 g2).2 (.inl g4)
   rw [this] at h'
   cases h'
  have pair:=fun e oe te hoe hte hee=>xpairs_ok (frF:=z.2.1) hpairs e oe te hoe hte hee
  rcases Nat.lt_or_ge i p with hip | hip
  ·-- later than in the text
   by_cases hex:∃e oe,ops.toList[e]?=some oe∧isEff X oe.op=true∧i≤e∧e<p
   ·have last:∀(d:Nat),(∃e oe,ops.toList[e]?=some oe∧isEff X oe.op=true∧i≤e∧e<p∧p-e≤d)→∃e oe,ops.toList[e]?=some oe∧isEff X oe.op=true∧i≤e∧e<p∧∀e' oe',ops.toList[e']?=some oe'→isEff X oe'.op=true→e+1≤e'→e'<p→False:=by
     intro d
     induction d with
     | zero=>rintro ⟨e,oe,_,_,_,h1,h2⟩;omega
     | succ d ih=>
      rintro ⟨e,oe,h1,h2,h3,h4,h5⟩
      by_cases hm:∃e' oe',ops.toList[e']?=some oe'∧isEff X oe'.op=true∧e+1≤e'∧e'<p
      ·obtain ⟨e',oe',g1,g2,g3,g4⟩:=hm
       exact ih ⟨e',oe',g1,g2,by omega,g4,by omega⟩
      ·exact ⟨e,oe,h1,h2,h3,h4,fun e' oe' g1 g2 g3 g4=>hm ⟨e',oe',g1,g2,g3,g4⟩⟩
    obtain ⟨e0,oe0,h1,h2,h3,h4⟩:=hex
    obtain ⟨e,oe,g1,g2,g3,g4,g5⟩:=last (p-e0) ⟨e0,oe0,h1,h2,h3,h4,Nat.le_refl _⟩
    have hei:e≠i:=fun e'=>by subst e';rw [ho] at g1;cases g1;rw [he] at g2;cases g2
    obtain ⟨te,ge⟩:=hT.at_ e oe g1
    have hp1:=pair e oe te g1 ge.get g2
    rw [Nat.zero_add] at hp1
    have hel:e<ops.toList.length:=(List.getElem?_eq_some_iff.1 g1).1
    obtain ⟨k1,k2⟩:=hT.calm' (i:=e+1) (j:=p) (by omega) hpn g5
    unfold xpair at hp1
    have hb:Nat.blt e i=false:=by
     cases hb:Nat.blt e i with
     | false=>rfl
     | true=>have:e<i:=Nat.le_of_ble_eq_true hb;omega
    rw [hb] at hp1
    dsimp only at hp1
    obtain ⟨m,hm1,hm2⟩:=befs_some hel
    have hm3:nth (befs ops.toList []) e=some m:=by rw [nth_get];exact hm1
    rw [hm3] at hp1
    dsimp only at hp1
    split at hp1
    ·rename_i hbit
     have:=bef_j hel (by rw [hm2];exact hbit)
     have h':=(hD.pe e oe g1 g2).2 (.inl g4)
     rw [this] at h'
     cases h'
    ·have:=xsame_ok (nk3:=0) (M3:=.lf) he canon hp1
     refine fin ?_
     rw [k1,k2]
     exact this
   ·obtain ⟨k1,k2⟩:=hT.calm' (Nat.le_of_lt hip) hpn (fun e oe g1 g2 g3 g4=>hex ⟨e,oe,g1,g2,g3,g4⟩)
    refine fin ?_
    rw [k1,k2,stX_at ht.get]
    exact canon
  ·-- earlier than in the text,or there
   by_cases hex:∃e oe,ops.toList[e]?=some oe∧isEff X oe.op=true∧p≤e∧e<i
   ·have first:∀(d:Nat),(∃e oe,ops.toList[e]?=some oe∧isEff X oe.op=true∧p≤e∧e<i∧e-p≤d)→∃e oe,ops.toList[e]?=some oe∧isEff X oe.op=true∧p≤e∧e<i∧∀e' oe',ops.toList[e']?=some oe'→isEff X oe'.op=true→p≤e'→e'<e→False:=by
     intro d
     induction d with
     | zero=>rintro ⟨e,oe,h1,h2,h3,h4,h5⟩;exact ⟨e,oe,h1,h2,h3,h4,fun e' _ _ _ g1 g2=>by omega⟩
     | succ d ih=>
      rintro ⟨e,oe,h1,h2,h3,h4,h5⟩
      by_cases hm:∃e' oe',ops.toList[e']?=some oe'∧isEff X oe'.op=true∧p≤e'∧e'<e
      ·obtain ⟨e',oe',g1,g2,g3,g4⟩:=hm
       exact ih ⟨e',oe',g1,g2,g3,by omega,by omega⟩
      ·exact ⟨e,oe,h1,h2,h3,h4,fun e' oe' g1 g2 g3 g4=>hm ⟨e',oe',g1,g2,g3,g4⟩⟩
    obtain ⟨e0,oe0,h1,h2,h3,h4⟩:=hex
    obtain ⟨e,oe,g1,g2,g3,g4,g5⟩:=first (e0-p) ⟨e0,oe0,h1,h2,h3,h4,Nat.le_refl _⟩
    obtain ⟨te,ge⟩:=hT.at_ e oe g1
    have hp1:=pair e oe te g1 ge.get g2
    rw [Nat.zero_add] at hp1
    obtain ⟨k1,k2⟩:=hT.calm' (i:=p) (j:=e) g3 (by omega) g5
    rw [stX_at ge.get] at k1 k2
    unfold xpair at hp1
    have hb:Nat.blt e i=true:=Nat.ble_eq_true_of_le g4
    rw [hb] at hp1
    dsimp only at hp1
    obtain ⟨m,hm1,hm2⟩:=befs_some hil
    have hm3:nth (befs ops.toList []) i=some m:=by rw [nth_get];exact hm1
    rw [hm3] at hp1
    dsimp only at hp1
    split at hp1
    ·rename_i hbit hea
     have:=(bef_i (by rw [hm2];exact hbit)).1
     unfold earlyOf at hea
     cases hea1:earlyAl X ops.toList oe with
     | true=>
      rw [hea1,hm3] at hea
      dsimp only at hea
      refine passed_ok (by simpa using hea) fun e' oe' q1 q2 q3 q4 q5=>?_
      rw [Nat.zero_add] at q4 q5
      have:=(bef_i (j:=e') (by rw [hm2];exact q5)).1
      rcases (hD.pe e' oe' q1 q2).1 this with h' | ⟨x,hx,hxe⟩
      ·omega
      ·obtain ⟨_,⟨o2,k2,k3,_⟩,_⟩:=hD.e x hx
       rw [hxe,q1] at k2
       cases k2
       rw [k3] at q3
       cases q3
     | false=>
      rcases (hD.pe e oe g1 g2).1 this with h' | ⟨x,hx,hxe⟩
      ·omega
      ·obtain ⟨_,⟨o2,k2,k3,_⟩,_⟩:=hD.e x hx
       rw [hxe,g1] at k2
       cases k2
       rw [k3] at hea1
       cases hea1
    ·have:=xsame_ok (nk3:=0) (M3:=.lf) he canon hp1
     refine fin ?_
     rw [←k1,←k2]
     exact this
   ·obtain ⟨k1,k2⟩:=hT.calm' hip (by omega) (fun e oe g1 g2 g3 g4=>hex ⟨e,oe,g1,g2,g3,g4⟩)
    rw [stX_at ht.get] at k1 k2
    refine fin ?_
    rw [←k1,←k2]
    exact canon
end
end Exe
end Go.Eng
end
