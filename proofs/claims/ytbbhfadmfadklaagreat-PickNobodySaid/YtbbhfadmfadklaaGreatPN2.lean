/-
  Texts that the law leans on. Nothing here is trusted.
-/
import Derived.Test.YtbbhfadmfadklaaGreatPN1
set_option linter.unusedVariables false
set_option linter.unusedSimpArgs false
section
namespace Go.Eng
open Go Go.RowKit
namespace Exe
noncomputable section
variable {P : Program} {S S' Sb : Pl} {fr fr' : Fr} {L L' : LL} {q q' : PH} {w0 : W0} {w w' : World} {a a' : Act} {n0 N : Nat} {B : Nat → Prop} {X : XE} {xi : XI} {Yx' : Yx}
variable {r : Option Nat} {n : Nat} {Q : Exit → Act → World → Prop} {M M' : Mm} {nk nk' : Nat} {y : SV} {Y : Ye} {all : List Oper} {ops : Array Oper}
theorem unl_lt {listed : Array Bool} {i : Nat} (hi : i < listed.size) (hu : listed.getD i false = false) : ∀ (l : List Nat), i ∈ l → l.countP (fun j => !(listed.setIfInBounds i true).getD j false) < l.countP (fun j => !listed.getD j false) := by
  have le : ∀ l : List Nat, l.countP (fun j => !(listed.setIfInBounds i true).getD j false) ≤ l.countP (fun j => !listed.getD j false) := fun l =>
    List.countP_mono_left fun j _ hj => by
      cases hl : listed.getD j false with
      | false => rfl
      | true => rw [getD_set_true hl] at hj; cases hj
  intro l
  induction l with
  | nil => intro h; cases h
  | cons x l ih =>
    intro h
    rw [List.countP_cons, List.countP_cons]
    rcases List.mem_cons.1 h with rfl | h
    · have h1 : (listed.setIfInBounds i true).getD i false = true := by simp [hi]
      rw [h1, hu]
      have := le l
      simp only [Bool.not_true, Bool.not_false, if_true, Bool.false_eq_true, if_false]
      omega
    · have h1 := ih h
      by_cases hx : listed.getD x false = true
      · rw [getD_set_true hx, hx]
        simp only [Bool.not_true, Bool.false_eq_true, if_false]
        omega
      · have hx : listed.getD x false = false := by simpa using hx
        rw [hx]
        cases (listed.setIfInBounds i true).getD x false <;> simp only [Bool.not_true, Bool.not_false, if_true, Bool.false_eq_true, if_false] <;> omega
theorem draw_any (hX : XOk P X) (hI : InlOk P (XInl xi)) (hYr : YRel Yx' Y) (hY : YOk P Sb Y n0) {tr : List Tc} {z : Nat × Fr × Mm} {fr : Fr} {nk : Nat} {M : Mm} (hT : Trc X xi Yx' N ops.toList tr z nk fr M) (h0 : n0 ≤ nk)
    (hreg : regOk ops = true) (hchk : xchk X xi Yx' ops.toList (befs ops.toList []) tr z.1 z.2.2 ops.toList tr 0 = true) (hf0 : hF nk fr)
    (hQ : ∀ a w, St w0 Sb B n0 N (XK z.1 z.2.1 z.2.2) a w → Q .normal a w) :
    ∀ (fuel : Nat) (listed : Array Bool) (a : Act) (w : World), DInv X w0 Sb B n0 N ops tr z fr listed a w → (List.range ops.size).countP (fun j => !listed.getD j false) ≤ fuel → wpAnyIn (FF r) n P .any ops Q fuel listed a w := by
  have fin : ∀ (listed : Array Bool) (a : Act) (w : World), DInv X w0 Sb B n0 N ops tr z fr listed a w → Region.ready .any ops listed = [] → Q .normal a w := by
    intro listed a w hd hr
    have hedge : edgesOk ops.toList ops.toList 0 = true := by simp only [regOk, Bool.and_eq_true] at hreg; exact hreg.1.1.1
    have hslots : slotsOk (befs ops.toList []) ops.toList ops.toList 0 = true := by simp only [regOk, Bool.and_eq_true] at hreg; exact hreg.1.1.2
    obtain ⟨hcl, hsz, p, hpn, hpe, S, q, L, G, hc, hR, hF0, hL0, hG1, hG2⟩ := hd
    have hall : ∀ i, i < ops.size → listed.getD i false = true := by
      intro i
      induction i using Nat.strongRecOn with
      | _ i ih =>
        intro hi
        cases hl : listed.getD i false with
        | true => rfl
        | false =>
          exfalso
          have hop : ops[i]? = some ops[i] := Array.getElem?_eq_getElem hi
          have : i ∈ Region.ready .any ops listed := by
            refine mem_ready.2 ⟨?_, ops[i], hop, fun e he hb => ?_⟩
            · have hi2 : i < listed.size := by rw [hsz]; exact hi
              rw [Array.getD_eq_getD_getElem?, Array.getElem?_eq_getElem hi2] at hl ⊢
              exact hl
            · have := edgesOk_ok hedge i ops[i] (by rw [Array.getElem?_toList]; exact hop) e he hb
              exact ih e.on (by omega) (by omega)
          rw [hr] at this
          cases this
    have hlen : ops.toList.length = ops.size := by simp
    have hpF : (stX tr z p).1 = z.1 ∧ (stX tr z p).2.2 = z.2.2 := by
      obtain ⟨k1, k2⟩ := hT.calm' hpn (Nat.le_refl _) (fun e o ho he h1 h2 => by
        have := (hpe e o ho he).1 (hall e (by omega))
        omega)
      have hz : stX tr z ops.toList.length = z := by
        unfold stX
        rw [List.getElem?_eq_none (by rw [hT.len]; exact Nat.le_refl _)]
      rw [hz] at k1 k2
      exact ⟨k1.symm, k2.symm⟩
    have hz : stX tr z ops.toList.length = z := by
      unfold stX
      rw [List.getElem?_eq_none (by rw [hT.len]; exact Nat.le_refl _)]
    have uniq : ∀ {j : Nat} {oj : Oper} {d : Nat}, ops.toList[j]? = some oj → oj.dst = some d → ∀ j' o', ops.toList[j']? = some o' → o'.dst = some d → j' = j := fun {j oj d} hoj hdj j' o' ho' hd' => by
      have := dstOk_ok ((slotsOk_ok hslots j oj hoj).2 d (by simpa using hdj)) j' o' ho' hd'
      omega
    have hget : ∀ t, get G t = get z.2.1 t := fun t => by
      by_cases hw : ∃ (j : Nat) (oj : Oper), ops.toList[j]? = some oj ∧ oj.dst = some t
      · obtain ⟨j, oj, hoj, hdj⟩ := hw
        obtain ⟨tj, gj⟩ := hT.at_ j oj hoj
        have hjl : j < ops.toList.length := (List.getElem?_eq_some_iff.1 hoj).1
        rw [hG1 j oj tj t hoj gj.get (hall j (by omega)) hdj]
        have := hT.lays hoj hdj gj.get (uniq hoj hdj) ops.toList.length (Nat.le_refl _) hjl
        rw [hz] at this
        exact this.symm
      · rw [hG2 t (fun j oj hoj _ hdj => hw ⟨j, oj, hoj, hdj⟩)]
        have := hT.keeps (t := t) ops.toList.length (Nat.le_refl _) (fun j oj _ hoj hdj => hw ⟨j, oj, hoj, hdj⟩)
        rw [hz] at this
        exact this.symm
    have hfz : hF z.1 z.2.1 := by
      have := hT.hFs hf0 ops.toList.length (Nat.le_refl _)
      rw [hz] at this
      exact this
    refine hQ a w ⟨S, q, z.2.1, L, 0, hc.frame (fun t => by rw [← hget t]; exact hc.f t), rfl, by rw [← hpF.2]; exact hR, hfz, by rw [← hpF.1]; exact hL0⟩
  intro fuel
  induction fuel with
  | zero =>
    intro listed a w hd hcn
    have hr : Region.ready .any ops listed = [] := by
      rw [List.eq_nil_iff_forall_not_mem]
      intro i hi
      obtain ⟨hun, o, ho, _⟩ := mem_ready.1 hi
      have hil : i < ops.size := (Array.getElem?_eq_some_iff.1 ho).1
      have hil2 : i < listed.size := by rw [hd.sz]; exact hil
      have h0 := List.countP_eq_zero.1 (Nat.le_zero.1 hcn) i (List.mem_range.2 hil)
      rw [Array.getD_eq_getD_getElem?, Array.getElem?_eq_getElem hil2] at hun h0
      simp only [Option.getD_some] at hun h0
      rw [hun] at h0
      simp at h0
    exact ⟨hr, fin _ _ _ hd hr⟩
  | succ fuel ih =>
    intro listed a w hd hcn
    refine ⟨fin _ _ _ hd, fun i hi => ?_⟩
    refine wpOpIn_mono (fun a' w' hd' => ih _ a' w' hd' ?_) (dinv_step hX hI hYr hY hT h0 hreg hchk hd hi)
    obtain ⟨hun, o, ho, _⟩ := mem_ready.1 hi
    have hil : i < ops.size := (Array.getElem?_eq_some_iff.1 ho).1
    have hil2 : i < listed.size := by rw [hd.sz]; exact hil
    have hunf : listed.getD i false = false := by
      rw [Array.getD_eq_getD_getElem?, Array.getElem?_eq_getElem hil2] at hun ⊢
      exact hun
    have := unl_lt hil2 hunf (List.range ops.size) (List.mem_range.2 hil)
    omega
theorem xdraw_ok (hX : XOk P X) (hI : InlOk P (XInl xi)) (hYr : YRel Yx' Y) (hY : YOk P Sb Y n0) {id : Nat} {nkF : Nat} {frF : Fr} {MF : Mm} (hc : Cfg w0 Sb B n0 N S q fr L a w) (h0 : n0 ≤ nk) (hR : Rep M L) (hf : hF nk fr) (hl : hL nk L)
    (hreg : regOk ops = true) (h : xdraw X xi Yx' N ops.toList nk fr M = some (nkF, frF, MF)) (hQ : nk ≤ nkF → ∀ a w, St w0 Sb B n0 N (XK nkF frF MF) a w → Q .normal a w) : (Code.region id ops true).wpIn (FF r) n P Q a w := by
  unfold xdraw at h
  split at h
  · cases h
  rename_i tr k1 f1 m1 htr
  split at h
  rotate_left
  · cases h
  rename_i hchk
  cases h
  obtain ⟨h1, h2, h3⟩ := xtrace_ok htr
  have hT : Trc X xi Yx' N ops.toList tr (nkF, frF, MF) nk fr M := ⟨h1, h2, h3⟩
  have hle : nk ≤ nkF := by
    have := hT.mono' (Nat.zero_le ops.toList.length) (Nat.le_refl _)
    rw [hT.zero] at this
    have hz : stX tr (nkF, frF, MF) ops.toList.length = (nkF, frF, MF) := by
      unfold stX
      rw [List.getElem?_eq_none (by rw [hT.len]; exact Nat.le_refl _)]
    rw [hz] at this
    exact this
  refine wpIn_region_any hX.e.mix (draw_any hX hI hYr hY hT h0 hreg hchk hf (hQ hle) ops.size _ a _ ?_ ?_)
  · have hdrew : Cl w0 q S L w { w with drawn := w.drawn + 1 } := ⟨fun _ _ _ _ _ => rfl, fun b o v hv => hc.m.on b o v hv, hc.m.be.drew⟩
    have hno : ∀ i, (Array.replicate ops.size false).getD i false = false := fun i => by
      rw [Array.getD_eq_getD_getElem?, Array.getElem?_replicate]; split <;> rfl
    refine ⟨fun j o hj => (by rw [hno] at hj; cases hj), by simp, 0, Nat.zero_le _, fun e o _ _ => ⟨fun hh => (by rw [hno] at hh; cases hh), fun hh => by omega⟩, S, q, L, fr, hc.mem (hc.m.of_cl hdrew), ?_, ?_, ?_, fun i o t d _ _ hh => (by rw [hno] at hh; cases hh), fun _ _ => rfl⟩
    · rw [hT.zero]; exact hR
    · rw [hT.zero]; exact hf
    · rw [hT.zero]; exact hl
  · have := List.countP_le_length (p := fun j => !(Array.replicate ops.size false).getD j false) (l := List.range ops.size)
    simpa using this
def vX (X : XE) (xi : XI) (lf N : Nat) (Yx' : Yx) (ro : Option Nat) (c : Code) : Nat → Nat → PH → Fr → LL → Ke → Prop := fun n0 nk q fr L K =>
  ∃ M ex nk' fr' M', Rep M L ∧ hF nk fr ∧ hL nk L ∧ n0 ≤ nk ∧ xC X xi lf N Yx' c ro nk fr M = some (ex, nk', fr', M') ∧ ∀ q' L', Rep M' L' → hF nk' fr' → hL nk' L' → nk ≤ nk' → K ex nk' q' fr' L'
theorem xnorm_c {t : Nat} {x : SV} {fr : Fr} {s : Nat} : xnorm ((t, x) :: fr) s = (match bit s t with | true => xnorm fr s | false => (t, x) :: xnorm fr (Nat.lor s (2 ^ t))) := rfl
theorem xnorm_get : ∀ {fr : Fr} {s t : Nat}, bit s t = false → get (xnorm fr s) t = get fr t
  | [], s, t, _ => rfl
  | (u, x) :: fr, s, t, h => by
    rw [xnorm_c, get_cons]
    cases hu : bit s u with
    | true =>
      dsimp only
      rw [xnorm_get h, if_neg (fun e => by subst e; rw [h] at hu; cases hu)]
    | false =>
      dsimp only
      rw [get_cons]
      by_cases e : u = t
      · rw [if_pos e, if_pos e]
      · rw [if_neg e, if_neg e]
        exact xnorm_get (by rw [bit_lor, h, bit_pow]; simp [e])
theorem xnorm_h : ∀ {fr : Fr} {s k : Nat}, hasF k (xnorm fr s) = true → hasF k fr = true
  | [], s, k, h => h
  | (u, x) :: fr, s, k, h => by
    rw [xnorm_c] at h
    rw [hasF_cons, Bool.or_eq_true]
    split at h
    · exact .inr (xnorm_h h)
    · rw [hasF_cons, Bool.or_eq_true] at h
      exact h.imp id xnorm_h
theorem okF_xnorm {tm : Array Value} (h : okF S fr tm) : okF S (xnorm fr 0) tm := fun t => by
  rw [xnorm_get (by simp [bit])]
  exact h t
theorem xloop_ok {body : Nat → Fr → Mm → XR} {c : Code} {nkF : Nat} {frF : Fr} {MF : Mm} {ex : Ex} {K : Ke}
    (hbody : ∀ {w0 : W0} {nk q fr L S a w} {K : Ke}, Cfg w0 Sb B n0 N S q fr L a w → (∃ M ex nk' fr' M', Rep M L ∧ hF nk fr ∧ hL nk L ∧ n0 ≤ nk ∧ body nk fr M = some (ex, nk', fr', M') ∧ ∀ q' L', Rep M' L' → hF nk' fr' → hL nk' L' → nk ≤ nk' → K ex nk' q' fr' L') → c.wpIn (FF r) n P (QE w0 Sb B n0 N K) a w)
    {lf : Nat} (hc : Cfg w0 Sb B n0 N S q fr L a w) (h0 : n0 ≤ nk) (hR : Rep M L) (hf : hF nk fr) (hl : hL nk L) (h : xloop body lf nk fr M = some (ex, nkF, frF, MF)) (hne : ex ≠ .norm)
    (hK : ∀ q' L', Rep MF L' → hF nkF frF → hL nkF L' → nk ≤ nkF → K ex nkF q' frF L') : (Code.loop c).wpIn (FF r) n P (QE w0 Sb B n0 N K) a w := by
  let H : Nat → Act → World → Prop := fun j a w => ∃ w1 S q fr L nk1 M, Ext w0 w1 ∧ Cfg w1 Sb B n0 N S q fr L a w ∧ nk ≤ nk1 ∧ Rep M L ∧ hF nk1 fr ∧ hL nk1 L ∧ xloop body j nk1 fr M = some (ex, nkF, frF, MF)
  refine wpIn_loopG H id (i0 := lf) ⟨w0, S, q, fr, L, nk, M, .refl _, hc, Nat.le_refl _, hR, hf, hl, h⟩ fun j a w hj => ?_
  obtain ⟨w1, S, q, fr, L, nk1, M, hx, hc, hle, hR, hf, hl, h⟩ := hj
  cases j with
  | zero => cases h
  | succ j =>
    have e : xloop body (j + 1) nk1 fr M = (match body nk1 (xnorm fr 0) M with
      | some (.norm, nk', fr', M') => xloop body j nk' fr' M'
      | r => r) := rfl
    rw [e] at h
    have hfn : hF nk1 (xnorm fr 0) := fun k hk => hf k (xnorm_h hk)
    have hcn := hc.frame (okF_xnorm hc.f)
    generalize hb : body nk1 (xnorm fr 0) M = res at h
    have go : ∀ {ex' nk' fr' M'}, res = some (ex', nk', fr', M') → (∀ q' L', Rep M' L' → hF nk' fr' → hL nk' L' → nk1 ≤ nk' → (∀ (w2 : W0) (S' : Pl) (a' : Act) (w' : World), Ext w0 w2 → Cfg w2 Sb B n0 N S' q' fr' L' a' w' → Exit.then (fun a' w' => ∃ i, H i a' w' ∧ id i < id (j + 1)) (QE w0 Sb B n0 N K) (toX ex') a' w')) →
        c.wpIn (FF r) n P (Exit.then (fun a' w' => ∃ i, H i a' w' ∧ id i < id (j + 1)) (QE w0 Sb B n0 N K)) a w := by
      intro ex' nk' fr' M' hres hgo
      refine Code.wpIn_mono ?_ (hbody (nk := nk1) (K := fun e nk2 q2 fr2 L2 => e = ex' ∧ nk2 = nk' ∧ fr2 = fr' ∧ Rep M' L2 ∧ hF nk' fr' ∧ hL nk' L2 ∧ nk1 ≤ nk') hcn ⟨M, ex', nk', fr', M', hR, hfn, hl, Nat.le_trans h0 hle, hb.trans hres, fun q' L' h1 h2 h3 h4 => ⟨rfl, rfl, rfl, h1, h2, h3, h4⟩⟩)
      rintro e a' w' ⟨x, rfl, w2, hx2, S', q', fr2, L', k', hc', rfl, rfl, rfl, h1, h2, h3, h4⟩
      exact hgo q' L' h1 h2 h3 h4 w2 S' a' w' (hx.trans hx2) hc'
    match res, h with
    | none, h => cases h
    | some (.norm, nk', fr', M'), h =>
      refine go rfl fun q' L' h1 h2 h3 h4 w2 S' a' w' hx2 hc' => ⟨j, ⟨w2, S', q', fr', L', nk', M', hx2, hc', Nat.le_trans hle h4, h1, h2, h3, h⟩, Nat.lt_succ_self j⟩
    | some (.ret, nk', fr', M'), h =>
      cases h
      exact go rfl fun q' L' h1 h2 h3 h4 w2 S' a' w' hx2 hc' => ⟨.ret, rfl, w2, hx2, S', q', _, L', nkF, hc', hK q' L' h1 h2 h3 (Nat.le_trans hle h4)⟩
    | some (.exit m, nk', fr', M'), h =>
      cases h
      exact go rfl fun q' L' h1 h2 h3 h4 w2 S' a' w' hx2 hc' => ⟨.exit m, rfl, w2, hx2, S', q', _, L', nkF, hc', hK q' L' h1 h2 h3 (Nat.le_trans hle h4)⟩
    | some (.goto m, nk', fr', M'), h =>
      cases h
      exact go rfl fun q' L' h1 h2 h3 h4 w2 S' a' w' hx2 hc' => ⟨.goto m, rfl, w2, hx2, S', q', _, L', nkF, hc', hK q' L' h1 h2 h3 (Nat.le_trans hle h4)⟩
theorem xloop_ne {body : Nat → Fr → Mm → XR} : ∀ {lf nk : Nat} {fr : Fr} {M : Mm} {ex : Ex} {nkF : Nat} {frF : Fr} {MF : Mm}, xloop body lf nk fr M = some (ex, nkF, frF, MF) → ex ≠ .norm
  | 0, nk, fr, M, ex, nkF, frF, MF, h => by cases h
  | lf + 1, nk, fr, M, ex, nkF, frF, MF, h => by
    have e : xloop body (lf + 1) nk fr M = (match body nk (xnorm fr 0) M with
      | some (.norm, nk', fr', M') => xloop body lf nk' fr' M'
      | r => r) := rfl
    rw [e] at h
    split at h
    · exact xloop_ne h
    · rename_i hno
      intro hex
      subst hex
      exact hno _ _ _ h
end
end Exe
end Go.Eng
end
section
namespace Go.Eng
open Go Go.RowKit
namespace Exe
noncomputable section
variable {P : Program} {S S' Sb : Pl} {fr fr' : Fr} {L L' : LL} {q q' : PH} {w0 : W0} {w w' : World} {a a' : Act} {n0 N : Nat} {B : Nat → Prop} {X : XE} {xi : XI} {Yx' : Yx}
variable {r : Option Nat} {n : Nat} {Q : Exit → Act → World → Prop} {M M' : Mm} {nk nk' : Nat} {y : SV} {Y : Ye} {lf : Nat}
theorem hB_loop {m : Nat} {st : LoopState} {pe : Option Ex} : hB m (.loop st pe) := fun j hj => by simp [LB.has] at hj
theorem hB_dfr {m : Nat} : hB m .dfr := fun j hj => by simp [LB.has] at hj
theorem xputs_ok {K : Fr → Prop} : ∀ {ps : List Nat} {args : List SV} {fr fr1 : Fr}, xputs ps N args fr = some fr1 → K fr1 → putsF ps args N fr K
  | [], [], fr, fr1, h, hK => by cases h; exact hK
  | [], _ :: _, fr, fr1, h, hK => by cases h
  | p :: ps, [], fr, fr1, h, hK => by cases h
  | p :: ps, x :: xs, fr, fr1, h, hK => by
    have e : xputs (p :: ps) N (x :: xs) fr = (match Nat.blt p N with | true => xputs ps N xs ((p, x) :: fr) | false => none) := rfl
    rw [e] at h
    unfold putsF
    split at h
    · rename_i hp; rw [hp]; exact xputs_ok h hK
    · cases h
theorem xputs_h : ∀ {ps : List Nat} {args : List SV} {fr fr1 : Fr}, xputs ps N args fr = some fr1 → hF nk fr → hS nk args → hF nk fr1
  | [], [], fr, fr1, h, hf, _ => by cases h; exact hf
  | [], _ :: _, fr, fr1, h, _, _ => by cases h
  | p :: ps, [], fr, fr1, h, _, _ => by cases h
  | p :: ps, x :: xs, fr, fr1, h, hf, hs => by
    have e : xputs (p :: ps) N (x :: xs) fr = (match Nat.blt p N with | true => xputs ps N xs ((p, x) :: fr) | false => none) := rfl
    rw [e] at h
    split at h
    · exact xputs_h h (hf.cons hs.head) hs.tail
    · cases h
theorem round_rel {va vb : Code} {ps : List Nat} {args : List SV} {nk1 : Nat} {rr : SV} {K : SV → Nat → PH → LL → Prop} (hk : nk + 2 ≤ nk1) (hR : Rep M L) (hl : hL nk1 L) (hs : hS nk1 args) (hf : hF nk fr)
    (h : xround (xC X xi lf N Yx' va (some nk)) (xC X xi lf N Yx' vb (some nk)) N nk ps fr args nk1 M = some (rr, nk', M')) (hK : ∀ q' L', Rep M' L' → hL nk' L' → K rr nk' q' L') :
    roundK (vX X xi lf N Yx' (some nk) va) (vX X xi lf N Yx' (some nk) vb) N nk ps fr args nk1 q L K := by
  unfold xround at h
  unfold roundK
  split at h
  rotate_left
  · cases h
  rename_i hg
  rw [hR nk, hg]
  dsimp only
  split at h
  · cases h
  rename_i fr1 hp
  refine xputs_ok hp ?_
  have hf1 : hF nk1 fr1 := xputs_h hp (hf.mono (by omega)) hs
  split at h
  rotate_left
  · cases h
  rename_i nk2 fr2 M2 hxa
  split at h
  rotate_left
  · cases h
  rename_i hg2
  split at h
  · cases h
  rename_i M3 hM3
  split at h
  rotate_left
  · cases h
  rename_i ex nk3 fr3 M4 hxb
  split at h
  rotate_left
  · cases h
  rename_i hg4
  refine ⟨M, .norm, nk2, fr2, M2, hR, hf1, hl, Nat.le_refl _, hxa, fun q2 L2 h1 h2 h3 h4 => ?_⟩
  show (match getL L2 nk with
      | some (.loop .ready none) => _
      | _ => False)
  have hk2 : getL L2 nk = some (.loop .ready none) := (h1 nk).trans hg2
  rw [hk2]
  dsimp only
  rw [fLL_eq]
  refine ⟨M3, ex, nk3, fr3, M4, h1.set hk2 hM3, h2, h3.set hB_loop, h4, hxb, fun q4 L4 g1 g2 g3 g4 => ?_⟩
  have hk4 : getL L4 nk = some (.loop .busy none) := (g1 nk).trans hg4
  dsimp only
  rw [hk4]
  dsimp only
  cases ex with
  | norm =>
    dsimp only at h ⊢
    split at h
    · rename_i M5 hM5
      cases h
      rw [fLL_eq]
      exact hK q4 _ (g1.set hk4 hM5) (g3.set hB_loop)
    · cases h
  | ret =>
    dsimp only at h ⊢
    split at h
    · rename_i M5 hM5
      cases h
      rw [fLL_eq]
      exact hK q4 _ (g1.set hk4 hM5) (g3.set hB_loop)
    · cases h
  | exit m =>
    dsimp only at h ⊢
    split at h
    · rename_i M5 hM5
      cases h
      rw [fLL_eq]
      exact hK q4 _ (g1.set hk4 hM5) (g3.set hB_loop)
    · cases h
  | goto m =>
    dsimp only at h ⊢
    split at h
    · rename_i M5 hM5
      cases h
      rw [fLL_eq]
      exact hK q4 _ (g1.set hk4 hM5) (g3.set hB_loop)
    · cases h
theorem done_rel {nk1 : Nat} {ex : Ex} {fr1 : Fr} {K : Ke} {x : SV} (hle : nk ≤ nk1) (hR : Rep M L) (hl : hL nk1 L) (hf : hF nk fr) (h : xdone nk fr nk1 M = some (ex, nk', fr1, M'))
    (hK : ∀ q' L', Rep M' L' → hF nk' fr1 → hL nk' L' → nk ≤ nk' → K ex nk' q' fr1 L') : doneK nk fr K x nk1 q L := by
  have out : ∀ (e : Ex), (match xput M nk none with | some M1 => (match xput M1 (nk + 1) none with | some M2 => some (e, nk1, fr, M2) | none => none) | none => none) = some (ex, nk', fr1, M') → fLL (remL (remL L nk) (nk + 1)) fun L => K e nk1 q fr L := by
    intro e h
    split at h
    · rename_i M1 h1
      split at h
      · rename_i M2 h2
        cases h
        rw [fLL_eq]
        exact hK q _ ((hR.rem h1).rem h2) (hf.mono hle) (hL.rem (hL.rem hl)) hle
      · cases h
    · cases h
  unfold xdone at h
  unfold doneK
  dsimp only at h
  rw [hR nk]
  split at h
  · rename_i e; rw [e]; exact out _ h
  · rename_i e; rw [e]; exact out _ h
  · rename_i e; rw [e]; exact out _ h
  · rename_i e; rw [e]; exact out _ h
  · cases h
theorem xC_ok (hX : XOk P X) (hI : InlOk P (XInl xi)) (hYr : YRel Yx' Y) (c : Code) : codeOk c = true → ∀ ro, CodeOk P N Y ro c (vX X xi lf N Yx' ro c) := by
  induction c with
  | skip =>
    intro _ ro w0 n0 nk Sb S B q fr L K a w r n hr hro hY hc h
    obtain ⟨M, ex, nk', fr', M', hR, hf, hl, h0, h, hK⟩ := h
    cases h
    exact wpIn_skip ⟨.norm, rfl, w0, .refl _, S, q, _, L, _, hc, hK q L hR hf hl (Nat.le_refl _)⟩
  | label l =>
    intro _ ro w0 n0 nk Sb S B q fr L K a w r n hr hro hY hc h
    obtain ⟨M, ex, nk', fr', M', hR, hf, hl, h0, h, hK⟩ := h
    cases h
    exact wpIn_label ⟨.norm, rfl, w0, .refl _, S, q, _, L, _, hc, hK q L hR hf hl (Nat.le_refl _)⟩
  | exit l =>
    intro _ ro w0 n0 nk Sb S B q fr L K a w r n hr hro hY hc h
    obtain ⟨M, ex, nk', fr', M', hR, hf, hl, h0, h, hK⟩ := h
    cases h
    exact wpIn_exit ⟨.exit l, rfl, w0, .refl _, S, q, _, L, _, hc, hK q L hR hf hl (Nat.le_refl _)⟩
  | goto l =>
    intro _ ro w0 n0 nk Sb S B q fr L K a w r n hr hro hY hc h
    obtain ⟨M, ex, nk', fr', M', hR, hf, hl, h0, h, hK⟩ := h
    cases h
    exact wpIn_goto ⟨.goto l, rfl, w0, .refl _, S, q, _, L, _, hc, hK q L hR hf hl (Nat.le_refl _)⟩
  | ret =>
    intro _ ro w0 n0 nk Sb S B q fr L K a w r n hr hro hY hc h
    obtain ⟨M, ex, nk', fr', M', hR, hf, hl, h0, h, hK⟩ := h
    cases h
    exact wpIn_ret ⟨.ret, rfl, w0, .refl _, S, q, _, L, _, hc, hK q L hR hf hl (Nat.le_refl _)⟩
  | refuse s =>
    intro _ ro w0 n0 nk Sb S B q fr L K a w r n hr hro hY hc h
    obtain ⟨M, ex, nk', fr', M', hR, hf, hl, h0, h, hK⟩ := h
    cases h
  | region id ops draw =>
    intro hco ro w0 n0 nk Sb S B q fr L K a w r n hr hro hY hc h
    obtain ⟨M, ex, nk', fr', M', hR, hf, hl, h0, h, hK⟩ := h
    have fin : ∀ {nk1 fr1 M1}, some (Ex.norm, nk1, fr1, M1) = some (ex, nk', fr', M') → nk ≤ nk1 → ∀ a w, St w0 Sb B n0 N (XK nk1 fr1 M1) a w → QE w0 Sb B n0 N K .normal a w := by
      rintro nk1 fr1 M1 he hle a w ⟨S', q', fr2, L', k', hc', rfl, h1, h2, h3⟩
      cases he
      exact ⟨.norm, rfl, w0, .refl _, S', q', _, L', _, hc', hK q' L' h1 h2 h3 hle⟩
    cases draw with
    | false =>
      have h : (match xops X xi Yx' N ops.toList ops.toList nk fr M with | some (nk', fr', M') => some (Ex.norm, nk', fr', M') | none => none) = some (ex, nk', fr', M') := h
      split at h
      · rename_i nk1 fr1 M1 hx
        refine wpIn_region_list ?_
        have := xops_ok (r := r) (n := n) (Q := QE w0 Sb B n0 N K) hX hI hYr hY ops.toList hc h0 hR hf hl hx (fin h)
        simpa using this
      · cases h
    | true =>
      have h : (match xdraw X xi Yx' N ops.toList nk fr M with | some (nk', fr', M') => some (Ex.norm, nk', fr', M') | none => none) = some (ex, nk', fr', M') := h
      split at h
      · rename_i nk1 fr1 M1 hx
        exact xdraw_ok hX hI hYr hY hc h0 hR hf hl hco hx (fin h)
      · cases h
  | seq x y ihx ihy =>
    intro hco ro w0 n0 nk Sb S B q fr L K a w r n hr hro hY hc h
    simp only [codeOk, Bool.and_eq_true] at hco
    obtain ⟨M, ex, nk', fr', M', hR, hf, hl, h0, h, hK⟩ := h
    have h : (match xC X xi lf N Yx' x ro nk fr M with
      | some (.norm, nk', fr', M') => xC X xi lf N Yx' y ro nk' fr' M'
      | r => r) = some (ex, nk', fr', M') := h
    have go : ∀ {ex1 nk1 fr1 M1}, xC X xi lf N Yx' x ro nk fr M = some (ex1, nk1, fr1, M1) → (∀ q' L', Rep M1 L' → hF nk1 fr1 → hL nk1 L' → nk ≤ nk1 → thenE (fun nk q fr L => vX X xi lf N Yx' ro y n0 nk q fr L K) K ex1 nk1 q' fr1 L') → (Code.seq x y).wpIn (FF r) n P (QE w0 Sb B n0 N K) a w := by
      intro ex1 nk1 fr1 M1 hx hgo
      refine wpIn_seq (Code.wpIn_mono ?_ (ihx hco.1 ro (K := thenE (fun nk q fr L => vX X xi lf N Yx' ro y n0 nk q fr L K) K) hr hro hY hc ⟨M, ex1, nk1, fr1, M1, hR, hf, hl, h0, hx, hgo⟩))
      rintro e a' w' ⟨z, rfl, w1, hx1, hst⟩
      cases z with
      | norm =>
        obtain ⟨S', q', fr', L', nk', hc', hK⟩ := hst
        exact Code.wpIn_mono (fun _ _ _ hq => hq.ext hx1) (ihy hco.2 ro hr hro hY hc' hK)
      | ret => exact ⟨.ret, rfl, w1, hx1, hst⟩
      | exit m => exact ⟨.exit m, rfl, w1, hx1, hst⟩
      | goto m => exact ⟨.goto m, rfl, w1, hx1, hst⟩
    generalize hx : xC X xi lf N Yx' x ro nk fr M = res at h
    match res, hx, h with
    | none, hx, h => cases h
    | some (.norm, nk1, fr1, M1), hx, h => exact go hx fun q' L' h1 h2 h3 h4 => ⟨M1, ex, nk', fr', M', h1, h2, h3, Nat.le_trans h0 h4, h, fun q2 L2 g1 g2 g3 g4 => hK q2 L2 g1 g2 g3 (Nat.le_trans h4 g4)⟩
    | some (.ret, nk1, fr1, M1), hx, h => cases h; exact go hx hK
    | some (.exit m, nk1, fr1, M1), hx, h => cases h; exact go hx hK
    | some (.goto m, nk1, fr1, M1), hx, h => cases h; exact go hx hK
  | cond g x y ihx ihy =>
    intro hco ro w0 n0 nk Sb S B q fr L K a w r n hr hro hY hc h
    simp only [codeOk, Bool.and_eq_true] at hco
    obtain ⟨M, ex, nk', fr', M', hR, hf, hl, h0, h, hK⟩ := h
    have hg := opv_ok hc.f g
    have h : (match opv fr g with
      | .bb true => xC X xi lf N Yx' x ro nk fr M
      | .bb false => xC X xi lf N Yx' y ro nk fr M
      | _ => none) = some (ex, nk', fr', M') := h
    split at h
    · rename_i e; rw [e] at hg; exact wpIn_cond_true hg (ihx hco.1 ro hr hro hY hc ⟨M, ex, nk', fr', M', hR, hf, hl, h0, h, hK⟩)
    · rename_i e; rw [e] at hg; exact wpIn_cond_false hg (ihy hco.2 ro hr hro hY hc ⟨M, ex, nk', fr', M', hR, hf, hl, h0, h, hK⟩)
    · cases h
  | block id x ihx =>
    intro hco ro w0 n0 nk Sb S B q fr L K a w r n hr hro hY hc h
    obtain ⟨M, ex, nk', fr', M', hR, hf, hl, h0, h, hK⟩ := h
    have h : (match xC X xi lf N Yx' x ro nk fr M with
      | some (.exit n, nk', fr', M') => (match Nat.beq n id with | true => some (.norm, nk', fr', M') | false => some (.exit n, nk', fr', M'))
      | r => r) = some (ex, nk', fr', M') := h
    have go : ∀ {ex1 nk1 fr1 M1}, xC X xi lf N Yx' x ro nk fr M = some (ex1, nk1, fr1, M1) → (∀ q' L', Rep M1 L' → hF nk1 fr1 → hL nk1 L' → nk ≤ nk1 → blkE id K ex1 nk1 q' fr1 L') → (Code.block id x).wpIn (FF r) n P (QE w0 Sb B n0 N K) a w := by
      intro ex1 nk1 fr1 M1 hx hgo
      refine wpIn_block (Code.wpIn_mono ?_ (ihx hco ro (K := blkE id K) hr hro hY hc ⟨M, ex1, nk1, fr1, M1, hR, hf, hl, h0, hx, hgo⟩))
      rintro e a' w' ⟨z, rfl, w1, hx1, hst⟩
      cases z with
      | norm => exact ⟨.norm, rfl, w1, hx1, hst⟩
      | ret => exact ⟨.ret, rfl, w1, hx1, hst⟩
      | goto m => exact ⟨.goto m, rfl, w1, hx1, hst⟩
      | exit m =>
        simp only [Exit.inBlock, toX]
        obtain ⟨S', q', fr', L', nk', hc', hK⟩ := hst
        have hb : blkE id K (.exit m) = (match Nat.beq m id with | true => K .norm | false => K (.exit m)) := rfl
        rw [hb] at hK
        cases e : Nat.beq m id with
        | true =>
          rw [e] at hK
          rw [if_pos (Nat.eq_of_beq_eq_true e)]
          exact ⟨.norm, rfl, w1, hx1, S', q', fr', L', nk', hc', hK⟩
        | false =>
          rw [e] at hK
          rw [if_neg (fun e' => by subst e'; simp at e)]
          exact ⟨.exit m, rfl, w1, hx1, S', q', fr', L', nk', hc', hK⟩
    generalize hx : xC X xi lf N Yx' x ro nk fr M = res at h
    match res, hx, h with
    | none, hx, h => cases h
    | some (.norm, nk1, fr1, M1), hx, h => cases h; exact go hx hK
    | some (.ret, nk1, fr1, M1), hx, h => cases h; exact go hx hK
    | some (.goto m, nk1, fr1, M1), hx, h => cases h; exact go hx hK
    | some (.exit m, nk1, fr1, M1), hx, h =>
      refine go hx fun q' L' h1 h2 h3 h4 => ?_
      have hb : blkE id K (.exit m) = (match Nat.beq m id with | true => K .norm | false => K (.exit m)) := rfl
      rw [hb]
      dsimp only at h
      cases e : Nat.beq m id with
      | true => rw [e] at h; cases h; exact hK q' L' h1 h2 h3 h4
      | false => rw [e] at h; cases h; exact hK q' L' h1 h2 h3 h4
  | loop x ihx =>
    intro hco ro w0 n0 nk Sb S B q fr L K a w r n hr hro hY hc h
    obtain ⟨M, ex, nk', fr', M', hR, hf, hl, h0, h, hK⟩ := h
    have h : xloop (xC X xi lf N Yx' x ro) lf nk fr M = some (ex, nk', fr', M') := h
    exact xloop_ok (fun hc h => ihx hco ro hr hro hY hc h) hc h0 hR hf hl h (xloop_ne h) hK
  | scope x ihx =>
    intro hco ro w0 n0 nk Sb S B q fr L K a w r n hr hro hY hc h
    obtain ⟨M, ex, nk', fr', M', hR, hf, hl, h0, h, hK⟩ := h
    have h : (match xC X xi lf N Yx' x ro nk fr M with
      | some (.goto _, _, _, _) => none
      | r => r) = some (ex, nk', fr', M') := h
    have go : ∀ {ex1 nk1 fr1 M1}, xC X xi lf N Yx' x ro nk fr M = some (ex1, nk1, fr1, M1) → (∀ q' L', Rep M1 L' → hF nk1 fr1 → hL nk1 L' → nk ≤ nk1 → scopeE K ex1 nk1 q' fr1 L') → (Code.scope x).wpIn (FF r) n P (QE w0 Sb B n0 N K) a w := by
      intro ex1 nk1 fr1 M1 hx hgo
      refine wpIn_scope (Code.wpIn_mono ?_ (ihx hco ro (K := scopeE K) hr hro hY hc ⟨M, ex1, nk1, fr1, M1, hR, hf, hl, h0, hx, hgo⟩))
      rintro e a' w' ⟨z, rfl, w1, hx1, hst⟩
      cases z with
      | norm => exact ⟨.norm, rfl, w1, hx1, hst⟩
      | ret => exact ⟨.ret, rfl, w1, hx1, hst⟩
      | exit m => exact ⟨.exit m, rfl, w1, hx1, hst⟩
      | goto m =>
        obtain ⟨S', q', fr', L', nk', hc', hK⟩ := hst
        exact hK.elim
    generalize hx : xC X xi lf N Yx' x ro nk fr M = res at h
    match res, hx, h with
    | none, hx, h => cases h
    | some (.norm, nk1, fr1, M1), hx, h => cases h; exact go hx hK
    | some (.ret, nk1, fr1, M1), hx, h => cases h; exact go hx hK
    | some (.exit m, nk1, fr1, M1), hx, h => cases h; exact go hx hK
    | some (.goto m, nk1, fr1, M1), hx, h => cases h
  | rangeFunc g ps assign body iha ihb =>
    intro hco ro w0 n0 nk Sb S B q fr L K a w r n hr hro hY hc h
    simp only [codeOk, Bool.and_eq_true] at hco
    obtain ⟨M, ex, nk', fr', M', hR, hf, hl, h0, h, hK⟩ := h
    have h : xrange xi N Yx' (xC X xi lf N Yx' assign) (xC X xi lf N Yx' body) g ps ro nk fr M = some (ex, nk', fr', M') := h
    unfold xrange at h
    split at h
    rotate_left
    · cases h
    rename_i it cs hg
    have hA := @iha hco.1 (some nk)
    have hB := @ihb hco.2 (some nk)
    have hgv : hV nk (.fn it cs) := by rw [← hg]; exact hf.opv g
    have hargs : hS (nk + 2) (.yl nk :: cs) := by
      refine hS.cons (fun k hk => ?_) (fun k hk => ?_)
      · have := hgv k (by simpa [SV.has] using hk); omega
      · have : Nat.beq nk k = true := by simpa [SV.has] using hk
        have := Nat.eq_of_beq_eq_true this
        omega
    have hlt := ltF_of hf
    have hltL := ltLL_of hl
    have hrel : ∀ {L1 : LL} {M1 : Mm}, (∀ M2, xput M1 nk (some (.loop .ready none)) = some M2 → Rep M2 L1) → hL (nk + 2) L1 → xgo xi N Yx' (xC X xi lf N Yx' assign) (xC X xi lf N Yx' body) ps it cs nk fr M1 = some (ex, nk', fr', M') →
        XInl xi ((nk, roundK (vX X xi lf N Yx' (some nk) assign) (vX X xi lf N Yx' (some nk) body) N nk ps.toList fr) :: Y) it (.yl nk :: cs) (nk + 2) q L1 (doneK nk fr K) := by
      intro L1 M1 hR1 hl1 h
      unfold xgo at h
      split at h
      · cases h
      rename_i M2 hM2
      replace hR1 := hR1 M2 hM2
      split at h
      rotate_left
      · cases h
      rename_i r1 nk1 M3 hxi
      split at h
      rotate_left
      · cases h
      rename_i hle
      have hle := Nat.le_of_ble_eq_true hle
      refine ⟨_, M2, r1, nk1, M3, fun k hx hk => ?_, hR1, hl1, hargs, hxi, fun q' L' g1 g2 => done_rel hle g1 g2 hf h hK⟩
      rw [yxGet_c] at hk
      split at hk
      · rename_i e
        cases hk
        have e := Nat.eq_of_beq_eq_true e
        subst e
        refine ⟨_, by simp only [yGet]; rw [Nat.beq_refl], fun args nk2 q2 L2 M2 r2 nk3 M4 K2 hk2 hR2 hl2 hs2 hx2 hK2 => round_rel hk2 hR2 hl2 hs2 hf hx2 hK2⟩
      · rename_i e
        obtain ⟨hh, g1, g2⟩ := hYr k hx hk
        exact ⟨hh, by simp only [yGet]; rw [e]; exact g1, g2⟩
    cases ro with
    | none =>
      dsimp only at h
      split at h
      rotate_left
      · cases h
      rename_i M1 hM1
      have hr : r = none := hr
      subst hr
      have hR1 : ∀ M2, xput M1 nk (some (.loop .ready none)) = some M2 → Rep M2 ((nk, .loop .ready none) :: (nk + 1, .dfr) :: L) := fun M2 hM2 => (hR.new hM1).new hM2
      have hl1 : hL (nk + 2) ((nk, .loop .ready none) :: (nk + 1, .dfr) :: L) := ((hl.mono (by omega)).new (by omega) hB_dfr).new (by omega) hB_loop
      refine range_ok hI hA hB hg hc h0 hlt hY hltL (fun fn => ?_) (hrel hR1 hl1 h)
      have hm1 := hc.m.newDfr (k := nk + 1) (ltLL_none hltL (by omega))
      have hm2 := hm1.newRec (nk := nk) (by
        rw [hasLL_c]
        have : Nat.beq (nk + 1) nk = false := by rw [Bool.eq_false_iff]; intro e; have := Nat.eq_of_beq_eq_true e; omega
        simp only [this, LB.has]
        exact ltLL_none hltL (Nat.le_refl _)) { state := .ready, pending := none, fn := fn, tmps := a.tmps, params := ps, assign := assign, body := body, defers := w.heap.size } rfl rfl
      have hb : (w.alloc (.deferred (some []))).heap.size = w.heap.size + 1 := World.size_alloc _ _
      rw [hb] at hm2
      refine ⟨_, [{ target := .collected w.heap.size, args := #[] }], _, [nk + 1], (run_enterLoop_outer fn a.tmps ps assign body).trans ?_, fun k hk => ?_, hm2, ?_, ?_, ?_, ?_, fun d hd => ?_, ?_, fun d hd => ?_⟩
      · rw [updS_same]
      · rw [updS_other (by omega), updS_other (by omega)]
      · rw [updS_same]
      · rw [updS_same]
      · rw [updS_same]
      · rw [updS_same]
      · have := ltLL_has hltL (getL_hasLL hd (.inl rfl))
        rw [getL_cons, if_neg (by omega), getL_cons, if_neg (by omega)]
        exact hd
      · exact ⟨by simp [markOf, updS_other, updS_same], by simp⟩
      · have : d = nk + 1 := by simpa using hd
        subst this
        exact ⟨rfl, by rw [getL_cons, if_neg (by omega), getL_cons, if_pos rfl]⟩
    | some l0 =>
      dsimp only at h
      split at h
      rotate_left
      · cases h
      rename_i st pe hL0
      rw [← hR l0] at hL0
      have hr : r = some (Sb l0).b := hr
      subst hr
      have hl0 := hro l0 rfl
      have hR1 : ∀ M2, xput M nk (some (.loop .ready none)) = some M2 → Rep M2 ((nk, .loop .ready none) :: L) := fun M2 hM2 => hR.new hM2
      have hl1 : hL (nk + 2) ((nk, .loop .ready none) :: L) := (hl.mono (by omega)).new (by omega) hB_loop
      refine range_ok hI hA hB hg hc h0 hlt hY hltL (fun fn => ?_) (hrel hR1 hl1 h)
      have hh := hc.m.recHeap hL0
      rw [hc.ag l0 hl0] at hh
      have hm2 := hc.m.newRec (nk := nk) (ltLL_none hltL (Nat.le_refl _)) { state := .ready, pending := none, fn := fn, tmps := a.tmps, params := ps, assign := assign, body := body, defers := (Sb l0).r.defers } rfl rfl
      refine ⟨_, [], _, [], (run_enterLoop_inner hh fn a.tmps ps assign body).trans ?_, fun k hk => ?_, hm2, ?_, ?_, ?_, ?_, fun d hd => ?_, ⟨rfl, .nil⟩, fun d hd => by cases hd⟩
      · rw [updS_same]
      · rw [updS_other (by omega)]
      · rw [updS_same]
      · rw [updS_same]
      · rw [updS_same]
      · rw [updS_same]
      · have := ltLL_has hltL (getL_hasLL hd (.inl rfl))
        rw [getL_cons, if_neg (by omega)]
        exact hd
theorem xres_c {T : Tab} {v : ResultVar} {rs : List ResultVar} : xres T (v :: rs) fr M = (match (match v with | .tmp t => some (get fr t) | .cell t ty => xload T M.get ty (get fr t)) with
      | some x => (match xres T rs fr M with | some l => some (x :: l) | none => none)
      | none => none) := rfl
theorem xres_ok {T : Tab} (hR : Rep M L) : ∀ {rs : List ResultVar} {l : List SV} {K : List SV → Prop}, xres T rs fr M = some l → K l → resK T q rs fr L K
  | [], l, K, h, hK => by cases h; exact hK
  | .tmp t :: rs, l, K, h, hK => by
    rw [xres_c] at h
    dsimp only at h
    split at h
    · rename_i l' hl
      cases h
      unfold resK
      rw [fSV_eq]
      exact xres_ok hR hl hK
    · cases h
  | .cell t ty :: rs, l, K, h, hK => by
    rw [xres_c] at h
    dsimp only at h
    split at h
    · rename_i x hx
      split at h
      · rename_i l' hl
        cases h
        unfold resK
        exact xload_ok hR hx (xres_ok hR hl hK)
      · cases h
    · cases h
def PrimsOk (P : Program) (X : XE) : Prop := ∀ f p, X.prim.get f = some p → ∀ (w0 : W0) args nk q L M vs w (S : Pl) (r : Option Nat) n y nk' M', p args nk M = some (y, nk', M') → Rep M L → hL nk L → hS nk args → okL S args vs → Mem w0 q S L w →
  (∀ args w, (callFunc f args).run P w = .ok (.enter f args) w) ∧
  CallsIn (FF r) n P f vs.toArray w fun e w' => ∃ v S' q' L', e = .returned v ∧ okv S' y v ∧ (∀ k, k < nk → S' k = S k) ∧ Mem w0 q' S' L' w' ∧ (∀ d, d < nk → getL L d = some .dfr → getL L' d = some .dfr) ∧ Rep M' L' ∧ hL nk' L'
def bodiesOk (T : Tr Func) : Bool := T.all fun _ fn => match fn.body with | some c => codeOk c | none => true
theorem xN_ok (hX : XOk P X) (hPr : PrimsOk P X) (hC : bodiesOk X.E.FT = true) : ∀ d, InlOk P (XInl (xN X lf d))
  | 0 => fun w0 Y f args nk q L K vs w S r n h hY hvs hm => by
    obtain ⟨Yx', M, y, nk', M', hYr, hR, hl, hs, h, hK⟩ := h
    cases h
  | d + 1 => fun w0 Y f args nk q L K vs w S r n h hY hvs hm => by
    obtain ⟨Yx', M, y, nk', M', hYr, hR, hl, hs, h, hK⟩ := h
    have h : (match X.prim.get f with
    | some p => p args nk M
    | none => (match X.E.FT.get f with
      | none => none
      | some fn => (match fn.body with
        | none => none
        | some c => (match Nat.ble args.length fn.ntmps with
          | false => none
          | true => (match xC X (xN X lf d) lf fn.ntmps Yx' c none nk (argF args 0) M with
            | some (ex, nk', fr', M') => (match (match ex with | .norm => true | .ret => true | _ => false) with
              | true => (match xres X.E.T fn.results.toList fr' M' with
                | some l => some (oneOr l, nk', M')
                | none => none)
              | false => none)
            | none => none))))) = some (y, nk', M') := h
    split at h
    · rename_i p hp
      obtain ⟨h1, h2⟩ := hPr f p hp w0 args nk q L M vs w S r n y nk' M' h hR hl hs hvs hm
      refine ⟨h1, h2.mono ?_⟩
      rintro e w' ⟨v, S', q', L', rfl, g1, g2, g3, g4, g5, g6⟩
      exact ⟨v, y, S', q', L', nk', rfl, g1, g2, g3, g4, hK q' L' g5 g6⟩
    split at h
    · cases h
    rename_i fn hfn
    split at h
    · cases h
    rename_i c hc
    split at h
    · cases h
    rename_i hN
    have hN := Nat.le_of_ble_eq_true hN
    split at h
    rotate_left
    · cases h
    rename_i ex nk1 fr1 M1 hxc
    split at h
    rotate_left
    · cases h
    rename_i hex
    split at h
    rotate_left
    · cases h
    rename_i l hres
    cases h
    have hco : codeOk c = true := by
      have := Tr.all_get hC hfn
      rw [hc] at this
      exact this
    obtain ⟨hP, hname⟩ := hX.e.FT f fn hfn
    refine ⟨fun args w => ?_, ?_⟩
    · have hname' : ¬ fn.name = "runtime.NumGoroutine" := by simpa using hname
      simp [callFunc, hP, hname', hc]
    have hlen := okL_length hvs
    have hargsF : ∀ (l : List SV) (i : Nat), hS nk l → hF nk (argF l i) := by
      intro l
      induction l with
      | nil => intro i _ k hk; cases hk
      | cons x r ih => intro i h; exact (ih (i + 1) h.tail).cons h.head
    show CallsIn (FF none) n P f vs.toArray w _
    refine callsIn_of_wp_marks hP hc trivial ?_
    let wb : W0 := { w0 with F0 := w0.F, sub := fun _ h => h }
    have hmb : Mem wb q S L w := ⟨hm.ch, hm.ap, hm.po, hm.fz, hm.on, ⟨hm.be.os, hm.be.tape, hm.be.output, hm.be.size, hm.be.block⟩, hm.gw⟩
    have hcfg : Cfg wb S (fun d => getL L d = some .dfr) nk fn.ntmps S q (argF args 0) L { tmps := vs.toArray ++ Array.replicate (fn.ntmps - vs.toArray.size) undef, defers := [] } w :=
      ⟨fun _ _ => rfl, fun _ _ h => h, hmb, okF_args hvs _, by simp; omega, .nil _⟩
    have hcode := xC_ok (N := fn.ntmps) (lf := lf) hX (xN_ok hX hPr hC d) hYr c hco none (n := n) (r := none) (K := fun e nk2 q2 fr2 L2 => e = ex ∧ nk2 = nk' ∧ fr2 = fr1 ∧ Rep M' L2 ∧ hF nk' fr1 ∧ hL nk' L2) rfl (fun _ h => by cases h) hY hcfg
      ⟨M, ex, nk', fr1, M', hR, hargsF args 0 hs, hl, Nat.le_refl _, hxc, fun q' L' h1 h2 h3 h4 => ⟨rfl, rfl, rfl, h1, h2, h3⟩⟩
    refine Code.wpIn_mono ?_ hcode
    rintro e a' w' ⟨x, rfl, w1, hx1, S', q', fr', L', k', hc', rfl, rfl, rfl, hR', hf', hl'⟩
    obtain ⟨Hs, hd1, hd2, hd3⟩ := hc'.d
    have hmw : Mem w0 q' S' L' w' := by
      have := hx1.mem hc'.m
      exact ⟨this.ch, this.ap, this.po, this.fz, this.on, ⟨this.be.os, this.be.tape, this.be.output, this.be.size, this.be.block⟩, this.gw⟩
    have fin : LeavesInM (FF none) n P fn a'.tmps (fun e w' => ∃ v x S' q' L' nk', e = .returned v ∧ okv S' x v ∧ (∀ k, k < nk → S' k = S k) ∧ Mem w0 q' S' L' w' ∧ (∀ d, d < nk → getL L d = some .dfr → getL L' d = some .dfr) ∧ K x nk' q' L') a'.defers .returning w' := by
      rw [hd1]
      refine leave_marks Hs hmw hd2 (fun b hb => ?_) fun w2 hm2 => ?_
      · obtain ⟨k1, k2, k3⟩ := hd3 b hb
        refine ⟨(hc'.m.be.block b k1).trans k3, fun hF => k2 ?_, fun k lb hk e => hc'.m.fz k lb hk b e k1⟩
        rw [hx1.F0]
        exact hF
      obtain ⟨l2, v, hK2, hv, hr⟩ := results_ok (K := fun l2 => l2 = l) hX.e.T hc'.f hm2 (xres_ok hR' hres rfl)
      subst hK2
      exact ⟨v, hr, v, oneOr l2, S', q', L', k', rfl, hv, hc'.ag, hm2, fun d hd hdL => hc'.b d hd hdL, hK q' L' hR' hl'⟩
    cases x with
    | norm => exact fin
    | ret => exact fin
    | exit m => cases hex
    | goto m => cases hex
def isTrue (x : Option (SV × Nat × Mm)) : Bool := match x with | some (.bb true, _, _) => true | _ => false
theorem closed_true (hX : XOk P X) (hPr : PrimsOk P X) (hC : bodiesOk X.E.FT = true) {d f : Nat} (h : isTrue (xN X lf d [] f [] 0 .lf) = true) :
    (∀ args w, (callFunc f args).run P w = .ok (.enter f args) w) ∧ ∀ w, Calls P f #[] w fun e w' => e = .returned (.bool true) ∧ Below w.heap.size w w' := by
  have main : ∀ w, (∀ args w, (callFunc f args).run P w = .ok (.enter f args) w) ∧ CallsIn (FF none) 0 P f (#[] : Array Value) w fun e w' => e = .returned (.bool true) ∧ Below w.heap.size w w' := by
    intro w
    unfold isTrue at h
    split at h
    · rename_i nk' M' hx
      have := xN_ok hX hPr hC (lf := lf) d (.all w) [] f [] 0 (phOf w) [] (fun x _ _ _ => x = .bb true) [] w S0 none 0 ⟨[], .lf, .bb true, nk', M', fun k hx hk => (by cases hk), fun k => rfl, fun k hk => (by cases hk), .nil, hx, fun _ _ _ _ => rfl⟩ (fun k hd hk => by simp [yGet] at hk) trivial (Mem.start w S0)
      refine ⟨this.1, this.2.mono ?_⟩
      rintro e w' ⟨v, x, S', q', L', nk', rfl, hxv, _, hm, _, rfl⟩
      have hxv : v = .bool true := hxv
      exact ⟨by rw [hxv], hm.be.below⟩
    · cases h
  refine ⟨(main default).1, fun w => ?_⟩
  have h3 : CallsIn Fence.wide 0 P f (#[] : Array Value) w _ := (main w).2
  exact callsIn_wide.1 h3
theorem open_true (hX : XOk P X) (hPr : PrimsOk P X) (hC : bodiesOk X.E.FT = true) {d f nk : Nat} {args : List SV} {vs : List Value} {S : Pl} (h : isTrue (xN X lf d [] f args nk .lf) = true) (hs : hS nk args) (hvs : okL S args vs) :
    (∀ args w, (callFunc f args).run P w = .ok (.enter f args) w) ∧ ∀ w, Calls P f vs.toArray w fun e w' => e = .returned (.bool true) ∧ Below w.heap.size w w' := by
  have main : ∀ w, (∀ args w, (callFunc f args).run P w = .ok (.enter f args) w) ∧ CallsIn (FF none) 0 P f vs.toArray w fun e w' => e = .returned (.bool true) ∧ Below w.heap.size w w' := by
    intro w
    unfold isTrue at h
    split at h
    · rename_i nk' M' hx
      have := xN_ok hX hPr hC (lf := lf) d (.all w) [] f args nk (phOf w) [] (fun x _ _ _ => x = .bb true) vs w S none 0 ⟨[], .lf, .bb true, nk', M', fun k hx hk => (by cases hk), fun k => rfl, fun k hk => (by cases hk), hs, hx, fun _ _ _ _ => rfl⟩ (fun k hd hk => by simp [yGet] at hk) hvs (Mem.start w S)
      refine ⟨this.1, this.2.mono ?_⟩
      rintro e w' ⟨v, x, S', q', L', nk', rfl, hxv, _, hm, _, rfl⟩
      have hxv : v = .bool true := hxv
      exact ⟨by rw [hxv], hm.be.below⟩
    · cases h
  refine ⟨(main default).1, fun w => ?_⟩
  have h3 : CallsIn Fence.wide 0 P f vs.toArray w _ := (main w).2
  exact callsIn_wide.1 h3
end
end Exe
end Go.Eng
end
