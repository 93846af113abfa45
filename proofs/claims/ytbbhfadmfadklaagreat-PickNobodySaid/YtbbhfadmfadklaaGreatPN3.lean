/-
  Texts that the law leans on. Nothing here is trusted.
-/
import Derived.Test.YtbbhfadmfadklaaGreatPN2
import Derived.Test.YtbbhfadmfadklaaGreatBldCA
import Derived.Test.YtbbhfadmfadklaaGreatTryzShelf
import Derived.Test.YtbbhfadmfadklaaGreatEngTC
import Derived.Test.YtbbhfadmfadklaaGreatEngLc
set_option linter.unusedVariables false
set_option linter.unusedSimpArgs false
section
namespace Go.Proofs.YtbbhfadmfadklaaGreat
open Go Go.Eng Go.RowKit Go.Eng.Exe
noncomputable section
def strsL (l : List Value) : Option (List ByteArray) := List.rec (motive := fun _ => Option (List ByteArray)) (some [])
  (fun x _ ih => match x, ih with | .string s, some r => some (s :: r) | _, _ => none) l
theorem strsL_c {x : Value} {r : List Value} : strsL (x :: r) = (match x, strsL r with | .string s, some r => some (s :: r) | _, _ => none) := rfl
theorem strsL_ok : ∀ {l : List Value} {ss : List ByteArray}, strsL l = some ss → l = ss.map .string
  | [], ss, h => by cases h; rfl
  | x :: r, ss, h => by
    rw [strsL_c] at h
    split at h
    · rename_i s r' hr; cases h; rw [List.map_cons, ← strsL_ok hr]
    · cases h
theorem calls_of {f : Nat} (hP : ∃ fn, Tryz.prog.funcs[f]? = some fn ∧ (fn.name == "runtime.NumGoroutine") = false ∧ fn.body.isSome = true) : ∀ args w, (callFunc f args).run Tryz.prog w = .ok (.enter f args) w := fun args w => by
  obtain ⟨fn, hP, hname, hb⟩ := hP
  have hname' : ¬ fn.name = "runtime.NumGoroutine" := by simpa using hname
  obtain ⟨c, hc⟩ := Option.isSome_iff_exists.1 hb
  simp [callFunc, hP, hname', hc]
theorem src_room {q : PH} {S : Pl} {L : LL} {w0 : W0} {w : World} {m : Nat} {x : SV} {ys : List SV} {A : Option Addr} {c m' : Nat} (hm : Mem w0 q S L w) (h : xsrc L 1 x = some (m, ys)) (hx : okv S x (.slice A m' c)) : m' = m → m ≤ c := by
  intro e
  subst e
  unfold xsrc at h
  split at h
  · cases h; exact Nat.zero_le _
  · rename_i j
    split at h
    rotate_left
    · cases h
    rename_i e' sz' n' cs hj
    split at h
    rotate_left
    · cases h
    cases h
    obtain ⟨xs, hown, _⟩ := hm.ch j _ hj
    have hx : Value.slice A m' c = .slice (S j).A (S j).n (S j).c := hx
    injection hx with e1 e2 e3
    rcases hown.1.2 with ⟨hv, h0⟩ | ⟨g, cap, cur, hv, _, _, hle, _⟩
    · omega
    · injection hv with f1 f2 f3
      omega
  · rename_i j lo sz'' m2 ex
    split at h
    rotate_left
    · cases h
    split at h
    rotate_left
    · cases h
    cases h
    obtain ⟨A2, c2, e1, e2, _⟩ := hx
    injection e1 with f1 f2 f3
    omega
  · cases h
def pJoin : XH := fun args nk M => match args with
  | [s, .v (.string sep)] => (match xsrcM M.get 1 s with
    | some (m, cs) => (match rowVL cs with
      | some xs => (match strsL xs with
        | some ss => (match Nat.ble ss.length 140737488355328, Nat.ble (Lib.join (ss.map (·.data.toList)) sep.data.toList).length 140737488355328 with
          | true, true => some (.v (.string ⟨(Lib.join (ss.map (·.data.toList)) sep.data.toList).toArray⟩), nk, M)
          | _, _ => none)
        | none => none)
      | none => none)
    | none => none)
  | _ => none
def pRep : XH := fun args nk M => match args with
  | [.v (.string s), .v (.int .i64 c)] => (match in3 0 c 9223372036854775807, Nat.ble (s.size * c.toNat) 140737488355328 with
    | true, true => some (.v (.string ⟨(Lib.repeatL s.data.toList c.toNat).toArray⟩), nk, M)
    | _, _ => none)
  | _ => none
def pCc : XH := fun args nk M => match args with
  | [.lp k 0] => (match M.get k with
    | some (.cells t [a, b]) => (match Nat.beq t 203 with
      | true => (match a with
        | .v (.pointer none) => (match xput M k (some (.cells t [.lp k 0, b])) with | some M' => some (.tup [], nk, M') | none => none)
        | .lp k' 0 => (match Nat.beq k' k with | true => some (.tup [], nk, M) | false => none)
        | _ => none)
      | false => none)
    | _ => none)
  | _ => none
def pStr : XH := fun args nk M => match args with
  | [.lp k 0] => (match M.get k with
    | some (.cells t [a, b]) => (match Nat.beq t 203 with
      | true => (match b with
        | .v (.slice none 0 0) => some (.v (.string ⟨#[]⟩), nk, M)
        | .own j => (match M.get j with
          | some (.row e sz n cs) => (match Nat.beq e 5, Nat.beq sz 1, Nat.beq j k, rowVL cs with
            | true, true, false, some xs => (match xbytes xs, xput M j none with
              | some bs, some M' => some (.v (.string ⟨bs.toArray⟩), nk, M')
              | _, _ => none)
            | _, _, _, _ => none)
          | _ => none)
        | _ => none)
      | false => none)
    | _ => none)
  | _ => none
abbrev PrimOk (f : Nat) (p : XH) : Prop := ∀ (w0 : W0) args nk q L M vs w (S : Pl) (r : Option Nat) n y nk' M', p args nk M = some (y, nk', M') → Rep M L → hL nk L → hS nk args → okL S args vs → Mem w0 q S L w →
  (∀ args w, (callFunc f args).run Tryz.prog w = .ok (.enter f args) w) ∧
  CallsIn (FF r) n Tryz.prog f vs.toArray w fun e w' => ∃ v S' q' L', e = .returned v ∧ okv S' y v ∧ (∀ k, k < nk → S' k = S k) ∧ Mem w0 q' S' L' w' ∧ (∀ d, d < nk → getL L d = some .dfr → getL L' d = some .dfr) ∧ Rep M' L' ∧ hL nk' L'
theorem pJoin_ok : PrimOk 355 pJoin := by
  intro w0 args nk q L M vs w S r n y nk' M' h hR hl hs hvs hm
  unfold pJoin at h
  split at h
  rotate_left
  · cases h
  rename_i s sep
  split at h
  rotate_left
  · cases h
  rename_i m cs hsrc
  split at h
  rotate_left
  · cases h
  rename_i xs hxs
  split at h
  rotate_left
  · cases h
  rename_i ss hss
  split at h
  rotate_left
  · cases h
  rename_i h1 h2
  cases h
  have h1 := Nat.le_of_ble_eq_true h1
  have h2 := Nat.le_of_ble_eq_true h2
  match vs, hvs with
  | [u, v], hvs =>
  obtain ⟨hu, hv, _⟩ := hvs
  have hv : v = .string sep := hv
  subst hv
  rw [← xsrc_eq hR] at hsrc
  obtain ⟨A, c, vals, hue, ⟨hlen, hcell⟩, hok, _, _⟩ := xsrc_ok hm hsrc hu
  have hvals := rowVL_ok hxs hok
  subst hvals
  have hse := strsL_ok hss
  subst hue
  have hroom := src_room hm hsrc hu rfl
  have hml : ss.length = m := by have : vals.length = ss.length := by rw [hse]; simp
                                 omega
  refine ⟨calls_of ⟨_, Tryz.func355, nm355, rfl⟩, ?_⟩
  have fin : Calls Tryz.prog 355 #[.slice A m c, .string sep] w fun e w' => e = .returned (.string ⟨(Lib.join (ss.map (·.data.toList)) sep.data.toList).toArray⟩) ∧ Below w.heap.size w w' := by
    by_cases h0 : ss = []
    · subst h0
      have hm0 : m = 0 := by simpa using hml.symm
      subst hm0
      refine (Tryz.strings_Join_none A c sep w).mono ?_
      rintro e w' ⟨rfl, rfl⟩
      exact ⟨rfl, Below.refl _ _⟩
    · have hp : 0 < ss.length := List.length_pos_iff.2 h0
      have key : ∀ j x, ss[j]? = some x → ∃ a, A = some a ∧ a.spot = none ∧ w.cell? ⟨a.block, a.off + j, none⟩ = some (.string x) := fun j x hx => by
        obtain ⟨a, e1, e2, e3⟩ := hcell j (.string x) (by rw [hse, List.getElem?_map, hx]; rfl)
        refine ⟨a, e1, e2, ?_⟩
        obtain ⟨b, o, sp⟩ := a
        have e2 : sp = none := e2
        subst e2
        exact e3
      obtain ⟨a, e1, e2, e3⟩ := key 0 _ (List.getElem?_eq_getElem hp)
      subst e1
      obtain ⟨b, o, sp⟩ := a
      have e2 : sp = none := e2
      subst e2
      have := Tryz.strings_Join b o c ss sep w (fun j x hx => by
        obtain ⟨a, f1, f2, f3⟩ := key j x hx
        cases f1
        exact f3) (World.block_lt_of_cell? w _ e3) h1 (by omega) h2
      rw [hml] at this
      exact this
  refine (calls_ff fin).mono ?_
  rintro e w' ⟨rfl, hb⟩
  exact ⟨_, S, q, L, rfl, rfl, fun _ _ => rfl, hm.below hb, fun _ _ h => h, hR, hl⟩
theorem pRep_ok : PrimOk 80 pRep := by
  intro w0 args nk q L M vs w S r n y nk' M' h hR hl hs hvs hm
  unfold pRep at h
  split at h
  rotate_left
  · cases h
  rename_i s c
  split at h
  rotate_left
  · cases h
  rename_i h1 h2
  cases h
  have h1 := in3_ok h1
  have h2 := Nat.le_of_ble_eq_true h2
  match vs, hvs with
  | [u, v], hvs =>
  obtain ⟨hu, hv, _⟩ := hvs
  have hv : v = .int .i64 c := hv
  have hu : u = .string s := hu
  subst hv hu
  refine ⟨calls_of ⟨_, Tryz.func80, nm80, rfl⟩, ?_⟩
  have := Tryz.strings_Repeat s c.toNat w (by omega) h2
  rw [Int.toNat_of_nonneg h1.2.1] at this
  refine (calls_ff this).mono ?_
  rintro e w' ⟨rfl, hb⟩
  exact ⟨_, S, q, L, rfl, rfl, fun _ _ => rfl, hm.below hb, fun _ _ h => h, hR, hl⟩
theorem pCc_ok : PrimOk 271 pCc := by
  intro w0 args nk q L M vs w S r n y nk' M' h hR hl hs hvs hm
  unfold pCc at h
  split at h
  rotate_left
  · cases h
  rename_i k
  split at h
  rotate_left
  · cases h
  rename_i t x z hk
  split at h
  rotate_left
  · cases h
  rename_i ht
  have ht := Nat.eq_of_beq_eq_true ht
  subst ht
  match vs, hvs with
  | [v], hvs =>
  have hv : v = .pointer (some ⟨(S k).b, 0, none⟩) := hvs.1
  subst hv
  refine ⟨calls_of ⟨_, Tryz.func271, nm271, rfl⟩, ?_⟩
  have hk' := hk
  rw [← hR k] at hk'
  obtain ⟨_, us, hh, hok⟩ := hm.ch k _ hk'
  match us, hok with
  | [p, u], hok =>
  obtain ⟨hpx, huz, _⟩ := hok
  have hz : hV nk z := fun j hj => hl.get hk' j (by simp [LB.has, hasL_cons, hj])
  split at h
  · have hpx : p = .pointer none := hpx
    subst hpx
    split at h
    rotate_left
    · cases h
    rename_i M1 hM
    cases h
    refine (calls_ff (cc_fresh (S k).b w ?_ ?_ ?_)).mono ?_
    · rw [Lib.cell_of_heap hh]; rfl
    · simp [World.shape?, hh]
    · exact Lib.frozen_of_heap hh 0
    · rintro e w' ⟨rfl, rfl⟩
      have hset : w.setCell ⟨(S k).b, 0, none⟩ (.pointer (some ⟨(S k).b, 0, none⟩)) = w.setRow (S k).b #[.pointer (some ⟨(S k).b, 0, none⟩), u] := setCell_eq_setRow w _ 0 _ _ _ _ hh
      rw [hset]
      have hmt := hm.turn (lb' := .cells 203 [.lp k 0, z]) hk' rfl (w' := w.setRow (S k).b #[.pointer (some ⟨(S k).b, 0, none⟩), u]) ⟨rfl, rfl, rfl, by simp, fun k _ hk => setRow_other w _ k _ (fun e => hk (by rw [e]))⟩ ⟨Nat.zero_le _, [_, _], setRow_heap w _ _ _ _ _ hh, rfl, huz, trivial⟩ rfl
      refine ⟨_, S, q, _, rfl, ⟨[], rfl, trivial⟩, fun _ _ => rfl, hmt, fun d hd hdL => ?_, hR.set hk' hM, hl.set (.cells (hS.nil.cons hz |>.cons (hV_lp (hl.key hk'))))⟩
      rw [getL_setL, if_neg (fun e => by subst e; rw [hk'] at hdL; cases hdL)]
      exact hdL
  · rename_i k'
    split at h
    rotate_left
    · cases h
    rename_i e
    have e := Nat.eq_of_beq_eq_true e
    subst e
    cases h
    have hpx : p = .pointer (some ⟨(S k').b, 0, none⟩) := hpx
    subst hpx
    refine (calls_ff (cc_used (S k').b w ?_)).mono ?_
    · rw [Lib.cell_of_heap hh]; rfl
    · rintro e w' ⟨rfl, rfl⟩
      exact ⟨_, S, q, L, rfl, ⟨[], rfl, trivial⟩, fun _ _ => rfl, hm, fun _ _ h => h, hR, hl⟩
  · cases h
theorem pStr_ok : PrimOk 175 pStr := by
  intro w0 args nk q L M vs w S r n y nk' M' h hR hl hs hvs hm
  unfold pStr at h
  split at h
  rotate_left
  · cases h
  rename_i k
  split at h
  rotate_left
  · cases h
  rename_i t x z hk
  split at h
  rotate_left
  · cases h
  rename_i ht
  have ht := Nat.eq_of_beq_eq_true ht
  subst ht
  match vs, hvs with
  | [v], hvs =>
  have hv : v = .pointer (some ⟨(S k).b, 0, none⟩) := hvs.1
  subst hv
  refine ⟨calls_of ⟨_, Tryz.func175, nm175, rfl⟩, ?_⟩
  have hk' := hk
  rw [← hR k] at hk'
  obtain ⟨_, us, hh, hok⟩ := hm.ch k _ hk'
  match us, hok with
  | [p, u], hok =>
  obtain ⟨hpx, huz, _⟩ := hok
  split at h
  · have huz : u = .slice none 0 0 := huz
    subst huz
    cases h
    refine (calls_ff (str_nil (S k).b p w hh)).mono ?_
    rintro e w' ⟨rfl, hgr⟩
    exact ⟨_, S, q, L, rfl, rfl, fun _ _ => rfl, hm.below ((Below.refl _ w).grown hgr (Nat.le_refl _) (fun k e => by cases e)), fun _ _ h => h, hR, hl⟩
  · rename_i j
    split at h
    rotate_left
    · cases h
    rename_i e sz m cs hj
    split at h
    rotate_left
    · cases h
    rename_i xs h1 h2 h3 hxs
    split at h
    rotate_left
    · cases h
    rename_i bs M1 hbs hM
    cases h
    have h1 := Nat.eq_of_beq_eq_true h1
    have h2 := Nat.eq_of_beq_eq_true h2
    subst h1 h2
    have hj' := hj
    rw [← hR j] at hj'
    obtain ⟨ys, ⟨hown, hn, _, _, hA⟩, hys⟩ := hm.ch j _ hj'
    have hyx := rowVL_ok hxs hys
    subst hyx
    have hyb := xbytes_ok hbs
    have hu : u = .slice (S j).A (S j).n (S j).c := huz
    subst hu
    have hmb : bs.length = m := by
      have := hown.1
      rw [hyb] at this
      simpa using this
    rw [hn] at hh hown
    have done : ∀ (g : Nat), blk S j (.row 5 1 m cs) = some g → ∀ e w', (e = Ending.returned (.string ⟨bs.toArray⟩) ∧ w.grownBy w' (some g)) → ∃ v S' q' L', e = .returned v ∧ okv S' (.v (.string ⟨bs.toArray⟩)) v ∧ (∀ k, k < nk → S' k = S k) ∧ Mem w0 q' S' L' w' ∧ (∀ d, d < nk → getL L d = some .dfr → getL L' d = some .dfr) ∧ Rep M' L' ∧ hL nk L' := by
      rintro g hg e w' ⟨rfl, hgr⟩
      refine ⟨_, S, q, _, rfl, rfl, fun _ _ => rfl, hm.lose (k := j) hj' hg hgr, fun d hd hdL => ?_, hR.rem hM, hL.rem hl⟩
      rw [getL_remL, if_neg (fun e => by subst e; rw [hj'] at hdL; cases hdL)]
      exact hdL
    rcases hown.2 with ⟨hv, h0⟩ | ⟨g, cap, cur, hv, _, hg, hnc, hcm, hcs, htake⟩
    · injection hv with e1 e2 e3
      have hb0 : bs = [] := List.eq_nil_of_length_eq_zero (by omega)
      subst hb0
      rw [e1, e2, e3] at hh
      refine (calls_ff (str_nil (S k).b p w hh)).mono ?_
      rintro e w' ⟨rfl, hgr⟩
      have hm' := (hm.below ((Below.refl _ w).grown hgr (Nat.le_refl _) (fun k e => by cases e))).rem j
      refine ⟨_, S, q, _, rfl, rfl, fun _ _ => rfl, hm', fun d hd hdL => ?_, hR.rem hM, hL.rem hl⟩
      rw [getL_remL, if_neg (fun e => by subst e; rw [hj'] at hdL; cases hdL)]
      exact hdL
    · injection hv with e1 e2 e3
      rw [e1, e3] at hh
      have hgb : blk S j (.row 5 1 m cs) = some g := by simp [blk, e1]
      by_cases h0 : bs = []
      · subst h0
        have hm0 : m = 0 := by simpa using hmb.symm
        subst hm0
        by_cases hc : cap = 0
        · subst hc
          exact (calls_ff (str_noroom (S k).b g p cur w hh hg)).mono (done g hgb)
        · exact (calls_ff (str_room (S k).b g cap p w hc hh)).mono (done g hgb)
      · refine (calls_ff (str_some (S k).b g cap p cur bs w h0 (by rw [hmb]; exact hh) hg (by rw [hmb]; exact hnc) hcm (by simpa using hcs) fun i x hx => ?_)).mono (done g hgb)
        have hcell := hown.cells (g := g) (by rw [e1]; rfl) i (.int .u8 x.toNat) (by
          rw [hyb, List.getElem?_map, hx]
          rfl)
        exact hcell
  · cases h
def eBits : List SV → Option SV := fun args => match args with | [.v (.float .f64 b)] => some (.v (.int .u64 b)) | _ => none
def eFrom : List SV → Option SV := fun args => match args with | [.v (.int .u64 n)] => some (.v (.float .f64 n.toNat)) | _ => none
def TrAll {α : Type} (T : Tr α) (Q : Nat → α → Prop) : Prop := ∀ k v, T.get k = some v → Q k v
theorem tr_nil {α : Type} {Q : Nat → α → Prop} : TrAll (.nil : Tr α) Q := fun _ _ h => by simp [Tr.get_n] at h
theorem tr_node {α : Type} {Q : Nat → α → Prop} {l r : Tr α} {k : Nat} {v : α} (hl : TrAll l Q) (h : Q k v) (hr : TrAll r Q) : TrAll (.node l k v r) Q := fun j u hj => by
  rw [Tr.get_c] at hj
  split at hj
  · rename_i e; cases hj; rw [Nat.eq_of_beq_eq_true e]; exact h
  · split at hj
    · exact hl j u hj
    · exact hr j u hj
theorem eBits_ok (f : Nat) {fn : Func} (hf : Tryz.prog.funcs[f]? = some fn) (hname : (fn.name == "runtime.NumGoroutine") = false) (hb : fn.body.isNone = true) (hn : Extern.findNext fn = none) (he : Extern.find fn = some Extern.MathFloatBits.float64bits) :
    ∀ (S : Pl) args vs y, okL S args vs → eBits args = some y → ∃ v, okv S y v ∧ ∀ w, (callFunc f vs.toArray).run Tryz.prog w = .ok (.value v) w := by
  intro S args vs y hvs h
  unfold eBits at h
  split at h
  rotate_left
  · cases h
  cases h
  match vs, hvs with
  | [u], hvs =>
  have hu : u = .float .f64 _ := hvs.1
  subst hu
  exact ⟨_, rfl, fun w => by rw [run_callFunc_extern hf hname hb hn he]; rfl⟩
theorem eFrom_ok (f : Nat) {fn : Func} (hf : Tryz.prog.funcs[f]? = some fn) (hname : (fn.name == "runtime.NumGoroutine") = false) (hb : fn.body.isNone = true) (hn : Extern.findNext fn = none) (he : Extern.find fn = some Extern.MathFloatBits.float64frombits) :
    ∀ (S : Pl) args vs y, okL S args vs → eFrom args = some y → ∃ v, okv S y v ∧ ∀ w, (callFunc f vs.toArray).run Tryz.prog w = .ok (.value v) w := by
  intro S args vs y hvs h
  unfold eFrom at h
  split at h
  rotate_left
  · cases h
  cases h
  match vs, hvs with
  | [u], hvs =>
  have hu : u = .int .u64 _ := hvs.1
  subst hu
  exact ⟨_, rfl, fun w => by rw [run_callFunc_extern hf hname hb hn he]; rfl⟩
def prims : Tr XH := (.node (.node (.node .nil 80 pRep .nil) 175 pStr .nil) 271 pCc (.node .nil 355 pJoin .nil))
def exts : Tr (List SV → Option SV) := (.node (.node .nil 191 eFrom .nil) 320 eBits .nil)
theorem exts_ok : ExtOk Tryz.prog exts := fun f g hg => (show TrAll exts (fun f g => ∀ (S : Pl) args vs y, okL S args vs → g args = some y → ∃ v, okv S y v ∧ ∀ w, (callFunc f vs.toArray).run Tryz.prog w = .ok (.value v) w) from (tr_node (tr_node tr_nil (eFrom_ok 191 Tryz.func191 nm191 rfl (by kernel_rfl) (by kernel_rfl)) tr_nil) (eBits_ok 320 Tryz.func320 nm320 rfl (by kernel_rfl) (by kernel_rfl)) tr_nil)) f g hg
def zt : Zt := [(143, .int .i64 0)]
theorem zt_ok : ZOk Tryz.prog zt := by
  intro p hp
  simp only [zt, List.mem_cons, List.not_mem_nil, or_false] at hp
  subst hp; kernel_rfl
def XX : XE := { E := envC [] true [], Z := zt, ext := exts, prim := prims }
theorem xx_ok : XOk Tryz.prog XX := ⟨envC_ok css_nil, zt_ok, exts_ok⟩
theorem xx_prims : PrimsOk Tryz.prog XX := fun f p hp => (show TrAll prims (fun f p => PrimOk f p) from (tr_node (tr_node (tr_node tr_nil pRep_ok tr_nil) pStr_ok tr_nil) pCc_ok (tr_node tr_nil pJoin_ok tr_nil))) f p hp
theorem xx_bodies : bodiesOk XX.E.FT = true := by kernel_rfl
end
end Go.Proofs.YtbbhfadmfadklaaGreat
end
section
namespace Go.Proofs.YtbbhfadmfadklaaGreat
open Go Go.Eng
theorem mf1CN1 {p q : Prop} (k : q) (h : p := by first | (rw [← hfin] <;> first | exact rfl | exact Iff.rfl | exact ⟨rfl, rfl⟩ | exact decide_eq_true_iff | (constructor <;> first | exact rfl | (simp only [ei, eb, es, ec, gmin, gmax, List.map_append, List.flatMap_append, List.nil_append, List.append_nil, List.append_assoc]; done) | omega | (simp only [List.nil_append, List.length_append, List.length_cons, List.length_nil]; omega) | (simp [ei, eb, es, ec, gmin, gmax]; done)) | exact rfl | (simp only [ei, eb, es, ec, gmin, gmax, List.map_append, List.flatMap_append, List.nil_append, List.append_nil, List.append_assoc]; done) | omega | (simp only [List.nil_append, List.length_append, List.length_cons, List.length_nil]; omega) | (simp [ei, eb, es, ec, gmin, gmax]; done) | simp [ei, eb, es, ec, gmin, gmax]) | first | exact rfl | exact Iff.rfl | exact ⟨rfl, rfl⟩ | exact decide_eq_true_iff | (constructor <;> first | exact rfl | (simp only [ei, eb, es, ec, gmin, gmax, List.map_append, List.flatMap_append, List.nil_append, List.append_nil, List.append_assoc]; done) | omega | (simp only [List.nil_append, List.length_append, List.length_cons, List.length_nil]; omega) | (simp [ei, eb, es, ec, gmin, gmax]; done)) | exact rfl | (simp only [ei, eb, es, ec, gmin, gmax, List.map_append, List.flatMap_append, List.nil_append, List.append_nil, List.append_assoc]; done) | omega | (simp only [List.nil_append, List.length_append, List.length_cons, List.length_nil]; omega) | (simp [ei, eb, es, ec, gmin, gmax]; done) | simp [ei, eb, es, ec, gmin, gmax]) : Ob p ∧ q := ⟨⟨h⟩, k⟩
noncomputable def g36 (a0 : (Int × ByteArray × Int × Bool × Bool × Bool)) : Option ((Int × ByteArray × Int × Bool × Bool × Bool)) :=
 if 60 < (a0.2.1.size : Int) then
  (
   ck (0 ≤ (0 : Int) ∧ (0 : Int) ≤ (60 : Int) ∧ (60 : Int) ≤ (a0.2.1.size : Int)) <|
   some (a0.1, a0.2.1.extract (0 : Int).toNat (60 : Int).toNat, a0.2.2.1, a0.2.2.2.1, a0.2.2.2.2.1, a0.2.2.2.2.2)
  )
 else
  some (a0.1, a0.2.1, a0.2.2.1, a0.2.2.2.1, a0.2.2.2.2.1, a0.2.2.2.2.2)
noncomputable def k36 : Eng.CS := { f := 36, calm := true, more := 0, ι := (Int × ByteArray × Int × Bool × Bool × Bool) × (Int × ByteArray × Int × Bool × Bool × Bool), ok := fun i => g36 i.1 = some i.2, rds := fun _ => [], args := fun i => [.w (.agg [.v (.int .i64 (i.1.1)), .v (.string (i.1.2.1)), .v (.int .i64 (i.1.2.2.1)), bS i.1.2.2.2.1, bS i.1.2.2.2.2.1, bS i.1.2.2.2.2.2])], res := fun i => .agg [.v (.int .i64 (i.2.1)), .v (.string (i.2.2.1)), .v (.int .i64 (i.2.2.2.1)), bS i.2.2.2.2.1, bS i.2.2.2.2.2.1, bS i.2.2.2.2.2.2] }
set_option maxRecDepth 8000 in
set_option maxHeartbeats 4000000 in
theorem k36_ok : CalmOk Tryz.prog k36 := by
 refine R.calmspec Tryz.func36 nm36 rfl ?_
 rintro ⟨a0, r⟩ hok q _ args hargs
 match args, hargs with
 | [_], hargs =>
 obtain ⟨rfl, _⟩ := hargs
 refine ⟨envC [] false [], 6, envC_ok (css_nil), rfl, (by intro x hx; simp only [List.mem_cons, List.not_mem_nil, or_false] at hx; rcases hx with rfl <;> rfl), ?_⟩
 have H : Gives (g36 a0) (fun a => a = r) := ⟨r, hok, rfl⟩
 unfold g36 at H
 clear hok
 refine if_st H (fun h10 H => ?_) (fun h10 H => ?_)
 ·refine ob_ck H fun h11 H => ?_
  have hfin := fin_st H
  repeat refine mf1CN1 ?_
  first | exact trivial | exact rfl
 ·have hfin := fin_st H
  repeat refine mf1CN1 ?_
  first | exact trivial | exact rfl
noncomputable def g42 (a0 : (ByteArray × Int × Bool × (Option Addr × Nat × Nat) × Nat)) : Option ((ByteArray × Int × Bool × (Option Addr × Nat × Nat) × Nat)) :=
 if 100 < (a0.1.size : Int) then
  (
   ck (0 ≤ (0 : Int) ∧ (0 : Int) ≤ (100 : Int) ∧ (100 : Int) ≤ (a0.1.size : Int)) <|
   if 100 < ((a0.2.2.2.1.2.1 : Nat) : Int) then
    (
     ck (0 ≤ (0 : Int) ∧ (0 : Int) ≤ (100 : Int) ∧ (100 : Int) ≤ ((a0.2.2.2.1.2.2 : Nat) : Int)) <|
     some (a0.1.extract (0 : Int).toNat (100 : Int).toNat, a0.2.1, a0.2.2.1, (if a0.2.2.2.1.2.2 = (0 : Int).toNat then a0.2.2.2.1.1 else a0.2.2.2.1.1.map (·.add ((0 : Int).toNat)), (100 : Int).toNat - (0 : Int).toNat, a0.2.2.2.1.2.2 - (0 : Int).toNat), a0.2.2.2.2)
    )
   else
    some (a0.1.extract (0 : Int).toNat (100 : Int).toNat, a0.2.1, a0.2.2.1, a0.2.2.2.1, a0.2.2.2.2)
  )
 else
  (
   if 100 < ((a0.2.2.2.1.2.1 : Nat) : Int) then
    (
     ck (0 ≤ (0 : Int) ∧ (0 : Int) ≤ (100 : Int) ∧ (100 : Int) ≤ ((a0.2.2.2.1.2.2 : Nat) : Int)) <|
     some (a0.1, a0.2.1, a0.2.2.1, (if a0.2.2.2.1.2.2 = (0 : Int).toNat then a0.2.2.2.1.1 else a0.2.2.2.1.1.map (·.add ((0 : Int).toNat)), (100 : Int).toNat - (0 : Int).toNat, a0.2.2.2.1.2.2 - (0 : Int).toNat), a0.2.2.2.2)
    )
   else
    some (a0.1, a0.2.1, a0.2.2.1, a0.2.2.2.1, a0.2.2.2.2)
  )
noncomputable def k42 : Eng.CS := { f := 42, calm := true, more := 0, ι := (ByteArray × Int × Bool × (Option Addr × Nat × Nat) × Nat) × (ByteArray × Int × Bool × (Option Addr × Nat × Nat) × Nat), ok := fun i => g42 i.1 = some i.2, rds := fun _ => [], args := fun i => [.w (.agg [.v (.string (i.1.1)), .v (.int .i64 (i.1.2.1)), bS i.1.2.2.1, .v (.slice i.1.2.2.2.1.1 i.1.2.2.2.1.2.1 i.1.2.2.2.1.2.2), .v (.float .f64 (i.1.2.2.2.2))])], res := fun i => .agg [.v (.string (i.2.1)), .v (.int .i64 (i.2.2.1)), bS i.2.2.2.1, .v (.slice i.2.2.2.2.1.1 i.2.2.2.2.1.2.1 i.2.2.2.2.1.2.2), .v (.float .f64 (i.2.2.2.2.2))] }
set_option maxRecDepth 8000 in
set_option maxHeartbeats 4000000 in
theorem k42_ok : CalmOk Tryz.prog k42 := by
 refine R.calmspec Tryz.func42 nm42 rfl ?_
 rintro ⟨a0, r⟩ hok q _ args hargs
 match args, hargs with
 | [_], hargs =>
 obtain ⟨rfl, _⟩ := hargs
 refine ⟨envC [] false [], 6, envC_ok (css_nil), rfl, (by intro x hx; simp only [List.mem_cons, List.not_mem_nil, or_false] at hx; rcases hx with rfl <;> rfl), ?_⟩
 have H : Gives (g42 a0) (fun a => a = r) := ⟨r, hok, rfl⟩
 unfold g42 at H
 clear hok
 refine if_st H (fun h16 H => ?_) (fun h16 H => ?_)
 ·refine ob_ck H fun h17 H => ?_
  refine if_st H (fun h22 H => ?_) (fun h22 H => ?_)
  ·refine ob_ck H fun h23 H => ?_
   intro n24 hn25
   subst hn25
   have hfin := fin_st H
   repeat refine mf1CN1 ?_
   first | exact trivial | exact rfl
  ·have hfin := fin_st H
   repeat refine mf1CN1 ?_
   first | exact trivial | exact rfl
 ·refine if_st H (fun h26 H => ?_) (fun h26 H => ?_)
  ·refine ob_ck H fun h27 H => ?_
   intro n28 hn29
   subst hn29
   have hfin := fin_st H
   repeat refine mf1CN1 ?_
   first | exact trivial | exact rfl
  ·have hfin := fin_st H
   repeat refine mf1CN1 ?_
   first | exact trivial | exact rfl
end Go.Proofs.YtbbhfadmfadklaaGreat
end
section
namespace Go.Proofs.YtbbhfadmfadklaaGreat
open Go Go.Eng Go.RowKit Go.Eng.Exe
noncomputable section
theorem oB (b : Bool) : okv S0 (bS b) (.bool b) := by cases b <;> rfl
theorem dB (b : Bool) : den S0 (bS b) = .bool b := by cases b <;> rfl
def v6 (a : Int) (s : ByteArray) (b : Int) (x y z : Bool) : Value := .agg #[.int .i64 a, .string s, .int .i64 b, .bool x, .bool y, .bool z]
def v5 (s : ByteArray) (a : Int) (b : Bool) (A : Option Addr) (n c : Nat) (x : Nat) : Value := .agg #[.string s, .int .i64 a, .bool b, .slice A n c, .float .f64 x]
def pKey (fs : ByteArray → ByteArray) : XH := fun args nk M => match args with
  | [.agg [.v (.int .i64 a), .v (.string s), .v (.int .i64 b), .bb x, .bb y, .bb z]] => some (.agg [.v (.int .i64 a), .v (.string (fs s)), .v (.int .i64 b), .bb x, .bb y, .bb z], nk, M)
  | _ => none
def pVal (fs : ByteArray → ByteArray) (fm : Nat → Nat) : XH := fun args nk M => match args with
  | [.agg [.v (.string s), .v (.int .i64 a), .bb b, .vw k lo sz m ex, .v (.float .f64 x)]] => some (.agg [.v (.string (fs s)), .v (.int .i64 a), .bb b, .vw k lo sz (fm m) false, .v (.float .f64 x)], nk, M)
  | _ => none
theorem pKey_ok {f : Nat} {fs : ByteArray → ByteArray} (he : ∀ args w, (callFunc f args).run Tryz.prog w = .ok (.enter f args) w)
    (hc : ∀ a s b x y z w, Calls Tryz.prog f #[v6 a s b x y z] w fun e w' => e = .returned (v6 a (fs s) b x y z) ∧ Below w.heap.size w w') : PrimOk f (pKey fs) := by
  intro w0 args nk q L M vs w S r n y nk' M' h hR hl hs hvs hm
  unfold pKey at h
  split at h
  rotate_left
  · cases h
  rename_i a s b x y z
  cases h
  match vs, hvs with
  | [u], hvs =>
  obtain ⟨⟨l, rfl, hl'⟩, _⟩ := hvs
  match l, hl' with
  | [_, _, _, _, _, _], hl' =>
  obtain ⟨rfl, rfl, rfl, rfl, rfl, rfl, _⟩ := hl'
  refine ⟨he, (calls_ff (hc a s b x y z w)).mono ?_⟩
  rintro e w' ⟨rfl, hb⟩
  exact ⟨_, S, q, L, rfl, ⟨_, rfl, rfl, rfl, rfl, rfl, rfl, rfl, trivial⟩, fun _ _ => rfl, hm.below hb, fun _ _ h => h, hR, hl⟩
theorem pVal_ok {f : Nat} {fs : ByteArray → ByteArray} {fm : Nat → Nat} (he : ∀ args w, (callFunc f args).run Tryz.prog w = .ok (.enter f args) w) (hfm : ∀ n, fm n ≤ n)
    (hc : ∀ s a b A n c x w, n ≤ c → ∃ A' c', fm n ≤ c' ∧ A' = A ∧ Calls Tryz.prog f #[v5 s a b A n c x] w fun e w' => e = .returned (v5 (fs s) a b A' (fm n) c' x) ∧ Below w.heap.size w w') : PrimOk f (pVal fs fm) := by
  intro w0 args nk q L M vs w S r n y nk' M' h hR hl hs hvs hm
  unfold pVal at h
  split at h
  rotate_left
  · cases h
  rename_i s a b k lo sz m ex x
  cases h
  match vs, hvs with
  | [u], hvs =>
  obtain ⟨⟨l, rfl, hl'⟩, _⟩ := hvs
  match l, hl' with
  | [_, _, _, _, _], hl' =>
  obtain ⟨rfl, rfl, rfl, ⟨A, c, rfl, hc1, hA, _⟩, rfl, _⟩ := hl'
  obtain ⟨A', c', h1, rfl, hcall⟩ := hc s a b A m c x w hc1
  refine ⟨he, (calls_ff hcall).mono ?_⟩
  rintro e w' ⟨rfl, hb⟩
  refine ⟨_, S, q, L, rfl, ⟨_, rfl, rfl, rfl, rfl, ⟨A', c', rfl, h1, ?_, fun h => by cases h⟩, rfl, trivial⟩, fun _ _ => rfl, hm.below hb, fun _ _ h => h, hR, hl⟩
  rcases hA with hA | hA
  · left; have := hfm m; omega
  · exact .inr hA
theorem pTrue_ok {f : Nat} (h : (∀ args w, (callFunc f args).run Tryz.prog w = .ok (.enter f args) w) ∧ ∀ w, Calls Tryz.prog f #[] w fun e w' => e = .returned (.bool true) ∧ Below w.heap.size w w') :
    PrimOk f (fun args nk M => match args with | [] => some (.bb true, nk, M) | _ => none) := by
  intro w0 args nk q L M vs w S r n y nk' M' hh hR hl hs hvs hm
  dsimp only at hh
  split at hh
  rotate_left
  · cases hh
  cases hh
  match vs, hvs with
  | [], hvs =>
  refine ⟨h.1, (calls_ff (h.2 w)).mono ?_⟩
  rintro e w' ⟨rfl, hb⟩
  exact ⟨_, S, q, L, rfl, rfl, fun _ _ => rfl, hm.below hb, fun _ _ h => h, hR, hl⟩
def s36 (s : ByteArray) : ByteArray := if 60 < (s.size : Int) then s.extract (0 : Int).toNat (60 : Int).toNat else s
def s42 (s : ByteArray) : ByteArray := if 100 < (s.size : Int) then s.extract (0 : Int).toNat (100 : Int).toNat else s
def m42 (n : Nat) : Nat := if 100 < (n : Int) then 100 else n
theorem p36_ok : PrimOk 36 (pKey s36) := pKey_ok k36_ok.1 fun a s b x y z w => by
  have hg : g36 (a, s, b, x, y, z) = some (a, s36 s, b, x, y, z) := by
    unfold g36 ck s36
    dsimp only
    by_cases h : 60 < (s.size : Int)
    · rw [if_pos h, if_pos h, if_pos ⟨Int.le_refl _, by omega, by omega⟩]
    · rw [if_neg h, if_neg h]
  have h := k36_ok.2 w (phOf w) S0 ((a, s, b, x, y, z), (a, s36 s, b, x, y, z)) [v6 a s b x y z] hg trivial (phOf_on w) ⟨⟨_, rfl, rfl, rfl, rfl, oB x, oB y, oB z, trivial⟩, trivial⟩
  refine h.mono ?_
  rintro e w' ⟨rfl, hb⟩
  refine ⟨?_, hb⟩
  simp only [v6]
  rw [← dB x, ← dB y, ← dB z]
  rfl
theorem add0 (A : Option Addr) : A.map (·.add ((0 : Int).toNat)) = A := by
  cases A with
  | none => rfl
  | some a => simp [Addr.add]
theorem p42_ok : PrimOk 42 (pVal s42 m42) := pVal_ok k42_ok.1 (fun n => by unfold m42; split <;> omega) fun s a b A n c x w hnc => by
  have hg : g42 (s, a, b, (A, n, c), x) = some (s42 s, a, b, (A, m42 n, c), x) := by
    unfold g42 ck s42 m42
    dsimp only
    by_cases h : 100 < (s.size : Int) <;> by_cases h2 : 100 < (n : Int)
    · rw [if_pos h, if_pos h, if_pos h2, if_pos h2, if_pos ⟨Int.le_refl _, by omega, by omega⟩, if_pos ⟨Int.le_refl _, by omega, by omega⟩, add0, ite_self]
      rfl
    · rw [if_pos h, if_pos h, if_neg h2, if_neg h2, if_pos ⟨Int.le_refl _, by omega, by omega⟩]
    · rw [if_neg h, if_neg h, if_pos h2, if_pos h2, if_pos ⟨Int.le_refl _, by omega, by omega⟩, add0, ite_self]
      rfl
    · rw [if_neg h, if_neg h, if_neg h2, if_neg h2]
  have h := k42_ok.2 w (phOf w) S0 ((s, a, b, (A, n, c), x), (s42 s, a, b, (A, m42 n, c), x)) [v5 s a b A n c x] hg trivial (phOf_on w) ⟨⟨_, rfl, rfl, rfl, oB b, rfl, rfl, trivial⟩, trivial⟩
  refine ⟨A, c, by unfold m42; split <;> omega, rfl, h.mono ?_⟩
  rintro e w' ⟨rfl, hb⟩
  refine ⟨?_, hb⟩
  simp only [v5]
  rw [← dB b]
  rfl
end
end Go.Proofs.YtbbhfadmfadklaaGreat
end
section
namespace Go.Proofs.YtbbhfadmfadklaaGreat
open Go Go.Eng Go.RowKit Go.Eng.Exe
noncomputable section
theorem r144a : isTrue (xN XX 1000 30 [] 144 [.v (.string ⟨#[65]⟩)] 0 .lf) = true := by kernel_rfl
theorem r144b : isTrue (xN XX 1000 30 [] 144 [.v (.string ⟨#[111, 110, 101]⟩)] 0 .lf) = true := by kernel_rfl
theorem r144c : isTrue (xN XX 1000 30 [] 144 [.v (.string ⟨#[116, 119, 111]⟩)] 0 .lf) = true := by kernel_rfl
theorem r144d : isTrue (xN XX 1000 30 [] 144 [.v (.string ⟨#[116, 104, 114, 101, 101]⟩)] 0 .lf) = true := by kernel_rfl
def p144 : XH := fun args nk M => match args with
  | [.v (.string s)] => (match Nat.beq s.size 1, decEqL s.data.toList [65] || decEqL s.data.toList [111, 110, 101] || decEqL s.data.toList [116, 119, 111] || decEqL s.data.toList [116, 104, 114, 101, 101] with
    | _, true => some (.bb true, nk, M)
    | _, _ => none)
  | _ => none
where decEqL (a b : List UInt8) : Bool := @decide (a = b) (instDecidableEqList a b)
theorem p144_ok : PrimOk 144 p144 := by
  intro w0 args nk q L M vs w S r n y nk' M' h hR hl hs hvs hm
  unfold p144 at h
  split at h
  rotate_left
  · cases h
  rename_i s
  split at h
  rotate_left
  · cases h
  rename_i _ hd
  cases h
  match vs, hvs with
  | [u], hvs =>
  have hu : u = .string s := hvs.1
  subst hu
  have key : ∀ l : List UInt8, p144.decEqL s.data.toList l = true → isTrue (xN XX 1000 30 [] 144 [.v (.string ⟨l.toArray⟩)] 0 .lf) = true → (∀ args w, (callFunc 144 args).run Tryz.prog w = .ok (.enter 144 args) w) ∧ ∀ w, Calls Tryz.prog 144 #[.string s] w fun e w' => e = .returned (.bool true) ∧ Below w.heap.size w w' := fun l hl hr => by
    have hl : s.data.toList = l := of_decide_eq_true hl
    have es : s = ⟨l.toArray⟩ := by rw [← hl]
    rw [es]
    exact open_true (vs := [.string ⟨l.toArray⟩]) (S := S0) xx_ok xx_prims xx_bodies hr (fun k hk => by cases hk) ⟨rfl, trivial⟩
  have main : (∀ args w, (callFunc 144 args).run Tryz.prog w = .ok (.enter 144 args) w) ∧ ∀ w, Calls Tryz.prog 144 #[.string s] w fun e w' => e = .returned (.bool true) ∧ Below w.heap.size w w' := by
    simp only [Bool.or_eq_true] at hd
    rcases hd with ((hd | hd) | hd) | hd
    · exact key _ hd r144a
    · exact key _ hd r144b
    · exact key _ hd r144c
    · exact key _ hd r144d
  refine ⟨main.1, (calls_ff (main.2 w)).mono ?_⟩
  rintro e w' ⟨rfl, hb⟩
  exact ⟨_, S, q, L, rfl, rfl, fun _ _ => rfl, hm.below hb, fun _ _ h => h, hR, hl⟩
def prims34 : Tr XH := (.node (.node (.node .nil 80 pRep .nil) 144 p144 (.node .nil 175 pStr .nil)) 271 pCc (.node .nil 355 pJoin .nil))
def X34 : XE := { XX with prim := prims34 }
theorem x34_ok : XOk Tryz.prog X34 := ⟨envC_ok css_nil, zt_ok, exts_ok⟩
theorem x34_prims : PrimsOk Tryz.prog X34 := fun f p hp => (show TrAll prims34 (fun f p => PrimOk f p) from (tr_node (tr_node (tr_node tr_nil pRep_ok tr_nil) p144_ok (tr_node tr_nil pStr_ok tr_nil)) pCc_ok (tr_node tr_nil pJoin_ok tr_nil))) f p hp
theorem run34 : isTrue (xN X34 1000 30 [] 34 [] 0 .lf) = true := by kernel_rfl
theorem aw34 : (∀ args w, (callFunc 34 args).run Tryz.prog w = .ok (.enter 34 args) w) ∧ ∀ w, Calls Tryz.prog 34 #[] w fun e w' => e = .returned (.bool true) ∧ Below w.heap.size w w' :=
  closed_true x34_ok x34_prims xx_bodies run34
end
end Go.Proofs.YtbbhfadmfadklaaGreat
end
section
namespace Go.Proofs.YtbbhfadmfadklaaGreat
open Go Go.Eng Go.RowKit Go.Eng.Exe
noncomputable section
def pT : XH := fun args nk M => match args with | [] => some (.bb true, nk, M) | _ => none
def prims9 : Tr XH := (.node (.node (.node .nil 34 pT .nil) 36 (pKey s36) (.node .nil 42 (pVal s42 m42) .nil)) 80 pRep (.node (.node .nil 175 pStr .nil) 271 pCc (.node .nil 355 pJoin .nil)))
def X9 : XE := { XX with prim := prims9 }
theorem x9_ok : XOk Tryz.prog X9 := ⟨envC_ok css_nil, zt_ok, exts_ok⟩
theorem x9_prims : PrimsOk Tryz.prog X9 := fun f p hp => (show TrAll prims9 (fun f p => PrimOk f p) from (tr_node (tr_node (tr_node tr_nil (pTrue_ok aw34) tr_nil) p36_ok (tr_node tr_nil p42_ok tr_nil)) pRep_ok (tr_node (tr_node tr_nil pStr_ok tr_nil) pCc_ok (tr_node tr_nil pJoin_ok tr_nil)))) f p hp
theorem run9 (a b a2 : Int) (s s2 : ByteArray) (x y z b2 : Bool) (m f2 : Nat) (i3 : Int) :
    isTrue (xN X9 1000 30 [] 9 [.agg [.v (.int .i64 a), .v (.string s), .v (.int .i64 b), .bb x, .bb y, .bb z], .agg [.v (.string s2), .v (.int .i64 a2), .bb b2, .vw 0 0 1 m false, .v (.float .f64 f2)], .v (.int .i64 i3)] 1 .lf) = true := by kernel_rfl
theorem law9 (a : Int) (s : ByteArray) (b : Int) (x y z : Bool) (s2 : ByteArray) (a2 : Int) (b2 : Bool) (A : Option Addr) (m c : Nat) (hm : m ≤ c) (f2 : Nat) (i3 : Int) (w : World) :
    Calls Tryz.prog 9 #[.agg #[.int .i64 a, .string s, .int .i64 b, .bool x, .bool y, .bool z], .agg #[.string s2, .int .i64 a2, .bool b2, .slice A m c, .float .f64 f2], .int .i64 i3] w fun e w' => e = .returned (.bool true) ∧ Below w.heap.size w w' := by
  refine (open_true (vs := [.agg #[.int .i64 a, .string s, .int .i64 b, .bool x, .bool y, .bool z], .agg #[.string s2, .int .i64 a2, .bool b2, .slice A m c, .float .f64 f2], .int .i64 i3]) (S := updS S0 0 ⟨0, A, m, c, default⟩) x9_ok x9_prims xx_bodies (run9 a b a2 s s2 x y z b2 m f2 i3) ?_ ?_).2 w
  · intro k hk
    cases k with
    | zero => exact Nat.zero_lt_one
    | succ k => exact Bool.noConfusion (show false = true from hk)
  · refine ⟨⟨_, rfl, rfl, rfl, rfl, rfl, rfl, rfl, trivial⟩, ⟨_, rfl, rfl, rfl, rfl, ⟨A, c, rfl, hm, .inr ?_, fun h => by cases h⟩, rfl, trivial⟩, rfl, trivial⟩
    rw [updS_same]
    cases A with
    | none => rfl
    | some a => simp [Addr.add]
end
end Go.Proofs.YtbbhfadmfadklaaGreat
end
