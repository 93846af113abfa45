/-
  Texts that the law leans on. Nothing here is trusted.
-/
import Derived.Test.YtnlglgafokjhnaaGreatEngL
import Derived.Laws.IdiomCopy
set_option linter.unusedVariables false
set_option linter.unusedSimpArgs false
namespace Go.Eng
open Go Go.RowKit
variable {P : Program} {S S' Sb : Pl} {fr : Fr} {L L' : LL} {q q' : PH} {w0 : W0} {w w' : World} {a : Act} {n0 n0' N : Nat} {B : Nat → Prop} {E : Env}
variable {r : Option Nat} {n : Nat} {Q : Exit → Act → World → Prop}
theorem own_loc {e sz k : Nat} {A : Option Addr} {c : Nat} {xs : List Value} (_ : w.ownsRow 0 e sz (.slice A k c) k xs) : okv (updS S n (locOf A k c)) (.own n) (.slice A k c) := by
  simp [okv, updS_same, locOf]
theorem app_go (hT : TabOk P E.T) {o : Oper} {t e sz byt m c key nk : Nat} {s : SV} {A : Option Addr} {ys : List Value} {xo so : Operand} {K : Kt} {zero : List Value} {fl : List Ty} {cm : List Ty} {d : Ty}
    (hc : Cfg w0 Sb B n0 N S q fr L a w) (hd : ∀ c, o.op ≠ .defer c) (hdt : (ty E.T t).d = .slice e) (hte : ty E.T e = ⟨d, sz, byt, zero, fl, cm⟩) (hdo : d ≠ .other)
    (hrun : ∀ {v : Value} {w' : World}, (Builtin.append_ #[t, t] o.type #[a.eval so, a.eval xo]).run P w = .ok v w' → (execOp a.eval o).run P w = .ok (.value v) w')
    (hx : a.eval xo = .slice A m c) (hsrc : Src w A m sz ys)
    (h : match s with
      | .v (.slice none 0 0) => Ob (m ≤ 9223372036854775807 ∧ m * byt ≤ 140737488355328 ∧ ∀ y ∈ ys, y.oneCell' = true) ∧ ∀ N' zs, N' = m → zs = ys → newK n0 key fr L (.arr e sz N' zs) fun L => putK N o.dst (.own key) fr fun fr => K nk q fr L
      | .own k => (match getL L k with
        | some (.arr e' sz' n xs) => (match Nat.beq e' e, Nat.beq sz' sz with
          | true, true => Ob (n + m ≤ 9223372036854775807 ∧ (n + m) * byt ≤ 140737488355328 ∧ ∀ y ∈ ys, y.oneCell' = true) ∧ ∀ N' zs, N' = n + m → zs = xs ++ ys → newK n0 key fr L (.arr e sz N' zs) fun L => fLL (remL L k) fun L => putK N o.dst (.own key) fr fun fr => K nk q fr L
          | _, _ => False)
        | _ => False)
      | _ => False) (hs : okv S s (a.eval so)) : Oper.wpIn (FF r) n P o a w (St w0 Sb B n0 N K) Q := by
  obtain ⟨ht, hsz, i, hi, hisz, hiby⟩ : descOk P E.T t (.slice e) := by rw [← hdt]; exact (hT t (by rw [hdt]; simp)).d
  obtain ⟨i', z, hi', hisz', _, hz, hzc⟩ := (hT e (by rw [hte]; exact hdo)).i
  have hzl := (hT e (by rw [hte]; exact hdo)).zl
  rw [hi] at hi'
  cases hi'
  rw [hte] at hisz hsz hiby hzc hzl
  simp only at hisz hsz hiby hzc hzl
  have hzs : z.cells.size = sz := by rw [← hzl, ← hzc]; simp
  split at h
  · have hs : a.eval so = .slice none 0 0 := hs
    obtain ⟨⟨g1, g2, g3⟩, h⟩ := h
    replace h := h _ _ rfl rfl
    obtain ⟨v', w', hr, hown, hg, hb⟩ := run_append_src (ty := o.type) (P := P) ht hi hz hisz hiby hzs hsz (World.ownsRow_nil w 0 e sz) hsrc g3 (by rw [Nat.zero_add]; exact maxLen_le g1) (by rw [Nat.zero_add]; exact g2) (Nat.zero_le _)
    rw [Nat.zero_add, List.nil_append] at hown
    obtain ⟨A', c', rfl, hA'⟩ := own_form hown
    rw [← hs, ← hx] at hr
    obtain ⟨k0, k1, k2, h⟩ := newK_ok h
    refine wpIn_value hd (hrun hr) ?_
    have hmem : Mem w0 q (updS S key (locOf A' m c')) ((key, .arr e sz m ys) :: L) w' := by
      refine hc.m.new k2 ((Below.refl _ w).grown hg (Nat.le_refl _) (fun k e => by cases e)) (chunk_arr hown hsz g3 hA') fun b hbb => ?_
      rcases hb with hb | hb
      · rcases hA' with rfl | ⟨g, rfl⟩
        · simp [blk, updS_same, locOf] at hbb
        · simp [Value.ownBlock] at hb
      · rcases hA' with rfl | ⟨g, rfl⟩
        · simp [blk, updS_same, locOf] at hbb
        · simp [blk, updS_same, locOf] at hbb
          simp [Value.ownBlock] at hb
          omega
    obtain ⟨fr', hK', hc'⟩ := (hc.new k0 k1 k2 hmem).put (v := .slice A' m c') h (own_loc hown)
    exact ⟨_, q, fr', _, nk, hc', hK'⟩
  · rename_i k
    have hs : a.eval so = .slice (S k).A (S k).n (S k).c := hs
    split at h
    rotate_left
    · exact h.elim
    rename_i e' sz' n' xs hk
    split at h
    rotate_left
    · exact h.elim
    rename_i he hsz'
    have he := Nat.eq_of_beq_eq_true he
    have hsz' := Nat.eq_of_beq_eq_true hsz'
    subst he hsz'
    obtain ⟨⟨g1, g2, g3⟩, h⟩ := h
    replace h := h _ _ rfl rfl
    obtain ⟨hown0, hn, _, hone, hA⟩ := hc.m.ch k _ hk
    obtain ⟨v', w', hr, hown, hg, hb⟩ := run_append_src (ty := o.type) (P := P) ht hi hz hisz hiby hzs hsz hown0 hsrc g3 (maxLen_le g1) g2 (Nat.zero_le _)
    obtain ⟨A', c', rfl, hA'⟩ := own_form hown
    rw [← hs, ← hx] at hr
    obtain ⟨k0, k1, k2, h⟩ := newK_ok h
    have hne : key ≠ k := fun e => by subst e; rw [getL_hasLL hk (.inl rfl)] at k2; cases k2
    rw [fLL_eq] at h
    have hrem : remL ((key, LB.arr e' sz' (n' + m) (xs ++ ys)) :: L) k = (key, LB.arr e' sz' (n' + m) (xs ++ ys)) :: remL L k := by
      have hb : Nat.beq key k = false := by rw [Bool.eq_false_iff]; exact fun e => hne (Nat.eq_of_beq_eq_true e)
      simp [remL_c, remL_n, hb]
    rw [hrem] at h
    refine wpIn_value hd (hrun hr) ?_
    have hmem := hc.m.app hk k2 hg hown hsz (fun x hx => by
      rcases List.mem_append.1 hx with hx | hx
      · exact hone x hx
      · exact g3 x hx) hA' hb
    obtain ⟨fr', hK', hc'⟩ := (hc.rem k0 k1 k2 hk hmem).put (v := .slice A' (n' + m) c') h (own_loc hown)
    exact ⟨_, q, fr', _, nk, hc', hK'⟩
  · exact h.elim
theorem src_of_vw {N0 k lo sz m e n0 : Nat} {ex : Bool} {xs : List Value} {u : Value} (hx : okv S (.vw k lo sz m ex) u) (hch : chunk N0 S k (.arr e sz n0 xs) w) (hb : lo + m ≤ n0) : ∃ A c, u = .slice A m c ∧ Src w A m sz (vwC xs lo sz m) := by
  obtain ⟨A, c, rfl, _, hl, hcell⟩ := vw_cells hx hch hb
  refine ⟨A, c, rfl, hl, fun j v hv => ?_⟩
  obtain ⟨a, g1, g2, _, _, _, g3⟩ := hcell j v hv
  exact ⟨a, g1, g2, g3⟩
theorem app_step (hT : TabOk P E.T) {o : Oper} {t key nk : Nat} {so xo : Operand} {K : Kt} (hop : o.op = .call ⟨.builtin .append, #[so, xo], #[t, t]⟩) (hc : Cfg w0 Sb B n0 N S q fr L a w)
    (h : appK E.T q t n0 key (opv fr so) (opv fr xo) fr L fun x L => putK N o.dst x fr fun fr => K nk q fr L) : Oper.wpIn (FF r) n P o a w (St w0 Sb B n0 N K) Q := by
  have hs := opv_ok hc.f so
  have hx := opv_ok hc.f xo
  unfold appK at h
  split at h
  rotate_left
  · exact h.elim
  rename_i e hd
  split at h
  · exact h.elim
  rename_i d sz byt zero fl hne hte
  have hrun : ∀ {v : Value} {w' : World}, (Builtin.append_ #[t, t] o.type #[a.eval so, a.eval xo]).run P w = .ok v w' → (execOp a.eval o).run P w = .ok (.value v) w' := by
    intro v w' hr
    simp only [execOp, hop, resolve, invoke, builtin, Sem.run_bind, Sem.run_pure, Result.andThen_ok, List.map_toArray, List.map_cons, List.map_nil, hr]
  dsimp only at h
  split at h
  · rename_i A m c ex
    rw [ex] at hx
    have hx : a.eval xo = .slice A m c := hx
    obtain ⟨⟨ys, hl, hR⟩, h⟩ := h
    exact app_go hT hc (nd_of hop (by simp)) hd hte hne hrun hx (src_of_reads hc.m.on hl hR) (h ys hl hR) hs
  · rename_i j ex
    rw [ex] at hx
    have hx : a.eval xo = .slice (S j).A (S j).n (S j).c := hx
    split at h
    rotate_left
    · exact h.elim
    rename_i e' sz' m ys hj
    split at h
    rotate_left
    · exact h.elim
    rename_i hsz
    have hsz := Nat.eq_of_beq_eq_true hsz
    subst hsz
    have hch := hc.m.ch j _ hj
    have hn := hch.2.1
    rw [hn] at hx
    exact app_go hT hc (nd_of hop (by simp)) hd hte hne hrun hx (src_of_own hch) h hs
  · rename_i j lo sz'' m _ ex
    rw [ex] at hx
    split at h
    rotate_left
    · exact h.elim
    rename_i e' sz' n1 ys hj
    split at h
    rotate_left
    · exact h.elim
    rename_i hsz1 hsz2
    have hsz1 := Nat.eq_of_beq_eq_true hsz1
    have hsz2 := Nat.eq_of_beq_eq_true hsz2
    subst hsz1 hsz2
    obtain ⟨⟨hb⟩, h⟩ := h
    obtain ⟨A, c, hx, hsrc⟩ := src_of_vw hx (hc.m.ch j _ hj) hb
    exact app_go hT hc (nd_of hop (by simp)) hd hte hne hrun hx hsrc h hs
  · exact h.elim
theorem apps_step (hT : TabOk P E.T) {o : Oper} {t u key nk : Nat} {so xo : Operand} {K : Kt} (hop : o.op = .call ⟨.builtin .append, #[so, xo], #[t, u]⟩) (hc : Cfg w0 Sb B n0 N S q fr L a w)
    (h : appS E.T t u n0 key (opv fr so) (opv fr xo) fr L fun x L => putK N o.dst x fr fun fr => K nk q fr L) : Oper.wpIn (FF r) n P o a w (St w0 Sb B n0 N K) Q := by
  have hs := opv_ok hc.f so
  have hx := opv_ok hc.f xo
  unfold appS at h
  split at h
  rotate_left
  · exact h.elim
  rename_i e c hd hdu ex
  rw [ex] at hx
  have hx : a.eval xo = .string c := hx
  split at h
  rotate_left
  · exact h.elim
  rename_i hby
  obtain ⟨b1, b2, b3, b4⟩ := isByte_ok hby
  have hd' := nd_of hop (by simp)
  have hrun : ∀ {v : Value} {w' : World}, (Builtin.append_ #[t, u] o.type #[a.eval so, a.eval xo]).run P w = .ok v w' → (execOp a.eval o).run P w = .ok (.value v) w' := by
    intro v w' hr
    simp only [execOp, hop, resolve, invoke, builtin, Sem.run_bind, Sem.run_pure, Result.andThen_ok, List.map_toArray, List.map_cons, List.map_nil, hr]
  obtain ⟨ht, hsz, i, hi, hisz, hiby⟩ : descOk P E.T t (.slice e) := by rw [← hd]; exact (hT t (by rw [hd]; simp)).d
  have hu : P.underlying u = some .string := by
    have := (hT u (by rw [hdu]; simp)).d
    rw [hdu] at this
    exact this
  obtain ⟨i', z, hi', hisz', _, hz, hzc⟩ := (hT e (by rw [b1]; simp)).i
  rw [hi] at hi'
  cases hi'
  rw [b3] at hisz
  rw [b4] at hiby
  have hzs : z.cells.size = 1 := by rw [← Array.length_toList, hzc, b2]; rfl
  have hone : ∀ x ∈ c.data.toList.map bv, x.oneCell' = true := fun x hx => by
    obtain ⟨y, _, rfl⟩ := List.mem_map.1 hx
    rfl
  split at h
  · rename_i es
    rw [es] at hs
    have hs : a.eval so = .slice none 0 0 := hs
    obtain ⟨⟨g2⟩, h⟩ := h
    replace h := h _ _ rfl rfl
    obtain ⟨v', w', hr, hown, hg, hb⟩ := run_append_str (ty := o.type) (P := P) ht hu hi hz hzs hisz hiby (World.ownsRow_nil w 0 e 1) c (by unfold maxLen; omega) (by omega) (Nat.zero_le _)
    rw [Nat.zero_add, List.nil_append] at hown
    obtain ⟨A', c', rfl, hA'⟩ := own_form hown
    rw [← hs, ← hx] at hr
    obtain ⟨k0, k1, k2, h⟩ := newK_ok h
    refine wpIn_value hd' (hrun hr) ?_
    have hmem : Mem w0 q (updS S key (locOf A' c.size c')) ((key, .arr e 1 c.size (c.data.toList.map bv)) :: L) w' := by
      refine hc.m.new k2 ((Below.refl _ w).grown hg (Nat.le_refl _) (fun k e => by cases e)) (chunk_arr hown (Nat.succ_pos 0) hone hA') fun b hbb => ?_
      rcases hb with hb | hb
      · rcases hA' with rfl | ⟨g, rfl⟩
        · simp [blk, updS_same, locOf] at hbb
        · simp [Value.ownBlock] at hb
      · rcases hA' with rfl | ⟨g, rfl⟩
        · simp [blk, updS_same, locOf] at hbb
        · simp [blk, updS_same, locOf] at hbb
          simp [Value.ownBlock] at hb
          omega
    obtain ⟨fr', hK', hc'⟩ := (hc.new k0 k1 k2 hmem).put (v := .slice A' c.size c') h (own_loc hown)
    exact ⟨_, q, fr', _, nk, hc', hK'⟩
  · rename_i k es
    rw [es] at hs
    have hs : a.eval so = .slice (S k).A (S k).n (S k).c := hs
    split at h
    rotate_left
    · exact h.elim
    rename_i e' sz' n' xs hk
    split at h
    rotate_left
    · exact h.elim
    rename_i he hsz'
    have he := Nat.eq_of_beq_eq_true he
    have hsz' := Nat.eq_of_beq_eq_true hsz'
    subst he hsz'
    obtain ⟨⟨g2⟩, h⟩ := h
    replace h := h _ _ rfl rfl
    obtain ⟨hown0, hn, _, hone0, hA⟩ := hc.m.ch k _ hk
    obtain ⟨v', w', hr, hown, hg, hb⟩ := run_append_str (ty := o.type) (P := P) ht hu hi hz hzs hisz hiby hown0 c (by unfold maxLen; omega) g2 (Nat.zero_le _)
    obtain ⟨A', c', rfl, hA'⟩ := own_form hown
    rw [← hs, ← hx] at hr
    obtain ⟨k0, k1, k2, h⟩ := newK_ok h
    have hne : key ≠ k := fun e => by subst e; rw [getL_hasLL hk (.inl rfl)] at k2; cases k2
    rw [fLL_eq] at h
    have hrem : remL ((key, LB.arr e' 1 (n' + c.size) (xs ++ c.data.toList.map bv)) :: L) k = (key, LB.arr e' 1 (n' + c.size) (xs ++ c.data.toList.map bv)) :: remL L k := by
      have hb : Nat.beq key k = false := by rw [Bool.eq_false_iff]; exact fun e => hne (Nat.eq_of_beq_eq_true e)
      simp [remL_c, remL_n, hb]
    rw [hrem] at h
    refine wpIn_value hd' (hrun hr) ?_
    have hmem := hc.m.app hk k2 hg hown (Nat.succ_pos 0) (fun x hx => by
      rcases List.mem_append.1 hx with hx | hx
      · exact hone0 x hx
      · exact hone x hx) hA' hb
    obtain ⟨fr', hK', hc'⟩ := (hc.rem k0 k1 k2 hk hmem).put (v := .slice A' (n' + c.size) c') h (own_loc hown)
    exact ⟨_, q, fr', _, nk, hc', hK'⟩
  · exact h.elim
theorem vwC_one {xs : List Value} {lo sz m : Nat} (h : ∀ y ∈ xs, y.oneCell' = true) : ∀ y ∈ vwC xs lo sz m, y.oneCell' = true := fun y hy => h y (List.mem_of_mem_drop (List.mem_of_mem_take hy))
theorem take_mid {l m : List Value} {lo n : Nat} (h : lo + m.length ≤ n) (hl : n ≤ l.length) : (l.take lo ++ m ++ l.drop (lo + m.length)).take n = (l.take n).take lo ++ m ++ (l.take n).drop (lo + m.length) := by
  have e : (l.take lo ++ m).length = lo + m.length := by rw [List.length_append, List.length_take]; omega
  rw [List.take_append, e, List.take_of_length_le (by omega), List.take_take, Nat.min_eq_left (by omega), List.drop_take]
theorem Mem.same {k : Nat} {lb : LB} (h : Mem w0 q S L w) (hk : getL L k = some lb) : Mem w0 q S (setL L k lb) w := by
  have g : ∀ j, getL (setL L k lb) j = getL L j := fun j => by
    rw [getL_setL]
    split
    · rename_i e; subst e; rw [hk]; rfl
    · rfl
  exact ⟨fun j l hj => h.ch j l (g j ▸ hj), fun j l j' l' hj hj' => h.ap j l j' l' (g j ▸ hj) (g j' ▸ hj'), fun j l hj => h.po j l (g j ▸ hj), fun j l hj => h.fz j l (g j ▸ hj), h.on, h.be, h.gw⟩
theorem copy_go {o : Oper} {t t' e e' k lo n0 nn m c c' nk : Nat} {A A' : Option Addr} {xs ys : List Value} {dop sop : Operand} {K : Kt} (hc : Cfg w0 Sb B n0' N S q fr L a w) (hd : ∀ c, o.op ≠ .defer c)
    (ht : P.underlying t = some (.slice e)) (hsz : (P.info? e).map (·.size) = some 1)
    (hrun : ∀ {v : Value} {w' : World}, (Builtin.copy_ #[t, t'] o.type #[a.eval dop, a.eval sop]).run P w = .ok v w' → (execOp a.eval o).run P w = .ok (.value v) w')
    (hk : getL L k = some (.arr e' 1 n0 xs)) (hb : lo + nn ≤ n0) (hdv : a.eval dop = .slice A nn c) (hA : nn = 0 ∨ A = (S k).A.map (·.add lo))
    (hsv : a.eval sop = .slice A' m c') (hsrc : Src w A' m 1 ys) (h1 : ∀ y ∈ ys, y.oneCell' = true)
    (h : putK N o.dst (.v (.int .i64 ((min m nn : Nat) : Int))) fr fun fr => K nk q fr (setL L k (.arr e' 1 n0 (xs.take lo ++ ys.take (min m nn) ++ xs.drop (lo + min m nn))))) : Oper.wpIn (FF r) n P o a w (St w0 Sb B n0' N K) Q := by
  obtain ⟨⟨hl, hown⟩, hn, hsz1, hone, hAk⟩ := hc.m.ch k _ hk
  have fin : ∀ {w' : World}, (Builtin.copy_ #[t, t'] o.type #[.slice A nn c, .slice A' m c']).run P w = .ok (goInt ((min m nn : Nat) : Int)) w' → Mem w0 q S (setL L k (.arr e' 1 n0 (xs.take lo ++ ys.take (min m nn) ++ xs.drop (lo + min m nn)))) w' → Oper.wpIn (FF r) n P o a w (St w0 Sb B n0' N K) Q := by
    intro w' hr hm
    rw [← hdv, ← hsv] at hr
    refine wpIn_value hd (hrun hr) ?_
    obtain ⟨fr', hK', hc'⟩ := (hc.turn hk (by simp) hm).put (v := .int .i64 ((min m nn : Nat) : Int)) h rfl
    exact ⟨S, q, fr', _, nk, hc', hK'⟩
  by_cases hz : min m nn = 0
  · refine fin (w' := w) (by rw [hz]; exact run_copy_none (P := P) w t t' o.type e A A' nn c m c' ht hsz hz) ?_
    rw [hz]
    simp only [List.take_zero, List.append_nil, Nat.add_zero, List.take_append_drop]
    exact hc.m.same hk
  · have hA := hA.resolve_left (by omega)
    rcases hown with ⟨_, hn0⟩ | ⟨g, cap, cur, hval, hg0, hg, hcap, hmax, hcur, htake⟩
    · omega
    injection hval with hval hval2 hval3
    have hAb : (S k).A = some ⟨(S k).b, 0, none⟩ := by
      rcases hAk with hAk | hAk
      · rw [hAk] at hval; cases hval
      · exact hAk
    have hgb : g = (S k).b := by
      rw [hAb] at hval
      injection hval with hval
      injection hval with hval _ _
      exact hval.symm
    subst hgb
    have hA2 : A = some ⟨(S k).b, lo, none⟩ := by rw [hA, hAb]; simp [Addr.add_lit]
    obtain ⟨hys, hcell⟩ := hsrc
    obtain ⟨y0, hy0⟩ : ∃ y, ys[0]? = some y := ⟨ys[0]'(by omega), List.getElem?_eq_getElem (by omega)⟩
    obtain ⟨a', rfl, hs', _⟩ := hcell 0 y0 hy0
    have hlen : (ys.take (min m nn)).length = min m nn := by rw [List.length_take]; omega
    have hr := run_copy_row (P := P) w t t' o.type e (S k).b lo nn c a' m c' cur e' (ys.take (min m nn)) ht hsz hg hlen (fun j v hv => by
      have hj := (List.getElem?_eq_some_iff.1 hv).1
      rw [hlen] at hj
      rw [List.getElem?_take_of_lt hj] at hv
      obtain ⟨a2, e2, _, h3⟩ := hcell j v hv
      injection e2 with e2
      subst e2
      obtain ⟨b2, o2, s2⟩ := a'
      cases hs'
      rw [Addr.add_lit]
      exact h3) (by rw [hlen, hcur]; omega) (fun v hv => h1 v (List.mem_of_mem_take hv))
    rw [← hA2, hlen] at hr
    refine fin hr (hc.m.turn hk (by simp [blk, hAb]) setRow_grown ?_ (by simp [blk, hAb]))
    refine ⟨⟨?_, .inr ⟨_, cap, _, ?_, hg0, setRow_heap w _ _ _ e' (0, 0) hg, hcap, hmax, ?_, ?_⟩⟩, hn, hsz1, ?_, hAk⟩
    · rw [List.length_append, List.length_append, List.length_take, List.length_drop, hlen]; omega
    · rw [hAb, hval2, hval3]
    · simp only [List.size_toArray, List.length_append, List.length_take, List.length_drop, hlen, Array.length_toList]; omega
    · have := take_mid (l := cur.toList) (m := ys.take (min m nn)) (lo := lo) (n := n0 * 1) (by rw [hlen]; omega) (by rw [Array.length_toList]; omega)
      rw [hlen, htake] at this
      exact this
    · intro u hu
      rcases List.mem_append.1 hu with hu | hu
      · rcases List.mem_append.1 hu with hu | hu
        · exact hone u (List.mem_of_mem_take hu)
        · exact h1 u (List.mem_of_mem_take hu)
      · exact hone u (List.mem_of_mem_drop hu)
theorem copy_step (hT : TabOk P E.T) {o : Oper} {t t' nk : Nat} {dop sop : Operand} {K : Kt} (hop : o.op = .call ⟨.builtin .copy, #[dop, sop], #[t, t']⟩) (hc : Cfg w0 Sb B n0 N S q fr L a w)
    (h : copyK E.T q t (opv fr dop) (opv fr sop) L fun x L => putK N o.dst x fr fun fr => K nk q fr L) : Oper.wpIn (FF r) n P o a w (St w0 Sb B n0 N K) Q := by
  have hd := opv_ok hc.f dop
  have hs := opv_ok hc.f sop
  unfold copyK at h
  split at h
  rotate_left
  · exact h.elim
  rename_i e hte
  split at h
  · exact h.elim
  rename_i hz
  have hz := Nat.eq_of_beq_eq_true hz
  obtain ⟨ht, _, i, hi, hisz, _⟩ : descOk P E.T t (.slice e) := by rw [← hte]; exact (hT t (by rw [hte]; simp)).d
  have hsz : (P.info? e).map (·.size) = some 1 := by rw [hi]; simp [hisz, hz]
  have hrun : ∀ {v : Value} {w' : World}, (Builtin.copy_ #[t, t'] o.type #[a.eval dop, a.eval sop]).run P w = .ok v w' → (execOp a.eval o).run P w = .ok (.value v) w' := by
    intro v w' hr
    simp only [execOp, hop, resolve, invoke, builtin, Sem.run_bind, Sem.run_pure, Result.andThen_ok, List.map_toArray, List.map_cons, List.map_nil, hr]
  have go : ∀ {m c : Nat} {A : Option Addr} {ys : List Value}, a.eval sop = .slice A m c → Src w A m 1 ys → cpTo (opv fr dop) L (fun x L => putK N o.dst x fr fun fr => K nk q fr L) m ys → Oper.wpIn (FF r) n P o a w (St w0 Sb B n0 N K) Q := by
    intro m c A ys hsv hsrc h
    unfold cpTo at h
    split at h
    · rename_i k ek
      rw [ek] at hd
      have hd : a.eval dop = .slice (S k).A (S k).n (S k).c := hd
      split at h
      rotate_left
      · exact h.elim
      rename_i e' sz n1 xs hk
      split at h
      rotate_left
      · exact h.elim
      rename_i h1
      have h1 := Nat.eq_of_beq_eq_true h1
      subst h1
      obtain ⟨⟨g1⟩, h⟩ := h
      have h := h _ _ _ rfl rfl rfl
      rw [fLL_eq] at h
      have hn := (hc.m.ch k _ hk).2.1
      rw [hn] at hd
      refine copy_go (lo := 0) (nk := nk) hc (nd_of hop (by simp)) ht hsz hrun hk (by omega) hd (.inr ?_) hsv hsrc g1 ?_
      · cases (S k).A with
        | none => rfl
        | some ad => simp [Addr.add]
      · simpa using h
    · rename_i k lo sz' n1 _ ek
      rw [ek] at hd
      obtain ⟨A1, c1, hd, _, hA1, _⟩ := hd
      split at h
      rotate_left
      · exact h.elim
      rename_i e' sz n2 xs hk
      split at h
      rotate_left
      · exact h.elim
      rename_i h1 h2
      have h1 := Nat.eq_of_beq_eq_true h1
      have h2 := Nat.eq_of_beq_eq_true h2
      subst h1 h2
      obtain ⟨⟨g0, g1⟩, h⟩ := h
      have h := h _ _ _ rfl rfl rfl
      rw [fLL_eq] at h
      rw [Nat.mul_one] at hA1
      exact copy_go hc (nd_of hop (by simp)) ht hsz hrun hk g0 hd hA1 hsv hsrc g1 h
    · exact h.elim
  split at h
  · rename_i A m c ex
    rw [ex] at hs
    have hs : a.eval sop = .slice A m c := hs
    obtain ⟨⟨ys, hl, hR⟩, h⟩ := h
    exact go hs (src_of_reads hc.m.on hl hR) (h ys hl hR)
  · rename_i j ex
    rw [ex] at hs
    have hs : a.eval sop = .slice (S j).A (S j).n (S j).c := hs
    split at h
    rotate_left
    · exact h.elim
    rename_i e' sz' m ys hj
    split at h
    rotate_left
    · exact h.elim
    rename_i hsz'
    have hsz' := Nat.eq_of_beq_eq_true hsz'
    subst hsz'
    have hch := hc.m.ch j _ hj
    have hn := hch.2.1
    rw [hn] at hs
    exact go hs (src_of_own hch) h
  · rename_i j lo sz m _ ex
    rw [ex] at hs
    split at h
    rotate_left
    · exact h.elim
    rename_i e' sz' n1 ys hj
    split at h
    rotate_left
    · exact h.elim
    rename_i h1 h2
    have h1 := Nat.eq_of_beq_eq_true h1
    have h2 := Nat.eq_of_beq_eq_true h2
    subst h1 h2
    obtain ⟨⟨hb⟩, h⟩ := h
    obtain ⟨A, c, hs, hsrc⟩ := src_of_vw hs (hc.m.ch j _ hj) hb
    exact go hs hsrc h
  · exact h.elim
theorem own_short {e sz n' m c : Nat} {A : Option Addr} {xs : List Value} (h : w.ownsRow 0 e sz (.slice A n' c) n' xs) (hm : m ≤ n') : w.ownsRow 0 e sz (.slice A m c) m (xs.take (m * sz)) := by
  have hle : m * sz ≤ n' * sz := Nat.mul_le_mul_right _ hm
  refine ⟨by rw [List.length_take, h.1]; omega, ?_⟩
  rcases h.2 with ⟨e1, e2⟩ | ⟨g, cap, cur, e1, h1, h2, h3, h4, h5, h6⟩
  · injection e1 with a1 a2 a3
    have : m = 0 := by omega
    subst this
    exact .inl ⟨by rw [a1, a3], rfl⟩
  · injection e1 with a1 a2 a3
    refine .inr ⟨g, cap, cur, by rw [a1, a3], h1, h2, by omega, h4, h5, ?_⟩
    rw [← h6, List.take_take, Nat.min_eq_left hle]
theorem store_step (hT : TabOk P E.T) {o : Oper} {t nk key : Nat} {x y : Operand} {K : Kt} (hop : o.op = .store t x y) (hc : Cfg w0 Sb B n0 N S q fr L a w)
    (h : match opv fr y with
      | .vw k 0 sz m true => (match getL L k with
        | some (.arr e sz' n xs) => (match Nat.beq sz' sz with
          | true => Ob (m ≤ n) ∧ ∀ N' zs, N' = m → zs = xs.take (m * sz) → newK n0 key fr L (.arr e sz' N' zs) fun L => fLL (remL L k) fun L => storeK E.T t (opv fr x) (.own key) L fun L => putK N o.dst (.v undef) fr fun fr => K nk q fr L
          | false => False)
        | _ => False)
      | z => storeK E.T t (opv fr x) z L fun L => putK N o.dst (.v undef) fr fun fr => K nk q fr L) : Oper.wpIn (FF r) n P o a w (St w0 Sb B n0 N K) Q := by
  have hy := opv_ok hc.f y
  split at h
  · rename_i k sz m ey
    rw [ey] at hy
    split at h
    rotate_left
    · exact h.elim
    rename_i e sz' n1 xs hk
    split at h
    rotate_left
    · exact h.elim
    rename_i hs
    have hs := Nat.eq_of_beq_eq_true hs
    subst hs
    obtain ⟨⟨hm⟩, h⟩ := h
    replace h := h _ _ rfl rfl
    obtain ⟨k0, k1, k2, h⟩ := newK_ok h
    obtain ⟨A, c, hv, _, _, hex⟩ := hy
    obtain ⟨hA, hcc⟩ := hex rfl rfl
    obtain ⟨hown, hn, hsz, hone, hAk⟩ := hc.m.ch k _ hk
    have hne : key ≠ k := fun e => by subst e; rw [getL_hasLL hk (.inl rfl)] at k2; cases k2
    have hrem : remL ((key, LB.arr e sz' m (xs.take (m * sz'))) :: L) k = (key, LB.arr e sz' m (xs.take (m * sz'))) :: remL L k := by
      have hb : Nat.beq key k = false := by rw [Bool.eq_false_iff]; exact fun e => hne (Nat.eq_of_beq_eq_true e)
      simp [remL_c, hb]
    rw [fLL_eq, hrem] at h
    have hown2 := own_short (by rw [hn] at hown; exact hown) hm
    have hmem := hc.m.app hk k2 (w' := w) ⟨rfl, rfl, rfl, Nat.le_refl _, fun _ _ _ => rfl⟩ hown2 hsz (fun y hy => hone y (List.mem_of_mem_take hy)) (hAk.imp id fun h => ⟨_, h⟩) (.inl (by cases (S k).A <;> rfl))
    refine store_gen hT hop (hc.rem k0 k1 k2 hk hmem) ?_ h
    show a.eval y = .slice (updS S key (locOf (S k).A m (S k).c) key).A (updS S key (locOf (S k).A m (S k).c) key).n (updS S key (locOf (S k).A m (S k).c) key).c
    rw [hv, hA, hcc, updS_same]
    simp [locOf]
  · exact store_gen hT hop hc hy h
theorem cell_of_heap {w : World} {b o t : Nat} {cur : Array Value} {fz : Nat × Nat} (h : w.heap[b]? = some (.cells cur t fz)) : w.cell? ⟨b, o, none⟩ = cur[o]? := by simp [World.cell?, h]
def growPH (q : PH) (b : Nat) (xs : List Value) : PH := fun c o => if c = b then xs[o]? else q c o
theorem sb_step (hT : TabOk P E.T) {o : Oper} {src t e nk : Nat} {x : Operand} {s : ByteArray} {K : Kt} (hop : o.op = .convert src t x) (hc : Cfg w0 Sb B n0 N S q fr L a w)
    (h1 : (ty E.T src).d = .str) (h2 : (ty E.T t).d = .slice e) (h3 : (ty E.T e).d = .int .u8) (hx : opv fr x = .v (.string s))
    (h : sbK q s fun q x => putK N o.dst x fr fun fr => K nk q fr L) : Oper.wpIn (FF r) n P o a w (St w0 Sb B n0 N K) Q := by
  have hxv := opv_ok hc.f x
  rw [hx] at hxv
  have hxv : a.eval x = .string s := hxv
  have t1 : P.underlying src = some .string := by have := (hT src (by rw [h1]; simp)).d; rw [h1] at this; exact this
  have t2 : P.underlying t = some (.slice e) := by have := (hT t (by rw [h2]; simp)).d; rw [h2] at this; exact this.1
  have t3 : P.underlying e = some (.int .u8) := by have := (hT e (by rw [h3]; simp)).d; rw [h3] at this; exact this
  have hr := run_bytes_of_string (P := P) w src t e s t1 t2 t3
  obtain ⟨_, h⟩ := h
  generalize hcap : grownCap w s.size 0 e = cap at hr
  have hbb : Below w.heap.size w (w.drew.alloc (.cells (bytesRow s cap) e ((bytesRow s cap).size, (bytesRow s cap).size + 1))) :=
    ((Below.refl _ w).drew).alloc (Nat.le_refl _) _
  have hm := hc.m.below hbb
  have hq0 : ∀ o, q w.heap.size o = none := fun o => by
    cases hq : q w.heap.size o with
    | none => rfl
    | some v => have := on_lt hc.m.on hq; omega
  have hle : q.le (growPH q w.heap.size (s.data.toList.map bv)) := fun b o v hv => by
    unfold growPH
    split
    · rename_i e; subst e; rw [hq0] at hv; cases hv
    · exact hv
  have hcell : ∀ o v, (s.data.toList.map bv)[o]? = some v → (w.drew.alloc (.cells (bytesRow s cap) e ((bytesRow s cap).size, (bytesRow s cap).size + 1))).cell? ⟨w.heap.size, o, none⟩ = some v := by
    intro o v hv
    have hh : (w.drew.alloc (.cells (bytesRow s cap) e ((bytesRow s cap).size, (bytesRow s cap).size + 1))).heap[w.heap.size]? = some (.cells (bytesRow s cap) e ((bytesRow s cap).size, (bytesRow s cap).size + 1)) := heap_alloc_new w.drew _
    rw [cell_of_heap hh, bytesRow, ← Array.getElem?_toList]
    rw [Array.toList_append, Array.toList_map, List.getElem?_append_left (by simpa using (List.getElem?_eq_some_iff.1 hv).1)]
    exact hv
  refine wpIn_value (nd_of hop (by simp)) (run_exec (s := convert src t (a.eval x)) (by simp only [execOp, hop]) (by rw [hxv]; exact hr)) ?_
  have hK := h (growPH q w.heap.size (s.data.toList.map bv)) (some ⟨w.heap.size, 0, none⟩) cap hle (hcap ▸ grownCap_ge w s.size 0 e) (fun j hj => by simp [rd, growPH]) _ rfl
  have hm' : Mem w0 (growPH q w.heap.size (s.data.toList.map bv)) S L (w.drew.alloc (.cells (bytesRow s cap) e ((bytesRow s cap).size, (bytesRow s cap).size + 1))) := by
    refine ⟨hm.ch, hm.ap, fun k lb hk b hb o => ?_, hm.fz, fun b o v hv => ?_, hm.be, fun b o v hv hF => ?_⟩
    · unfold growPH
      rw [if_neg]
      · exact hm.po k lb hk b hb o
      · have := (blk_lt (hc.m.ch k lb hk) hb).2
        omega
    · unfold growPH at hv
      split at hv
      · rename_i e; subst e; exact hcell o v hv
      · exact hm.on b o v hv
    · unfold growPH at hv
      split at hv
      · rename_i e
        have h1 := w0.lt b hF
        have h2 := hc.m.be.size
        omega
      · exact hm.gw b o v hv hF
  obtain ⟨fr', hK', hc'⟩ := (hc.mem hm').put (v := .slice (some ⟨w.heap.size, 0, none⟩) s.size cap) hK rfl
  exact ⟨S, _, fr', L, nk, hc', hK'⟩
end Go.Eng
