/-
  Texts that the law leans on. Nothing here is trusted.
-/
import Derived.Test.YtnlglgafokjhnaaGreatEngM
set_option linter.unusedVariables false
set_option linter.unusedSimpArgs false
namespace Go.Eng
open Go Go.RowKit
variable {P : Program} {S S' Sb : Pl} {fr : Fr} {L L' : LL} {q q' : PH} {w0 : W0} {w w' : World} {a : Act} {n0 N : Nat} {B : Nat → Prop} {E : Env}
variable {r : Option Nat} {n : Nat} {Q : Exit → Act → World → Prop}
noncomputable section
def xfresh (n0 key : Nat) (fr : Fr) (L : LL) : Bool :=
  match Nat.ble n0 key with
  | true => (match hasF key fr with | true => false | false => (match hasLL key L with | true => false | false => true))
  | false => false
def xcap (n byt : Nat) : Bool := match Nat.ble n 9223372036854775807 with | true => Nat.ble (n * byt) 140737488355328 | false => false
def xsrc (L : LL) (sz : Nat) (x : SV) : Option (Nat × List SV) :=
  match x with
  | .v (.slice none 0 _) => some (0, [])
  | .own j => (match getL L j with
    | some (.row _ sz' n cs) => (match Nat.beq sz' sz with | true => some (n, cs) | false => none)
    | some (.sb _ n xs) => (match Nat.beq sz 1, oneVL xs with | true, true => some (n, valL xs) | _, _ => none)
    | _ => none)
  | .vw j lo sz'' m _ => (match getL L j with
    | some (.row _ sz' n cs) => (match Nat.beq sz'' sz, Nat.beq sz' sz, Nat.ble (lo + m) n with | true, true, true => some (m, vwS cs lo sz m) | _, _, _ => none)
    | some (.sb _ n xs) => (match Nat.beq sz'' 1, Nat.beq sz 1, Nat.ble (lo + m) n, oneVL xs with | true, true, true, true => some (m, valL ((xs.drop lo).take m)) | _, _, _, _ => none)
    | _ => none)
  | _ => none
def xdst (L : LL) (e sz : Nat) (s : SV) : Option (Option Nat × Nat × List SV) :=
  match s with
  | .v (.slice none 0 0) => some (none, 0, [])
  | .own k => (match getL L k with | some (.row e' sz' n cs) => (match Nat.beq e' e, Nat.beq sz' sz with | true, true => some (some k, n, cs) | _, _ => none) | _ => none)
  | .vw k 0 sz'' m true => (match getL L k with | some (.row e' sz' n cs) => (match Nat.beq e' e, Nat.beq sz' sz, Nat.ble m n with | true, true, true => some (some k, m, takeN cs (m * sz)) | _, _, _ => none) | _ => none)
  | _ => none
def xrem (k : Option Nat) (L : LL) : LL := match k with | none => L | some k => remL L k
def xapp (T : Tab) (t n0 key : Nat) (s x : SV) (fr : Fr) (L : LL) : Option (SV × LL) :=
  match (ty T t).d with
  | .slice e =>
    (match ty T e with
    | ⟨.other, _, _, _, _, _⟩ => none
    | ⟨_, sz, byt, _, _, _⟩ => (match xsrc L sz x with
      | none => none
      | some (m, ys) => (match xdst L e sz s with
        | none => none
        | some (k, n, cs) => (match xcap (n + m) byt, xfresh n0 key fr L with
          | true, true => some (.own key, (key, .row e sz (n + m) (catQ cs ys)) :: xrem k L)
          | _, _ => none))))
  | _ => none
end
theorem catQ_eq {α : Type} : ∀ (a b : List α), catQ a b = a ++ b
  | [], b => rfl
  | x :: r, b => by show x :: catQ r b = _; rw [catQ_eq r b]; rfl
theorem xfresh_ok {key : Nat} (h : xfresh n0 key fr L = true) : n0 ≤ key ∧ hasF key fr = false ∧ hasLL key L = false := by
  unfold xfresh at h
  split at h
  · rename_i h1
    split at h
    · cases h
    · rename_i h2
      split at h
      · cases h
      · rename_i h3; exact ⟨Nat.le_of_ble_eq_true h1, h2, h3⟩
  · cases h
theorem xcap_ok {n byt : Nat} (h : xcap n byt = true) : n ≤ 9223372036854775807 ∧ n * byt ≤ 140737488355328 := by
  unfold xcap at h
  split at h
  · rename_i h1; exact ⟨Nat.le_of_ble_eq_true h1, Nat.le_of_ble_eq_true h⟩
  · cases h
theorem hasL_cons {k : Nat} {x : SV} {r : List SV} : hasL k (x :: r) = (x.has k || hasL k r) := by
  rw [hasL]; cases x.has k <;> rfl
theorem hasF_cons {k u : Nat} {x : SV} {r : Fr} : hasF k ((u, x) :: r) = (x.has k || hasF k r) := by
  rw [hasF_c]; cases x.has k <;> rfl
theorem hasLL_cons {k u : Nat} {x : LB} {r : LL} : hasLL k ((u, x) :: r) = (Nat.beq u k || (x.has k || hasLL k r)) := by
  rw [hasLL_c]; cases Nat.beq u k <;> cases x.has k <;> rfl
theorem hasL_takeN {k : Nat} : ∀ {l : List SV} {n : Nat}, hasL k (takeN l n) = true → hasL k l = true
  | _, 0, h => by simp [takeN, hasL] at h
  | [], n + 1, h => by simp [takeN, hasL] at h
  | x :: r, n + 1, h => by
    simp only [takeN, hasL_cons, Bool.or_eq_true] at h ⊢
    exact h.imp id hasL_takeN
theorem hasL_dropN {k : Nat} : ∀ {l : List SV} {n : Nat}, hasL k (dropN l n) = true → hasL k l = true
  | [], 0, h => h
  | _ :: _, 0, h => h
  | [], n + 1, h => by simp [dropN, hasL] at h
  | x :: r, n + 1, h => by
    simp only [dropN] at h
    rw [hasL_cons, Bool.or_eq_true]
    exact .inr (hasL_dropN h)
theorem hasL_append {k : Nat} : ∀ {l m : List SV}, hasL k (l ++ m) = true → hasL k l = true ∨ hasL k m = true
  | [], m, h => .inr h
  | x :: r, m, h => by
    rw [List.cons_append, hasL_cons, Bool.or_eq_true] at h
    rw [hasL_cons, Bool.or_eq_true]
    rcases h with h | h
    · exact .inl (.inl h)
    · exact (hasL_append h).imp .inr id
theorem hasLL_setL {j k : Nat} {lb : LB} : ∀ {L : LL}, hasLL j (setL L k lb) = true → hasLL j L = true ∨ lb.has j = true
  | [], h => .inl h
  | (u, y) :: r, h => by
    rw [setL_c] at h
    cases e : Nat.beq u k with
    | true =>
      rw [e] at h
      simp only [hasLL_cons, Bool.or_eq_true] at h ⊢
      rcases h with h | h | h
      · exact .inl (.inl h)
      · exact .inr h
      · exact .inl (.inr (.inr h))
    | false =>
      rw [e] at h
      simp only [hasLL_cons, Bool.or_eq_true] at h ⊢
      rcases h with h | h | h
      · exact .inl (.inl h)
      · exact .inl (.inr (.inl h))
      · exact (hasLL_setL h).imp (fun h => .inr (.inr h)) id
theorem remL_setL' {k : Nat} {x : LB} : ∀ {L : LL}, remL (setL L k x) k = remL L k
  | [] => rfl
  | (u, y) :: r => by
    by_cases h : Nat.beq u k = true
    · simp [setL_c, remL_c, h]
    · have h : Nat.beq u k = false := by rw [Bool.eq_false_iff]; exact h
      simp [setL_c, remL_c, h, remL_setL' (L := r)]
theorem Mem.retell {k : Nat} {lb lb' : LB} (hm : Mem w0 q S L w) (hk : getL L k = some lb) (hb : blk S k lb' = blk S k lb) (hc : chunk 0 S k lb' w) : Mem w0 q S (setL L k lb') w := by
  have g : ∀ j x, getL (setL L k lb') j = some x → ∃ y, getL L j = some y ∧ blk S j x = blk S j y ∧ chunk 0 S j x w := by
    intro j x hj
    rw [getL_setL] at hj
    split at hj
    · rename_i e; subst e; rw [hk] at hj; cases hj; exact ⟨lb, hk, hb, hc⟩
    · exact ⟨x, hj, rfl, hm.ch j x hj⟩
  refine ⟨fun j x hj => (g j x hj).elim fun _ h => h.2.2, fun j x j' x' hj hj' hne b h1 h2 => ?_, fun j x hj b h1 => ?_, fun j x hj b h1 => ?_, hm.on, hm.be, hm.gw⟩
  · obtain ⟨y, g1, g2, _⟩ := g j x hj
    obtain ⟨y', g1', g2', _⟩ := g j' x' hj'
    exact hm.ap j y j' y' g1 g1' hne b (g2 ▸ h1) (g2' ▸ h2)
  · obtain ⟨y, g1, g2, _⟩ := g j x hj
    exact hm.po j y g1 b (g2 ▸ h1)
  · obtain ⟨y, g1, g2, _⟩ := g j x hj
    exact hm.fz j y g1 b (g2 ▸ h1)
theorem Mem.view {k e sz n : Nat} {cs : List SV} (hm : Mem w0 q S L w) (hk : getL L k = some (.row e sz n cs)) : ∃ xs, okL S cs xs ∧ chunk 0 S k (.arr e sz n xs) w ∧ getL (setL L k (.arr e sz n xs)) k = some (.arr e sz n xs) ∧ Mem w0 q S (setL L k (.arr e sz n xs)) w := by
  obtain ⟨xs, h1, h2⟩ := hm.ch k _ hk
  refine ⟨xs, h2, h1, ?_, hm.retell hk rfl h1⟩
  rw [getL_setL, if_pos rfl, hk]; rfl
theorem Mem.head {key e sz n : Nat} {xs : List Value} {cs : List SV} (hm : Mem w0 q S ((key, .arr e sz n xs) :: L) w) (hok : okL S cs xs) : Mem w0 q S ((key, .row e sz n cs) :: L) w := by
  have hk : getL ((key, LB.arr e sz n xs) :: L) key = some (.arr e sz n xs) := by rw [getL_cons, if_pos rfl]
  have := hm.retell (lb' := .row e sz n cs) hk rfl ⟨xs, hm.ch key _ hk, hok⟩
  rwa [setL_c, Nat.beq_refl] at this
theorem Cfg.rem' {key k : Nat} {lb lb0 : LB} {l : Loc} (hc : Cfg w0 Sb B n0 N S q fr L a w) (h0 : n0 ≤ key) (h1 : hasF key fr = false) (h2 : hasLL key L = false) (hk : getL L k = some lb0) (hd : lb0 ≠ .dfr) (hm : Mem w0 q (updS S key l) ((key, lb) :: remL L k) w') :
    Cfg w0 Sb B n0 N (updS S key l) q fr ((key, lb) :: remL L k) a w' := by
  have hne : ∀ d, getL L d = some .dfr → d ≠ key := fun d hd e => by subst e; rw [getL_hasLL hd (.inl rfl)] at h2; cases h2
  have hg : ∀ d, getL L d = some .dfr → getL ((key, lb) :: remL L k) d = some .dfr := fun d hd' => by
    rw [getL_cons, if_neg (fun e => hne d hd' e.symm), getL_remL]
    rw [if_neg (fun e => by subst e; rw [hk] at hd'; cases hd'; exact hd rfl)]
    exact hd'
  exact ⟨fun k hk => (updS_other (by omega)).trans (hc.ag k hk), fun d hd hB => hg d (hc.b d hd hB), hm, okF_upd h1 hc.f, hc.n, hc.d⟩
theorem okL_updS {key : Nat} {l : Loc} {cs : List SV} {vs : List Value} (h : okL S cs vs) (hk : hasL key cs = false) : okL (updS S key l) cs vs :=
  okL_congr cs (fun k hk' => updS_other (fun e => by subst e; rw [hk] at hk'; cases hk')) h
theorem sb_src {k e n lo m : Nat} {xs : List Value} (hc : chunk 0 S k (.sb e n xs) w) (h : lo + m ≤ n) : Src w ((S k).A.map (·.add lo)) m 1 ((xs.drop lo).take m) := by
  obtain ⟨_, hA, _, _, hl, cur, fz, hh, ht⟩ := hc
  refine ⟨by rw [List.length_take, List.length_drop]; omega, fun j v hv => ?_⟩
  have hj := (List.getElem?_eq_some_iff.1 hv).1
  rw [List.length_take, List.length_drop] at hj
  refine ⟨⟨(S k).b, lo, none⟩, by rw [hA]; simp [Addr.add_lit], rfl, ?_⟩
  rw [List.getElem?_take_of_lt (by omega), List.getElem?_drop, ← ht, List.getElem?_take_of_lt (by omega)] at hv
  simp only [World.cell?, hh]
  simpa using hv
theorem xsrc_ok {sz m : Nat} {x : SV} {ys : List SV} {u : Value} (hm : Mem w0 q S L w) (h : xsrc L sz x = some (m, ys)) (hx : okv S x u) :
    ∃ A c vs, u = .slice A m c ∧ Src w A m sz vs ∧ okL S ys vs ∧ (∀ y ∈ vs, y.oneCell' = true) ∧ ∀ k, hasL k ys = true → hasLL k L = true := by
  unfold xsrc at h
  split at h
  · cases h
    exact ⟨none, _, [], hx, ⟨by simp, fun j v hv => by simp at hv⟩, trivial, fun _ h => (by cases h), fun k hk => by simp [hasL] at hk⟩
  · rename_i j
    split at h
    · rename_i sz' n' cs hj
      split at h
      rotate_left
      · cases h
      rename_i hs
      have hs := Nat.eq_of_beq_eq_true hs
      subst hs
      cases h
      obtain ⟨xs, hok, hch, _⟩ := hm.view hj
      refine ⟨(S j).A, (S j).c, xs, ?_, src_of_own hch, hok, hch.2.2.2.1, fun k hk => getL_hasLL hj (.inr hk)⟩
      have hx : u = .slice (S j).A (S j).n (S j).c := hx
      rw [hx, hch.2.1]
    · rename_i e' n' xs hj
      split at h
      rotate_left
      · cases h
      rename_i h1 h2
      have h1 := Nat.eq_of_beq_eq_true h1
      subst h1
      cases h
      have hch := hm.ch j _ hj
      have hs := sb_src (lo := 0) (m := m) hch (by omega)
      obtain ⟨_, hA, hn, _, hl, _⟩ := hch
      refine ⟨(S j).A, (S j).c, xs, ?_, ?_, okL_valL _, oneVL_ok h2, fun k hk => by rw [hasL_valL] at hk; cases hk⟩
      · have hx : u = .slice (S j).A (S j).n (S j).c := hx
        rw [hx, hn]
      · rw [List.drop_zero, List.take_of_length_le (by omega)] at hs
        rw [hA] at hs ⊢
        simpa [Addr.add_lit] using hs
    · cases h
  · rename_i j lo sz'' m' ex
    split at h
    · rename_i sz' n' cs hj
      split at h
      rotate_left
      · cases h
      rename_i h1 h2 h3
      have h1 := Nat.eq_of_beq_eq_true h1
      have h2 := Nat.eq_of_beq_eq_true h2
      have h3 := Nat.le_of_ble_eq_true h3
      subst h1 h2
      cases h
      obtain ⟨xs, hok, hch, _⟩ := hm.view hj
      obtain ⟨A, c, hu, hsrc⟩ := src_of_vw hx hch h3
      exact ⟨A, c, _, hu, hsrc, vwS_ok hok, vwC_one hch.2.2.2.1, fun k hk => getL_hasLL hj (.inr (hasL_dropN (hasL_takeN hk)))⟩
    · rename_i e' n' xs hj
      split at h
      rotate_left
      · cases h
      rename_i h1 h2 h3 h4
      have h1 := Nat.eq_of_beq_eq_true h1
      have h2 := Nat.eq_of_beq_eq_true h2
      have h3 := Nat.le_of_ble_eq_true h3
      subst h1 h2
      cases h
      have hs := sb_src (hm.ch j _ hj) h3
      obtain ⟨A, c, hu, _, hA, _⟩ := hx
      refine ⟨A, c, _, hu, ?_, okL_valL _, fun y hy => oneVL_ok h4 y (List.mem_of_mem_drop (List.mem_of_mem_take hy)), fun k hk => by rw [hasL_valL] at hk; cases hk⟩
      rcases hA with rfl | hA
      · exact ⟨by simp, fun j v hv => by simp at hv⟩
      · rw [Nat.mul_one] at hA
        rw [hA]
        exact hs
    · cases h
  · cases h
theorem xapp_step (hT : TabOk P E.T) {o : Oper} {t key nk : Nat} {so xo : Operand} {y : SV} {K : Kt} (hop : o.op = .call ⟨.builtin .append, #[so, xo], #[t, t]⟩) (hc : Cfg w0 Sb B n0 N S q fr L a w)
    (h : xapp E.T t n0 key (opv fr so) (opv fr xo) fr L = some (y, L')) (hK : putK N o.dst y fr fun fr => K nk q fr L') : Oper.wpIn (FF r) n P o a w (St w0 Sb B n0 N K) Q := by
  have hs := opv_ok hc.f so
  have hx := opv_ok hc.f xo
  unfold xapp at h
  split at h
  rotate_left
  · cases h
  rename_i e hd
  split at h
  · cases h
  rename_i d sz byt zero fl cm hne hte
  have hdo : d ≠ .other := fun e' => hne e'
  split at h
  · cases h
  rename_i m ys hxs
  split at h
  · cases h
  rename_i k n' cs hds
  split at h
  rotate_left
  · cases h
  rename_i hcap hfr
  cases h
  obtain ⟨k0, k1, k2⟩ := xfresh_ok hfr
  obtain ⟨g1, g2⟩ := xcap_ok hcap
  obtain ⟨A, c, vs, hxe, hsrc, hys, hone, hysk⟩ := xsrc_ok hc.m hxs hx
  have hysn : hasL key ys = false := by
    cases hb : hasL key ys with
    | false => rfl
    | true => rw [hysk key hb] at k2; cases k2
  have hrun : ∀ {v : Value} {w' : World}, (Builtin.append_ #[t, t] o.type #[a.eval so, a.eval xo]).run P w = .ok v w' → (execOp a.eval o).run P w = .ok (.value v) w' := by
    intro v w' hr
    simp only [execOp, hop, resolve, invoke, builtin, Sem.run_bind, Sem.run_pure, Result.andThen_ok, List.map_toArray, List.map_cons, List.map_nil, hr]
  have hdf : ∀ c, o.op ≠ .defer c := nd_of hop (by simp)
  obtain ⟨ht, hsz, i, hi, hisz, hiby⟩ : descOk P E.T t (.slice e) := by rw [← hd]; exact (hT t (by rw [hd]; simp)).d
  obtain ⟨i', z, hi', hisz', _, hz, hzc⟩ := (hT e (by rw [hte]; exact hdo)).i
  have hzl := (hT e (by rw [hte]; exact hdo)).zl
  rw [hi] at hi'
  cases hi'
  rw [hte] at hisz hsz hiby hzc hzl
  simp only at hisz hsz hiby hzc hzl
  have hzs : z.cells.size = sz := by rw [← hzl, ← hzc]; simp
  rw [catQ_eq] at hK
  have own : ∀ {k1' n1 : Nat} {cs1 : List SV}, getL L k1' = some (.row e sz n1 cs1) → n' ≤ n1 → a.eval so = .slice (S k1').A n' (S k1').c → cs = takeN cs1 (n' * sz) → k = some k1' → Oper.wpIn (FF r) n P o a w (St w0 Sb B n0 N K) Q := by
    intro kk n1 cs1 hk hle hso hcs hkk
    subst hkk hcs
    obtain ⟨xs, hok, hch, hk', hm'⟩ := hc.m.view hk
    obtain ⟨hown0, hn, _, hone0, hA⟩ := hch
    rw [hn] at hown0
    have hown1 := own_short hown0 hle
    obtain ⟨v', w', hr, hown, hg, hb⟩ := run_append_src (ty := o.type) (P := P) ht hi hz hisz hiby hzs hsz hown1 hsrc hone (maxLen_le g1) g2 (Nat.zero_le _)
    obtain ⟨A', c', rfl, hA'⟩ := own_form hown
    rw [← hso, ← hxe] at hr
    have hne : key ≠ kk := fun e => by subst e; rw [getL_hasLL hk (.inl rfl)] at k2; cases k2
    have k2' : hasLL key (setL L kk (.arr e sz n1 xs)) = false := by
      cases hb : hasLL key (setL L kk (.arr e sz n1 xs)) with
      | false => rfl
      | true =>
        rcases hasLL_setL hb with h | h
        · rw [h] at k2; cases k2
        · simp [LB.has] at h
    have own_blk : ∀ (A : Option Addr) (n c n' c' : Nat), (Value.slice A n c).ownBlock = (Value.slice A n' c').ownBlock := fun A n c n' c' => by cases A <;> rfl
    have hmem := hm'.app (k := kk) (key := key) (e' := e) (sz' := sz) (xs' := xs.take (n' * sz) ++ vs) hk' k2' (by rw [own_blk _ _ _ n' (S kk).c]; exact hg) hown hsz (fun x hx => by
      rcases List.mem_append.1 hx with hx | hx
      · exact hone0 x (List.mem_of_mem_take hx)
      · exact hone x hx) hA' (by rw [own_blk (S kk).A (S kk).n _ n' (S kk).c]; exact hb)
    rw [remL_setL'] at hmem
    have hcsn : hasL key (takeN cs1 (n' * sz)) = false := by
      cases hb : hasL key (takeN cs1 (n' * sz)) with
      | false => rfl
      | true => rw [getL_hasLL hk (.inr (hasL_takeN hb))] at k2; cases k2
    have hok' : okL (updS S key (locOf A' (n' + m) c')) (takeN cs1 (n' * sz) ++ ys) (xs.take (n' * sz) ++ vs) := okL_append (okL_updS (okL_take _ hok) hcsn) (okL_updS hys hysn)
    refine wpIn_value hdf (hrun hr) ?_
    obtain ⟨fr', hK', hc'⟩ := (hc.rem' k0 k1 k2 hk (by simp) (hmem.head hok')).put (v := .slice A' (n' + m) c') hK (own_loc hown)
    exact ⟨_, q, fr', _, nk, hc', hK'⟩
  unfold xdst at hds
  split at hds
  · rename_i es
    rw [es] at hs
    have hs : a.eval so = .slice none 0 0 := hs
    cases hds
    obtain ⟨v', w', hr, hown, hg, hb⟩ := run_append_src (ty := o.type) (P := P) ht hi hz hisz hiby hzs hsz (World.ownsRow_nil w 0 e sz) hsrc hone (maxLen_le g1) g2 (Nat.zero_le _)
    rw [Nat.zero_add, List.nil_append] at hown
    obtain ⟨A', c', rfl, hA'⟩ := own_form hown
    rw [← hs, ← hxe] at hr
    refine wpIn_value hdf (hrun hr) ?_
    have hmem : Mem w0 q (updS S key (locOf A' m c')) ((key, .arr e sz m vs) :: L) w' := by
      refine hc.m.new k2 ((Below.refl _ w).grown hg (Nat.le_refl _) (fun k e => by cases e)) (chunk_arr hown hsz hone hA') fun b hbb => ?_
      rcases hb with hb | hb
      · rcases hA' with rfl | ⟨g, rfl⟩
        · simp [blk, updS_same, locOf] at hbb
        · simp [Value.ownBlock] at hb
      · rcases hA' with rfl | ⟨g, rfl⟩
        · simp [blk, updS_same, locOf] at hbb
        · simp [blk, updS_same, locOf] at hbb
          simp [Value.ownBlock] at hb
          omega
    rw [Nat.zero_add, List.nil_append] at hK
    obtain ⟨fr', hK', hc'⟩ := (hc.new k0 k1 k2 (hmem.head (okL_updS hys hysn))).put (v := .slice A' m c') hK (own_loc hown)
    exact ⟨_, q, fr', _, nk, hc', hK'⟩
  · rename_i kk es
    rw [es] at hs
    have hs : a.eval so = .slice (S kk).A (S kk).n (S kk).c := hs
    split at hds
    rotate_left
    · cases hds
    rename_i e' sz' n1 cs1 hk
    split at hds
    rotate_left
    · cases hds
    rename_i he hsz'
    have he := Nat.eq_of_beq_eq_true he
    have hsz' := Nat.eq_of_beq_eq_true hsz'
    subst he hsz'
    cases hds
    obtain ⟨xs, hok, hch, _⟩ := hc.m.view hk
    have hl : cs.length = n' * sz' := (okL_length hok).trans hch.1.1
    exact own hk (Nat.le_refl _) (by rw [hs, hch.2.1]) (by rw [takeN_eq, List.take_of_length_le (by omega)]) rfl
  · rename_i kk sz'' mm es
    rw [es] at hs
    split at hds
    rotate_left
    · cases hds
    rename_i e' sz' n1 cs1 hk
    split at hds
    rotate_left
    · cases hds
    rename_i he hsz' hle
    have he := Nat.eq_of_beq_eq_true he
    have hsz' := Nat.eq_of_beq_eq_true hsz'
    have hle := Nat.le_of_ble_eq_true hle
    subst he hsz'
    cases hds
    obtain ⟨A0, c0, hu, _, _, hex⟩ := hs
    obtain ⟨hA0, hc0⟩ := hex rfl rfl
    exact own hk hle (by rw [hu, hA0, hc0]) rfl rfl
  · cases hds
end Go.Eng
