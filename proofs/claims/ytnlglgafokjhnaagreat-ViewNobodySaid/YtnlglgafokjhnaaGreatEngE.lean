/-
  Texts that the law leans on. Nothing here is trusted.
-/
import Derived.Test.YtnlglgafokjhnaaGreatEngP
import Derived.Laws.BytesString
set_option linter.unusedVariables false
set_option linter.unusedSimpArgs false
namespace Go.Eng
open Go Go.RowKit
variable {P : Program} {T : Tab} {Γ : List Spec} {S : Pl} {fr : Fr} {L : LL} {p : PH} {N0 : Nat} {w0 : W0} {a : Act} {C : World → Prop}
theorem okL_valL : ∀ (vs : List Value), okL S (valL vs) vs
  | [] => trivial
  | v :: r => by cases v <;> exact ⟨rfl, okL_valL r⟩
theorem foldl_set (l : List Value) : ∀ (cs : List Value) (off j : Nat), off + j + l.length ≤ cs.length →
    ((l.zipIdx j).foldl (fun (c : Array Value) (x : Value × Nat) => c.setIfInBounds (off + x.2) x.1) cs.toArray) = (cs.take (off + j) ++ l ++ cs.drop (off + j + l.length)).toArray := by
  induction l with
  | nil => intro cs off j h; simp
  | cons x r ih =>
    intro cs off j h
    simp only [List.length_cons] at h
    simp only [List.zipIdx_cons, List.foldl_cons, List.setIfInBounds_toArray]
    rw [ih (cs.set (off + j) x) off (j + 1) (by simp; omega)]
    congr 1
    rw [List.take_set, List.drop_set]
    rw [if_pos (by omega)]
    have h1 : (cs.take (off + (j + 1))).set (off + j) x = cs.take (off + j) ++ [x] := by
      rw [show off + (j + 1) = (off + j) + 1 from by omega, List.take_succ_eq_append_getElem (by omega)]
      rw [List.set_append_right _ _ (by simp; omega)]
      simp [Nat.min_eq_left (show off + j ≤ cs.length from by omega)]
    rw [h1]
    simp only [List.append_assoc, List.singleton_append, List.length_cons]
    congr 3
    omega
theorem nth_get {α : Type} : ∀ (l : List α) (i : Nat), nth l i = l[i]?
  | [], i => by simp [nth_n]
  | x :: r, 0 => rfl
  | x :: r, i + 1 => by simp [nth_s, nth_get r i]
theorem setN_eq {α : Type} (x : α) : ∀ (l : List α) (i : Nat), setN l i x = l.set i x
  | [], i => by simp [setN]
  | y :: r, 0 => rfl
  | y :: r, i + 1 => by simp [setN, setN_eq x r i]
theorem takeN_eq {α : Type} : ∀ (l : List α) (i : Nat), takeN l i = l.take i
  | l, 0 => by simp [takeN]
  | [], i + 1 => by simp [takeN]
  | y :: r, i + 1 => by simp [takeN, takeN_eq r i]
theorem dropN_eq {α : Type} : ∀ (l : List α) (i : Nat), dropN l i = l.drop i
  | l, 0 => by simp [dropN]
  | [], i + 1 => by simp [dropN]
  | y :: r, i + 1 => by simp [dropN, dropN_eq r i]
theorem cells_one {y : SV} {v : Value} (h : okv S y v) (h1 : ∀ l, y ≠ .agg l) (hb : y ≠ .bad) (hv : ∀ x, y = .v x → x.oneCell' = true) (ht : ∀ l, y ≠ .tup l) : v.cells = #[v] := by
  cases y with
  | v x => cases h; have := hv _ rfl; cases v <;> first | rfl | (simp [Value.oneCell'] at this)
  | agg l => exact absurd rfl (h1 l)
  | tup l => exact absurd rfl (ht l)
  | bad => exact absurd rfl hb
  | bb b => cases h; rfl
  | b p d => cases h; rfl
  | lp k o => cases h; rfl
  | own k => cases h; rfl
  | el A j => obtain ⟨a, _, rfl⟩ := h; rfl
  | fn f cs => obtain ⟨vs, rfl, _⟩ := h; rfl
  | yl k => cases h; rfl
  | vw k lo sz n ex => obtain ⟨A, c, rfl, _⟩ := h; rfl
  | lq k => rcases h with rfl | rfl <;> rfl
  | ls k n => cases h; rfl
  | mr k => cases h; rfl
theorem partsK_ok {fs : List (Nat × Nat)} {tm : Array Value} (hF : okF S fr tm) {ρ : Operand → Value} (hρ : ∀ x, okv S (opv fr x) (ρ x)) (place : Nat → Option (Nat × Nat)) (hpl : ∀ i off t, nth fs i = some (off, t) → place i = some (off, (ty T t).sz)) :
    ∀ (ps : List (Nat × Operand)) (cs : List SV) (vs : List Value) (K : List SV → Prop), okL S cs vs → partsK T fs fr ps cs K →
      ∃ l us, K l ∧ okL S l us ∧ Instr.fill place vs.toArray (ps.map fun q => (q.1, ρ q.2)) = some us.toArray
  | [], cs, vs, K, hok, h => ⟨cs, vs, h, hok, rfl⟩
  | (i, x) :: r, cs, vs, K, hok, h => by
    unfold partsK at h
    split at h
    rotate_left
    · exact h.elim
    rename_i off t hn
    rw [fSV_eq] at h
    have hp := hpl i off t hn
    have hx := hρ x
    have hlen := okL_length hok
    have one : ∀ (y : SV), y = opv fr x → (∀ l, y ≠ .agg l) → y ≠ .bad → (∀ z, y = .v z → z.oneCell' = true) → (∀ l, y ≠ .tup l) →
        (match Nat.beq (ty T t).sz 1 with | true => (match Nat.blt off cs.length with | true => fSVL (setN cs off y) fun c => partsK T fs fr r c K | false => False) | false => False) →
        ∃ l us, K l ∧ okL S l us ∧ Instr.fill place vs.toArray (((i, x) :: r).map fun q => (q.1, ρ q.2)) = some us.toArray := by
      intro y hy n1 n2 n3 n4 h
      rw [← hy] at hx
      split at h
      · rename_i h1
        split at h
        · rename_i h2
          rw [fSVL_eq] at h
          have h1 := Nat.eq_of_beq_eq_true h1
          have h2 : off < cs.length := Nat.le_of_ble_eq_true h2
          have hc := cells_one hx n1 n2 n3 n4
          obtain ⟨l, us, hK, hl, hf⟩ := partsK_ok hF hρ place hpl r _ (vs.set off (ρ x)) K (okL_set off hok hx) h
          refine ⟨l, us, hK, hl, ?_⟩
          simp only [List.map_cons, Instr.fill, hp, hc, h1]
          rw [if_neg (by simp; omega)]
          rw [← hf]
          simp
        · exact h.elim
      · exact h.elim
    split at h
    · rename_i l hy
      rw [hy] at hx
      obtain ⟨us, hu, hl⟩ := hx
      split at h
      · rename_i h1
        split at h
        · rename_i h2
          rw [fSVL_eq, takeN_eq, dropN_eq] at h
          have h1 := Nat.eq_of_beq_eq_true h1
          have h2 := Nat.le_of_ble_eq_true h2
          have h3 := okL_length hl
          have hok' : okL S (cs.take off ++ l ++ cs.drop (off + l.length)) (vs.take off ++ us ++ vs.drop (off + us.length)) := by
            rw [← takeN_eq, ← dropN_eq, h3]
            exact okL_append (okL_append (okL_take off hok) hl) (okL_drop _ hok)
          obtain ⟨l', us', hK, hl', hf⟩ := partsK_ok hF hρ place hpl r _ _ K hok' h
          refine ⟨l', us', hK, hl', ?_⟩
          simp only [List.map_cons, Instr.fill, hp, hu, Value.cells]
          have e : ∀ (b : Bool) (x y : Option (Array Value)), b = false → (if b = true then x else y) = y := by intro b x y hb; simp [hb]
          refine (e _ _ _ (by simp; omega)).trans ?_
          rw [← hf]
          have := foldl_set us vs off 0 (by omega)
          simp only [Nat.add_zero] at this
          rw [← this]
          simp
        · exact h.elim
      · exact h.elim
    · exact h.elim
    · exact h.elim
    · exact h.elim
    · exact h.elim
    · rename_i y hy1 hy2 hy3 hy4 hy5
      refine one _ rfl (fun l e => hy1 l e) (fun e => hy3 e) (fun z e => ?_) (fun l e => hy2 l e) h
      cases z <;> first | rfl | exact absurd e (hy4 _) | exact absurd e (hy5 _)
mutual
theorem toV_ok {S : Pl} : ∀ (x : SV) {y v : Value}, toV x = some y → okv S x v → v = y
  | .v x, y, v, h, hx => by cases hx; simpa [toV] using h
  | .bb b, y, v, h, hx => by cases hx; simpa [toV] using h
  | .b p d, y, v, h, hx => by cases hx; simpa [toV] using h
  | .agg cs, y, v, h, hx => by
    obtain ⟨vs, rfl, hok⟩ := hx
    unfold toV at h
    split at h
    · rename_i l hl
      have := toVL_ok cs hl hok
      subst this
      simpa using h
    · cases h
  | .lp _ _, y, v, h, hx => by simp [toV] at h
  | .own _, y, v, h, hx => by simp [toV] at h
  | .el _ _, y, v, h, hx => by simp [toV] at h
  | .tup _, y, v, h, hx => by simp [toV] at h
  | .fn _ _, y, v, h, hx => by simp [toV] at h
  | .yl _, y, v, h, hx => by simp [toV] at h
  | .vw _ _ _ _ _, y, v, h, hx => by simp [toV] at h
  | .lq _, y, v, h, hx => by simp [toV] at h
  | .ls _ _, y, v, h, hx => by simp [toV] at h
  | .mr _, y, v, h, hx => by simp [toV] at h
  | .bad, y, v, h, hx => by simp [toV] at h
theorem toVL_ok {S : Pl} : ∀ (l : List SV) {ys vs : List Value}, toVL l = some ys → okL S l vs → vs = ys
  | [], ys, vs, h, hx => by cases vs with | nil => simpa [toVL] using h | cons _ _ => cases hx
  | x :: r, ys, vs, h, hx => by
    cases vs with
    | nil => cases hx
    | cons v vs =>
      unfold toVL at h
      split at h
      · rename_i y hy
        split at h
        · rename_i s hs
          have h1 := toV_ok x hy hx.1
          have h2 := toVL_ok r hs hx.2
          subst h1; subst h2
          simpa using h
        · cases h
      · cases h
end
def datOk (w : World) : List AK → List Value → List Dat → Prop
  | [], [], [] => True
  | .v :: ks, x :: xs, .v y :: ds => x = y ∧ datOk w ks xs ds
  | .sl sz :: ks, x :: xs, .sl n ys :: ds => (∃ A c, x = .slice A n c ∧ n ≤ c ∧ ys.length = n * sz ∧ ∀ j v, ys[j]? = some v → ∃ a, A = some a ∧ a.spot = none ∧ w.cell? ⟨a.block, a.off + j, none⟩ = some v) ∧ datOk w ks xs ds
  | _, _, _ => False
def S0 : Pl := fun _ => ⟨0, none, 0, 0, default⟩
def SpecOk (P : Program) (s : Spec) : Prop :=
  (∀ args w, (callFunc s.f args).run P w = .ok (.enter s.f args) w) ∧
  ∀ w xs ds, datOk w s.ks xs ds → s.dom ds → Calls P s.f xs.toArray w fun e w' => e = .returned (den S0 (s.val ds)) ∧ Below w.heap.size w w'
mutual
theorem closed_ok {S : Pl} : ∀ (x : SV), closed x = true → okv S x (den S0 x)
  | .v _, _ => by simp [okv, den]
  | .bb _, _ => by simp [okv, den]
  | .b _ _, _ => by simp [okv, den]
  | .agg cs, h => by unfold closed at h; exact ⟨_, by simp [den], closedL_ok cs h⟩
  | .tup cs, h => by unfold closed at h; exact ⟨_, by simp [den], closedL_ok cs h⟩
  | .fn _ cs, h => by unfold closed at h; exact ⟨_, by simp [den], closedL_ok cs h⟩
  | .lp _ _, h => by simp [closed] at h
  | .own _, h => by simp [closed] at h
  | .el _ _, h => by simp [closed] at h
  | .yl _, h => by simp [closed] at h
  | .vw _ _ _ _ _, h => by simp [closed] at h
  | .lq _, h => by simp [closed] at h
  | .ls _ _, h => by simp [closed] at h
  | .mr _, h => by simp [closed] at h
  | .bad, h => by simp [closed] at h
theorem closedL_ok {S : Pl} : ∀ (l : List SV), closedL l = true → okL S l (denL S0 l)
  | [], _ => trivial
  | x :: r, h => by
    unfold closedL at h
    split at h
    · rename_i hx; exact ⟨closed_ok x hx, closedL_ok r h⟩
    · cases h
end
def SpecsOk (P : Program) (Γ : List Spec) : Prop := ∀ f s, findS Γ f = some s → s.f = f ∧ SpecOk P s
def CalmOk (P : Program) (s : CS) : Prop :=
  (∀ args w, (callFunc s.f args).run P w = .ok (.enter s.f args) w) ∧
  ∀ w q S i vs, s.ok i → RdsOk q (s.rds i) → PH.on q w → caOk w (fun b => b < w.heap.size) S (s.args i) vs →
    Calls P s.f vs.toArray w fun e w' => e = .returned (den S0 (s.res i)) ∧ Below w.heap.size w w'
def CalmsOk (P : Program) (Δ : List CS) : Prop := ∀ f s, findC Δ f = some s → s.f = f ∧ (s.calm = true → CalmOk P s)
theorem Yl_of {ρ : Operand → Value} {o : Oper} {x : Value} (h : ∀ w, C w → (execOp ρ o).run P w = .ok (.value x) w) : Yl P C ρ o x := fun w hw => by
  rw [h w hw]; exact ⟨rfl, rfl⟩
theorem datK_ok {w1 : World} (hch : ∀ k lb, getL L k = some lb → chunk 0 S k lb w1) (hC : ∀ w, C w → Cl w0 p S L w1 w) : ∀ (ks : List AK) (xs : List SV) (vs : List Value) (K : List Dat → Prop), datK p L ks xs K → okL S xs vs → ∃ ds, K ds ∧ ∀ w, C w → datOk w ks vs ds
  | [], [], vs, K, h, hx => by cases vs with | nil => exact ⟨[], h, fun _ _ => trivial⟩ | cons _ _ => cases hx
  | [], _ :: _, _, _, h, _ => by simp [datK] at h
  | .v :: _, [], _, _, h, _ => by simp [datK] at h
  | .sl _ :: _, [], _, _, h, _ => by simp [datK] at h
  | .v :: ks, x :: xs, vs, K, h, hx => by
    cases vs with
    | nil => cases hx
    | cons v vs =>
      unfold datK at h
      split at h
      · rename_i y hy
        obtain ⟨ds, hK, hd⟩ := datK_ok hch hC ks xs vs _ h hx.2
        exact ⟨_, hK, fun w hw => ⟨toV_ok x hy hx.1, hd w hw⟩⟩
      · exact h.elim
  | .sl sz :: ks, x :: xs, vs, K, h, hx => by
    cases vs with
    | nil => cases hx
    | cons v vs =>
      unfold datK at h
      split at h
      · rename_i A n c
        obtain ⟨⟨hnc⟩, ⟨ys, hl, hr⟩, h⟩ := h
        have he : v = .slice A n c := hx.1
        obtain ⟨ds, hK, hd⟩ := datK_ok hch hC ks xs vs _ (h ys hl hr) hx.2
        exact ⟨_, hK, fun w hw => ⟨⟨A, c, he, hnc, hl, fun j u hu => rd_cell (hC w hw).on ((hr j (List.getElem?_eq_some_iff.1 hu).1).trans hu)⟩, hd w hw⟩⟩
      · rename_i k
        split at h
        · rename_i E sz' n ys hk
          split at h
          · rename_i hs
            have hs := Nat.eq_of_beq_eq_true hs
            subst hs
            have he : v = .slice (S k).A (S k).n (S k).c := hx.1
            obtain ⟨ds, hK, hd⟩ := datK_ok hch hC ks xs vs _ h hx.2
            obtain ⟨hown1, hn1, _⟩ := hch k _ hk
            have hnc : (S k).n ≤ (S k).c := by
              rcases hown1.2 with ⟨e, _⟩ | ⟨g, cap, cur, e, _, _, hcap, _⟩
              · injection e with _ e2 e3; omega
              · injection e with _ e2 e3; omega
            rw [hn1] at hnc
            refine ⟨_, hK, fun w hw => ⟨⟨(S k).A, (S k).c, by rw [← hn1]; exact he, hnc, hown1.1, fun j u hu => ?_⟩, hd w hw⟩⟩
            obtain ⟨hown, hn, hsz, _, hA⟩ := chunk_same (hch k _ hk) ((hC w hw).ch k _ hk)
            rcases hA with hA | hA
            · have : ys = [] := by
                rcases hown.2 with ⟨_, hn0⟩ | ⟨g, cap, cur, hv, _⟩
                · exact List.eq_nil_of_length_eq_zero (by rw [hown.1, hn0]; simp)
                · rw [hA] at hv; cases hv
              subst this
              simp at hu
            · have := hown.cells (g := (S k).b) (by simp [Value.ownBlock, hA]) j u hu
              rw [Addr.add_lit] at this
              exact ⟨_, hA, rfl, this⟩
          · exact h.elim
        · exact h.elim
      · exact h.elim
theorem optv_ok (hF : okF S fr a.tmps) (x : Option Operand) : (optv fr x = none ∧ x.map a.eval = none) ∨ ∃ y v, optv fr x = some y ∧ x.map a.eval = some v ∧ okv S y v := by
  cases x with
  | none => exact .inl ⟨rfl, rfl⟩
  | some x => exact .inr ⟨_, _, rfl, rfl, opv_ok hF x⟩
theorem fieldOf_ok (hT : TabOk P T) {t f off ft : Nat} (h : fieldOf T t f = some (off, ft)) : ∃ F fd, P.underlying t = some (.struct F) ∧ F[f]? = some fd ∧ fd.offset = off ∧ fd.type = ft ∧ sizeOk P T ft := by
  unfold fieldOf at h
  split at h
  · rename_i fs hd
    obtain ⟨F, hu, hm, hs⟩ : descOk P T t (.struct fs) := by rw [← hd]; exact (hT t (by rw [hd]; simp)).d
    rw [nth_get, ← hm, List.getElem?_map] at h
    rw [Array.getElem?_toList] at h
    cases hf : F[f]? with
    | none => rw [hf] at h; cases h
    | some fd =>
      rw [hf] at h
      simp only [Option.map_some, Option.some.injEq, Prod.mk.injEq] at h
      refine ⟨F, fd, hu, hf, h.1, h.2, ?_⟩
      refine hs (off, ft) ?_
      rw [← hm]
      refine List.mem_map.2 ⟨fd, ?_, by rw [h.1, h.2]⟩
      exact List.mem_of_getElem? (by rw [Array.getElem?_toList]; exact hf)
  · cases h
theorem run_part (hT : TabOk P T) {t : Nat} (h0 : (ty T t).d ≠ .other) {cs : List SV} {vs : List Value} (hok : okL S cs vs) {off : Nat} (hle : off + (ty T t).sz ≤ cs.length) :
    ∃ r, okv S (ofCells (ty T t).d (takeN (dropN cs off) (ty T t).sz)) r ∧ ∀ w, (part t vs.toArray off).run P w = .ok r w := by
  obtain ⟨hd, ⟨i, z, hi, hsz, _, _, _⟩, _, _, _, one⟩ := hT t h0
  have hlen := okL_length hok
  have agg : ∀ d, P.underlying t = some d → aggB d = true → ∀ w, (part t vs.toArray off).run P w = .ok (.agg ((vs.drop off).take (ty T t).sz).toArray) w := by
    intro d hu hb w
    simp [part, run_isAgg hu, hb, sizeOf, typeInfo, hi, hsz]
  have scal : ∀ d, P.underlying t = some d → aggB d = false → (ty T t).sz = 1 → ∃ v, (vs.drop off).take (ty T t).sz = [v] ∧ ∀ w, (part t vs.toArray off).run P w = .ok v w := by
    intro d hu hb h1
    rw [h1]
    have hlt : off < vs.length := by omega
    refine ⟨vs[off], ?_, fun w => ?_⟩
    · rw [List.drop_eq_getElem_cons hlt]; rfl
    · simp [part, run_isAgg hu, hb, hlt]
  have hsub := okL_take (ty T t).sz (okL_drop off hok)
  have fin1 : ∀ d, P.underlying t = some d → aggB d = false → (∀ fs, (ty T t).d ≠ .struct fs) → (∀ n e, (ty T t).d ≠ .arr n e) →
      (∀ l, ofCells (ty T t).d l = match l with | x :: _ => x | [] => .bad) →
      ∃ r, okv S (ofCells (ty T t).d (takeN (dropN cs off) (ty T t).sz)) r ∧ ∀ w, (part t vs.toArray off).run P w = .ok r w := by
    intro d hu hb n1 n2 hof
    obtain ⟨v, hv, hr⟩ := scal d hu hb (one n1 n2)
    refine ⟨v, ?_, hr⟩
    rw [hof]
    rw [hv] at hsub
    revert hsub
    cases takeN (dropN cs off) (ty T t).sz with
    | nil => intro h; cases h
    | cons x r => exact fun h => h.1
  generalize he : (ty T t).d = d at *
  cases d with
  | int k => exact fin1 _ hd rfl (by simp) (by simp) (fun l => rfl)
  | bool => exact fin1 _ hd rfl (by simp) (by simp) (fun l => rfl)
  | str => exact fin1 _ hd rfl (by simp) (by simp) (fun l => rfl)
  | flt k => exact fin1 _ hd rfl (by simp) (by simp) (fun l => rfl)
  | ptr e => exact fin1 _ hd rfl (by simp) (by simp) (fun l => rfl)
  | slice e => exact fin1 _ hd.1 rfl (by simp) (by simp) (fun l => rfl)
  | func => obtain ⟨x, y, z, hd⟩ := hd; exact fin1 _ hd rfl (by simp) (by simp) (fun l => rfl)
  | map k e => exact fin1 _ hd rfl (by simp) (by simp) (fun l => rfl)
  | struct fs => obtain ⟨F, hd, _⟩ := hd; exact ⟨_, ⟨_, rfl, hsub⟩, agg _ hd rfl⟩
  | arr n e => exact ⟨_, ⟨_, rfl, hsub⟩, agg _ hd.1 rfl⟩
  | other => exact absurd rfl h0
theorem run_execOp {ρ : Operand → Value} {o : Oper} {x : Value} {w : World} {s : Sem Value} (he : execOp ρ o = (do pure (.value (← s)))) (h : s.run P w = .ok x w) : (execOp ρ o).run P w = .ok (.value x) w := by
  rw [he]; simp [h]
theorem wrap_conv {dst : TypeId} {k : IntKind} (hd : P.underlying dst = some (.int k)) {src : TypeId} {d : TypeDesc} (hs : P.underlying src = some d) (k' : IntKind) (n : Int) (w : World) : (convert src dst (.int k' n)).run P w = .ok (.int k (k.wrap n)) w := by
  simp [convert, run_underlying hd, run_underlying hs, Conv.intToInt]
theorem push_all (l : List UInt8) : ∀ r : ByteArray, l.foldl (fun r c => r.push c) r = ⟨r.data ++ l.toArray⟩ := by
  induction l with
  | nil => intro r; simp
  | cons c l ih => intro r; rw [List.foldl_cons, ih]; simp [ByteArray.push]
theorem convK_ok (hT : TabOk P T) {w1 : World} (hch : ∀ k lb, getL L k = some lb → chunk 0 S k lb w1) (hC : ∀ w, C w → Cl w0 p S L w1 w) {src dst : TypeId} {x : SV} {u : Value} {K : SV → Prop} (h : convK T p L src dst x K) (hx : okv S x u) :
    ∃ r sv, K sv ∧ okv S sv r ∧ ∀ w, C w → (convert src dst u).run P w = .ok r w := by
  have hs := fun h0 => (hT src h0).d
  have hd := fun h0 => (hT dst h0).d
  unfold convK at h
  split at h
  · rename_i ks k' k n e1 e2
    rw [e1] at hs; rw [e2] at hd
    cases hx
    have hw := wrap_conv (P := P) (hd (by simp)) (hs (by simp)) k n
    split at h
    · refine ⟨_, _, h.2, rfl, fun w _ => ?_⟩
      rw [hw, wrap_inR h.1.out]
    · exact ⟨_, _, h, rfl, fun w _ => hw w⟩
  · rename_i s e1 e2
    rw [e1] at hs; rw [e2] at hd
    cases hx
    exact ⟨_, _, h, rfl, fun w _ => by simp [convert, run_underlying (hs (by simp)), run_underlying (hd (by simp))]⟩
  · rename_i ks k' k n e1 e2
    rw [e1] at hs; rw [e2] at hd
    cases hx
    exact ⟨_, _, h, rfl, fun w _ => by simp [convert, run_underlying (hs (by simp)), run_underlying (hd (by simp)), Conv.intToFloat]⟩
  · rename_i x e e1 e2
    rw [e1] at hs; rw [e2] at hd
    have hs := hs (by simp)
    have hd := hd (by simp)
    split at h
    rotate_left
    · exact h.elim
    rename_i he
    have hee : P.underlying e = some (.int .u8) := by have := (hT e (by rw [he]; simp)).d; rwa [he] at this
    obtain ⟨A, n, c, xs, rfl, hK, hn, hm⟩ := sliceK_ok hch hC h hx
    obtain ⟨⟨bs, rfl⟩, hK⟩ := hK
    refine ⟨_, _, hK bs rfl, rfl, fun w hw => ?_⟩
    have hlen : bs.length = n := by simpa using hn
    have hb : (Conv.bytesToString (.slice A n c)).run P w = .ok (.string ⟨bs.toArray⟩) w := by
      cases A with
      | none =>
        have : bs = [] := by
          cases bs with
          | nil => rfl
          | cons b r => obtain ⟨ad, hA, _⟩ := hm w hw 0 (bv b) rfl; cases hA
        subst this
        rfl
      | some ad =>
        have hl : (loadCells ad n).run P w = .ok ((bs.map fun b => (b.toNat : Int)).map (Value.int .u8)).toArray w := by
          rw [← hlen, ← List.length_map (f := bv) (as := bs)]
          refine (run_loadCells_list w ad (bs.map bv) fun j v hv => ?_).trans (by simp [bv])
          obtain ⟨ad', hA, hs', hc⟩ := hm w hw j v hv
          cases hA
          rw [add_none hs']
          exact hc
        rw [run_bytesToString w ad n c _ hl, List.foldl_map]
        simp only [Int.toNat_natCast, UInt8.ofNat_toNat]
        rw [push_all]
        simp
    simp [convert, run_underlying hs.1, run_underlying hd, run_underlying hee, hb]
  · exact h.elim
theorem add_of_add (a : Addr) (i j : Nat) : (a.add i).add j = a.add (i + j) := by
  unfold Addr.add
  by_cases hi : i = 0 <;> by_cases hj : j = 0 <;> simp [hi, hj, Nat.add_assoc]
theorem run_size {t : Nat} (h : sizeOk P T t) (w : World) : (sizeOf t).run P w = .ok (ty T t).sz w := by
  obtain ⟨_, j, hj, hsz, _⟩ := h
  simp [sizeOf, typeInfo, hj, hsz]
theorem mapM_sizes (fs : List Field) (h : ∀ f ∈ fs, sizeOk P T f.type) (w : World) :
    (List.mapM (fun f => Prod.mk f.offset <$> sizeOf f.type : Field → Sem (Nat × Nat)) fs).run P w = .ok (fs.map fun f => (f.offset, (ty T f.type).sz)) w := by
  induction fs with
  | nil => simp
  | cons f r ih =>
    have h1 := run_size (h f (by simp)) w
    have := ih fun g hg => h g (by simp [hg])
    simp only [List.mapM_cons, Sem.run_bind, Sem.run_map, h1, Result.andThen_ok, this, Sem.run_pure, List.map_cons]
theorem blk_lt' {w : World} {k : Nat} {lb : LB} (h : chunk 0 S k lb w) {b : Nat} (hb : blk S k lb = some b) : b < w.heap.size := by
  have lt : ∀ {o : Obj} {b : Nat}, w.heap[b]? = some o → b < w.heap.size := fun h => (Array.getElem?_eq_some_iff.1 h).1
  cases lb with
  | cells T cs => cases hb; obtain ⟨h1, vs, h2, _⟩ := h; exact lt h2
  | dfr => cases hb; exact lt h.2
  | mp es c => cases hb; exact lt h.2
  | sb E n xs => cases hb; obtain ⟨_, _, _, _, _, _, _, h6, _⟩ := h; exact lt h6
  | loop st pe => cases hb; exact lt h.2
  | arr E sz n xs =>
    obtain ⟨h1, h2, h3, h4, h5⟩ := h
    refine (h1.lt b ?_).2
    simp only [blk] at hb
    cases hA : (S k).A with
    | none => rw [hA] at hb; cases hb
    | some ad => rw [hA] at hb; simpa [Value.ownBlock] using hb
  | row E sz n cs =>
    obtain ⟨xs, ⟨h1, h2, h3, h4, h5⟩, _⟩ := h
    refine (h1.lt b ?_).2
    simp only [blk] at hb
    cases hA : (S k).A with
    | none => rw [hA] at hb; cases hb
    | some ad => rw [hA] at hb; simpa [Value.ownBlock] using hb
theorem cl_of {as : As} {x : SV} {K : SV → Prop} (h : fSV x fun r => (match as, closed r with | [], true => K r | _, _ => False)) : as = [] ∧ closed x = true ∧ K x := by
  rw [fSV_eq] at h
  cases as with
  | nil =>
    cases hc : closed x with
    | true => rw [hc] at h; exact ⟨rfl, rfl, h⟩
    | false => rw [hc] at h; exact h.elim
  | cons p r => exact h.elim
set_option maxHeartbeats 1000000 in
theorem calm_ok {Δ : List CS} (hT : TabOk P T) (hΓ : SpecsOk P Γ) (hΔ : CalmsOk P Δ) {wr : Bool} {w1 : World} (hch : ∀ k lb, getL L k = some lb → chunk 0 S k lb w1) (hC : ∀ w, C w → Cl w0 p S L w1 w) (hF : okF S fr a.tmps)
    {o : Oper} {K : SV → Prop} (h : calmK T Γ Δ wr p o.op fr L K) : ∃ x sv, K sv ∧ okv S sv x ∧ Yl P C a.eval o x := by
  obtain ⟨dst, op, oty, pos, after, guard⟩ := o
  cases op <;> simp only [calmK] at h <;> try exact h.elim
  case move x => rw [fSV_eq] at h; exact ⟨_, _, h, opv_ok hF _, Yl_of fun w _ => rfl⟩
  case assign x => rw [fSV_eq] at h; exact ⟨_, _, h, opv_ok hF _, Yl_of fun w _ => rfl⟩
  case pick c x y =>
    have hc := opv_ok hF c
    unfold pickK at h
    have pick : ∀ b : Bool, a.eval c = .bool b → Yl P C a.eval { dst := dst, op := .pick c x y, type := oty, pos := pos, after := after, guard := guard } (if b then a.eval x else a.eval y) := fun b hb =>
      Yl_of fun w _ => by simp [execOp, hb, asBool]
    split at h
    · rename_i e; rw [e] at hc; rw [fSV_eq] at h; exact ⟨_, _, h, opv_ok hF x, pick true hc⟩
    · rename_i e; rw [e] at hc; rw [fSV_eq] at h; exact ⟨_, _, h, opv_ok hF y, pick false hc⟩
    · rename_i q d e
      rw [e] at hc
      by_cases hq : q
      · have := h.1 hq; rw [fSV_eq] at this
        exact ⟨_, _, this, opv_ok hF x, pick true (by rw [show a.eval c = _ from hc]; simp [hq])⟩
      · have := h.2 hq; rw [fSV_eq] at this
        exact ⟨_, _, this, opv_ok hF y, pick false (by rw [show a.eval c = _ from hc]; simp [hq])⟩
    · exact h.elim
  case binOp op t x y _ =>
    obtain ⟨r, sv, h1, h2, h3⟩ := binK_ok (P := P) hT h (opv_ok hF x) (opv_ok hF y) x y
    exact ⟨r, sv, h1, h2, Yl_of fun w _ => run_execOp rfl (h3 w)⟩
  case unOp op t x =>
    have hx := opv_ok hF x
    unfold unK at h
    split at h
    · obtain ⟨b, sv, e, h1, h2⟩ := notK_ok h hx
      exact ⟨_, sv, h1, h2, Yl_of fun w _ => run_execOp rfl (by rw [e]; simp [Op.unary])⟩
    · rename_i k n e
      rw [e] at hx
      obtain ⟨sv, h1, h2⟩ := arK_ok (S := S) h
      exact ⟨_, sv, h1, h2, Yl_of fun w _ => run_execOp rfl (by rw [show a.eval x = _ from hx]; simp [Op.unary, Op.intArith])⟩
    · exact h.elim
  case convert src dst' x =>
    obtain ⟨r, sv, h1, h2, h3⟩ := convK_ok hT hch hC h (opv_ok hF x)
    exact ⟨r, sv, h1, h2, Yl_of fun w hw => run_execOp rfl (h3 w hw)⟩
  case extract x i =>
    have hx := opv_ok hF x
    unfold extrK at h
    split at h
    · rename_i cs e
      rw [e] at hx
      obtain ⟨vs, hv, hok⟩ := hx
      split at h
      · rename_i y hy
        rw [fSV_eq] at h
        obtain ⟨v, h1, h2⟩ := okL_nth hok hy
        exact ⟨v, _, h, h2, Yl_of fun w _ => run_execOp rfl (by rw [hv]; simp [Instr.extract, h1])⟩
      · exact h.elim
    · exact h.elim
  case field t x f =>
    have hx := opv_ok hF x
    unfold fieldK at h
    split at h
    · rename_i off ft cs e1 e2
      rw [e2] at hx
      obtain ⟨vs, hv, hok⟩ := hx
      obtain ⟨F, fd, hu, hf, h3, h4, _⟩ := fieldOf_ok hT e1
      subst h3; subst h4
      have h0 : (ty T fd.type).d ≠ .other := by
        intro e
        revert h
        generalize ty T fd.type = ti at e
        obtain ⟨d, _, _, _, _⟩ := ti
        cases e
        exact fun h => h
      have h' : (match Nat.ble (fd.offset + (ty T fd.type).sz) cs.length with | true => fSV (ofCells (ty T fd.type).d (takeN (dropN cs fd.offset) (ty T fd.type).sz)) K | false => False) := by
        revert h h0
        generalize ty T fd.type = ti
        obtain ⟨d, _, _, _, _⟩ := ti
        cases d <;> intro h h0 <;> first | exact h | exact absurd rfl h0
      split at h'
      · rename_i hle
        rw [fSV_eq] at h'
        obtain ⟨r, h5, h6⟩ := run_part hT h0 hok (Nat.le_of_ble_eq_true hle)
        exact ⟨r, _, h', h5, Yl_of fun w _ => run_execOp rfl (by rw [hv]; simp [Instr.field, run_underlying hu, hf, asAgg, h6])⟩
      · exact h'.elim
    · exact h.elim
  case fieldAddr t x f =>
    have hx := opv_ok hF x
    unfold faddrK at h
    have go : ∀ (ad : Addr) off ft, a.eval x = .pointer (some ad) → fieldOf T t f = some (off, ft) → Yl P C a.eval { dst := dst, op := .fieldAddr t x f, type := oty, pos := pos, after := after, guard := guard } (.pointer (some (ad.add off))) := by
      intro ad off ft hv e1
      obtain ⟨F, fd, hu, hf, h3, h4, hp, j, hj, hsz, _⟩ := fieldOf_ok hT e1
      subst h3; subst h4
      refine Yl_of fun w _ => run_execOp rfl ?_
      rw [hv]
      have : j.size ≠ 0 := by omega
      simp [Instr.fieldAt, run_underlying hu, hf, Instr.sureAddr, fieldPlace, sizeOf, typeInfo, hj, this]
    split at h
    · rename_i off ft k o e1 e2
      rw [e2] at hx
      exact ⟨_, _, h, by simp [okv, Addr.add_lit], go _ off ft hx e1⟩
    · rename_i off ft A j e1 e2
      rw [e2] at hx
      obtain ⟨ad, hA, hv⟩ := hx
      exact ⟨_, _, h, ⟨ad, hA, rfl⟩, by have := go _ off ft hv e1; rwa [add_of_add] at this⟩
    · rename_i off ft ad e1 e2
      rw [e2] at hx
      exact ⟨_, _, h, ⟨ad, rfl, rfl⟩, go _ off ft hx e1⟩
    · exact h.elim
  case nilCheck x =>
    have hx := opv_ok hF x
    unfold nilcK at h
    split at h
    · rename_i k o e
      rw [e] at hx
      exact ⟨_, _, h, rfl, Yl_of fun w _ => by simp only [execOp]; rw [show a.eval x = _ from hx]; rfl⟩
    · rename_i f cs e
      rw [e] at hx
      obtain ⟨vs, hv, hok⟩ := hx
      exact ⟨_, _, h, ⟨vs, rfl, hok⟩, Yl_of fun w _ => by simp only [execOp]; rw [hv]; rfl⟩
    · rename_i k e
      rw [e] at hx
      exact ⟨_, _, h, rfl, Yl_of fun w _ => by simp only [execOp]; rw [show a.eval x = _ from hx]; rfl⟩
    · rename_i A e
      rw [e] at hx
      obtain ⟨⟨ad, rfl⟩, h⟩ := h
      exact ⟨_, _, h ad rfl, rfl, Yl_of fun w _ => by simp only [execOp]; rw [show a.eval x = _ from hx]; rfl⟩
    · exact h.elim
  case indexAddr t x i =>
    obtain ⟨r, sv, h1, h2, h3⟩ := idxK_ok hT hch h (opv_ok hF x) (opv_ok hF i)
    exact ⟨r, sv, h1, h2, Yl_of fun w _ => run_execOp rfl (h3 w)⟩
  case index t x i =>
    obtain ⟨r, sv, h1, h2, h3⟩ := strIdxK_ok hT h (opv_ok hF x) (opv_ok hF i)
    exact ⟨r, sv, h1, h2, Yl_of fun w _ => run_execOp rfl (h3 w)⟩
  case load t x =>
    obtain ⟨r, sv, h1, h2, h3⟩ := loadK_ok hT hch hC h (opv_ok hF x)
    exact ⟨r, sv, h1, h2, Yl_of fun w hw => run_execOp rfl (h3 w hw)⟩
  case slice t x lo hi mx =>
    cases mx with
    | some y =>
      obtain ⟨r, sv, h1, h2, h3⟩ := slc3K_ok hT hch h (opv_ok hF x) (opv_ok hF y) (optv_ok hF lo) (optv_ok hF hi)
      exact ⟨r, sv, h1, h2, Yl_of fun w _ => run_execOp rfl (h3 w)⟩
    | none =>
      obtain ⟨r, sv, h1, h2, h3⟩ := slcK_ok hT hch h (opv_ok hF x) (optv_ok hF lo) (optv_ok hF hi)
      exact ⟨r, sv, h1, h2, Yl_of fun w _ => run_execOp rfl (h3 w)⟩
  case build t ps =>
    unfold buildK at h
    split at h
    · rename_i fs hd
      have ht := hT t (by rw [hd]; simp)
      obtain ⟨F, hu, hm, hs⟩ : descOk P T t (.struct fs) := by rw [← hd]; exact ht.d
      obtain ⟨i, z, hi, _, _, hz, hzc⟩ := ht.i
      have hpl : ∀ i off t', nth fs i = some (off, t') → (fun i => (F.toList.map fun f => (f.offset, (ty T f.type).sz))[i]?) i = some (off, (ty T t').sz) := by
        intro i off t' h
        rw [nth_get, ← hm, List.getElem?_map] at h
        simp only [List.getElem?_map]
        cases hf : F.toList[i]? with
        | none => rw [hf] at h; cases h
        | some fd => rw [hf] at h; simp only [Option.map_some, Option.some.injEq, Prod.mk.injEq] at h ⊢; rw [h.1, h.2]; exact ⟨rfl, rfl⟩
      obtain ⟨l, us, hK, hok, hf⟩ := partsK_ok (ρ := a.eval) hF (fun x => opv_ok hF x) _ hpl ps.toList _ (ty T t).zero _ (okL_valL _) h
      refine ⟨_, _, hK, ⟨us, rfl, hok⟩, Yl_of fun w _ => run_execOp rfl ?_⟩
      have hsz : ∀ f ∈ F.toList, sizeOk P T f.type := fun f hf => hs (f.offset, f.type) (by rw [← hm]; exact List.mem_map.2 ⟨f, hf, rfl⟩)
      have hmm := mapM_sizes (P := P) F.toList hsz w
      have hz' : z.cells = (ty T t).zero.toArray := by rw [← hzc]
      have hf' : Instr.fill (fun x => Option.map (fun f => (f.offset, (ty T f.type).sz)) F[x]?) z.cells (ps.toList.map fun x => (x.1, a.eval x.2)) = some us.toArray := by
        rw [hz', ← hf]
        congr 1
        funext i
        simp
      simp only [Instr.build, Sem.run_bind, zeroValue, typeInfo, run_program, Result.andThen_ok, hi, Sem.run_pure, hz, run_underlying hu, Array.mapM_eq_mapM_toList, bind_pure_comp, Sem.run_map, hmm]
      simp [hf']
    · exact h.elim
  case makeFunc fn first cs =>
    unfold mkfK at h
    split at h
    · rename_i f e1
      rw [fSVL_eq] at h
      have hcs := opvs_ok hF cs.toList
      have hfi : first = #[] := by
        obtain ⟨l⟩ := first
        cases l with
        | nil => rfl
        | cons _ _ => cases e1
      subst hfi
      exact ⟨_, _, h, ⟨_, rfl, hcs⟩, Yl_of fun w _ => run_execOp rfl (by obtain ⟨l⟩ := cs; simp [Instr.makeFunc])⟩
    · exact h.elim
  case call c =>
    obtain ⟨callee, xs, ts⟩ := c
    have hxs := opvs_ok hF xs.toList
    have hmap : xs.map a.eval = (xs.toList.map a.eval).toArray := by obtain ⟨l⟩ := xs; simp
    cases callee with
    | invoke r m => simp [callK] at h
    | builtin b =>
      simp only [callK] at h
      unfold builtK at h
      have hex : ∀ {r : Value} {w : World} {f : Array TypeId → TypeId → Array Value → Sem Value}, (∀ ct, builtin b ts oty ct (xs.map a.eval) = (do pure (.value (← f ts oty (xs.map a.eval))) : Sem Next)) → (f ts oty (xs.map a.eval)).run P w = .ok r w →
          (execOp a.eval { dst := dst, op := Op.call { callee := Callee.builtin b, args := xs, argTypes := ts }, type := oty, pos := pos, after := after, guard := guard }).run P w = .ok (.value r) w := by
        intro r w f hb hr
        simp [execOp, resolve, invoke, hb, hr]
      split at h
      · rename_i x t e1 e2
        rw [e1] at hxs
        obtain ⟨v, hv⟩ : ∃ v, xs.toList.map a.eval = [v] := by
          cases hm : xs.toList.map a.eval with
          | nil => rw [hm] at hxs; cases hxs
          | cons v r => cases r with
            | nil => exact ⟨v, rfl⟩
            | cons _ _ => rw [hm] at hxs; exact hxs.2.elim
        rw [hv] at hxs
        obtain ⟨r, sv, h1, h2, h3⟩ := lenK_ok (ty' := oty) hT hch h hxs.1
        have ht : ts = #[t] := by obtain ⟨l⟩ := ts; simp at e2; simp [e2]
        exact ⟨r, sv, h1, h2, Yl_of fun w _ => hex (f := Builtin.len_) (fun ct => rfl) (by rw [hmap, hv, ht]; exact h3 w)⟩
      · rename_i x y e1
        rw [e1] at hxs
        obtain ⟨v, u, hv⟩ : ∃ v u, xs.toList.map a.eval = [v, u] := by
          cases hm : xs.toList.map a.eval with
          | nil => rw [hm] at hxs; cases hxs
          | cons v r => cases r with
            | nil => rw [hm] at hxs; exact hxs.2.elim
            | cons u s => cases s with
              | nil => exact ⟨v, u, rfl⟩
              | cons _ _ => rw [hm] at hxs; exact hxs.2.2.elim
        rw [hv] at hxs
        obtain ⟨r, sv, h1, h2, h3⟩ := minK_ok (P := P) (ts := ts) (t := oty) h hxs.1 hxs.2.1
        exact ⟨r, sv, h1, h2, Yl_of fun w _ => hex (f := Builtin.min_) (fun ct => rfl) (by rw [hmap, hv]; exact h3 w)⟩
      · rename_i x y e1
        rw [e1] at hxs
        obtain ⟨v, u, hv⟩ : ∃ v u, xs.toList.map a.eval = [v, u] := by
          cases hm : xs.toList.map a.eval with
          | nil => rw [hm] at hxs; cases hxs
          | cons v r => cases r with
            | nil => rw [hm] at hxs; exact hxs.2.elim
            | cons u s => cases s with
              | nil => exact ⟨v, u, rfl⟩
              | cons _ _ => rw [hm] at hxs; exact hxs.2.2.elim
        rw [hv] at hxs
        obtain ⟨r, sv, h1, h2, h3⟩ := minK_ok (P := P) (ts := ts) (t := oty) h hxs.1 hxs.2.1
        exact ⟨r, sv, h1, h2, Yl_of fun w _ => hex (f := Builtin.max_) (fun ct => rfl) (by rw [hmap, hv]; exact h3 w)⟩
      · exact h.elim
    | value fo =>
      cases fo with
      | tmp t => simp [callK] at h
      | const v => simp [callK] at h
      | global g => simp [callK] at h
      | func f =>
        simp only [callK] at h
        split at h
        · rename_i s hs
          obtain ⟨hsf, hent, hok⟩ := hΓ f s hs
          obtain ⟨ds, ⟨hdom, hK⟩, hd⟩ := datK_ok hch hC s.ks _ _ _ h hxs
          rw [fSV_eq] at hK
          split at hK
          rotate_left
          · exact hK.elim
          rename_i hcl
          refine ⟨_, _, hK, closed_ok _ hcl, fun w hw => ?_⟩
          subst hsf
          have hcall := hok w _ ds (hd w hw) hdom.out
          have he : (execOp a.eval { dst := dst, op := Op.call { callee := Callee.value (Operand.func s.f), args := xs, argTypes := ts }, type := oty, pos := pos, after := after, guard := guard }).run P w = .ok (.enter s.f (xs.map a.eval)) w := by
            simp [execOp, resolve, Act.eval, Deferred.ofValue, invoke, hent]
          rw [he]
          refine ⟨rfl, ?_⟩
          rw [hmap]
          exact hcall.mono fun e w' ⟨h1, h2⟩ => ⟨h1, h2⟩
        split at h
        rotate_left
        · exact h.elim
        rename_i s hs
        split at h
        rotate_left
        · exact h.elim
        rename_i hcalm
        obtain ⟨hsf, hsc⟩ := hΔ f s hs
        obtain ⟨hent, hcal⟩ := hsc hcalm
        obtain ⟨i, ⟨hok⟩, ⟨hrd⟩, h⟩ := h
        by_cases hex : ∃ w, C w
        rotate_left
        · obtain ⟨as1, ro1, e1, o1, _, h, r1⟩ := mA_ok (S := S) (w := w1) (AsOk.nil 0) h
          obtain ⟨_, hcl, h⟩ := cl_of h
          exact ⟨_, _, h, closed_ok _ hcl, fun w hw => (hex ⟨w, hw⟩).elim⟩
        have hmA := fun w (hw : C w) => mA_ok (S := S) (w := w) (AsOk.nil 0) h
        obtain ⟨w2, hw2⟩ := hex
        obtain ⟨as1, ro1, e1, o1, _, h', _⟩ := hmA w2 hw2
        obtain ⟨_, hcl, h'⟩ := cl_of h'
        refine ⟨_, _, h', closed_ok _ hcl, fun w hw => ?_⟩
        obtain ⟨as1, ro1, e1, o1, _, h2, r1⟩ := hmA w hw
        obtain ⟨rfl, _, _⟩ := cl_of h2
        subst hsf
        have hCw := hC w hw
        have hch' : ∀ k lb, getL L k = some lb → chunk 0 S k lb w := fun k lb hk => chunk_same (hch k lb hk) (hCw.ch k lb hk)
        have hro : ∀ ro, roFree [] ro = true := fun ro => by induction ro with | nil => rfl | cons k r ih => simpa [roFree, asHas] using ih
        have hlt : ∀ b o v, p b o = some v → b < w.heap.size := fun b o v hv => World.block_lt_of_cell? w _ (hCw.on b o v hv)
        have hca := r1 [] _ (.refl _) o1 (hro _) hxs hCw.on hch' (fun b => b < w.heap.size) hlt (fun k lb b hk _ hb => (blk_lt' (hch' k lb hk) hb))
        have hcall := hcal w p (sub [] S) i _ hok hrd hCw.on hca
        have he : (execOp a.eval { dst := dst, op := Op.call { callee := Callee.value (Operand.func s.f), args := xs, argTypes := ts }, type := oty, pos := pos, after := after, guard := guard }).run P w = .ok (.enter s.f (xs.map a.eval)) w := by
          simp [execOp, resolve, Act.eval, Deferred.ofValue, invoke, hent]
        rw [he]
        refine ⟨rfl, ?_⟩
        rw [hmap]
        exact hcall.mono fun e w' ⟨h1, h2⟩ => ⟨h1, h2⟩
end Go.Eng
