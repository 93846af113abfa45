/-
  Texts that the law leans on. Nothing here is trusted.
-/
import Derived.Test.YtnlglgafokjhnaaGreatEngC
set_option linter.unusedVariables false
set_option linter.unusedSimpArgs false
namespace Go.Eng
open Go Go.RowKit
variable {P : Program} {T : Tab} {Γ : List Spec} {S : Pl} {fr : Fr} {L : LL} {p : PH} {N0 : Nat} {w0 : W0} {a : Act} {C : World → Prop}
theorem ldK_ok {g : Nat → Option Value} : ∀ (ts : List Ty) (j : Nat) (K : List SV → Prop), ldK g j ts K →
    ∃ l vs, K l ∧ okL S l vs ∧ vs.length = ts.length ∧ (∀ i v, vs[i]? = some v → g (j + i) = some v) ∧ ∀ v ∈ vs, v.oneCell' = true := by
  have step : ∀ (j : Nat) (r : List Ty) (K : List SV → Prop) (sv : SV) (v : Value), (ldK g (j + 1) r fun l => K (sv :: l)) → g j = some v → okv S sv v → v.oneCell' = true →
      (∀ K, ldK g (j + 1) r K → ∃ l vs, K l ∧ okL S l vs ∧ vs.length = r.length ∧ (∀ i v, vs[i]? = some v → g (j + 1 + i) = some v) ∧ ∀ v ∈ vs, v.oneCell' = true) →
      ∃ l vs, K l ∧ okL S l vs ∧ vs.length = r.length + 1 ∧ (∀ i v, vs[i]? = some v → g (j + i) = some v) ∧ ∀ v ∈ vs, v.oneCell' = true := by
    intro j r K sv v h hv hs h1 ih
    obtain ⟨l, vs, hK, hok, hlen, hg, hone⟩ := ih _ h
    refine ⟨sv :: l, v :: vs, hK, ⟨hs, hok⟩, by simp [hlen], fun i u hu => ?_, fun u hu => ?_⟩
    · cases i with
      | zero => simp at hu; subst hu; exact hv
      | succ i => simp at hu; have := hg i u hu; rwa [show j + (i + 1) = j + 1 + i from by omega]
    · rcases List.mem_cons.1 hu with rfl | hu
      · exact h1
      · exact hone u hu
  intro ts
  induction ts with
  | nil => intro j K h; exact ⟨[], [], h, trivial, rfl, fun i v hv => by simp at hv, fun v hv => by cases hv⟩
  | cons t r ih =>
    intro j K h
    cases t <;> simp only [ldK] at h
    case int k => obtain ⟨⟨x, hx⟩, h⟩ := h; exact step j r K _ _ (h x hx) hx rfl rfl (ih (j + 1))
    case bool => obtain ⟨⟨x, hx⟩, h⟩ := h; exact step j r K _ _ (h x hx) hx (by simp [okv]) rfl (ih (j + 1))
    case flt => obtain ⟨⟨x, hx⟩, h⟩ := h; exact step j r K _ _ (h x hx) hx rfl rfl (ih (j + 1))
    case str => obtain ⟨⟨x, hx⟩, h⟩ := h; exact step j r K _ _ (h x hx) hx rfl rfl (ih (j + 1))
    case ptr => obtain ⟨⟨x, hx⟩, h⟩ := h; exact step j r K _ _ (h x hx) hx rfl rfl (ih (j + 1))
    case slice => obtain ⟨⟨A, n, c, hx⟩, h⟩ := h; exact step j r K _ _ (h A n c hx) hx rfl rfl (ih (j + 1))
    all_goals exact h.elim
def aggB : TypeDesc → Bool
  | .struct _ | .array _ _ => true
  | _ => false
theorem run_isAgg {t : TypeId} {d : TypeDesc} (h : P.underlying t = some d) (w : World) : (isAgg t).run P w = .ok (aggB d) w := by
  simp only [isAgg, Sem.run_bind, run_underlying h, Result.andThen_ok]
  cases d <;> rfl
theorem load_ok (hT : TabOk P T) {t : TypeId} (h0 : (ty T t).d ≠ .other) {vs : List Value} (hl : vs.length = (ty T t).sz) :
    ∃ r, (∀ l, okL S l vs → okv S (ofCells (ty T t).d l) r) ∧ ∀ (w : World) (ad : Addr), (∀ i v, vs[i]? = some v → w.cell? (ad.add i) = some v) → (Instr.loadAt t (.pointer (some ad))).run P w = .ok r w := by
  obtain ⟨hd, ⟨i, z, hi, hsz, _, _, _⟩, _, _, _, one⟩ := hT t h0
  have agg : ∀ d, P.underlying t = some d → aggB d = true → ∀ (w : World) (ad : Addr), (∀ i v, vs[i]? = some v → w.cell? (ad.add i) = some v) → (Instr.loadAt t (.pointer (some ad))).run P w = .ok (.agg vs.toArray) w := by
    intro d hu hb w ad hc
    have hr := run_loadCells_list (P := P) (w := w) ad vs hc
    have hn : i.size = vs.length := hsz.trans hl.symm
    simp [Instr.loadAt, Instr.sureAddr, loadVar, run_isAgg hu, hb, sizeOf, typeInfo, hi, hn, hr]
  have scal : ∀ d, P.underlying t = some d → aggB d = false → (ty T t).sz = 1 → ∃ v, vs = [v] ∧ ∀ (w : World) (ad : Addr), (∀ i v, vs[i]? = some v → w.cell? (ad.add i) = some v) → (Instr.loadAt t (.pointer (some ad))).run P w = .ok v w := by
    intro d hu hb h1
    rw [h1] at hl
    obtain ⟨v, rfl⟩ := List.length_eq_one_iff.1 hl
    refine ⟨v, rfl, fun w ad hc => ?_⟩
    have h := hc 0 v rfl
    simp only [Addr.add_zero'] at h
    simp [Instr.loadAt, Instr.sureAddr, loadVar, run_isAgg hu, hb, h]
  have fin1 : ∀ d, P.underlying t = some d → aggB d = false → (∀ fs, (ty T t).d ≠ .struct fs) → (∀ n e, (ty T t).d ≠ .arr n e) →
      (∀ l, ofCells (ty T t).d l = match l with | x :: _ => x | [] => .bad) →
      ∃ r, (∀ l, okL S l vs → okv S (ofCells (ty T t).d l) r) ∧ ∀ (w : World) (ad : Addr), (∀ i v, vs[i]? = some v → w.cell? (ad.add i) = some v) → (Instr.loadAt t (.pointer (some ad))).run P w = .ok r w := by
    intro d hu hb n1 n2 hof
    obtain ⟨v, rfl, hv⟩ := scal d hu hb (one n1 n2)
    refine ⟨v, fun l hl' => ?_, hv⟩
    rw [hof]
    cases l with
    | nil => simp [okL] at hl'
    | cons x r => exact hl'.1
  generalize he : (ty T t).d = d at *
  cases d with
  | int k => exact fin1 _ hd rfl (by simp) (by simp) (fun l => rfl)
  | bool => exact fin1 _ hd rfl (by simp) (by simp) (fun l => rfl)
  | str => exact fin1 _ hd rfl (by simp) (by simp) (fun l => rfl)
  | flt k => exact fin1 _ hd rfl (by simp) (by simp) (fun l => rfl)
  | ptr e => exact fin1 _ hd rfl (by simp) (by simp) (fun l => rfl)
  | slice e => exact fin1 _ hd.1 rfl (by simp) (by simp) (fun l => rfl)
  | func => obtain ⟨x, y, z, hd⟩ := hd; exact fin1 _ hd rfl (by simp) (by simp) (fun l => rfl)
  | map k e => exact fin1 _ hd rfl (by simp) (by simp) (fun l => rfl)
  | struct fs => obtain ⟨F, hd, _⟩ := hd; exact ⟨_, fun l hl' => ⟨vs, rfl, hl'⟩, agg _ hd rfl⟩
  | arr n e => exact ⟨_, fun l hl' => ⟨vs, rfl, hl'⟩, agg _ hd.1 rfl⟩
  | other => exact absurd rfl h0
theorem rd_cell {p : PH} {w : World} (hon : PH.on p w) {A : Option Addr} {j : Nat} {v : Value} (h : rd p A j = some v) : ∃ a, A = some a ∧ a.spot = none ∧ w.cell? ⟨a.block, a.off + j, none⟩ = some v := by
  unfold rd at h
  split at h
  · rename_i b o
    exact ⟨⟨b, o, none⟩, rfl, rfl, hon _ _ _ h⟩
  · cases h
theorem add_none {a : Addr} (h : a.spot = none) (j : Nat) : a.add j = ⟨a.block, a.off + j, none⟩ := by
  obtain ⟨b, o, s⟩ := a
  cases h
  exact Addr.add_lit b o j
theorem drop_take_get {vs : List Value} {o sz i : Nat} {v : Value} (h : ((vs.drop o).take sz)[i]? = some v) : vs[o + i]? = some v := by
  rw [List.getElem?_take] at h
  split at h
  · rwa [List.getElem?_drop] at h
  · cases h
theorem loadK_ok (hT : TabOk P T) {w1 : World} (hch : ∀ k lb, getL L k = some lb → chunk N0 S k lb w1) (hC : ∀ w, C w → Cl w0 p S L w1 w) {t : TypeId} {x : SV} {u : Value} {K : SV → Prop} (h : loadK T p L t x K) (hx : okv S x u) :
    ∃ r sv, K sv ∧ okv S sv r ∧ ∀ w, C w → (Instr.loadAt t u).run P w = .ok r w := by
  unfold loadK at h
  have h0 : (ty T t).d ≠ .other := by
    intro e
    revert h
    generalize ty T t = ti at e
    obtain ⟨d, _, _, _, _⟩ := ti
    cases e
    exact fun h => h
  have hfl := (hT t h0).fl
  have hpos := (hT t h0).pos
  have hload := fun vs hl => load_ok (P := P) (S := S) hT h0 (vs := vs) hl
  revert h hload hfl hpos h0
  generalize ty T t = ti
  obtain ⟨d, sz, byt, zero, flat, cm⟩ := ti
  intro h h0 hfl hpos hload
  simp only at hfl hpos hload h0
  have h' : loadK1 d sz flat p L x K := by
    cases d <;> first | exact h | exact absurd rfl h0
  clear h
  unfold loadK1 at h'
  have mem : ∀ (A : Option Addr) (j : Nat), (ldK (rd p A) j flat fun l => fSV (ofCells d l) K) → (∀ a, A = some a → u = .pointer (some (a.add j))) →
      ∃ r sv, K sv ∧ okv S sv r ∧ ∀ w, C w → (Instr.loadAt t u).run P w = .ok r w := by
    intro A j h hu
    obtain ⟨l, vs, hK, hok, hlen, hg, _⟩ := ldK_ok (S := S) _ _ _ h
    rw [fSV_eq] at hK
    obtain ⟨r, hr1, hr2⟩ := hload vs (hlen.trans hfl)
    refine ⟨r, _, hK, hr1 _ hok, fun w hw => ?_⟩
    cases hvs : vs with
    | nil =>
      subst hvs
      have hz : 0 = sz := by simpa using hlen.trans hfl
      omega
    | cons v0 _ =>
      obtain ⟨a, rfl, hs, _⟩ := rd_cell (hC w hw).on (hg 0 v0 (by rw [hvs]; rfl))
      rw [hu a rfl, add_none hs]
      refine hr2 w _ fun i v hv => ?_
      obtain ⟨a', ha', _, hc⟩ := rd_cell (hC w hw).on (hg i v hv)
      cases ha'
      rw [Addr.add_lit, Nat.add_assoc]
      exact hc
  split at h'
  · rename_i k o
    cases hx
    split at h'
    · rename_i TT cs hk
      split at h'
      · rename_i hle
        rw [fSV_eq] at h'
        have hle := Nat.le_of_ble_eq_true hle
        obtain ⟨_, vs, hheap, hok⟩ := hch k _ hk
        have hlen := okL_length hok
        obtain ⟨r, hr1, hr2⟩ := hload ((vs.drop o).take sz) (by simp; omega)
        refine ⟨r, _, h', hr1 _ (okL_take sz (okL_drop o hok)), fun w hw => hr2 w _ fun i v hv => ?_⟩
        rw [Addr.add_lit, cell_of_row w _ _ _ _ _ (((hC w hw).ch k _ hk _ rfl).trans hheap)]
        simpa using drop_take_get hv
      · exact h'.elim
    · rename_i E sz' n xs hk
      obtain ⟨l, vs, hK, hok, hlen, hg, _⟩ := ldK_ok (S := S) _ _ _ h'
      rw [fSV_eq] at hK
      obtain ⟨r, hr1, hr2⟩ := hload vs (hlen.trans hfl)
      refine ⟨r, _, hK, hr1 _ hok, fun w hw => ?_⟩
      obtain ⟨hown, hn, hsz, _, hA⟩ := chunk_same (hch k _ hk) ((hC w hw).ch k _ hk)
      refine hr2 w _ fun i v hv => ?_
      have hx := hg i v hv
      rcases hA with hA | hA
      · have hxs : xs = [] := by
          rcases hown.2 with ⟨_, hn0⟩ | ⟨g, cap, cur, hv, _⟩
          · exact List.eq_nil_of_length_eq_zero (by rw [hown.1, hn0]; simp)
          · rw [hA] at hv; cases hv
        subst hxs
        simp at hx
      · have := hown.cells (g := (S k).b) (by simp [Value.ownBlock, hA]) (o + i) v hx
        rw [Addr.add_lit] at this ⊢
        simpa using this
    · rename_i E sz' n cs hk
      split at h'
      · rename_i hle
        rw [fSV_eq] at h'
        have hle := Nat.le_of_ble_eq_true hle
        obtain ⟨xs, hxs, hok⟩ := hch k _ hk
        have hlen := okL_length hok
        obtain ⟨r, hr1, hr2⟩ := hload ((xs.drop o).take sz) (by simp; omega)
        refine ⟨r, _, h', hr1 _ (okL_take sz (okL_drop o hok)), fun w hw => ?_⟩
        obtain ⟨hown, hn, hsz, _, hA⟩ := chunk_same (lb := .arr E sz' n xs) hxs (fun b hb => (hC w hw).ch k _ hk b hb)
        refine hr2 w _ fun i v hv => ?_
        have hx := drop_take_get hv
        rcases hA with hA | hA
        · have hxs : xs = [] := by
            rcases hown.2 with ⟨_, hn0⟩ | ⟨g, cap, cur, hv, _⟩
            · exact List.eq_nil_of_length_eq_zero (by rw [hown.1, hn0]; simp)
            · rw [hA] at hv; cases hv
          subst hxs
          simp at hx
        · have := hown.cells (g := (S k).b) (by simp [Value.ownBlock, hA]) (o + i) v hx
          rw [Addr.add_lit] at this ⊢
          simpa using this
      · exact h'.elim
    · exact h'.elim
  · rename_i A j
    refine mem A j h' fun a ha => ?_
    obtain ⟨a', ha', e⟩ := hx
    rw [ha] at ha'; cases ha'
    exact e
  · rename_i ad
    cases hx
    refine mem (some ad) 0 h' fun a ha => ?_
    cases ha
    rw [Addr.add_zero']
  · exact h'.elim
theorem add_add' (a : Addr) (m n : Nat) : (a.add m).add n = a.add (m + n) := by
  obtain ⟨b, o, s⟩ := a
  unfold Addr.add
  by_cases hm : m = 0
  · subst hm; simp
  · by_cases hn : n = 0
    · subst hn; simp
    · simp [hm, hn, Nat.add_assoc]
theorem vw_cells {w : World} {k lo sz m e n : Nat} {ex : Bool} {xs : List Value} {u : Value} (hx : okv S (.vw k lo sz m ex) u) (hch : chunk N0 S k (.arr e sz n xs) w) (hb : lo + m ≤ n) :
    ∃ A c, u = .slice A m c ∧ m ≤ c ∧ (vwC xs lo sz m).length = m * sz ∧ ∀ j v, (vwC xs lo sz m)[j]? = some v → ∃ a, A = some a ∧ a.spot = none ∧ (S k).A = some ⟨(S k).b, 0, none⟩ ∧ a.block = (S k).b ∧ a.off = lo * sz ∧ w.cell? ⟨a.block, a.off + j, none⟩ = some v := by
  obtain ⟨A, c, rfl, hmc, hA, _⟩ := hx
  obtain ⟨hown, hn, hsz, _, hAk⟩ := hch
  have hl : (vwC xs lo sz m).length = m * sz := by
    unfold vwC
    rw [List.length_take, List.length_drop, hown.1]
    have : (lo + m) * sz ≤ n * sz := Nat.mul_le_mul_right _ hb
    rw [Nat.add_mul] at this
    omega
  refine ⟨A, c, rfl, hmc, hl, fun j v hv => ?_⟩
  have hj := (List.getElem?_eq_some_iff.1 hv).1
  rw [hl] at hj
  have hm : m ≠ 0 := by rintro rfl; simp at hj
  have hx : xs[lo * sz + j]? = some v := by
    unfold vwC at hv
    rw [List.getElem?_take_of_lt hj] at hv
    rwa [List.getElem?_drop] at hv
  rcases hAk with hk | hk
  · rcases hown.2 with ⟨_, hn0⟩ | ⟨g, cap, cur, hv', _⟩
    · omega
    · rw [hk] at hv'; cases hv'
  · have hA := hA.resolve_left hm
    rw [hk] at hA
    have hcell := hown.cells (g := (S k).b) (by simp [Value.ownBlock, hk]) _ _ hx
    rw [Addr.add_lit] at hcell
    refine ⟨⟨(S k).b, 0 + lo * sz, none⟩, by rw [hA]; simp [Addr.add_lit], rfl, hk, rfl, by simp, ?_⟩
    simpa [Nat.add_assoc] using hcell
theorem own_cap {w : World} {k e sz n : Nat} {xs : List Value} (hch : chunk N0 S k (.arr e sz n xs) w) : n ≤ (S k).c := by
  obtain ⟨hown, hn, _⟩ := hch
  rcases hown.2 with ⟨e, hn0⟩ | ⟨g, cap, cur, e, _, _, hcap, _⟩
  · omega
  · injection e with _ e2 e3; omega
theorem lenK_ok (hT : TabOk P T) {w1 : World} (hch : ∀ k lb, getL L k = some lb → chunk N0 S k lb w1) {t ty' : TypeId} {x : SV} {u : Value} {K : SV → Prop} (h : lenK (ty T t).d L x K) (hx : okv S x u) :
    ∃ r sv, K sv ∧ okv S sv r ∧ ∀ w, (Builtin.len_ #[t] ty' #[u]).run P w = .ok r w := by
  have hd := fun h0 => (hT t h0).d
  unfold lenK at h
  split at h
  · rename_i e A n c he
    rw [he] at hd
    cases hx
    exact ⟨_, _, h, rfl, fun w => by simp [Builtin.len_, run_underlying (hd (by simp)).1, goInt]⟩
  · rename_i s he
    rw [he] at hd
    cases hx
    exact ⟨_, _, h, rfl, fun w => by simp [Builtin.len_, run_underlying (hd (by simp)), goInt]⟩
  · rename_i e k he
    rw [he] at hd
    split at h
    · rename_i n xs hk
      obtain ⟨_, hn, _⟩ := hch k _ hk
      cases hx
      exact ⟨_, _, h, by rw [← hn]; rfl, fun w => by simp [Builtin.len_, run_underlying (hd (by simp)).1, goInt]⟩
    · rename_i n xs hk
      obtain ⟨_, ⟨_, hn, _⟩, _⟩ := hch k _ hk
      cases hx
      exact ⟨_, _, h, by rw [← hn]; rfl, fun w => by simp [Builtin.len_, run_underlying (hd (by simp)).1, goInt]⟩
    · exact h.elim
  · rename_i e k lo sz m _ he
    rw [he] at hd
    obtain ⟨A, c, rfl, _⟩ := hx
    exact ⟨_, _, h, rfl, fun w => by simp [Builtin.len_, run_underlying (hd (by simp)).1, goInt]⟩
  · rename_i e k m he
    rw [he] at hd
    cases hx
    exact ⟨_, _, h, rfl, fun w => by simp [Builtin.len_, run_underlying (hd (by simp)).1, goInt]⟩
  · exact h.elim
theorem minK_ok {mx : Bool} {x y : SV} {u v : Value} {ts : Array TypeId} {t : TypeId} {K : SV → Prop} (h : minK mx x y K) (hx : okv S x u) (hy : okv S y v) :
    ∃ r sv, K sv ∧ okv S sv r ∧ ∀ w, ((if mx then Builtin.max_ else Builtin.min_) ts t #[u, v]).run P w = .ok r w := by
  unfold minK at h
  split at h
  · rename_i k m k' n
    cases hx; cases hy
    split at h
    · rename_i hk
      cases kc_inj hk
      cases mx with
      | true => exact ⟨_, _, h, rfl, fun w => by simp [Builtin.max_, Builtin.max2]⟩
      | false => exact ⟨_, _, h, rfl, fun w => by simp [Builtin.min_, Builtin.min2]⟩
    · exact h.elim
  · exact h.elim
theorem rowVL_c {x : SV} {r : List SV} : rowVL (x :: r) = (match x with
    | .v y => (match rowVL r with | some s => some (y :: s) | none => none)
    | .bb b => (match rowVL r with | some s => some (.bool b :: s) | none => none)
    | .b p d => (match rowVL r with | some s => some (.bool (@decide p d) :: s) | none => none)
    | _ => none) := rfl
theorem rowVL_ok {S : Pl} : ∀ {l : List SV} {ys vs : List Value}, rowVL l = some ys → okL S l vs → vs = ys
  | [], ys, [], h, _ => by cases h; rfl
  | x :: r, ys, v :: vs, h, hv => by
    rw [rowVL_c] at h
    obtain ⟨h1, h2⟩ := hv
    split at h
    · split at h
      · rename_i e; cases h; cases rowVL_ok e h2; rw [show v = _ from h1]
      · cases h
    · split at h
      · rename_i e; cases h; cases rowVL_ok e h2; rw [show v = _ from h1]
      · cases h
    · split at h
      · rename_i e; cases h; cases rowVL_ok e h2; rw [show v = _ from h1]
      · cases h
    · cases h
  | [], _, _ :: _, _, h => by cases h
  | _ :: _, _, [], _, h => by cases h
theorem vwS_ok {cs : List SV} {xs : List Value} {lo sz n : Nat} (h : okL S cs xs) : okL S (vwS cs lo sz n) (vwC xs lo sz n) := okL_take _ (okL_drop _ h)
theorem sliceK_ok {w1 : World} (hch : ∀ k lb, getL L k = some lb → chunk N0 S k lb w1) (hC : ∀ w, C w → Cl w0 p S L w1 w) {sz : Nat} {x : SV} {u : Value} {K : List Value → Prop} (h : sliceK p L sz x K) (hx : okv S x u) :
    ∃ A n c xs, u = .slice A n c ∧ K xs ∧ xs.length = n * sz ∧ ∀ w, C w → ∀ j v, xs[j]? = some v → ∃ a, A = some a ∧ a.spot = none ∧ w.cell? ⟨a.block, a.off + j, none⟩ = some v := by
  unfold sliceK at h
  split at h
  · rename_i A n c
    cases hx
    obtain ⟨⟨xs, hl, hr⟩, h⟩ := h
    exact ⟨A, n, c, xs, rfl, h xs hl hr, hl, fun w hw j v hv => rd_cell (hC w hw).on ((hr j (List.getElem?_eq_some_iff.1 hv).1).trans hv)⟩
  · rename_i k
    split at h
    · rename_i E sz' n xs hk
      split at h
      · rename_i hs
        have hs := Nat.eq_of_beq_eq_true hs
        subst hs
        cases hx
        obtain ⟨hown, hn, _⟩ := hch k _ hk
        refine ⟨_, _, _, xs, rfl, h, by rw [hn]; exact hown.1, fun w hw j v hv => ?_⟩
        obtain ⟨hown, hn, hsz, _, hA⟩ := chunk_same (hch k _ hk) ((hC w hw).ch k _ hk)
        rcases hA with hA | hA
        · have : xs = [] := by
            rcases hown.2 with ⟨_, hn0⟩ | ⟨g, cap, cur, hv, _⟩
            · exact List.eq_nil_of_length_eq_zero (by rw [hown.1, hn0]; simp)
            · rw [hA] at hv; cases hv
          subst this
          simp at hv
        · have := hown.cells (g := (S k).b) (by simp [Value.ownBlock, hA]) j v hv
          rw [Addr.add_lit] at this
          exact ⟨_, hA, rfl, this⟩
      · exact h.elim
    · rename_i E sz' n cs hk
      split at h
      · rename_i xs hs hcs
        have hs := Nat.eq_of_beq_eq_true hs
        subst hs
        cases hx
        obtain ⟨xs', hxs, hok⟩ := hch k _ hk
        cases rowVL_ok hcs hok
        replace hxs : chunk N0 S k (.arr E sz' n _) w1 := hxs
        have hxs0 := hxs
        obtain ⟨hown, hn, _⟩ := hxs0
        refine ⟨_, _, _, xs, rfl, h, by rw [hn]; exact hown.1, fun w hw j v hv => ?_⟩
        obtain ⟨hown, hn, hsz, _, hA⟩ := chunk_same hxs (fun b hb => (hC w hw).ch k _ hk b hb)
        rcases hA with hA | hA
        · have : xs = [] := by
            rcases hown.2 with ⟨_, hn0⟩ | ⟨g, cap, cur, hv, _⟩
            · exact List.eq_nil_of_length_eq_zero (by rw [hown.1, hn0]; simp)
            · rw [hA] at hv; cases hv
          subst this
          simp at hv
        · have := hown.cells (g := (S k).b) (by simp [Value.ownBlock, hA]) j v hv
          rw [Addr.add_lit] at this
          exact ⟨_, hA, rfl, this⟩
      · exact h.elim
    · exact h.elim
  · rename_i k lo sz' m _
    split at h
    · rename_i E sz'' n xs hk
      split at h
      · rename_i hs hs'
        have hs := Nat.eq_of_beq_eq_true hs
        have hs' := Nat.eq_of_beq_eq_true hs'
        subst hs hs'
        obtain ⟨⟨hb⟩, h⟩ := h
        obtain ⟨A, c, rfl, _, hl, _⟩ := vw_cells hx (hch k _ hk) hb
        refine ⟨A, m, c, _, rfl, h, hl, fun w hw j v hv => ?_⟩
        obtain ⟨A', c', e, _, _, hcell⟩ := vw_cells hx (chunk_same (hch k _ hk) ((hC w hw).ch k _ hk)) hb
        injection e with e1 e2 e3
        subst e1
        obtain ⟨a, g1, g2, _, _, _, g3⟩ := hcell j v hv
        exact ⟨a, g1, g2, g3⟩
      · exact h.elim
    · rename_i E sz'' n cs hk
      split at h
      · rename_i xs hs hs' hcs
        have hs := Nat.eq_of_beq_eq_true hs
        have hs' := Nat.eq_of_beq_eq_true hs'
        subst hs hs'
        obtain ⟨⟨hb⟩, h⟩ := h
        obtain ⟨xs', hxs, hok⟩ := hch k _ hk
        cases rowVL_ok hcs (vwS_ok hok)
        replace hxs : chunk N0 S k (.arr E sz'' n xs') w1 := hxs
        obtain ⟨A, c, rfl, _, hl, _⟩ := vw_cells hx hxs hb
        refine ⟨A, m, c, _, rfl, h, hl, fun w hw j v hv => ?_⟩
        obtain ⟨A', c', e, _, _, hcell⟩ := vw_cells hx (chunk_same hxs (fun b hb => (hC w hw).ch k _ hk b hb)) hb
        injection e with e1 e2 e3
        subst e1
        obtain ⟨a, g1, g2, _, _, _, g3⟩ := hcell j v hv
        exact ⟨a, g1, g2, g3⟩
      · exact h.elim
    · exact h.elim
  · exact h.elim
theorem arrK_get {sz k o : Nat} {i : Int} {K : SV → Prop} : ∀ {n j0 : Nat}, arrK sz k o i K n j0 → ∀ j : Nat, j0 ≤ j → j < j0 + n → i = (j : Int) → K (.lp k (o + j * sz))
  | 0, j0, _, j, h1, h2, _ => by omega
  | n + 1, j0, h, j, h1, h2, e => by
    have h : (i = (j0 : Int) → match o + j0 * sz with | 0 => K (.lp k 0) | m + 1 => K (.lp k (m + 1))) ∧ arrK sz k o i K n (j0 + 1) := h
    by_cases hj : j = j0
    · subst hj
      have := h.1 e
      split at this <;> simp_all
    · exact arrK_get h.2 j (by omega) (by omega) e
theorem idxK_ok (hT : TabOk P T) {w1 : World} (hch : ∀ k lb, getL L k = some lb → chunk N0 S k lb w1) {t : TypeId} {x i : SV} {u v : Value} {K : SV → Prop} (h : idxK T L t x i K) (hx : okv S x u) (hi : okv S i v) :
    ∃ r sv, K sv ∧ okv S sv r ∧ ∀ w, (Instr.indexAt t u v).run P w = .ok r w := by
  have key : ∀ e, (ty T t).d = .slice e → ∀ (a : Addr) (n c : Nat) (k : IntKind) (i : Int), 0 ≤ i → i < n → ∀ w, (Instr.indexAt t (.slice (some a) n c) (.int k i)).run P w = .ok (.pointer (some (a.add (i.toNat * (ty T e).sz)))) w := by
    intro e he a n c k i h0 h1 w
    obtain ⟨ht, _, j, hj, hsz, _⟩ : descOk P T t (.slice e) := by rw [← he]; exact (hT t (by rw [he]; simp)).d
    have hb : ((decide (n ≤ 1)) && (false : Bool)) = false := by simp
    simp [Instr.indexAt, asIntOf, run_underlying ht, h0, h1, sizeOf, typeInfo, hj, hsz]
  unfold idxK at h
  split at h
  · rename_i e A n c k i he
    cases hx; cases hi
    obtain ⟨⟨h0, h1, hA⟩, h⟩ := h
    rw [elK_eq] at h
    obtain ⟨a, rfl⟩ := Option.ne_none_iff_exists'.1 hA
    exact ⟨_, _, h, ⟨a, rfl, rfl⟩, fun w => key e he a n c k i h0 h1 w⟩
  · rename_i e k kk i he
    split at h
    · rename_i E sz n xs hk
      obtain ⟨⟨h0, h1⟩, h⟩ := h
      rw [elK_eq] at h
      obtain ⟨hown, hn, _, _, hA⟩ := hch k _ hk
      cases hx; cases hi
      rcases hA with hA | hA
      · rcases hown.2 with ⟨_, hn0⟩ | ⟨g, cap, cur, hv, _⟩
        · omega
        · rw [hA] at hv; cases hv
      · refine ⟨.pointer (some ⟨(S k).b, i.toNat * (ty T e).sz, none⟩), _, h, rfl, fun w => ?_⟩
        rw [hA]
        have := key e he ⟨(S k).b, 0, none⟩ (S k).n (S k).c kk i h0 (by rw [hn]; exact h1) w
        rw [Addr.add_lit, Nat.zero_add] at this
        exact this
    · rename_i E sz n cs hk
      obtain ⟨⟨h0, h1⟩, h⟩ := h
      rw [elK_eq] at h
      obtain ⟨xs, ⟨hown, hn, _, _, hA⟩, _⟩ := hch k _ hk
      cases hx; cases hi
      rcases hA with hA | hA
      · rcases hown.2 with ⟨_, hn0⟩ | ⟨g, cap, cur, hv, _⟩
        · omega
        · rw [hA] at hv; cases hv
      · refine ⟨.pointer (some ⟨(S k).b, i.toNat * (ty T e).sz, none⟩), _, h, rfl, fun w => ?_⟩
        rw [hA]
        have := key e he ⟨(S k).b, 0, none⟩ (S k).n (S k).c kk i h0 (by rw [hn]; exact h1) w
        rw [Addr.add_lit, Nat.zero_add] at this
        exact this
    · exact h.elim
  · rename_i e k lo sz m _ kk i he
    split at h
    · rename_i E sz' n xs hk
      split at h
      · rename_i hs
        have hs := Nat.eq_of_beq_eq_true hs
        obtain ⟨⟨h0, h1, h2⟩, h⟩ := h
        rw [elK_eq] at h
        obtain ⟨hown, hn, _, _, hA⟩ := hch k _ hk
        obtain ⟨A, c, rfl, _, hA', _⟩ := hx
        cases hi
        have hA' := hA'.resolve_left (by omega)
        rcases hA with hA | hA
        · rcases hown.2 with ⟨_, hn0⟩ | ⟨g, cap, cur, hv, _⟩
          · omega
          · rw [hA] at hv; cases hv
        · refine ⟨.pointer (some ⟨(S k).b, (lo + i.toNat) * (ty T e).sz, none⟩), _, h, rfl, fun w => ?_⟩
          rw [hA', hA]
          have := key e he ⟨(S k).b, lo * sz, none⟩ m c kk i h0 h1 w
          rw [Addr.add_lit, hs, ← Nat.add_mul] at this
          simp only [Option.map_some, Addr.add_lit, Nat.zero_add]
          rw [hs]
          exact this
      · exact h.elim
    · rename_i E sz' n cs hk
      split at h
      · rename_i hs
        have hs := Nat.eq_of_beq_eq_true hs
        obtain ⟨⟨h0, h1, h2⟩, h⟩ := h
        rw [elK_eq] at h
        obtain ⟨xs, ⟨hown, hn, _, _, hA⟩, _⟩ := hch k _ hk
        obtain ⟨A, c, rfl, _, hA', _⟩ := hx
        cases hi
        have hA' := hA'.resolve_left (by omega)
        rcases hA with hA | hA
        · rcases hown.2 with ⟨_, hn0⟩ | ⟨g, cap, cur, hv, _⟩
          · omega
          · rw [hA] at hv; cases hv
        · refine ⟨.pointer (some ⟨(S k).b, (lo + i.toNat) * (ty T e).sz, none⟩), _, h, rfl, fun w => ?_⟩
          rw [hA', hA]
          have := key e he ⟨(S k).b, lo * sz, none⟩ m c kk i h0 h1 w
          rw [Addr.add_lit, hs, ← Nat.add_mul] at this
          simp only [Option.map_some, Addr.add_lit, Nat.zero_add]
          rw [hs]
          exact this
      · exact h.elim
    · exact h.elim
  · rename_i e k n kk i he
    obtain ⟨⟨h0, h1⟩, h⟩ := h
    cases hx; cases hi
    have hK := arrK_get h i.toNat (Nat.zero_le _) (by omega) (by omega)
    refine ⟨.pointer (some ⟨(S k).b, 0 + i.toNat * (ty T e).sz, none⟩), _, hK, rfl, fun w => ?_⟩
    have := key e he ⟨(S k).b, 0, none⟩ n n kk i h0 h1 w
    rw [Addr.add_lit] at this
    exact this
  · rename_i n e k o kk i he
    obtain ⟨⟨h0, h1⟩, h⟩ := h
    cases hx; cases hi
    obtain ⟨ht, _, j, hj, hsz, _⟩ : descOk P T t (.arr n e) := by rw [← he]; exact (hT t (by rw [he]; simp)).d
    have hK := arrK_get h i.toNat (Nat.zero_le _) (by omega) (by omega)
    refine ⟨.pointer (some ⟨(S k).b, o + i.toNat * (ty T e).sz, none⟩), _, hK, rfl, fun w => ?_⟩
    have e1 : (⟨(S k).b, o, none⟩ : Addr).add (i.toNat * (ty T e).sz) = ⟨(S k).b, o + i.toNat * (ty T e).sz, none⟩ := Addr.add_lit _ _ _
    rw [← e1]
    simp [Instr.indexAt, Instr.sureAddr, asIntOf, run_underlying ht, h0, h1, sizeOf, typeInfo, hj, hsz]
  · exact h.elim
theorem strIdxK_ok (hT : TabOk P T) {t : TypeId} {x i : SV} {u v : Value} {K : SV → Prop} (h : strIdxK T t x i K) (hx : okv S x u) (hi : okv S i v) :
    ∃ r sv, K sv ∧ okv S sv r ∧ ∀ w, (Instr.index t u v).run P w = .ok r w := by
  unfold strIdxK at h
  split at h
  · rename_i s k i hd
    cases hx; cases hi
    obtain ⟨⟨h0, h1⟩, h⟩ := h
    have ht : P.underlying t = some .string := by have := (hT t (by rw [hd]; simp)).d; rwa [hd] at this
    obtain ⟨m, rfl⟩ := Int.eq_ofNat_of_zero_le h0
    have hm : m < s.size := by omega
    refine ⟨_, _, h, rfl, fun w => ?_⟩
    have e : s[m]? = some s[m] := ByteArray.getElem?_lt' s m hm
    have e2 : s.data.toList[m]? = some s[m] := by
      rw [Array.getElem?_toList]
      exact Array.getElem?_eq_getElem (by simpa using hm)
    simp [Instr.index, asIntOf, run_underlying ht, e, e2]
  · exact h.elim
theorem bndK_ok {x : Option SV} {d : Int} {K : Int → Prop} {u : Option Value} (h : bndK x d K) (hx : (x = none ∧ u = none) ∨ ∃ y v, x = some y ∧ u = some v ∧ okv S y v) :
    ∃ i, K i ∧ ((u = none ∧ i = d) ∨ ∃ k, u = some (.int k i)) := by
  unfold bndK at h
  split at h
  · rcases hx with ⟨_, rfl⟩ | ⟨y, v, e, _⟩
    · exact ⟨d, h, .inl ⟨rfl, rfl⟩⟩
    · cases e
  · rename_i k i
    rcases hx with ⟨e, _⟩ | ⟨y, v, e, rfl, hok⟩
    · cases e
    · cases e; cases hok; exact ⟨i, h, .inr ⟨k, rfl⟩⟩
  · exact h.elim
theorem run_bnd (k : IntKind) (i : Int) (y : Nat) (code : BoundsCode) (h0 : 0 ≤ i) (h1 : i ≤ y) (w : World) : (Instr.sliceBound (.int k i) y code).run P w = .ok i.toNat w := by
  simp [Instr.sliceBound, asIntOf, h0, h1]
theorem slcK_ok (hT : TabOk P T) {w1 : World} (hch : ∀ k lb, getL L k = some lb → chunk N0 S k lb w1) {t : TypeId} {x : SV} {lo hi : Option SV} {u : Value} {ul uh : Option Value} {K : SV → Prop} (h : slcK T L t x lo hi K) (hx : okv S x u)
    (hl : (lo = none ∧ ul = none) ∨ ∃ y v, lo = some y ∧ ul = some v ∧ okv S y v) (hh : (hi = none ∧ uh = none) ∨ ∃ y v, hi = some y ∧ uh = some v ∧ okv S y v) :
    ∃ r sv, K sv ∧ okv S sv r ∧ ∀ w, (Instr.sliceAt t u ul uh none).run P w = .ok r w := by
  have bnds : ∀ (isS : Bool) (len cap : Nat) (l h : Int), ((ul = none ∧ l = 0) ∨ ∃ k, ul = some (.int k l)) → ((uh = none ∧ h = len) ∨ ∃ k, uh = some (.int k h)) → 0 ≤ l → l ≤ h → h ≤ cap → len ≤ cap ∨ uh ≠ none → ∀ w, (Instr.sliceBounds isS len cap ul uh none).run P w = .ok (l.toNat, h.toNat, cap) w := by
    intro isS len cap l h hl hh h0 h1 h2 _ w
    have e1 : (h.toNat : Int) = h := Int.toNat_of_nonneg (by omega)
    have b1 := fun k (y : Nat) code (hy : l ≤ (y : Int)) => run_bnd (P := P) k l y code h0 hy w
    have b2 := fun k (y : Nat) code (hy : h ≤ (y : Int)) => run_bnd (P := P) k h y code (by omega) hy w
    rcases hl with ⟨rfl, rfl⟩ | ⟨k, rfl⟩ <;> rcases hh with ⟨rfl, rfl⟩ | ⟨k', rfl⟩
    · simp [Instr.sliceBounds]
    · simp [Instr.sliceBounds, b2 k' cap _ h2]
    · simp [Instr.sliceBounds, b1 k len _ h1]
    · simp [Instr.sliceBounds, b2 k' cap _ h2, b1 k h.toNat _ (by omega)]
  unfold slcK at h
  split at h
  · rename_i s hd
    cases hx
    obtain ⟨l, h, h1⟩ := bndK_ok h hl
    obtain ⟨hh', h, h2⟩ := bndK_ok h hh
    obtain ⟨⟨b0, b1, b2⟩, h⟩ := h
    have ht : P.underlying t = some .string := by have := (hT t (by rw [hd]; simp)).d; rwa [hd] at this
    refine ⟨_, _, h, rfl, fun w => ?_⟩
    simp [Instr.sliceAt, Instr.slice, run_underlying ht, bnds false s.size s.size l hh' h1 h2 b0 b1 b2 (.inl (Nat.le_refl _)) w]
  · rename_i e A n c hd
    cases hx
    obtain ⟨l, h, h1⟩ := bndK_ok h hl
    obtain ⟨hh', h, h2⟩ := bndK_ok h hh
    obtain ⟨⟨b0, b1, b2⟩, h⟩ := h
    obtain ⟨ht, _, j, hj, hsz, _⟩ : descOk P T t (.slice e) := by rw [← hd]; exact (hT t (by rw [hd]; simp)).d
    rw [elK_eq] at h
    refine ⟨_, _, h _ rfl, rfl, fun w => ?_⟩
    have hc : n ≤ c ∨ uh ≠ none := by
      rcases h2 with ⟨_, e⟩ | ⟨k, e⟩
      · left; omega
      · right; rw [e]; simp
    simp [Instr.sliceAt, Instr.slice, run_underlying ht, bnds true n c l hh' h1 h2 b0 b1 b2 hc w, sizeOf, typeInfo, hj, hsz]
  · rename_i e k hd
    have own : ∀ {E sz n : Nat} {xs : List Value}, chunk N0 S k (.arr E sz n xs) w1 → (match Nat.beq sz (ty T e).sz with | true => bndK lo 0 fun l => bndK hi n fun h => Ob (0 ≤ l ∧ l ≤ h ∧ h ≤ n) ∧ ∀ m, m = h.toNat - l.toNat → K (.vw k l.toNat sz m true) | false => False) → ∃ r sv, K sv ∧ okv S sv r ∧ ∀ w, (Instr.sliceAt t u ul uh none).run P w = .ok r w := by
      intro E sz n xs hk h
      split at h
      rotate_left
      · exact h.elim
      rename_i hs
      have hs := Nat.eq_of_beq_eq_true hs
      have hcap := own_cap (hk)
      obtain ⟨hown, hn, _, _, hA⟩ := hk
      cases hx
      obtain ⟨l, h, h1⟩ := bndK_ok h hl
      obtain ⟨hh', h, h2⟩ := bndK_ok h hh
      obtain ⟨⟨b0, b1, b2⟩, h⟩ := h
      obtain ⟨ht, _, j, hj, hsz, _⟩ : descOk P T t (.slice e) := by rw [← hd]; exact (hT t (by rw [hd]; simp)).d
      refine ⟨.slice (if (S k).c = l.toNat then (S k).A else (S k).A.map (·.add (l.toNat * (ty T e).sz))) (hh'.toNat - l.toNat) ((S k).c - l.toNat), _, h _ rfl, ⟨_, _, rfl, by omega, ?_, fun _ hl0 => ?_⟩, fun w => ?_⟩
      rotate_left
      · rw [hl0]
        refine ⟨?_, by omega⟩
        split
        · rfl
        · cases (S k).A with
          | none => rfl
          | some a => simp [Addr.add]
      rotate_left
      · by_cases e0 : hh'.toNat - l.toNat = 0
        · exact .inl e0
        · rw [if_neg (by omega), hs]; exact .inr rfl
      · rw [hn]
        simp [Instr.sliceAt, Instr.slice, run_underlying ht, bnds true n (S k).c l hh' h1 h2 b0 b1 (by omega) (.inl hcap) w, sizeOf, typeInfo, hj, hsz]
    split at h
    · rename_i hk; exact own (hch k _ hk) h
    · rename_i hk; obtain ⟨xs, h1, _⟩ := hch k _ hk; exact own h1 h
    · exact h.elim
  · rename_i e k lo0 sz n _ hd
    split at h
    rotate_left
    · exact h.elim
    rename_i hs
    have hs := Nat.eq_of_beq_eq_true hs
    obtain ⟨A, c, rfl, hcap, hA, _⟩ := hx
    obtain ⟨l, h, h1⟩ := bndK_ok h hl
    obtain ⟨hh', h, h2⟩ := bndK_ok h hh
    obtain ⟨⟨b0, b1, b2⟩, h⟩ := h
    obtain ⟨ht, _, j, hj, hsz, _⟩ : descOk P T t (.slice e) := by rw [← hd]; exact (hT t (by rw [hd]; simp)).d
    refine ⟨.slice (if c = l.toNat then A else A.map (·.add (l.toNat * (ty T e).sz))) (hh'.toNat - l.toNat) (c - l.toNat), _, h _ rfl, ⟨_, _, rfl, by omega, ?_, fun h => by cases h⟩, fun w => ?_⟩
    · by_cases e0 : hh'.toNat - l.toNat = 0
      · exact .inl e0
      · rw [if_neg (by omega), hA.resolve_left (by omega), hs]
        right
        cases (S k).A with
        | none => rfl
        | some a => simp only [Option.map_some]; rw [add_add', ← Nat.add_mul]
    · simp [Instr.sliceAt, Instr.slice, run_underlying ht, bnds true n c l hh' h1 h2 b0 b1 (by omega) (.inl hcap) w, sizeOf, typeInfo, hj, hsz]
  · exact h.elim
theorem slc3K_ok (hT : TabOk P T) {w1 : World} (hch : ∀ k lb, getL L k = some lb → chunk N0 S k lb w1) {t : TypeId} {x mx : SV} {lo hi : Option SV} {u um : Value} {ul uh : Option Value} {K : SV → Prop} (h : slc3K T L t x lo hi mx K) (hx : okv S x u) (hm : okv S mx um)
    (hl : (lo = none ∧ ul = none) ∨ ∃ y v, lo = some y ∧ ul = some v ∧ okv S y v) (hh : (hi = none ∧ uh = none) ∨ ∃ y v, hi = some y ∧ uh = some v ∧ okv S y v) :
    ∃ r sv, K sv ∧ okv S sv r ∧ ∀ w, (Instr.sliceAt t u ul uh (some um)).run P w = .ok r w := by
  unfold slc3K at h
  split at h
  rotate_left
  · exact h.elim
  rename_i e k y hd
  have own : ∀ {E sz n : Nat} {xs : List Value}, chunk N0 S k (.arr E sz n xs) w1 → (match Nat.beq sz (ty T e).sz with | true => bndK lo 0 fun l => bndK (some y) 0 fun h => bndK (some mx) 0 fun x => Ob (0 ≤ l ∧ l ≤ h ∧ h ≤ x ∧ x ≤ n) ∧ ∀ m, m = h.toNat - l.toNat → K (.vw k l.toNat sz m false) | false => False) → ∃ r sv, K sv ∧ okv S sv r ∧ ∀ w, (Instr.sliceAt t u ul uh (some um)).run P w = .ok r w := by
    intro E sz n xs hk h
    split at h
    rotate_left
    · exact h.elim
    rename_i hs
    have hs := Nat.eq_of_beq_eq_true hs
    have hcap := own_cap (hk)
    obtain ⟨hown, hn, _, _, hA⟩ := hk
    cases hx
    rcases hh with ⟨e0, _⟩ | ⟨y', v', e0, rfl, hy⟩
    · cases e0
    cases e0
    obtain ⟨l, h, h1⟩ := bndK_ok h hl
    obtain ⟨hh', h, h2⟩ := bndK_ok h (.inr ⟨_, _, rfl, rfl, hy⟩)
    obtain ⟨m, h, h3⟩ := bndK_ok h (.inr ⟨_, _, rfl, rfl, hm⟩)
    obtain ⟨⟨b0, b1, b2, b3⟩, h⟩ := h
    obtain ⟨ht, _, j, hj, hsz, _⟩ : descOk P T t (.slice e) := by rw [← hd]; exact (hT t (by rw [hd]; simp)).d
    rcases h2 with ⟨e1, _⟩ | ⟨k2, e1⟩
    · cases e1
    rcases h3 with ⟨e3, _⟩ | ⟨k3, e3⟩
    · cases e3
    cases e1; cases e3
    have r3 := fun code w => run_bnd (P := P) k3 m (S k).c code (by omega) (by omega) w
    have r2 := fun code w => run_bnd (P := P) k2 hh' m.toNat code (by omega) (by omega) w
    have r1 := fun k code w => run_bnd (P := P) k l hh'.toNat code b0 (by omega) w
    refine ⟨.slice (if m.toNat = l.toNat then (S k).A else (S k).A.map (·.add (l.toNat * (ty T e).sz))) (hh'.toNat - l.toNat) (m.toNat - l.toNat), _, h _ rfl, ⟨_, _, rfl, by omega, ?_, fun h => by cases h⟩, fun w => ?_⟩
    · by_cases e0 : hh'.toNat - l.toNat = 0
      · exact .inl e0
      · rw [if_neg (by omega), hs]; exact .inr rfl
    · rcases h1 with ⟨rfl, rfl⟩ | ⟨k1, rfl⟩
      · simp [Instr.sliceAt, Instr.slice, Instr.sliceBounds, run_underlying ht, r3, r2, sizeOf, typeInfo, hj, hsz]
      · simp [Instr.sliceAt, Instr.slice, Instr.sliceBounds, run_underlying ht, r3, r2, r1, sizeOf, typeInfo, hj, hsz]
  split at h
  · rename_i hk; exact own (hch k _ hk) h
  · rename_i hk; obtain ⟨xs, h1, _⟩ := hch k _ hk; exact own h1 h
  · exact h.elim
end Go.Eng
