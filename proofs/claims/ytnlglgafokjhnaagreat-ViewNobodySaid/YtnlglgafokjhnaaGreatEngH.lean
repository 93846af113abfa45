/-
  Texts that the law leans on. Nothing here is trusted.
-/
import Derived.Test.YtnlglgafokjhnaaGreatEngG
import Derived.Maps.AppendAt
import Derived.Laws.IdiomStrings
import Derived.Lib.AppendStr
set_option linter.unusedVariables false
set_option linter.unusedSimpArgs false
namespace Go.Eng
open Go Go.RowKit
variable {P : Program} {T : Tab} {Γ : List Spec} {S S' : Pl} {fr : Fr} {L : LL} {q : PH} {w0 : W0} {w w' : World} {a : Act}
theorem newK_ok {n0 key : Nat} {lb : LB} {K : LL → Prop} (h : newK n0 key fr L lb K) : n0 ≤ key ∧ hasF key fr = false ∧ hasLL key L = false ∧ K ((key, lb) :: L) := by
  unfold newK at h
  split at h
  · rename_i h1
    split at h
    · exact h.elim
    · rename_i h2
      split at h
      · exact h.elim
      · rename_i h3
        exact ⟨Nat.le_of_ble_eq_true h1, h2, h3, h⟩
  · exact h.elim
theorem okF_upd {key : Nat} {l : Loc} {tm : Array Value} (hf : hasF key fr = false) (h : okF S fr tm) : okF (updS S key l) fr tm :=
  okF_congr (fun k hk => updS_other (fun e => by subst e; rw [hf] at hk; cases hk)) h
theorem Mem.row {key t : Nat} {cs : List SV} {vs : List Value} (h : Mem w0 q S L w) (hf : hasLL key L = false) (hok : okL S cs vs) (hc : hasL key cs = false) :
    Mem w0 q (updS S key ⟨w.heap.size, none, 0, 0, default⟩) ((key, .cells t cs) :: L) (w.alloc (.cells vs.toArray t)) := by
  refine h.new hf ((Below.refl _ w).alloc (Nat.le_refl _) _) ⟨?_, vs, ?_, ?_⟩ ?_
  · rw [updS_same]; exact Nat.zero_le _
  · rw [updS_same]; exact heap_alloc_new w _
  · exact okL_congr cs (fun k hk => updS_other (fun e => by subst e; rw [hc] at hk; cases hk)) hok
  · intro b hb
    simp only [blk, updS_same, Option.some.injEq] at hb
    omega
theorem oneL_ok : ∀ {l : List SV} {vs : List Value}, oneL l = true → okL S l vs → ∀ v ∈ vs, v.oneCell' = true
  | [], [], _, _, v, hv => by cases hv
  | [], _ :: _, _, h, _, _ => by cases h
  | _ :: _, [], _, h, _, _ => by cases h
  | x :: r, u :: s, h, hk, v, hv => by
    have hr : oneL r = true := by
      unfold oneL at h
      split at h <;> first | (cases h; done) | simp_all
    rcases List.mem_cons.1 hv with rfl | hv
    · have hx := hk.1
      cases x with
      | v z =>
        have e : v = z := hx
        subst e
        cases v <;> first | rfl | (simp [oneL] at h)
      | bb b => cases hx; rfl
      | b p d => cases hx; rfl
      | lp k o => cases hx; rfl
      | own k => cases hx; rfl
      | el A j => obtain ⟨a, _, rfl⟩ := hx; rfl
      | fn f cs => obtain ⟨vs, rfl, _⟩ := hx; rfl
      | yl k => cases hx; rfl
      | vw k lo sz n ex => obtain ⟨A, c, rfl, _⟩ := hx; rfl
      | lq k => rcases hx with rfl | rfl <;> rfl
      | ls k n => cases hx; rfl
      | mr k => cases hx; rfl
      | agg l => simp [oneL] at h
      | tup l => simp [oneL] at h
      | bad => simp [oneL] at h
    · exact oneL_ok hr hk.2 v hv
theorem oneVL_ok : ∀ {vs : List Value}, oneVL vs = true → ∀ v ∈ vs, v.oneCell' = true
  | [], _, v, hv => by cases hv
  | u :: s, h, v, hv => by
    have hr : oneVL s = true := by
      unfold oneVL at h
      split at h <;> first | (cases h; done) | simp_all
    rcases List.mem_cons.1 hv with rfl | hv
    · cases v <;> first | rfl | (simp [oneVL] at h)
    · exact oneVL_ok hr v hv
theorem boxCells_ok {t : Nat} {x : SV} {v : Value} {K : List SV → Prop} (h : boxCells T t x K) (hx : okv S x v) : ∃ l, K l ∧ okL S l v.cells.toList ∧ l.length = (ty T t).sz ∧ (∀ k, hasL k l = true → x.has k = true) ∧ ∀ u ∈ v.cells.toList, u.oneCell' = true := by
  unfold boxCells at h
  split at h
  · rename_i l
    obtain ⟨vs, rfl, hok⟩ := hx
    split at h
    · rename_i h1 h2; exact ⟨l, h, hok, Nat.eq_of_beq_eq_true h1, fun k hk => hk, oneL_ok h2 hok⟩
    · exact h.elim
  · exact h.elim
  · exact h.elim
  · exact h.elim
  · exact h.elim
  · rename_i y h1 h2 h3 h4 h5
    split at h
    · rename_i hs
      have hb : x ≠ .bad := fun e => h3 e
      have hv1 : ∀ z, x = .v z → z.oneCell' = true := fun z e => by cases z <;> first | rfl | exact absurd e (h4 _) | exact absurd e (h5 _)
      have hc := cells_one hx (fun l e => h1 l e) hb hv1 (fun l e => h2 l e)
      refine ⟨[x], h, ?_, (Nat.eq_of_beq_eq_true hs).symm, fun k hk => ?_, fun u hu => ?_⟩
      · rw [hc]; exact ⟨hx, trivial⟩
      · unfold hasL at hk
        split at hk
        · assumption
        · simp [hasL] at hk
      · rw [hc] at hu
        simp at hu
        subst hu
        cases x with
        | v z => have e : u = z := hx; subst e; exact hv1 _ rfl
        | bb b => cases hx; rfl
        | b p d => cases hx; rfl
        | lp k o => cases hx; rfl
        | own k => cases hx; rfl
        | el A j => obtain ⟨a, _, rfl⟩ := hx; rfl
        | fn f cs => obtain ⟨vs, rfl, _⟩ := hx; rfl
        | yl k => cases hx; rfl
        | vw k lo sz n ex => obtain ⟨A, c, rfl, _⟩ := hx; rfl
        | lq k => rcases hx with rfl | rfl <;> rfl
        | ls k n => cases hx; rfl
        | mr k => cases hx; rfl
        | agg l => exact (h1 l rfl).elim
        | tup l => exact (h2 l rfl).elim
        | bad => exact absurd rfl hb
    · exact h.elim
theorem hasL_valL {k : Nat} : ∀ (vs : List Value), hasL k (valL vs) = false
  | [] => rfl
  | v :: r => by cases v <;> simp [valL, hasL, SV.has, hasL_valL r]
theorem run_alloc (hT : TabOk P T) {t : Nat} (h0 : (ty T t).d ≠ .other) (w : World) : (Instr.alloc t true (.tuple #[])).run P w = .ok (.pointer (some ⟨w.heap.size, 0, none⟩)) (w.alloc (.cells (ty T t).zero.toArray t)) := by
  obtain ⟨i, z, hi, _, _, hz, hzc⟩ := (hT t h0).i
  simp [Instr.alloc, zeroValue, typeInfo, hi, hz, newVar, newRow, ← hzc]
theorem run_box (t : Nat) (v : Value) (w : World) : (Instr.box t v).run P w = .ok (.pointer (some ⟨w.heap.size, 0, none⟩)) (w.alloc (.cells v.cells t)) := by
  simp [Instr.box, newVar, newRow]
def Src (w : World) (A : Option Addr) (m sz : Nat) (ys : List Value) : Prop :=
  ys.length = m * sz ∧ ∀ j v, ys[j]? = some v → ∃ a, A = some a ∧ a.spot = none ∧ w.cell? ⟨a.block, a.off + j, none⟩ = some v
theorem run_append_src {t ty e : TypeId} {i : TypeInfo} {z : Value} {size bytes : Nat} (ht : P.underlying t = some (.slice e)) (hi : P.info? e = some i) (hz : i.zero = some z)
    (hsize : i.size = size) (hby : i.bytes = bytes) (hzs : z.cells.size = size) (hsz : 0 < size) {base : Nat}
    {v : Value} {n : Nat} {xs : List Value} (hown : w.ownsRow base e size v n xs) {A : Option Addr} {m c : Nat} {ys : List Value} (hs : Src w A m size ys) (h1 : ∀ u ∈ ys, u.oneCell' = true)
    (h63 : n + m ≤ maxLen) (hbytes : (n + m) * bytes ≤ 140737488355328) (hbase : base ≤ w.heap.size) :
    ∃ v' w', (Builtin.append_ #[t, t] ty #[v, .slice A m c]).run P w = .ok v' w' ∧ w'.ownsRow base e size v' (n + m) (xs ++ ys) ∧ w.grownBy w' v.ownBlock ∧
      (v'.ownBlock = v.ownBlock ∨ v'.ownBlock = some w.heap.size) := by
  obtain ⟨hl, hc⟩ := hs
  rcases A with _ | ad
  · have hy : ys = [] := by
      cases ys with
      | nil => rfl
      | cons y r => obtain ⟨_, h, _⟩ := hc 0 y rfl; cases h
    subst hy
    have hm : m = 0 := by
      rcases Nat.eq_zero_or_pos m with h0 | h0
      · exact h0
      · have := Nat.mul_pos h0 hsz
        simp at hl
        omega
    subst hm
    refine ⟨v, w, ?_, by simpa using hown, ⟨rfl, rfl, rfl, Nat.le_refl _, fun _ _ _ => rfl⟩, .inl rfl⟩
    rcases hown.2 with ⟨rfl, rfl⟩ | ⟨g, cap, cur, rfl, _, _, hnc, _⟩
    · simp [Builtin.append_, run_underlying ht, sizeOf, typeInfo, hi, Builtin.lenOf, Builtin.firstCells]
    · simp [Builtin.append_, run_underlying ht, sizeOf, typeInfo, hi, Builtin.lenOf, Builtin.firstCells, hnc, storeCells]
  · obtain ⟨v', w', hr, h2, h3, _, h5⟩ := run_append_own_at (P := P) w base t ty e i z size bytes ht hi hz hsize hby hzs hsz v n xs hown ad m c ys hl (fun j u hu => by
      obtain ⟨a, ha, hs, h⟩ := hc j u hu
      cases ha
      rw [add_none hs]
      exact h) h1 h63 hbytes hbase
    exact ⟨v', w', hr, h2, h3, h5⟩
open Go.Lib in
theorem run_append_str {t u ty e : TypeId} {i : TypeInfo} {z : Value} (ht : P.underlying t = some (.slice e)) (hu : P.underlying u = some .string) (hi : P.info? e = some i) (hz : i.zero = some z) (hzs : z.cells.size = 1)
    (hsize : i.size = 1) (hby : i.bytes = 1) {base : Nat} {v : Value} {n : Nat} {xs : List Value} (hown : w.ownsRow base e 1 v n xs) (s : ByteArray)
    (h63 : n + s.size ≤ maxLen) (hbytes : n + s.size ≤ 140737488355328) (hbase : base ≤ w.heap.size) :
    ∃ v' w', (Builtin.append_ #[t, u] ty #[v, .string s]).run P w = .ok v' w' ∧ w'.ownsRow base e 1 v' (n + s.size) (xs ++ s.data.toList.map bv) ∧ w.grownBy w' v.ownBlock ∧
      (v'.ownBlock = v.ownBlock ∨ v'.ownBlock = some w.heap.size) := by
  have es : s.data.toList.map bv = strCells s := rfl
  rw [es]
  have hxl : xs.length = n := by simpa using hown.1
  have hsl := strCells_length s
  have hall : (xs ++ strCells s).length = (n + s.size) * 1 := by rw [List.length_append, hxl, hsl, Nat.mul_one]
  have hnew : ∀ old, old < n + s.size → ∀ cells : Array Value, cells.toList = xs ++ strCells s ++ (Builtin.zeroCells z.cells (grownCap w (n + s.size) old e - (n + s.size))).toList →
      (w.drew.alloc (.cells cells e)).ownsRow base e 1 (.slice (some ⟨w.heap.size, 0, none⟩) (n + s.size) (grownCap w (n + s.size) old e)) (n + s.size) (xs ++ strCells s) ∧
      ∀ row, w.grownBy (w.drew.alloc (.cells cells e)) row := by
    intro old ho cells hcl
    have hge := grownCap_ge w (n + s.size) old e
    refine ⟨⟨hall, .inr ⟨w.heap.size, _, cells, rfl, hbase, heap_alloc_new w.drew _, hge, grownCap_le_maxLen w (n + s.size) old e h63, ?_, ?_⟩⟩, fun row => ⟨rfl, rfl, rfl, by simp, fun k hk _ => heap_alloc_old w.drew _ hk⟩⟩
    · rw [← Array.length_toList, hcl, List.length_append, hall, Array.length_toList, size_zeroCells, hzs]
      omega
    · rw [hcl, ← hall]
      exact List.take_left
  rcases hown.2 with ⟨rfl, rfl⟩ | ⟨g, cap, cur, rfl, hbg, hg, hnc, hcm, hcs, htake⟩
  · have hx : xs = [] := List.eq_nil_of_length_eq_zero hxl
    subst hx
    by_cases hm : s.size = 0
    · have hn : strCells s = [] := List.eq_nil_of_length_eq_zero (by rw [hsl]; exact hm)
      refine ⟨.slice none 0 0, w, ?_, by rw [hm, hn]; exact World.ownsRow_nil w base e 1, ⟨rfl, rfl, rfl, Nat.le_refl _, fun _ _ _ => rfl⟩, .inl rfl⟩
      have hf := run_firstCells_string (P := P) w 1 s
      rw [hm] at hf
      simp [Builtin.append_, run_underlying ht, run_underlying hu, sizeOf, typeInfo, hi, hsize, Builtin.lenOf, hm, hf]
    · unfold maxLen at h63
      have hr := run_append_nil_string (P := P) w t u ty e i z ht hu hi hz s (by omega) (by omega) (by rw [hby]; omega)
      rw [Nat.zero_add] at hnew ⊢
      obtain ⟨g1, g2⟩ := hnew 0 (by omega) (s.data.map (fun b => Value.int .u8 b.toNat) ++ Builtin.zeroCells z.cells (grownCap w s.size 0 e - s.size)) (by simp [strCells])
      exact ⟨_, _, hr, g1, g2 _, .inr rfl⟩
  · by_cases hroom : n + s.size ≤ cap
    · have hcs' : cur.size = cap := by simpa using hcs
      have hr := run_append_room_string (P := P) w t u ty e i ht hu hi hsize g n cap cur hg s hroom (by omega)
      refine ⟨_, _, hr, ⟨hall, .inr ⟨g, cap, _, rfl, hbg, setRow_heap w g cur _ e _ hg, hroom, hcm, ?_, ?_⟩⟩, ⟨rfl, rfl, rfl, by simp, fun k _ hk => setRow_other w g k _ (fun e => hk (by simp [Value.ownBlock, e]))⟩, .inl rfl⟩
      · simp only [List.size_toArray, List.length_append, List.length_take, List.length_drop, Array.length_toList, hsl]
        omega
      · have ht' : cur.toList.take n = xs := by simpa using htake
        rw [ht', ← hall]
        exact List.take_left
    · have holds : ∀ j u, xs[j]? = some u → w.cell? ((⟨g, 0, none⟩ : Addr).add j) = some u := hown.cells (g := g) rfl
      have h63' := h63
      unfold maxLen at h63'
      have hr := run_append_grow_string (P := P) w t u ty e i z ht hu hi hz ⟨g, 0, none⟩ n cap xs (by rw [hsize]; simpa using hxl) holds s (by omega) (by omega) (by rw [hby]; exact growslice_fits (by omega) (by omega))
      obtain ⟨g1, g2⟩ := hnew cap (by omega) (xs.toArray ++ (strCells s).toArray ++ Builtin.zeroCells z.cells (grownCap w (n + s.size) cap e - (n + s.size))) (by simp)
      exact ⟨_, _, hr, g1, g2 _, .inr rfl⟩
theorem own_form {base e size n : Nat} {v : Value} {xs : List Value} (h : w.ownsRow base e size v n xs) : ∃ A c, v = .slice A n c ∧ (A = none ∨ ∃ g, A = some ⟨g, 0, none⟩) := by
  rcases h.2 with ⟨rfl, rfl⟩ | ⟨g, cap, cur, rfl, _⟩
  · exact ⟨none, 0, rfl, .inl rfl⟩
  · exact ⟨_, cap, rfl, .inr ⟨g, rfl⟩⟩
def locOf (A : Option Addr) (n c : Nat) : Loc := ⟨(A.map (·.block)).getD 0, A, n, c, default⟩
theorem chunk_arr {N0 k e sz n c : Nat} {A : Option Addr} {xs : List Value} (hown : w.ownsRow N0 e sz (.slice A n c) n xs) (hsz : 0 < sz) (h1 : ∀ x ∈ xs, x.oneCell' = true) (hA : A = none ∨ ∃ g, A = some ⟨g, 0, none⟩) :
    chunk N0 (updS S k (locOf A n c)) k (.arr e sz n xs) w := by
  simp only [chunk, updS_same, locOf]
  refine ⟨hown, trivial, hsz, h1, ?_⟩
  rcases hA with rfl | ⟨g, rfl⟩
  · exact .inl rfl
  · exact .inr rfl
theorem Mem.app {k key e e' sz sz' n n' c' : Nat} {xs xs' : List Value} {A' : Option Addr} (h : Mem w0 q S L w) (hk : getL L k = some (.arr e sz n xs)) (hf : hasLL key L = false)
    (hg : w.grownBy w' (Value.slice (S k).A (S k).n (S k).c).ownBlock) (hown : w'.ownsRow 0 e' sz' (.slice A' n' c') n' xs') (hsz : 0 < sz') (h1 : ∀ x ∈ xs', x.oneCell' = true) (hA : A' = none ∨ ∃ g, A' = some ⟨g, 0, none⟩)
    (hb : (Value.slice A' n' c').ownBlock = (Value.slice (S k).A (S k).n (S k).c).ownBlock ∨ (Value.slice A' n' c').ownBlock = some w.heap.size) :
    Mem w0 q (updS S key (locOf A' n' c')) ((key, .arr e' sz' n' xs') :: remL L k) w' := by
  have hne : ∀ j, hasLL j L = true → updS S key (locOf A' n' c') j = S j := fun j hj => updS_other (fun e => by subst e; rw [hf] at hj; cases hj)
  have hne' : ∀ j lb, getL L j = some lb → updS S key (locOf A' n' c') j = S j := fun j lb hj => hne j (getL_hasLL hj (.inl rfl))
  have own_blk : ∀ (A : Option Addr) (n c : Nat), (Value.slice A n c).ownBlock = A.map (·.block) := fun A n c => by cases A <;> rfl
  rw [own_blk, own_blk] at hb
  rw [own_blk] at hg
  have hkb : blk S k (.arr e sz n xs) = (S k).A.map (·.block) := rfl
  have lt := fun j lb (hj : getL L j = some lb) b (hb : blk S j lb = some b) => (blk_lt (h.ch j lb hj) hb)
  have g : ∀ {j lb}, getL (remL L k) j = some lb → getL L j = some lb ∧ j ≠ k := fun {j lb} hj => by
    rw [getL_remL] at hj
    split at hj
    · cases hj
    · rename_i e; exact ⟨hj, fun e' => e e'.symm⟩
  have same : ∀ j lb, getL L j = some lb → j ≠ k → ∀ b, blk S j lb = some b → w'.heap[b]? = w.heap[b]? := fun j lb hj hjk b hbj =>
    hg.block b (lt j lb hj b hbj).2 (fun e => h.ap j lb k _ hj hk hjk b hbj (by rw [hkb]; exact e.symm))
  have hnew : blk (updS S key (locOf A' n' c')) key (.arr e' sz' n' xs') = A'.map (·.block) := by simp [blk, updS_same, locOf]
  refine ⟨fun j lb hj => ?_, fun k1 l1 k2 l2 hk1 hk2 hne2 b hb1 hb2 => ?_, fun j lb hj b hbj o => ?_, fun j lb hj b hbj hF => ?_, fun b o v hv => ?_, ?_, h.gw⟩
  · rw [getL_cons] at hj
    split at hj
    · rename_i e; subst e; cases hj; exact chunk_arr hown hsz h1 hA
    · obtain ⟨hj1, hj2⟩ := g hj
      refine chunk_congr (hne' j lb hj1) (fun i hi => hne i (getL_hasLL hj1 (.inr hi))) ?_
      exact chunk_same (h.ch j lb hj1) (same j lb hj1 hj2)
  · have old : ∀ j lb b, getL L j = some lb → j ≠ k → blk (updS S key (locOf A' n' c')) j lb = some b → A'.map (·.block) = some b → False := by
      intro j lb b hj hjk hbj hA'
      rw [blk_congr (hne' j lb hj)] at hbj
      rcases hb with e | e
      · exact h.ap j lb k _ hj hk hjk b hbj (by rw [hkb, ← e]; exact hA')
      · rw [e] at hA'
        cases hA'
        have := (lt j lb hj _ hbj).2
        omega
    rw [getL_cons] at hk1 hk2
    split at hk1
    · rename_i e; subst e; cases hk1
      rw [if_neg hne2] at hk2
      obtain ⟨hj1, hj2⟩ := g hk2
      exact old k2 l2 b hj1 hj2 hb2 (hnew.symm.trans hb1)
    · split at hk2
      · rename_i e; subst e; cases hk2
        obtain ⟨hj1, hj2⟩ := g hk1
        exact old k1 l1 b hj1 hj2 hb1 (hnew.symm.trans hb2)
      · obtain ⟨hj1, hj2⟩ := g hk1
        obtain ⟨hj3, hj4⟩ := g hk2
        rw [blk_congr (hne' k1 l1 hj1)] at hb1
        rw [blk_congr (hne' k2 l2 hj3)] at hb2
        exact h.ap k1 l1 k2 l2 hj1 hj3 hne2 b hb1 hb2
  · rw [getL_cons] at hj
    split at hj
    · rename_i e; subst e; cases hj
      rw [hnew] at hbj
      rcases hb with e | e
      · exact h.po k _ hk b (by rw [hkb, ← e]; exact hbj) o
      · rw [e] at hbj; cases hbj
        cases hq : q w.heap.size o with
        | none => rfl
        | some v => have := on_lt h.on hq; omega
    · obtain ⟨hj1, hj2⟩ := g hj
      rw [blk_congr (hne' j lb hj1)] at hbj
      exact h.po j lb hj1 b hbj o
  · rw [getL_cons] at hj
    split at hj
    · rename_i e; subst e; cases hj
      rw [hnew] at hbj
      rcases hb with e | e
      · exact h.fz k _ hk b (by rw [hkb, ← e]; exact hbj) hF
      · rw [e] at hbj; cases hbj
        have := w0.lt _ hF
        have := h.be.size
        omega
    · obtain ⟨hj1, hj2⟩ := g hj
      rw [blk_congr (hne' j lb hj1)] at hbj
      exact h.fz j lb hj1 b hbj hF
  · have h2 := h.on b o v hv
    refine (World.cell?_of_block (w := w) (hg.block b (on_lt h.on hv) fun e => ?_)).trans h2
    rw [h.po k _ hk b (by rw [hkb]; exact e.symm) o] at hv
    cases hv
  · exact h.be.grown hg (fun j e => h.fz k _ hk j (by rw [hkb]; exact e))
end Go.Eng
