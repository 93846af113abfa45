/-
  THE ENGINE, PART M: soundness: append, []byte.
  Nothing here is trusted.
-/
import Derived.Test.YtcnofjjiepcpjaaEngL
namespace Go.Eng
open Go Go.RowKit

variable {P : Program} {S S' Sb : Pl} {fr : Fr} {L L' : LL} {q q' : PH} {w0 : W0} {w w' : World} {a : Act} {n0 N : Nat} {B : Nat → Prop} {E : Env}
variable {r : Option Nat} {n : Nat} {Q : Exit → Act → World → Prop}

theorem own_loc {e sz k : Nat} {A : Option Addr} {c : Nat} {xs : List Value} (_ : w.ownsRow 0 e sz (.slice A k c) k xs) : okv (updS S n (locOf A k c)) (.own n) (.slice A k c) := by
  simp [okv, updS_same, locOf]

theorem app_go (hT : TabOk P E.T) {o : Oper} {t e sz byt m c key nk : Nat} {s : SV} {A : Option Addr} {ys : List Value} {xo so : Operand} {K : Kt} {zero : List Value} {fl : List Ty} {cm : Nat} {d : Ty}
    (hc : Cfg w0 Sb B n0 N S q fr L a w) (hd : ∀ c, o.op ≠ .defer c) (hdt : (ty E.T t).d = .slice e) (hte : ty E.T e = ⟨d, sz, byt, zero, fl, cm⟩) (hdo : d ≠ .other)
    (hrun : ∀ {v : Value} {w' : World}, (Builtin.append_ #[t, t] o.type #[a.eval so, a.eval xo]).run P w = .ok v w' → (execOp a.eval o).run P w = .ok (.value v) w')
    (hx : a.eval xo = .slice A m c) (hsrc : Src w A m sz ys)
    (h : match s with
      | .v (.slice none 0 0) => Ob (m ≤ 9223372036854775807 ∧ m * byt ≤ 140737488355328 ∧ ∀ y ∈ ys, y.oneCell' = true) ∧ ∀ N', N' = m → newK n0 key fr L (.arr e sz N' ys) fun L => putK N o.dst (.own key) fr fun fr => K nk q fr L
      | .own k => (match getL L k with
        | some (.arr e' sz' n xs) => (match Nat.beq e' e, Nat.beq sz' sz with
          | true, true => Ob (n + m ≤ 9223372036854775807 ∧ (n + m) * byt ≤ 140737488355328 ∧ ∀ y ∈ ys, y.oneCell' = true) ∧ ∀ N', N' = n + m → newK n0 key fr L (.arr e sz N' (xs ++ ys)) fun L => fLL (remL L k) fun L => putK N o.dst (.own key) fr fun fr => K nk q fr L
          | _, _ => False)
        | _ => False)
      | _ => False) (hs : okv S s (a.eval so)) : Oper.wpIn (FF r) n P o a w (St w0 Sb B n0 N K) Q := by
  obtain ⟨ht, hsz, i, hi, hisz, hiby⟩ : descOk P E.T t (.slice e) := by rw [← hdt]; exact (hT t (by rw [hdt]; simp)).d
  obtain ⟨i', z, hi', hisz', _, hz, hzc⟩ := (hT e (by rw [hte]; exact hdo)).i
  have hzl := (hT e (by rw [hte]; exact hdo)).zl
  rw [hi] at hi'
  cases hi'
  rw [hte] at hisz hsz hiby hzc hzl
  simp only at hisz hsz hiby hzc hzl
  have hzs : z.cells.size = sz := by rw [← hzl, ← hzc]; simp
  split at h
  · have hs : a.eval so = .slice none 0 0 := hs
    obtain ⟨⟨g1, g2, g3⟩, h⟩ := h
    replace h := h _ rfl
    obtain ⟨v', w', hr, hown, hg, hb⟩ := run_append_src (ty := o.type) (P := P) ht hi hz hisz hiby hzs hsz (World.ownsRow_nil w 0 e sz) hsrc g3 (by rw [Nat.zero_add]; exact maxLen_le g1) (by rw [Nat.zero_add]; exact g2) (Nat.zero_le _)
    rw [Nat.zero_add, List.nil_append] at hown
    obtain ⟨A', c', rfl, hA'⟩ := own_form hown
    rw [← hs, ← hx] at hr
    obtain ⟨k0, k1, k2, h⟩ := newK_ok h
    refine wpIn_value hd (hrun hr) ?_
    have hmem : Mem w0 q (updS S key (locOf A' m c')) ((key, .arr e sz m ys) :: L) w' := by
      refine hc.m.new k2 ((Below.refl _ w).grown hg (Nat.le_refl _) (fun k e => by cases e)) (chunk_arr hown hsz g3 hA') fun b hbb => ?_
      rcases hb with hb | hb
      · rcases hA' with rfl | ⟨g, rfl⟩
        · simp [blk, updS_same, locOf] at hbb
        · simp [Value.ownBlock] at hb
      · rcases hA' with rfl | ⟨g, rfl⟩
        · simp [blk, updS_same, locOf] at hbb
        · simp [blk, updS_same, locOf] at hbb
          simp [Value.ownBlock] at hb
          omega
    obtain ⟨fr', hK', hc'⟩ := (hc.new k0 k1 k2 hmem).put (v := .slice A' m c') h (own_loc hown)
    exact ⟨_, q, fr', _, nk, hc', hK'⟩
  · rename_i k
    have hs : a.eval so = .slice (S k).A (S k).n (S k).c := hs
    split at h
    rotate_left
    · exact h.elim
    rename_i e' sz' n' xs hk
    split at h
    rotate_left
    · exact h.elim
    rename_i he hsz'
    have he := Nat.eq_of_beq_eq_true he
    have hsz' := Nat.eq_of_beq_eq_true hsz'
    subst he hsz'
    obtain ⟨⟨g1, g2, g3⟩, h⟩ := h
    replace h := h _ rfl
    obtain ⟨hown0, hn, _, hone, hA⟩ := hc.m.ch k _ hk
    obtain ⟨v', w', hr, hown, hg, hb⟩ := run_append_src (ty := o.type) (P := P) ht hi hz hisz hiby hzs hsz hown0 hsrc g3 (maxLen_le g1) g2 (Nat.zero_le _)
    obtain ⟨A', c', rfl, hA'⟩ := own_form hown
    rw [← hs, ← hx] at hr
    obtain ⟨k0, k1, k2, h⟩ := newK_ok h
    have hne : key ≠ k := fun e => by subst e; rw [getL_hasLL hk (.inl rfl)] at k2; cases k2
    rw [fLL_eq] at h
    have hrem : remL ((key, LB.arr e' sz' (n' + m) (xs ++ ys)) :: L) k = (key, LB.arr e' sz' (n' + m) (xs ++ ys)) :: remL L k := by
      have hb : Nat.beq key k = false := by rw [Bool.eq_false_iff]; exact fun e => hne (Nat.eq_of_beq_eq_true e)
      simp [remL_c, remL_n, hb]
    rw [hrem] at h
    refine wpIn_value hd (hrun hr) ?_
    have hmem := hc.m.app hk k2 hg hown hsz (fun x hx => by
      rcases List.mem_append.1 hx with hx | hx
      · exact hone x hx
      · exact g3 x hx) hA' hb
    obtain ⟨fr', hK', hc'⟩ := (hc.rem k0 k1 k2 hk hmem).put (v := .slice A' (n' + m) c') h (own_loc hown)
    exact ⟨_, q, fr', _, nk, hc', hK'⟩
  · exact h.elim

theorem app_step (hT : TabOk P E.T) {o : Oper} {t key nk : Nat} {so xo : Operand} {K : Kt} (hop : o.op = .call ⟨.builtin .append, #[so, xo], #[t, t]⟩) (hc : Cfg w0 Sb B n0 N S q fr L a w)
    (h : appK E.T q t n0 key (opv fr so) (opv fr xo) fr L fun x L => putK N o.dst x fr fun fr => K nk q fr L) : Oper.wpIn (FF r) n P o a w (St w0 Sb B n0 N K) Q := by
  have hs := opv_ok hc.f so
  have hx := opv_ok hc.f xo
  unfold appK at h
  split at h
  rotate_left
  · exact h.elim
  rename_i e hd
  split at h
  · exact h.elim
  rename_i d sz byt zero fl hne hte
  have hrun : ∀ {v : Value} {w' : World}, (Builtin.append_ #[t, t] o.type #[a.eval so, a.eval xo]).run P w = .ok v w' → (execOp a.eval o).run P w = .ok (.value v) w' := by
    intro v w' hr
    simp only [execOp, hop, resolve, invoke, builtin, Sem.run_bind, Sem.run_pure, Result.andThen_ok, List.map_toArray, List.map_cons, List.map_nil, hr]
  dsimp only at h
  split at h
  · rename_i A m c ex
    rw [ex] at hx
    have hx : a.eval xo = .slice A m c := hx
    obtain ⟨⟨ys, hl, hR⟩, h⟩ := h
    exact app_go hT hc (nd_of hop (by simp)) hd hte hne hrun hx (src_of_reads hc.m.on hl hR) (h ys hl hR) hs
  · rename_i j ex
    rw [ex] at hx
    have hx : a.eval xo = .slice (S j).A (S j).n (S j).c := hx
    split at h
    rotate_left
    · exact h.elim
    rename_i e' sz' m ys hj
    split at h
    rotate_left
    · exact h.elim
    rename_i hsz
    have hsz := Nat.eq_of_beq_eq_true hsz
    subst hsz
    have hch := hc.m.ch j _ hj
    have hn := hch.2.1
    rw [hn] at hx
    exact app_go hT hc (nd_of hop (by simp)) hd hte hne hrun hx (src_of_own hch) h hs
  · exact h.elim

/-! ### []byte(s) -/
theorem cell_of_heap {w : World} {b o t : Nat} {cur : Array Value} {fz : Nat × Nat} (h : w.heap[b]? = some (.cells cur t fz)) : w.cell? ⟨b, o, none⟩ = cur[o]? := by simp [World.cell?, h]
def growPH (q : PH) (b : Nat) (xs : List Value) : PH := fun c o => if c = b then xs[o]? else q c o

theorem sb_step (hT : TabOk P E.T) {o : Oper} {src t e nk : Nat} {x : Operand} {s : ByteArray} {K : Kt} (hop : o.op = .convert src t x) (hc : Cfg w0 Sb B n0 N S q fr L a w)
    (h1 : (ty E.T src).d = .str) (h2 : (ty E.T t).d = .slice e) (h3 : (ty E.T e).d = .int .u8) (hx : opv fr x = .v (.string s))
    (h : sbK q s fun q x => putK N o.dst x fr fun fr => K nk q fr L) : Oper.wpIn (FF r) n P o a w (St w0 Sb B n0 N K) Q := by
  have hxv := opv_ok hc.f x
  rw [hx] at hxv
  have hxv : a.eval x = .string s := hxv
  have t1 : P.underlying src = some .string := by have := (hT src (by rw [h1]; simp)).d; rw [h1] at this; exact this
  have t2 : P.underlying t = some (.slice e) := by have := (hT t (by rw [h2]; simp)).d; rw [h2] at this; exact this.1
  have t3 : P.underlying e = some (.int .u8) := by have := (hT e (by rw [h3]; simp)).d; rw [h3] at this; exact this
  have hr := run_bytes_of_string (P := P) w src t e s t1 t2 t3
  obtain ⟨_, h⟩ := h
  generalize hcap : grownCap w s.size 0 e = cap at hr
  have hbb : Below w.heap.size w (w.drew.alloc (.cells (bytesRow s cap) e ((bytesRow s cap).size, (bytesRow s cap).size + 1))) :=
    ((Below.refl _ w).drew).alloc (Nat.le_refl _) _
  have hm := hc.m.below hbb
  have hq0 : ∀ o, q w.heap.size o = none := fun o => by
    cases hq : q w.heap.size o with
    | none => rfl
    | some v => have := on_lt hc.m.on hq; omega
  have hle : q.le (growPH q w.heap.size (s.data.toList.map bv)) := fun b o v hv => by
    unfold growPH
    split
    · rename_i e; subst e; rw [hq0] at hv; cases hv
    · exact hv
  have hcell : ∀ o v, (s.data.toList.map bv)[o]? = some v → (w.drew.alloc (.cells (bytesRow s cap) e ((bytesRow s cap).size, (bytesRow s cap).size + 1))).cell? ⟨w.heap.size, o, none⟩ = some v := by
    intro o v hv
    have hh : (w.drew.alloc (.cells (bytesRow s cap) e ((bytesRow s cap).size, (bytesRow s cap).size + 1))).heap[w.heap.size]? = some (.cells (bytesRow s cap) e ((bytesRow s cap).size, (bytesRow s cap).size + 1)) := heap_alloc_new w.drew _
    rw [cell_of_heap hh, bytesRow, ← Array.getElem?_toList]
    rw [Array.toList_append, Array.toList_map, List.getElem?_append_left (by simpa using (List.getElem?_eq_some_iff.1 hv).1)]
    exact hv
  refine wpIn_value (nd_of hop (by simp)) (run_exec (s := convert src t (a.eval x)) (by simp only [execOp, hop]) (by rw [hxv]; exact hr)) ?_
  have hK := h (growPH q w.heap.size (s.data.toList.map bv)) (some ⟨w.heap.size, 0, none⟩) cap hle (hcap ▸ grownCap_ge w s.size 0 e) (fun j hj => by simp [rd, growPH]) _ rfl
  have hm' : Mem w0 (growPH q w.heap.size (s.data.toList.map bv)) S L (w.drew.alloc (.cells (bytesRow s cap) e ((bytesRow s cap).size, (bytesRow s cap).size + 1))) := by
    refine ⟨hm.ch, hm.ap, fun k lb hk b hb o => ?_, hm.fz, fun b o v hv => ?_, hm.be⟩
    · unfold growPH
      rw [if_neg]
      · exact hm.po k lb hk b hb o
      · have := (blk_lt (hc.m.ch k lb hk) hb).2
        omega
    · unfold growPH at hv
      split at hv
      · rename_i e; subst e; exact hcell o v hv
      · exact hm.on b o v hv
  obtain ⟨fr', hK', hc'⟩ := (hc.mem hm').put (v := .slice (some ⟨w.heap.size, 0, none⟩) s.size cap) hK rfl
  exact ⟨S, _, fr', L, nk, hc', hK'⟩

end Go.Eng
