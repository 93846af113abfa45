/-
  Texts that the law leans on. Nothing here is trusted.
-/
import Derived.Test.YtnlglgafokjhnaaGreatEngO
import Derived.OrdersIn
set_option linter.unusedVariables false
set_option linter.unusedSimpArgs false
namespace Go.Eng
open Go Go.RowKit
variable {P : Program} {S S' Sb : Pl} {fr : Fr} {L L' : LL} {q q' : PH} {w0 : W0} {w w' : World} {a : Act} {n0 N : Nat} {B : Nat → Prop} {E : Env}
variable {r : Option Nat} {n : Nat}
theorem dstOf_get {all : List Oper} {j t : Nat} (h : dstOf all j = some t) : (all[j]?).bind (·.dst) = some t := by
  unfold dstOf at h
  have e : ∀ (l : List Oper) (j : Nat), nth l j = l[j]? := by
    intro l
    induction l with
    | nil => intro j; simp [nth_n]
    | cons x l ih => intro j; cases j with
      | zero => rfl
      | succ j => simpa [nth_s] using ih j
  rw [e] at h
  split at h
  · rename_i o ho; rw [ho]; exact h
  · cases h
theorem yielded_of {all : List Oper} {j t : Nat} {tm : Array Value} (h : dstOf all j = some t) {b : Bool} (hv : tm.getD t undef = .bool b) : yielded all.toArray tm j = some b := by
  have h1 := dstOf_get h
  have h2 : ((all.toArray)[j]?.bind (·.dst)).bind (tm[·]?) = some (.bool b) := by
    rw [List.getElem?_toArray, h1]
    simp only [Option.bind_some]
    by_cases ht : t < tm.size
    · simp [Array.getD, ht] at hv
      simp [ht, hv]
    · simp [Array.getD, ht, undef] at hv
  unfold yielded
  rw [h2]
theorem yielded_none {all : List Oper} {j t : Nat} {tm : Array Value} (h : dstOf all j = some t) (hv : ∀ b, tm.getD t undef ≠ .bool b) : yielded all.toArray tm j = none := by
  have h1 := dstOf_get h
  unfold yielded
  rw [List.getElem?_toArray, h1]
  simp only [Option.bind_some]
  by_cases ht : t < tm.size
  · have := hv
    simp only [Array.getD, ht, dif_pos] at this
    split
    · rename_i b hb
      simp [ht] at hb
      exact absurd hb (this b)
    · rfl
  · simp [ht]
theorem guard_ok {all : List Oper} {j t : Nat} {go : Bool → Fr → Prop} {sk : Prop} (hd : dstOf all j = some t) (hf : okF S fr a.tmps)
    (h : match get fr t with
        | .bb b => go b fr
        | .b p _ => (p → go true (setF fr t (.bb true))) ∧ (¬ p → go false (setF fr t (.bb false)))
        | .v (.tuple _) => sk
        | _ => False) :
    (∃ b fr', okF S fr' a.tmps ∧ go b fr' ∧ yielded all.toArray a.tmps j = some b) ∨ (sk ∧ yielded all.toArray a.tmps j = none) := by
  have ht := hf t
  split at h
  · rename_i b e
    rw [e] at ht
    exact .inl ⟨b, fr, hf, h, yielded_of hd ht⟩
  · rename_i p d e
    rw [e] at ht
    by_cases hp : p
    · have hv : a.tmps.getD t undef = .bool true := by rw [ht]; simp [hp]
      exact .inl ⟨true, _, okF_setF (x := .bb true) hf hv, h.1 hp, yielded_of hd hv⟩
    · have hv : a.tmps.getD t undef = .bool false := by rw [ht]; simp [hp]
      exact .inl ⟨false, _, okF_setF (x := .bb false) hf hv, h.2 hp, yielded_of hd hv⟩
  · rename_i x e
    rw [e] at ht
    have ht : a.tmps.getD t undef = .tuple x := ht
    exact .inr ⟨h, yielded_none hd (fun b => by rw [ht]; simp)⟩
  · exact h.elim
theorem vcOps_ok {inl : Inl} {Y : Ye} (hT : TabOk P E.T) (hΓ : GOk P E) (hI : InlOk P inl) (hY : YOk P Sb Y n0) {wr : Bool} {all : List Oper} {K : Kt} {Q : Exit → Act → World → Prop} (hQ : ∀ a w, St w0 Sb B n0 N K a w → Q .normal a w) :
    ∀ (l : List Oper) {key nk : Nat} {S : Pl} {q : PH} {fr : Fr} {L : LL} {a : Act} {w : World}, Cfg w0 Sb B n0 N S q fr L a w → vcOps E inl Y wr n0 N all l key nk q fr L K → wpListIn (FF r) n P all.toArray Q l a w
  | [], key, nk, S, q, fr, L, a, w, hc, h => hQ a w ⟨S, q, fr, L, nk, hc, h⟩
  | o :: l, key, nk, S, q, fr, L, a, w, hc, h => by
    obtain ⟨dst, op, oty, pos, after, guard⟩ := o
    have run : ∀ {fr : Fr}, Cfg w0 Sb B n0 N S q fr L a w → (effK E inl Y wr n0 N key dst op nk q fr L fun nk q fr L => vcOps E inl Y wr n0 N all l (key + 1) nk q fr L K) →
        Oper.wpIn (FF r) n P ⟨dst, op, oty, pos, after, guard⟩ a w (wpListIn (FF r) n P all.toArray Q l) Q := fun hc h =>
      Oper.wpIn_mono (fun a w ⟨S, q, fr, L, nk, hc, h⟩ => vcOps_ok hT hΓ hI hY hQ l hc h) (effK_ok (o := ⟨dst, op, oty, pos, after, guard⟩) hT hΓ hI hY hc h)
    have skip : ∀ {fr : Fr}, Cfg w0 Sb B n0 N S q fr L a w → (putK N dst (.v undef) fr fun fr => vcOps E inl Y wr n0 N all l (key + 1) nk q fr L K) → wpListIn (FF r) n P all.toArray Q l (a.put dst undef) w := fun hc h => by
      obtain ⟨fr', hK, hc'⟩ := hc.put (v := undef) h rfl
      exact vcOps_ok hT hΓ hI hY hQ l hc' hK
    cases guard with
    | none =>
      simp only [vcOps_none, vcOps_some] at h
      simp only [wpListIn, Region.wanted, if_true]
      exact run hc h
    | some g =>
      obtain ⟨j, want⟩ := g
      simp only [vcOps_none, vcOps_some] at h
      split at h
      · exact h.elim
      rename_i t ht
      rcases guard_ok (a := a) (S := S) (go := fun b fr => (match (generalizing := false) b, want with
          | true, true => effK E inl Y wr n0 N key dst op nk q fr L fun nk q fr L => vcOps E inl Y wr n0 N all l (key + 1) nk q fr L K
          | false, false => effK E inl Y wr n0 N key dst op nk q fr L fun nk q fr L => vcOps E inl Y wr n0 N all l (key + 1) nk q fr L K
          | _, _ => putK N dst (.v undef) fr fun fr => vcOps E inl Y wr n0 N all l (key + 1) nk q fr L K)) ht hc.f h with ⟨b, fr', hf', hgo, hy⟩ | ⟨hsk, hy⟩
      · simp only [wpListIn, Region.wanted, hy]
        have hc' := hc.frame hf'
        cases b <;> cases want
        · simp; exact run hc' hgo
        · simp; exact ⟨fun _ _ => trivial, skip hc' hgo⟩
        · simp; exact ⟨fun _ _ => trivial, skip hc' hgo⟩
        · simp; exact run hc' hgo
      · simp only [wpListIn, Region.wanted, hy]
        simp
        exact ⟨fun _ _ => trivial, skip hc hsk⟩
theorem quiet_of_yl {C : World → Prop} (hCc : ∀ w w', C w → Below w.heap.size w w' → C w') {o : Oper} {x : Value} (h : Yl P C a.eval o x) {K : Act → Prop} (hK : K (a.put o.dst x)) : o.quiet P a C K := by
  refine ⟨x, fun w hw => ?_, hK⟩
  have h1 := h w hw
  unfold Oper.quietAt
  revert h1
  generalize (execOp a.eval o).run P w = res
  intro h1
  cases res with
  | halt x w' => exact h1
  | ok nx w' =>
    cases nx <;> simp only [Oper.quietUpon] at h1 ⊢
    case value u => exact h1
    case skip => exact h1
    case enter f args => exact ⟨h1.1, h1.2.mono fun e w'' ⟨he, hb⟩ => ⟨he, hCc _ _ hw hb⟩⟩
theorem calmOnly_cons {o : Oper} {l : List Oper} (h : calmOnly E.T E.Γ E.Δ (o :: l) = true) : calmOnly E.T E.Γ E.Δ l = true := by
  obtain ⟨dst, op, oty, pos, after, guard⟩ := o
  cases op
  case convert src t x =>
    simp only [calmOnly] at h
    split at h
    · cases h
    · cases h
    · exact h
  case call c =>
    obtain ⟨callee, xs, ts⟩ := c
    cases callee with
    | invoke r m => simp [calmOnly] at h
    | builtin b => cases b <;> first | (simp [calmOnly] at h; done) | simpa [calmOnly] using h
    | value x =>
      cases x with
      | func f =>
        simp only [calmOnly] at h
        split at h
        · exact h
        split at h
        · split at h
          · exact h
          · cases h
        · cases h
      | const v => simp [calmOnly] at h
      | global g => simp [calmOnly] at h
      | tmp t => simp [calmOnly] at h
  all_goals first | (simp [calmOnly] at h; done) | simpa [calmOnly] using h
theorem effK_calm {inl : Inl} {Y : Ye} {o : Oper} {l : List Oper} {wr : Bool} {key nk : Nat} {K : Kt} (hcalm : calmOnly E.T E.Γ E.Δ (o :: l) = true) (h : effK E inl Y wr n0 N key o.dst o.op nk q fr L K) :
    calmK E.T E.Γ E.Δ wr q o.op fr L fun x => putK N o.dst x fr fun fr => K nk q fr L := by
  obtain ⟨dst, op, oty, pos, after, guard⟩ := o
  cases op
  case convert src t x =>
    simp only [calmOnly] at hcalm
    simp only [effK] at h
    split at hcalm
    · cases hcalm
    · cases hcalm
    · rename_i hn hn'
      split at h
      · rename_i h1 h2 _; exact (hn _ h1 h2).elim
      · rename_i h1 h2 _; exact (hn' _ _ h1 h2).elim
      · exact h
  case call c =>
    obtain ⟨callee, xs, ts⟩ := c
    cases callee with
    | invoke r m => simp [calmOnly] at hcalm
    | builtin b => cases b <;> first | (simp [calmOnly] at hcalm; done) | exact h
    | value x =>
      cases x with
      | func f =>
        simp only [calmOnly] at hcalm
        simp only [effK] at h
        split at hcalm
        · rename_i s hs
          rw [hs] at h
          exact h
        · rename_i hs
          rw [hs] at h
          split at hcalm
          · rename_i s hs'
            rw [hs'] at h
            simp only at h
            split at hcalm
            · rename_i hc; rw [hc] at h; exact h
            · cases hcalm
          · cases hcalm
      | const v => simp [calmOnly] at hcalm
      | global g => simp [calmOnly] at hcalm
      | tmp t => simp [calmOnly] at hcalm
  all_goals first | (simp [calmOnly] at hcalm; done) | exact h
theorem vcOps_quiet {inl : Inl} {Y : Ye} (hT : TabOk P E.T) (hΓ : GOk P E) {wr : Bool} {all : List Oper} {K : Kt} (hm : Mem w0 q S L w) {D : List Deferred} {nk : Nat} :
    ∀ (l : List Oper) {key : Nat} {fr : Fr} {a : Act}, calmOnly E.T E.Γ E.Δ l = true → okF S fr a.tmps → a.tmps.size = N → a.defers = D → vcOps E inl Y wr n0 N all l key nk q fr L K →
      wpQuiet P all.toArray (Cl w0 q S L w) (fun a => ∃ fr, okF S fr a.tmps ∧ a.tmps.size = N ∧ a.defers = D ∧ K nk q fr L) l a
  | [], key, fr, a, _, hf, hn, hd, h => ⟨fr, hf, hn, hd, h⟩
  | o :: l, key, fr, a, hcalm, hf, hn, hd, h => by
    obtain ⟨dst, op, oty, pos, after, guard⟩ := o
    have put : ∀ {fr : Fr} {x : SV} {v : Value} {K' : Fr → Prop}, okF S fr a.tmps → putK N dst x fr K' → okv S x v → ∃ fr', K' fr' ∧ okF S fr' (a.put dst v).tmps ∧ (a.put dst v).tmps.size = N ∧ (a.put dst v).defers = D := by
      intro fr x v K' hf hp hx
      unfold putK at hp
      split at hp
      · exact ⟨fr, hp, hf, hn, hd⟩
      · rename_i d
        split at hp
        · rename_i hd'
          have hd' : d < N := Nat.le_of_ble_eq_true hd'
          exact ⟨_, hp, okF_put hf hx (by rw [hn]; exact hd'), by simp [Act.put, hn], hd⟩
        · exact hp.elim
    have run : ∀ {fr : Fr}, okF S fr a.tmps → (effK E inl Y wr n0 N key dst op nk q fr L fun nk q fr L => vcOps E inl Y wr n0 N all l (key + 1) nk q fr L K) →
        Oper.quiet P ⟨dst, op, oty, pos, after, guard⟩ a (Cl w0 q S L w) (wpQuiet P all.toArray (Cl w0 q S L w) (fun a => ∃ fr, okF S fr a.tmps ∧ a.tmps.size = N ∧ a.defers = D ∧ K nk q fr L) l) := by
      intro fr hf h
      have h := effK_calm hcalm h
      obtain ⟨x, sv, hK, hx, hy⟩ := calm_ok (C := Cl w0 q S L w) hT hΓ.1 hΓ.calm hm.ch (fun _ h => h) hf h
      obtain ⟨fr', hK', hf', hn', hd'⟩ := put hf hK hx
      exact quiet_of_yl (fun _ _ h hb => Cl.below hm.ch h hb) hy (vcOps_quiet hT hΓ hm l (calmOnly_cons hcalm) hf' hn' hd' hK')
    have skip : ∀ {fr : Fr}, okF S fr a.tmps → (putK N dst (.v undef) fr fun fr => vcOps E inl Y wr n0 N all l (key + 1) nk q fr L K) →
        wpQuiet P all.toArray (Cl w0 q S L w) (fun a => ∃ fr, okF S fr a.tmps ∧ a.tmps.size = N ∧ a.defers = D ∧ K nk q fr L) l (a.put dst undef) := by
      intro fr hf h
      obtain ⟨fr', hK', hf', hn', hd'⟩ := put (v := undef) hf h rfl
      exact vcOps_quiet hT hΓ hm l (calmOnly_cons hcalm) hf' hn' hd' hK'
    cases guard with
    | none =>
      simp only [vcOps_none, vcOps_some] at h
      simp only [wpQuiet, Region.wanted, if_true]
      exact run hf h
    | some g =>
      obtain ⟨j, want⟩ := g
      simp only [vcOps_none, vcOps_some] at h
      split at h
      · exact h.elim
      rename_i t ht
      rcases guard_ok (a := a) (S := S) (go := fun b fr => (match (generalizing := false) b, want with
          | true, true => effK E inl Y wr n0 N key dst op nk q fr L fun nk q fr L => vcOps E inl Y wr n0 N all l (key + 1) nk q fr L K
          | false, false => effK E inl Y wr n0 N key dst op nk q fr L fun nk q fr L => vcOps E inl Y wr n0 N all l (key + 1) nk q fr L K
          | _, _ => putK N dst (.v undef) fr fun fr => vcOps E inl Y wr n0 N all l (key + 1) nk q fr L K)) ht hf h with ⟨b, fr', hf', hgo, hy⟩ | ⟨hsk, hy⟩
      · simp only [wpQuiet, Region.wanted, hy]
        cases b <;> cases want
        · simp; exact run hf' hgo
        · simp; exact skip hf' hgo
        · simp; exact skip hf' hgo
        · simp; exact run hf' hgo
      · simp only [wpQuiet, Region.wanted, hy]
        simp
        exact skip hf hsk
theorem wpIn_of_quiet {C : World → Prop} {o : Oper} {K : Act → Prop} {K' : Act → World → Prop} {Q : Exit → Act → World → Prop} (hw : C w) (h : ∀ a w', C w' → K a → K' a w') (hh : o.quiet P a C K) : o.wpIn (FF r) n P a w K' Q := by
  obtain ⟨v, h1, h2⟩ := hh
  have hd : ∀ c, o.op ≠ .defer c := by
    intro c e
    have h3 := h1 w hw
    unfold Oper.quietAt at h3
    simp only [execOp, e, Sem.run_bind] at h3
    generalize (resolve a.eval c o.type).run P w = res at h3
    cases res <;> simp [Oper.quietUpon, Result.andThen] at h3
  exact wpIn_quiet hd h1 hw fun w' hw' => h _ _ hw' h2
theorem wpOpIn_of_qOp {ops : Array Oper} {C : World → Prop} {i : Nat} {K : Act → Prop} {K' : Act → World → Prop} {Q : Exit → Act → World → Prop} (hC : C w) (h : ∀ a w', C w' → K a → K' a w') (hh : qOp P ops C i K a) : wpOpIn (FF r) n P ops Q i K' a w := by
  unfold qOp at hh
  unfold wpOpIn
  split
  · rename_i ho; simp only [ho] at hh; exact h _ _ hC hh
  · rename_i o ho
    simp only [ho] at hh
    split
    · rename_i hw; simp only [hw, if_true] at hh; exact wpIn_of_quiet hC h hh
    · rename_i hw; simp only [hw] at hh; exact ⟨fun _ _ => trivial, h _ _ hC hh⟩
theorem wpAnyIn_of_quiet {ops : Array Oper} {md : Region.Mode} {C : World → Prop} {K : Act → Prop} {Q : Exit → Act → World → Prop} (hQ : ∀ a w, C w → K a → Q .normal a w) : ∀ (fuel : Nat) (listed : Array Bool) (a : Act) (w : World), C w →
    wpAnyQ P md ops C K fuel listed a → wpAnyIn (FF r) n P md ops Q fuel listed a w
  | 0, _, _, _, hw, h => ⟨h.1, hQ _ _ hw h.2⟩
  | fuel + 1, _, _, _, hw, h => ⟨fun h0 => hQ _ _ hw (h.1 h0), fun i hi => wpOpIn_of_qOp hw (fun a' w' hw' => wpAnyIn_of_quiet hQ fuel _ a' w' hw') (h.2 i hi)⟩
theorem draw_ok {inl : Inl} {Y : Ye} (hmix : P.follows .mixedOrders = true) (hT : TabOk P E.T) (hΓ : GOk P E) {wr : Bool} {ops : Array Oper} {K : Kt} {Q : Exit → Act → World → Prop} (hQ : ∀ a w, St w0 Sb B n0 N K a w → Q .normal a w) {id key nk : Nat}
    (hc : Cfg w0 Sb B n0 N S q fr L a w) (hB : Region.lexB .any ops = true) (hcalm : calmOnly E.T E.Γ E.Δ ops.toList = true) (h : vcOps E inl Y wr n0 N ops.toList ops.toList key nk q fr L K) : (Code.region id ops true).wpIn (FF r) n P Q a w := by
  have h1 := vcOps_quiet (P := P) (a := a) (D := a.defers) hT hΓ hc.m ops.toList hcalm hc.f hc.n rfl h
  simp only [Region.lexB, Bool.and_eq_true] at hB
  refine wpIn_region_any hmix (wpAnyIn_of_quiet (C := Cl w0 q S L w) (K := fun a' => ∃ fr, okF S fr a'.tmps ∧ a'.tmps.size = N ∧ a'.defers = a.defers ∧ K nk q fr L) (fun a' w' hw' ⟨fr', hf', hn', hd', hK⟩ => hQ _ _ ⟨S, q, fr', L, nk, ?_, hK⟩) _ _ _ _ ?_ ?_)
  · exact ⟨fun _ _ _ _ _ => rfl, fun b o v hv => hc.m.on b o v hv, hc.m.be.drew⟩
  · have := wpAnyQ_lex (C := Cl w0 q S L w) (md := .any) hB.1 ops.toList 0 (Array.replicate ops.size false) a (by simp) (by simpa using hB.2) h1
    simpa using this
  · exact ⟨hc.ag, hc.b, hc.m.of_cl hw', hf', hn', by rw [hd']; exact hc.d⟩
end Go.Eng
