import Derived.Test.YtcnofjjiepcpjaaPlainRa
set_option linter.unusedVariables false
namespace Go.Proofs.Ytcnofjjiepcpjaa
open Go Go.Eng

theorem g58_eq {c : Int} (h0 : 0 ≤ c) (h1 : c ≤ 255) : g58 c = some (shMany c) := by
  refine g_eq ?_
  unfold g58
  simp only [shMany]
  refine g_if (fun h => g_some (by rw [if_pos h])) fun h => g_jn (fun v => v = decide (194 ≤ c ∧ c < 224)) (fun k hk => g_if (fun h2 => hk _ (by simp [h2])) fun h2 => hk _ (by simp [h2])) ?_
  rintro _ rfl
  simp only [decide_eq_true_eq]
  repeat' with_reducible refine g_if (fun _ => ?_) (fun _ => ?_)
  all_goals
    refine g_some ?_
    (repeat' split) <;> omega
def tl (l : List Int) : Bool := l.tail.all fun c => decide (128 ≤ c) && decide (c ≤ 191)
def okT (l : List Int) (i : Int) : Prop := 1 ≤ i ∧ (i = 1 ∨ i ≤ l.length) ∧ tl l = (l.drop i.toNat).all fun c => decide (128 ≤ c) && decide (c ≤ 191)
theorem tails_end {l : List Int} {i : Int} (h : okT l i) (hi : ¬ i < l.length) : tl l = true := by
  obtain ⟨h1, h2, h3⟩ := h
  rw [h3, List.drop_eq_nil_of_le (by omega)]
  rfl
theorem tails_bad {l : List Int} {i : Int} (h : okT l i) (hi : i < l.length) (hb : l.getD i.toNat 0 < 128 ∨ 191 < l.getD i.toNat 0) : tl l = false := by
  obtain ⟨h1, h2, h3⟩ := h
  rw [h3, drop_getD (by omega), List.all_cons]
  rcases hb with hb | hb
  · rw [decide_eq_false (by omega)]; rfl
  · rw [decide_eq_false (p := l.getD i.toNat 0 ≤ 191) (by omega)]; simp
theorem tails_more {l : List Int} {i : Int} (h : okT l i) (hi : i < l.length) (hb : ¬ l.getD i.toNat 0 < 128) (hb' : ¬ 191 < l.getD i.toNat 0) : okT l (i + 1) ∧ (l.length - (i + 1) : Int).toNat < (l.length - i : Int).toNat := by
  obtain ⟨h1, h2, h3⟩ := h
  refine ⟨⟨by show 1 ≤ i + 1; omega, .inr (by show i + 1 ≤ _; omega), ?_⟩, by show (_ - (i + 1)).toNat < (_ - i).toNat; omega⟩
  have e : (i + 1 : Int).toNat = i.toNat + 1 := by omega
  show tl l = (l.drop (i + 1 : Int).toNat).all _
  rw [h3, e, drop_getD (by omega), List.all_cons, decide_eq_true (by omega), decide_eq_true (p := l.getD i.toNat 0 ≤ 191) (by omega)]
  rfl
theorem byt_at {l : List Int} (hl : Byt l) {i : Int} (h0 : 0 ≤ i) (hi : i < l.length) : 0 ≤ l.getD i.toNat 0 ∧ l.getD i.toNat 0 ≤ 255 := hl _ (by
  have : i.toNat < l.length := by omega
  simp only [List.getD_eq_getElem?_getD, List.getElem?_eq_getElem this, Option.getD_some]
  exact List.getElem_mem _)
theorem g86_eq {l : List Int} (hn : l.length ≤ 1000000) : g86 l = some (tl l) := by
  refine g_eq ?_
  unfold g86
  refine g_jo (g_bind (g_loop (R := fun o => (∃ u, o = .inl u ∧ tl l = false) ∨ ∃ u, o = .inr u ∧ tl l = true) (okT l) (fun i => (l.length - i : Int).toNat) ?_ ⟨Int.le_refl _, .inl rfl, by cases l <;> rfl⟩) ?_)
  · intro i hs
    have hi1 := hs.1
    refine g_if (fun hi => g_ck (by omega) (g_if (fun hb => g_out (.inl ⟨_, rfl, tails_bad hs hi (.inl hb)⟩)) fun hb => g_ck (by omega) (g_if (fun hb' => g_out (.inl ⟨_, rfl, tails_bad hs hi (.inr hb')⟩)) fun hb' => g_i64 (by omega) ?_))) fun hi => g_out (.inr ⟨_, rfl, tails_end hs hi⟩)
    obtain ⟨n1, n2⟩ := tails_more hs hi hb hb'
    exact g_go n1 n2
  · intro o ho
    refine g_sm (fun v hv => ?_) fun r hr => ?_
    · rcases ho with ⟨v', e, h'⟩ | ⟨v', e, h'⟩ <;> rw [e] at hv <;> cases hv
      exact g_some h'.symm
    · rcases ho with ⟨v', e, h'⟩ | ⟨v', e, h'⟩ <;> rw [e] at hr <;> cases hr
      exact g_some h'.symm
def heads : List Int := [0, 0, 192, 224, 240]
def numF (r b : Int) : Int := r * 64 + b % 64
def numR (l : List Int) : Int := if l.length < 2 ∨ 4 < l.length then l.headD 0 else l.tail.foldl numF (l.headD 0 - heads.getD l.length 0)
def okM (l : List Int) (i r : Int) : Prop := 1 ≤ i ∧ i ≤ l.length ∧ l.length ≤ 4 ∧ ((i = 1 ∧ -256 ≤ r ∧ r ≤ 256) ∨ (i = 2 ∧ -16384 ≤ r ∧ r < 16500) ∨ (i = 3 ∧ -1048576 ≤ r ∧ r < 1058000) ∨ (i = 4 ∧ -67108864 ≤ r ∧ r < 68000000)) ∧ numR l = (l.drop i.toNat).foldl numF r
theorem num_short {l : List Int} (h : l.length < 2 ∨ 4 < l.length) : numR l = l.headD 0 := by simp only [numR, if_pos h]
theorem num_end {l : List Int} {i r : Int} (h : okM l i r) (hi : ¬ i < l.length) : numR l = r := by
  obtain ⟨h1, h2, h3, h4, h5⟩ := h
  rw [h5, List.drop_eq_nil_of_le (by omega)]
  rfl
theorem heads_le (n : Nat) : 0 ≤ heads.getD n 0 ∧ heads.getD n 0 ≤ 240 := by
  rcases n with _ | _ | _ | _ | _ | n <;> simp [heads]
theorem num_start {l : List Int} {c : Int} {t : List Int} (hL : l = c :: t) (hc : 0 ≤ c ∧ c ≤ 255) (h : ¬ (l.length : Int) < 2) (h' : ¬ 4 < (l.length : Int)) : okM l 1 (IntKind.i32.wrap (c - heads.getD (l.length : Int).toNat 0)) := by
  rw [Int.toNat_natCast]
  have hk := heads_le l.length
  have e : IntKind.i32.wrap (c - heads.getD l.length 0) = c - heads.getD l.length 0 := by rw [IntKind.wrap_i32]; omega
  rw [e]
  refine ⟨Int.le_refl _, by show (1 : Int) ≤ _; omega, by omega, .inl ⟨rfl, by show -256 ≤ c - heads.getD l.length 0; omega, by show c - heads.getD l.length 0 ≤ 256; omega⟩, ?_⟩
  simp only [numR]
  rw [if_neg (by omega), hL]
  rfl
theorem tmod_in {l : List Int} (hl : Byt l) {i : Int} (h0 : 0 ≤ i) (hi : i < l.length) : inR .i32 ((l.getD i.toNat 0).tmod 64) := by
  have hb0 : 0 ≤ l.getD i.toNat 0 ∧ l.getD i.toNat 0 ≤ 255 := hl _ (by
    have : i.toNat < l.length := by omega
    simp [this])
  rw [Int.tmod_eq_emod_of_nonneg hb0.1]
  simp only [inR]
  omega
theorem num_more {l : List Int} (hl : Byt l) {i r : Int} (h : okM l i r) (hi : i < l.length) :
    inR .i32 (r * 64) ∧ inR .i32 (r * 64 + (l.getD i.toNat 0).tmod 64) ∧ okM l (i + 1) (r * 64 + (l.getD i.toNat 0).tmod 64) ∧ (l.length - (i + 1) : Int).toNat < (l.length - i : Int).toNat := by
  obtain ⟨h1, h2, h3, h4, h5⟩ := h
  have hb0 : 0 ≤ l.getD i.toNat 0 ∧ l.getD i.toNat 0 ≤ 255 := hl _ (by
    have : i.toNat < l.length := by omega
    simp [this])
  rw [Int.tmod_eq_emod_of_nonneg hb0.1]
  generalize hb : l.getD i.toNat 0 = b at *
  refine ⟨by simp only [inR]; omega, by simp only [inR]; omega, ⟨by show 1 ≤ i + 1; omega, by show i + 1 ≤ _; omega, h3, ?_, ?_⟩, by show (_ - (i + 1)).toNat < (_ - i).toNat; omega⟩
  · show (i + 1 = 1 ∧ _ ≤ r * 64 + b % 64 ∧ r * 64 + b % 64 ≤ _) ∨ (i + 1 = 2 ∧ _ ≤ r * 64 + b % 64 ∧ r * 64 + b % 64 < _) ∨ (i + 1 = 3 ∧ _ ≤ r * 64 + b % 64 ∧ r * 64 + b % 64 < _) ∨ (i + 1 = 4 ∧ _ ≤ r * 64 + b % 64 ∧ r * 64 + b % 64 < _)
    omega
  · have e : (i + 1 : Int).toNat = i.toNat + 1 := by omega
    show numR l = (l.drop (i + 1 : Int).toNat).foldl numF _
    rw [h5, e, drop_getD (by omega), hb]
    rfl
theorem g60_eq {l : List Int} (hl : Byt l) (h1 : 1 ≤ l.length) : g60 l = some (numR l) := by
  refine g_eq ?_
  unfold g60
  obtain ⟨c, t, hL⟩ : ∃ c t, l = c :: t := by cases l with | nil => simp at h1 | cons c t => exact ⟨c, t, rfl⟩
  have hc : 0 ≤ c ∧ c ≤ 255 := hl c (by rw [hL]; simp)
  have e0 : l.getD (0 : Int).toNat 0 = c := by rw [hL]; rfl
  have eh : l.headD 0 = c := by rw [hL]; rfl
  simp only [e0]
  refine g_if (fun h => g_ck (by omega) (g_i32 (by omega) (g_some (by rw [num_short (.inl (by omega)), eh])))) fun h => g_if (fun h' => g_ck (by omega) (g_i32 (by omega) (g_some (by rw [num_short (.inr (by omega)), eh])))) fun h' => ?_
  have hk := heads_le (l.length : Int).toNat
  refine g_ck (by omega) (g_i64 (by omega) (g_ck (by omega) (g_i64 ?_ (g_jo (g_bind (g_loop (R := fun o => o = numR l) (fun s => okM l s.2 s.1) (fun s => (l.length - s.2 : Int).toNat) ?_ (num_start hL hc h h')) ?_)))))
  · exact ⟨by have := hk.2; show _ ≤ c - heads.getD _ 0; omega, by have := hk.1; show c - heads.getD _ 0 ≤ _; omega⟩
  · rintro ⟨r, i⟩ hs
    dsimp only at hs ⊢
    have hi1 := hs.1
    refine g_if (fun hi => ?_) fun hi => g_out (num_end hs hi).symm
    obtain ⟨m1, m2, m3, m4⟩ := num_more hl hs hi
    exact g_ck m1 (g_ck (by omega) (g_ck (tmod_in hl (by omega) hi) (g_ck m2 (g_i64 (by omega) (g_go m3 m4)))))
  · rintro _ rfl
    exact g_some rfl
def froms : List Int := [0, 0, 128, 2048, 65536]
def fillL (l : List Int) (k : Nat) (x : Int) : List Int := l ++ List.replicate k x
def bgN (l : List Int) : Nat := (shMany (l.headD 0)).toNat - l.length
def bg (l : List Int) : Prop := (l.length : Int) ≤ shMany (l.headD 0) ∧ tl l = true ∧ froms.getD (shMany (l.headD 0)).toNat 0 ≤ numR (fillL l (bgN l) 191) ∧ numR (fillL l (bgN l) 128) ≤ 1114111 ∧ (numR (fillL l (bgN l) 128) < 55296 ∨ 57343 < numR (fillL l (bgN l) 191))
instance (l : List Int) : Decidable (bg l) := by unfold bg; infer_instance
theorem fill_byt {l : List Int} (h : Byt l) {k : Nat} {x : Int} (hx : 0 ≤ x ∧ x ≤ 255) : Byt (fillL l k x) := fun c hc => by
  rcases List.mem_append.1 hc with hc | hc
  · exact h c hc
  · rw [(List.mem_replicate.1 hc).2]; exact hx
theorem fill_len {l : List Int} {k : Nat} {x : Int} : (fillL l k x).length = l.length + k := by simp [fillL]
theorem bg_iff {l : List Int} {c : Int} (hh : l.headD 0 = c) {k : Nat} (hs : ¬ shMany c < (l.length : Int)) (ht : ¬ ¬ tl l = true) (hok : (l.length : Int) + k ≤ shMany (l.headD 0)) (h : ¬ ((l.length + k : Nat) : Int) < shMany c) :
    bg l ↔ (froms.getD (shMany c).toNat 0 ≤ numR (fillL l k 191) ∧ numR (fillL l k 128) ≤ 1114111 ∧ (numR (fillL l k 128) < 55296 ∨ 57343 < numR (fillL l k 191))) := by
  rw [hh] at hok
  have e : bgN l = k := by unfold bgN; rw [hh]; omega
  unfold bg
  rw [e, hh]
  constructor
  · exact fun h => h.2.2
  · exact fun h => ⟨by omega, Classical.not_not.1 ht, h⟩
theorem bg_long {l : List Int} {c : Int} (hh : l.headD 0 = c) (h : shMany c < (l.length : Int)) : ¬ bg l := by
  unfold bg
  rw [hh]
  intro h'
  omega
theorem bg_tail {l : List Int} (h : ¬ tl l = true) : ¬ bg l := fun h' => h h'.2.1
theorem g59_eq {l : List Int} (hl : Byt l) (h1 : 1 ≤ l.length) (hn : l.length ≤ 1000000) : g59 l = some (decide (bg l)) := by
  refine g_eq ?_
  unfold g59
  obtain ⟨c, t, hL⟩ : ∃ c t, l = c :: t := by cases l with | nil => simp at h1 | cons c t => exact ⟨c, t, rfl⟩
  have hc : 0 ≤ c ∧ c ≤ 255 := hl c (by rw [hL]; simp)
  have e0 : l.getD (0 : Int).toNat 0 = c := by rw [hL]; rfl
  have hh : l.headD 0 = c := by rw [hL]; rfl
  simp only [e0]
  have hm := many_le c
  refine g_ck (by omega) (g_call (g58_eq hc.1 hc.2) (g_if (fun h => g_some (by rw [decide_eq_false (bg_long hh h)])) fun h => g_call (g86_eq hn) (g_if (fun ht => g_some (by rw [decide_eq_false (bg_tail ht)])) fun ht => g_ck (by omega) (g_ck (by omega) (g_jo ?_)))))
  refine g_bind (g_loop (R := fun o => ∃ k : Nat, o = (fillL l k 128, fillL l k 191) ∧ (l.length : Int) + k ≤ shMany (l.headD 0) ∧ ¬ ((l.length + k : Nat) : Int) < shMany c) (fun s => ∃ k : Nat, s = (fillL l k 128, fillL l k 191) ∧ (l.length : Int) + k ≤ shMany (l.headD 0)) (fun s => (shMany c - s.1.length).toNat) ?_ ⟨0, by simp [fillL], by rw [hh]; omega⟩) ?_
  · rintro _ ⟨k, rfl, hk⟩
    dsimp only
    rw [hh] at hk
    simp only [fill_len]
    refine g_if (fun hi => g_ck (by omega) (g_ck (by omega) (g_go ⟨k + 1, by simp [fillL, List.replicate_succ'], by rw [hh]; omega⟩ (by simp [fill_len]; omega)))) fun hi => g_out ⟨k, rfl, by rw [hh]; omega, hi⟩
  · rintro _ ⟨k, rfl, hok, hi⟩
    dsimp only
    have hok' := hok
    rw [hh] at hok'
    refine g_call (g60_eq (fill_byt hl (by omega)) (by rw [fill_len]; omega)) (g_call (g60_eq (fill_byt hl (by omega)) (by rw [fill_len]; omega)) (g_ck (by omega) ?_))
    have e := bg_iff hh h ht hok hi
    refine g_if (fun a => g_if (fun b => g_if (fun d => g_some ?_) fun d => g_some ?_) fun b => g_some ?_) fun a => g_some ?_
    · rw [eq_comm, decide_eq_true_eq, e]; exact ⟨a, b, .inl d⟩
    · rw [decide_eq_decide, e]; exact ⟨fun x => ⟨a, b, .inr x⟩, fun x => x.2.2.resolve_left d⟩
    · rw [eq_comm, decide_eq_false_iff_not, e]; exact fun x => b x.2.1
    · rw [eq_comm, decide_eq_false_iff_not, e]; exact fun x => a x.1
def nr (l : List Int) : Int × Int × Bool :=
  if l = [] then (0, 0, true) else
  if 0 < shMany (l.headD 0) ∧ shMany (l.headD 0) ≤ l.length ∧ bg (l.take (shMany (l.headD 0)).toNat) then (numR (l.take (shMany (l.headD 0)).toNat), shMany (l.headD 0), false) else
  if 0 < shMany (l.headD 0) ∧ l.length < shMany (l.headD 0) ∧ bg l then (0, 0, true) else (65533, 1, false)
theorem sh_cases (c : Int) (h0 : 0 ≤ c) (h1 : c ≤ 255) : (c < 128 ∧ shMany c = 1) ∨ (((128 ≤ c ∧ c < 194) ∨ 245 ≤ c) ∧ shMany c = 0) ∨ (194 ≤ c ∧ c < 224 ∧ shMany c = 2) ∨ (224 ≤ c ∧ c < 240 ∧ shMany c = 3) ∨ (240 ≤ c ∧ c ≤ 244 ∧ shMany c = 4) := by
  unfold shMany
  repeat' split <;> omega
theorem bg_1 {c : Int} (e : shMany c = 1) (h0 : 0 ≤ c) (h : c < 128) : bg [c] := by
  simp [bg, tl, bgN, fillL, froms, numR, e]
  omega
theorem bg_2a {c : Int} (e : shMany c = 2) (h : 194 ≤ c) (h' : c < 224) : bg [c] := by
  simp [bg, tl, bgN, fillL, froms, numR, numF, heads, e]
  omega
theorem bg_2b {c d : Int} (e : shMany c = 2) (h : 194 ≤ c) (h' : c < 224) : bg [c, d] ↔ 128 ≤ d ∧ d ≤ 191 := by
  simp [bg, tl, bgN, fillL, froms, numR, numF, heads, e]
  omega
theorem bg_3a {c : Int} (e : shMany c = 3) (h : 224 ≤ c) (h' : c < 240) : bg [c] := by
  simp [bg, tl, bgN, fillL, froms, numR, numF, heads, e]
  omega
theorem bg_3b {c d : Int} (e : shMany c = 3) (h : 224 ≤ c) (h' : c < 240) : bg [c, d] ↔ shLow c ≤ d ∧ d ≤ shHigh c := by
  simp only [shLow, shHigh]
  simp [bg, tl, bgN, fillL, froms, numR, numF, heads, e]
  repeat' split <;> omega
theorem bg_3c {c d f : Int} (e : shMany c = 3) (h : 224 ≤ c) (h' : c < 240) : bg [c, d, f] ↔ (shLow c ≤ d ∧ d ≤ shHigh c) ∧ 128 ≤ f ∧ f ≤ 191 := by
  simp only [shLow, shHigh]
  simp [bg, tl, bgN, fillL, froms, numR, numF, heads, e]
  repeat' split <;> omega
theorem bg_4a {c : Int} (e : shMany c = 4) (h : 240 ≤ c) (h' : c ≤ 244) : bg [c] := by
  simp [bg, tl, bgN, fillL, froms, numR, numF, heads, e]
  omega
theorem bg_4b {c d : Int} (e : shMany c = 4) (h : 240 ≤ c) (h' : c ≤ 244) : bg [c, d] ↔ shLow c ≤ d ∧ d ≤ shHigh c := by
  simp only [shLow, shHigh]
  simp [bg, tl, bgN, fillL, froms, numR, numF, heads, e]
  repeat' split <;> omega
theorem bg_4c {c d f : Int} (e : shMany c = 4) (h : 240 ≤ c) (h' : c ≤ 244) : bg [c, d, f] ↔ (shLow c ≤ d ∧ d ≤ shHigh c) ∧ 128 ≤ f ∧ f ≤ 191 := by
  simp only [shLow, shHigh]
  simp [bg, tl, bgN, fillL, froms, numR, numF, heads, e]
  repeat' split <;> omega
theorem bg_4d {c d f g : Int} (e : shMany c = 4) (h : 240 ≤ c) (h' : c ≤ 244) : bg [c, d, f, g] ↔ (shLow c ≤ d ∧ d ≤ shHigh c) ∧ (128 ≤ f ∧ f ≤ 191) ∧ 128 ≤ g ∧ g ≤ 191 := by
  simp only [shLow, shHigh]
  simp [bg, tl, bgN, fillL, froms, numR, numF, heads, e]
  repeat' split <;> omega
theorem nr_eq {l : List Int} (hl : Byt l) : nr l = nx l := by
  rcases l with _ | ⟨c, t⟩
  · rfl
  have hc := hl c (by simp)
  have hb : ∀ d ∈ t, 0 ≤ d ∧ d ≤ 255 := fun d hd => hl d (by simp [hd])
  rcases sh_cases c hc.1 hc.2 with ⟨h, e⟩ | ⟨h, e⟩ | ⟨h, h', e⟩ | ⟨h, h', e⟩ | ⟨h, h', e⟩
  · have h2 : shBits c = c := by simp [shBits, h]
    simp [nr, nx, e, nxGo, numR, bg_1 e hc.1 h, h2]
    omega
  · simp [nr, nx, e]
  · have h2 : shBits c = c - 192 := by simp only [shBits]; repeat' split <;> omega
    have h3 : shLow c = 128 := by simp only [shLow]; repeat' split <;> omega
    have h4 : shHigh c = 191 := by simp only [shHigh]; repeat' split <;> omega
    rcases t with _ | ⟨d, t⟩
    · simp [nr, nx, e, nxGo, bg_2a e h h']
    · simp [nr, nx, e, nxGo, h2, h3, h4, bg_2b e h h', numR, heads, numF]
      repeat' split
      all_goals first | rfl | (exfalso; omega)
  · have h2 : shBits c = c - 224 := by simp only [shBits]; repeat' split <;> omega
    rcases t with _ | ⟨d, _ | ⟨f, t⟩⟩
    · simp [nr, nx, e, nxGo, bg_3a e h h']
    · simp [nr, nx, e, nxGo, h2, bg_3b e h h', numR, heads, numF]
      repeat' split
      all_goals first | rfl | (exfalso; omega)
    · simp [nr, nx, e, nxGo, h2, bg_3c e h h', numR, heads, numF]
      repeat' split
      all_goals first | rfl | (exfalso; omega)
  · have h2 : shBits c = c - 240 := by simp only [shBits]; repeat' split <;> omega
    rcases t with _ | ⟨d, _ | ⟨f, _ | ⟨g, t⟩⟩⟩
    · simp [nr, nx, e, nxGo, bg_4a e h h']
    · simp [nr, nx, e, nxGo, h2, bg_4b e h h', numR, heads, numF]
      repeat' split
      all_goals first | rfl | (exfalso; omega)
    · simp [nr, nx, e, nxGo, h2, bg_4c e h h', numR, heads, numF]
      repeat' split
      all_goals first | rfl | (exfalso; omega)
    · simp [nr, nx, e, nxGo, h2, bg_4d e h h', numR, heads, numF]
      repeat' split
      all_goals first | rfl | (exfalso; omega)

theorem nr_nil {l : List Int} (h : (l.length : Int) = 0) : nr l = (0, 0, true) := by
  have : l = [] := List.eq_nil_of_length_eq_zero (by omega)
  subst this
  rfl
theorem nr_whole {l : List Int} (h : 0 < l.length) (h1 : 0 < shMany (l.headD 0)) (h2 : shMany (l.headD 0) ≤ l.length) (h3 : bg (l.take ((shMany (l.headD 0)).toNat - Int.toNat 0))) : nr l = (numR (l.take ((shMany (l.headD 0)).toNat - Int.toNat 0)), shMany (l.headD 0), false) := by
  unfold nr
  rw [if_neg (fun e => by subst e; simp at h), if_pos ⟨h1, h2, h3⟩]
  rfl
theorem nr_part {l : List Int} (h : 0 < l.length) (h1 : 0 < shMany (l.headD 0)) (h2 : l.length < shMany (l.headD 0)) (h3 : bg l) : nr l = (0, 0, true) := by
  unfold nr
  rw [if_neg (fun e => by subst e; simp at h), if_neg (fun h => by omega), if_pos ⟨h1, h2, h3⟩]
theorem nr_bad {l : List Int} (h : 0 < l.length) (h1 : ¬ (0 < shMany (l.headD 0) ∧ shMany (l.headD 0) ≤ l.length ∧ bg (l.take ((shMany (l.headD 0)).toNat - Int.toNat 0)))) (h2 : ¬ (0 < shMany (l.headD 0) ∧ l.length < shMany (l.headD 0) ∧ bg l)) : nr l = (65533, 1, false) := by
  unfold nr
  rw [if_neg (fun e => by subst e; simp at h), if_neg (show ¬ (0 < shMany (l.headD 0) ∧ shMany (l.headD 0) ≤ l.length ∧ bg (l.take (shMany (l.headD 0)).toNat)) from h1), if_neg h2]
theorem take_byt {l : List Int} (h : Byt l) {n : Nat} : Byt (l.take n) := fun c hc => h c (List.mem_of_mem_take hc)
theorem g16_eq {l : List Int} (hl : Byt l) (hn : l.length ≤ 1000000) : g16 l = some (nx l) := by
  rw [← nr_eq hl]
  refine g_eq ?_
  unfold g16
  refine g_if (fun h => g_some (nr_nil h).symm) fun h => ?_
  have h1 : 1 ≤ l.length := by omega
  obtain ⟨c, t, hL⟩ : ∃ c t, l = c :: t := by cases l with | nil => simp at h1 | cons c t => exact ⟨c, t, rfl⟩
  have hc : 0 ≤ c ∧ c ≤ 255 := hl c (by rw [hL]; simp)
  have e0 : l.getD (0 : Int).toNat 0 = c := by rw [hL]; rfl
  have hh : l.headD 0 = c := by rw [hL]; rfl
  simp only [e0]
  have hm := many_le c
  refine g_ck (by omega) (g_call (g58_eq hc.1 hc.2) ?_)
  have hd : l.drop (0 : Int).toNat = l := rfl
  rw [hd]
  refine g_jn (fun v => v = decide (0 < shMany c ∧ shMany c ≤ l.length ∧ bg (l.take ((shMany c).toNat - (0 : Int).toNat)))) (fun k hk => g_if (fun a => g_if (fun b => g_ck (by omega) (g_call (g59_eq (take_byt hl) (by rw [List.length_take]; simp only [Int.toNat_zero]; omega) (by rw [List.length_take]; omega)) (hk _ (by simp [a, b])))) fun b => hk _ (by simp [b])) fun a => hk _ (by simp [a])) ?_
  rintro _ rfl
  simp only [decide_eq_true_eq]
  refine g_if (fun a => g_ck (by omega) (g_call (g60_eq (take_byt hl) (by rw [List.length_take]; simp only [Int.toNat_zero]; omega)) (g_some ?_))) fun a => ?_
  · rw [← hh] at a ⊢
    exact (nr_whole (by omega) a.1 a.2.1 a.2.2).symm
  · have bad : ¬ (0 < shMany (l.headD 0) ∧ l.length < shMany (l.headD 0) ∧ bg l) → (65533, 1, false) = nr l := fun h2 => (nr_bad (by omega) (by rw [hh]; exact a) h2).symm
    refine g_if (fun b => g_if (fun d => g_call (g59_eq hl h1 hn) (g_if (fun f => g_some ?_) fun f => g_some (bad fun x => f (by simpa using x.2.2)))) fun d => g_some (bad fun x => d (by rw [hh] at x; exact x.2.1))) fun b => g_some (bad fun x => b (by rw [hh] at x; exact x.1))
    exact (nr_part (by omega) (by rw [hh]; exact b) (by rw [hh]; exact d) (by simpa using f)).symm
end Go.Proofs.Ytcnofjjiepcpjaa
