/-
  Texts that the law leans on. Nothing here is trusted.
-/
import Derived.Test.YtenjkphlbdhaiaaGreatZR1
import Derived.Test.YtenjkphlbdhaiaaGreatEngLd
import Derived.Test.YtenjkphlbdhaiaaGreatZR2
set_option linter.unusedVariables false
set_option linter.unusedSimpArgs false
section
namespace Go.Proofs.YtenjkphlbdhaiaaGreat
open Go Go.Eng
theorem keep8 : ∀ n : Int, 0 ≤ n → n < 2 ^ 8 → IntKind.u8.wrap n = n := fun n h0 h1 => by rw [IntKind.wrap_u8]; omega
theorem band31 {c : Int} (h0 : 0 ≤ c) (h1 : c ≤ 255) : bits .and .u8 c 31 = c % 32 := bits_mask .u8 8 (by decide) keep8 5 (by decide) c h0 (by omega)
theorem band15 {c : Int} (h0 : 0 ≤ c) (h1 : c ≤ 255) : bits .and .u8 c 15 = c % 16 := bits_mask .u8 8 (by decide) keep8 4 (by decide) c h0 (by omega)
theorem band7 {c : Int} (h0 : 0 ≤ c) (h1 : c ≤ 255) : bits .and .u8 c 7 = c % 8 := bits_mask .u8 8 (by decide) keep8 3 (by decide) c h0 (by omega)
theorem band63 {c : Int} (h0 : 0 ≤ c) (h1 : c ≤ 255) : bits .and .u8 c 63 = c % 64 := bits_mask .u8 8 (by decide) keep8 6 (by decide) c h0 (by omega)
def shMany (c : Int) : Int := if c < 128 then 1 else if c < 194 then 0 else if c < 224 then 2 else if c < 240 then 3 else if c ≤ 244 then 4 else 0
def shLow (c : Int) : Int := if c < 194 then 0 else if c = 224 then 160 else if c = 240 then 144 else if c ≤ 244 then 128 else 0
def shHigh (c : Int) : Int := if c < 194 then 0 else if c = 237 then 159 else if c = 244 then 143 else if c ≤ 244 then 191 else 0
def shBits (c : Int) : Int := if c < 128 then c else if c < 194 then 0 else if c < 224 then c % 32 else if c < 240 then c % 16 else if c ≤ 244 then c % 8 else 0
def nxGo (n : Int) : Nat → Int → Int → Int → List Int → Int × Int × Bool
  | 0, _, _, r, _ => (r, n, false)
  | _ + 1, _, _, _, [] => (0, 0, true)
  | k + 1, lo, hi, r, b :: t => if b < lo ∨ hi < b then (65533, 1, false) else nxGo n k 128 191 (r * 64 + b % 64) t
def nx : List Int → Int × Int × Bool
  | [] => (0, 0, true)
  | c :: t => if shMany c = 0 then (65533, 1, false) else nxGo (shMany c) (shMany c - 1).toNat (shLow c) (shHigh c) (shBits c) t
def Byt (l : List Int) : Prop := ∀ c ∈ l, 0 ≤ c ∧ c ≤ 255
def boundR (i r : Int) : Prop := 0 ≤ r ∧ ((i = 1 ∧ r < 128) ∨ (i = 2 ∧ r < 8192) ∨ (i = 3 ∧ r < 524288) ∨ (i = 4 ∧ r < 33554432))
def okN (l : List Int) (m : Int) (lo hi : Int) (i r : Int) : Prop := 1 ≤ i ∧ i ≤ m ∧ boundR i r ∧ nxGo m (m - i).toNat (if i = 1 then lo else 128) (if i = 1 then hi else 191) r (l.drop i.toNat) = nx l
theorem many_le (c : Int) : 0 ≤ shMany c ∧ shMany c ≤ 4 := by unfold shMany; repeat' split <;> omega
theorem bits_lt (c : Int) (h0 : 0 ≤ c) : 0 ≤ shBits c ∧ shBits c < 128 := by unfold shBits; repeat' split <;> omega
theorem drop_getD {l : List Int} {i : Nat} (h : i < l.length) : l.drop i = l.getD i 0 :: l.drop (i + 1) := by
  rw [List.drop_eq_getElem_cons h]; simp [h]
theorem next_start {c : Int} {t : List Int} (h0 : 0 ≤ c) (h : ¬ shMany c = 0) : okN (c :: t) (shMany c) (shLow c) (shHigh c) 1 (shBits c) := by
  have := many_le c
  have := bits_lt c h0
  refine ⟨by omega, by show 1 ≤ _; omega, ⟨by show 0 ≤ _; omega, .inl ⟨rfl, by show _ < _; omega⟩⟩, ?_⟩
  simp only [nx, if_neg h, if_true]
  rfl
theorem next_none {c : Int} {t : List Int} (h : shMany c = 0) : nx (c :: t) = (65533, 1, false) := by simp [nx, h]
theorem next_end {l : List Int} {m lo hi i r : Int} (h : okN l m lo hi i r) (hi : ¬ i < m) : nx l = (r, m, false) := by
  obtain ⟨h1, h2, h3, h4⟩ := h
  have e : (m - i).toNat = 0 := by omega
  rw [← h4, e]
  rfl
theorem next_short {l : List Int} {m lo hi i r : Int} (h : okN l m lo hi i r) (hi : i < m) (hl : (l.length : Int) ≤ i) : nx l = (0, 0, true) := by
  obtain ⟨h1, h2, h3, h4⟩ := h
  obtain ⟨k, e⟩ : ∃ k, (m - i).toNat = k + 1 := ⟨(m - i).toNat - 1, by omega⟩
  rw [← h4, e, List.drop_eq_nil_of_le (by omega)]
  rfl
theorem next_bad {l : List Int} {m lo hi i r : Int} (h : okN l m lo hi i r) (hi' : i < m) (hl : i < (l.length : Int)) (hb : l.getD i.toNat 0 < (if i = 1 then lo else 128) ∨ (if i = 1 then hi else 191) < l.getD i.toNat 0) : nx l = (65533, 1, false) := by
  obtain ⟨h1, h2, h3, h4⟩ := h
  obtain ⟨k, e⟩ : ∃ k, (m - i).toNat = k + 1 := ⟨(m - i).toNat - 1, by omega⟩
  rw [← h4, e, drop_getD (by omega)]
  simp only [nxGo, if_pos hb]
theorem next_more {l : List Int} (hl0 : Byt l) {m lo hi i r : Int} (hm : m ≤ 4) (h : okN l m lo hi i r) (hi' : i < m) (hl : i < (l.length : Int)) (hb : ¬ (l.getD i.toNat 0 < (if i = 1 then lo else 128) ∨ (if i = 1 then hi else 191) < l.getD i.toNat 0)) :
    okN l m lo hi (i + 1) (bits .or .i32 (IntKind.i32.wrap (r * 64)) (bits .and .u8 (l.getD i.toNat 0) 63)) ∧ (m - (i + 1)).toNat < (m - i).toNat := by
  obtain ⟨h1, h2, h3, h4⟩ := h
  have hb0 : 0 ≤ l.getD i.toNat 0 ∧ l.getD i.toNat 0 ≤ 255 := hl0 _ (by
    have : i.toNat < l.length := by omega
    simp [this])
  obtain ⟨h31, h32⟩ := h3
  have hr : r < 524288 := by omega
  have hw : IntKind.i32.wrap (r * 64) = r * 64 := by rw [IntKind.wrap_i32]; omega
  have he : bits .or .i32 (IntKind.i32.wrap (r * 64)) (bits .and .u8 (l.getD i.toNat 0) 63) = r * 64 + l.getD i.toNat 0 % 64 := by
    rw [band63 hb0.1 hb0.2, hw]
    exact bits_join .i32 31 (by decide) (fun n h0 h1 => by rw [IntKind.wrap_i32]; omega) 6 _ _ (by omega) (by omega) (by omega) (by omega) (by omega) (by omega)
  rw [he]
  obtain ⟨k, e⟩ : ∃ k, (m - i).toNat = k + 1 := ⟨(m - i).toNat - 1, by omega⟩
  refine ⟨⟨by show 1 ≤ i + 1; omega, by show i + 1 ≤ m; omega, ⟨by show 0 ≤ r * 64 + _; omega, ?_⟩, ?_⟩, by omega⟩
  · show (i + 1 = 1 ∧ _) ∨ (i + 1 = 2 ∧ r * 64 + _ < _) ∨ (i + 1 = 3 ∧ r * 64 + _ < _) ∨ (i + 1 = 4 ∧ r * 64 + _ < _)
    omega
  · rw [e, drop_getD (by omega)] at h4
    simp only [nxGo, if_neg hb] at h4
    have e1 : (m - (i + 1)).toNat = k := by omega
    have e2 : (i + 1).toNat = i.toNat + 1 := by omega
    have e3 : ¬ i + 1 = 1 := by omega
    simp only [e1, e2, if_neg e3]
    exact h4
theorem g105_eq {c : Int} (h0 : 0 ≤ c) (h1 : c ≤ 255) : g105 c = some (shMany c, shLow c, shHigh c, shBits c) := by
  refine g_eq ?_
  unfold g105
  have b31 := band31 h0 h1; have b15 := band15 h0 h1; have b7 := band7 h0 h1
  simp only [shMany, shLow, shHigh, shBits, b31, b15, b7]
  repeat' (first | with_reducible refine g_if (fun _ => ?_) (fun _ => ?_) | refine g_i32 (by omega) ?_)
  all_goals
    refine g_some ?_
    simp only [Prod.mk.injEq]
    refine ⟨?_, ?_, ?_, ?_⟩ <;> (repeat' split) <;> omega
theorem g102_eq {l : List Int} (hl : Byt l) (hn : l.length ≤ 1000000) : g102 l = some (nx l) := by
  refine g_eq ?_
  unfold g102
  rcases l with _ | ⟨c, t⟩
  · exact g_t (by simp) (g_some rfl)
  have hc := hl c (by simp)
  refine g_f (by simp only [List.length_cons]; omega) (g_ck (by simp only [List.length_cons]; omega) ?_)
  have e0 : (c :: t).getD (0 : Int).toNat 0 = c := rfl
  rw [e0]
  refine g_call (g105_eq hc.1 hc.2) ?_
  dsimp only
  refine g_if (fun h => g_some (next_none h).symm) fun h => ?_
  have hm := many_le c
  refine g_jo (g_bind (g_loop (R := fun o => (∃ v, o = .inl v ∧ v = nx (c :: t)) ∨ ∃ r, o = .inr r ∧ (r, shMany c, false) = nx (c :: t)) (fun s => okN (c :: t) (shMany c) (shLow c) (shHigh c) s.2 s.1) (fun s => (shMany c - s.2).toNat) ?_ (next_start hc.1 h)) ?_)
  · rintro ⟨r, i⟩ hs
    dsimp only at hs ⊢
    refine g_if (fun hi => g_if (fun hs2 => g_out (.inl ⟨_, rfl, (next_short hs hi hs2).symm⟩)) fun hs2 => ?_) fun hi => g_out (.inr ⟨_, rfl, (next_end hs hi).symm⟩)
    have hi1 : 1 ≤ i := hs.1
    have hbyt : 0 ≤ (c :: t).getD i.toNat 0 ∧ (c :: t).getD i.toNat 0 ≤ 255 := hl _ (by
      have : i.toNat < (c :: t).length := by omega
      simp only [List.getD_eq_getElem?_getD, List.getElem?_eq_getElem this, Option.getD_some]
      exact List.getElem_mem _)
    refine g_jn (fun v => v = (if i = 1 then shLow c else 128, if i = 1 then shHigh c else 191)) (fun k hk => g_if (fun e => hk _ (by rw [if_pos e, if_pos e])) fun e => hk _ (by rw [if_neg e, if_neg e])) ?_
    rintro _ rfl
    dsimp only
    refine g_ck (by omega) (g_if (fun hb => g_out (.inl ⟨_, rfl, (next_bad hs hi (by omega) (.inl hb)).symm⟩)) fun hb => g_ck (by omega) (g_if (fun hb' => g_out (.inl ⟨_, rfl, (next_bad hs hi (by omega) (.inr hb')).symm⟩)) fun hb' => ?_))
    refine g_ck (by omega) (g_i32 ?_ (g_i64 (by omega) ?_))
    · rw [band63 hbyt.1 hbyt.2]; omega
    · obtain ⟨n1, n2⟩ := next_more hl (by omega) hs hi (by omega) (fun hh => hh.elim hb hb')
      exact g_go n1 n2
  · intro o ho
    refine g_sm (fun v hv => ?_) fun r hr => ?_
    · rcases ho with ⟨v', e, h'⟩ | ⟨v', e, h'⟩ <;> rw [e] at hv <;> cases hv
      exact g_some h'
    · rcases ho with ⟨v', e, h'⟩ | ⟨v', e, h'⟩ <;> rw [e] at hr <;> cases hr
      exact g_some h'
end Go.Proofs.YtenjkphlbdhaiaaGreat
end
section
namespace Go.Proofs.YtenjkphlbdhaiaaGreat
open Go Go.Eng
theorem g88_eq {c : Int} (h0 : 0 ≤ c) (h1 : c ≤ 255) : g88 c = some (shMany c) := by
  refine g_eq ?_
  unfold g88
  simp only [shMany]
  refine g_if (fun h => g_some (by rw [if_pos h])) fun h => g_jn (fun v => v = decide (194 ≤ c ∧ c < 224)) (fun k hk => g_if (fun h2 => hk _ (by simp [h2])) fun h2 => hk _ (by simp [h2])) ?_
  rintro _ rfl
  simp only [decide_eq_true_eq]
  repeat' with_reducible refine g_if (fun _ => ?_) (fun _ => ?_)
  all_goals
    refine g_some ?_
    (repeat' split) <;> omega
def tl (l : List Int) : Bool := l.tail.all fun c => decide (128 ≤ c) && decide (c ≤ 191)
def okT (l : List Int) (i : Int) : Prop := 1 ≤ i ∧ (i = 1 ∨ i ≤ l.length) ∧ tl l = (l.drop i.toNat).all fun c => decide (128 ≤ c) && decide (c ≤ 191)
theorem tails_end {l : List Int} {i : Int} (h : okT l i) (hi : ¬ i < l.length) : tl l = true := by
  obtain ⟨h1, h2, h3⟩ := h
  rw [h3, List.drop_eq_nil_of_le (by omega)]
  rfl
theorem tails_bad {l : List Int} {i : Int} (h : okT l i) (hi : i < l.length) (hb : l.getD i.toNat 0 < 128 ∨ 191 < l.getD i.toNat 0) : tl l = false := by
  obtain ⟨h1, h2, h3⟩ := h
  rw [h3, drop_getD (by omega), List.all_cons]
  rcases hb with hb | hb
  · rw [decide_eq_false (by omega)]; rfl
  · rw [decide_eq_false (p := l.getD i.toNat 0 ≤ 191) (by omega)]; simp
theorem tails_more {l : List Int} {i : Int} (h : okT l i) (hi : i < l.length) (hb : ¬ l.getD i.toNat 0 < 128) (hb' : ¬ 191 < l.getD i.toNat 0) : okT l (i + 1) ∧ (l.length - (i + 1) : Int).toNat < (l.length - i : Int).toNat := by
  obtain ⟨h1, h2, h3⟩ := h
  refine ⟨⟨by show 1 ≤ i + 1; omega, .inr (by show i + 1 ≤ _; omega), ?_⟩, by show (_ - (i + 1)).toNat < (_ - i).toNat; omega⟩
  have e : (i + 1 : Int).toNat = i.toNat + 1 := by omega
  show tl l = (l.drop (i + 1 : Int).toNat).all _
  rw [h3, e, drop_getD (by omega), List.all_cons, decide_eq_true (by omega), decide_eq_true (p := l.getD i.toNat 0 ≤ 191) (by omega)]
  rfl
theorem g101_eq {l : List Int} (hn : l.length ≤ 1000000) : g101 l = some (tl l) := by
  refine g_eq ?_
  unfold g101
  refine g_jo (g_bind (g_loop (R := fun o => (∃ u, o = .inl u ∧ tl l = false) ∨ ∃ u, o = .inr u ∧ tl l = true) (okT l) (fun i => (l.length - i : Int).toNat) ?_ ⟨Int.le_refl _, .inl rfl, by cases l <;> rfl⟩) ?_)
  · intro i hs
    have hi1 := hs.1
    refine g_if (fun hi => g_ck (by omega) (g_if (fun hb => g_out (.inl ⟨_, rfl, tails_bad hs hi (.inl hb)⟩)) fun hb => g_ck (by omega) (g_if (fun hb' => g_out (.inl ⟨_, rfl, tails_bad hs hi (.inr hb')⟩)) fun hb' => g_i64 (by omega) ?_))) fun hi => g_out (.inr ⟨_, rfl, tails_end hs hi⟩)
    obtain ⟨n1, n2⟩ := tails_more hs hi hb hb'
    exact g_go n1 n2
  · intro o ho
    refine g_sm (fun v hv => ?_) fun r hr => ?_
    · rcases ho with ⟨v', e, h'⟩ | ⟨v', e, h'⟩ <;> rw [e] at hv <;> cases hv
      exact g_some h'.symm
    · rcases ho with ⟨v', e, h'⟩ | ⟨v', e, h'⟩ <;> rw [e] at hr <;> cases hr
      exact g_some h'.symm
def heads : List Int := [0, 0, 192, 224, 240]
def numF (r b : Int) : Int := r * 64 + b % 64
def numR (l : List Int) : Int := if l.length < 2 ∨ 4 < l.length then l.headD 0 else l.tail.foldl numF (l.headD 0 - heads.getD l.length 0)
def okM (l : List Int) (i r : Int) : Prop := 1 ≤ i ∧ i ≤ l.length ∧ l.length ≤ 4 ∧ ((i = 1 ∧ -256 ≤ r ∧ r ≤ 256) ∨ (i = 2 ∧ -16384 ≤ r ∧ r < 16500) ∨ (i = 3 ∧ -1048576 ≤ r ∧ r < 1058000) ∨ (i = 4 ∧ -67108864 ≤ r ∧ r < 68000000)) ∧ numR l = (l.drop i.toNat).foldl numF r
theorem num_short {l : List Int} (h : l.length < 2 ∨ 4 < l.length) : numR l = l.headD 0 := by simp only [numR, if_pos h]
theorem num_end {l : List Int} {i r : Int} (h : okM l i r) (hi : ¬ i < l.length) : numR l = r := by
  obtain ⟨h1, h2, h3, h4, h5⟩ := h
  rw [h5, List.drop_eq_nil_of_le (by omega)]
  rfl
theorem heads_le (n : Nat) : 0 ≤ heads.getD n 0 ∧ heads.getD n 0 ≤ 240 := by
  rcases n with _ | _ | _ | _ | _ | n <;> simp [heads]
theorem num_start {l : List Int} {c : Int} {t : List Int} (hL : l = c :: t) (hc : 0 ≤ c ∧ c ≤ 255) (h : ¬ (l.length : Int) < 2) (h' : ¬ 4 < (l.length : Int)) : okM l 1 (IntKind.i32.wrap (c - heads.getD (l.length : Int).toNat 0)) := by
  rw [Int.toNat_natCast]
  have hk := heads_le l.length
  have e : IntKind.i32.wrap (c - heads.getD l.length 0) = c - heads.getD l.length 0 := by rw [IntKind.wrap_i32]; omega
  rw [e]
  refine ⟨Int.le_refl _, by show (1 : Int) ≤ _; omega, by omega, .inl ⟨rfl, by show -256 ≤ c - heads.getD l.length 0; omega, by show c - heads.getD l.length 0 ≤ 256; omega⟩, ?_⟩
  simp only [numR]
  rw [if_neg (by omega), hL]
  rfl
theorem tmod_in {l : List Int} (hl : Byt l) {i : Int} (h0 : 0 ≤ i) (hi : i < l.length) : inR .i32 ((l.getD i.toNat 0).tmod 64) := by
  have hb0 : 0 ≤ l.getD i.toNat 0 ∧ l.getD i.toNat 0 ≤ 255 := hl _ (by
    have : i.toNat < l.length := by omega
    simp [this])
  rw [Int.tmod_eq_emod_of_nonneg hb0.1]
  simp only [inR]
  omega
theorem num_more {l : List Int} (hl : Byt l) {i r : Int} (h : okM l i r) (hi : i < l.length) :
    inR .i32 (r * 64) ∧ inR .i32 (r * 64 + (l.getD i.toNat 0).tmod 64) ∧ okM l (i + 1) (r * 64 + (l.getD i.toNat 0).tmod 64) ∧ (l.length - (i + 1) : Int).toNat < (l.length - i : Int).toNat := by
  obtain ⟨h1, h2, h3, h4, h5⟩ := h
  have hb0 : 0 ≤ l.getD i.toNat 0 ∧ l.getD i.toNat 0 ≤ 255 := hl _ (by
    have : i.toNat < l.length := by omega
    simp [this])
  rw [Int.tmod_eq_emod_of_nonneg hb0.1]
  generalize hb : l.getD i.toNat 0 = b at *
  refine ⟨by simp only [inR]; omega, by simp only [inR]; omega, ⟨by show 1 ≤ i + 1; omega, by show i + 1 ≤ _; omega, h3, ?_, ?_⟩, by show (_ - (i + 1)).toNat < (_ - i).toNat; omega⟩
  · show (i + 1 = 1 ∧ _ ≤ r * 64 + b % 64 ∧ r * 64 + b % 64 ≤ _) ∨ (i + 1 = 2 ∧ _ ≤ r * 64 + b % 64 ∧ r * 64 + b % 64 < _) ∨ (i + 1 = 3 ∧ _ ≤ r * 64 + b % 64 ∧ r * 64 + b % 64 < _) ∨ (i + 1 = 4 ∧ _ ≤ r * 64 + b % 64 ∧ r * 64 + b % 64 < _)
    omega
  · have e : (i + 1 : Int).toNat = i.toNat + 1 := by omega
    show numR l = (l.drop (i + 1 : Int).toNat).foldl numF _
    rw [h5, e, drop_getD (by omega), hb]
    rfl
theorem g90_eq {l : List Int} (hl : Byt l) (h1 : 1 ≤ l.length) : g90 l = some (numR l) := by
  refine g_eq ?_
  unfold g90
  obtain ⟨c, t, hL⟩ : ∃ c t, l = c :: t := by cases l with | nil => simp at h1 | cons c t => exact ⟨c, t, rfl⟩
  have hc : 0 ≤ c ∧ c ≤ 255 := hl c (by rw [hL]; simp)
  have e0 : l.getD (0 : Int).toNat 0 = c := by rw [hL]; rfl
  have eh : l.headD 0 = c := by rw [hL]; rfl
  simp only [e0]
  refine g_if (fun h => g_ck (by omega) (g_i32 (by omega) (g_some (by rw [num_short (.inl (by omega)), eh])))) fun h => g_if (fun h' => g_ck (by omega) (g_i32 (by omega) (g_some (by rw [num_short (.inr (by omega)), eh])))) fun h' => ?_
  have hk := heads_le (l.length : Int).toNat
  refine g_ck (by omega) (g_i64 (by omega) (g_ck (by omega) (g_i64 ?_ (g_jo (g_bind (g_loop (R := fun o => o = numR l) (fun s => okM l s.2 s.1) (fun s => (l.length - s.2 : Int).toNat) ?_ (num_start hL hc h h')) ?_)))))
  · exact ⟨by have := hk.2; show _ ≤ c - heads.getD _ 0; omega, by have := hk.1; show c - heads.getD _ 0 ≤ _; omega⟩
  · rintro ⟨r, i⟩ hs
    dsimp only at hs ⊢
    have hi1 := hs.1
    refine g_if (fun hi => ?_) fun hi => g_out (num_end hs hi).symm
    obtain ⟨m1, m2, m3, m4⟩ := num_more hl hs hi
    exact g_ck m1 (g_ck (by omega) (g_ck (tmod_in hl (by omega) hi) (g_ck m2 (g_i64 (by omega) (g_go m3 m4)))))
  · rintro _ rfl
    exact g_some rfl
def froms : List Int := [0, 0, 128, 2048, 65536]
def fillL (l : List Int) (k : Nat) (x : Int) : List Int := l ++ List.replicate k x
def bgN (l : List Int) : Nat := (shMany (l.headD 0)).toNat - l.length
def bg (l : List Int) : Prop := (l.length : Int) ≤ shMany (l.headD 0) ∧ tl l = true ∧ froms.getD (shMany (l.headD 0)).toNat 0 ≤ numR (fillL l (bgN l) 191) ∧ numR (fillL l (bgN l) 128) ≤ 1114111 ∧ (numR (fillL l (bgN l) 128) < 55296 ∨ 57343 < numR (fillL l (bgN l) 191))
instance (l : List Int) : Decidable (bg l) := by unfold bg; infer_instance
theorem fill_byt {l : List Int} (h : Byt l) {k : Nat} {x : Int} (hx : 0 ≤ x ∧ x ≤ 255) : Byt (fillL l k x) := fun c hc => by
  rcases List.mem_append.1 hc with hc | hc
  · exact h c hc
  · rw [(List.mem_replicate.1 hc).2]; exact hx
theorem fill_len {l : List Int} {k : Nat} {x : Int} : (fillL l k x).length = l.length + k := by simp [fillL]
theorem bg_iff {l : List Int} {c : Int} (hh : l.headD 0 = c) {k : Nat} (hs : ¬ shMany c < (l.length : Int)) (ht : ¬ ¬ tl l = true) (hok : (l.length : Int) + k ≤ shMany (l.headD 0)) (h : ¬ ((l.length + k : Nat) : Int) < shMany c) :
    bg l ↔ (froms.getD (shMany c).toNat 0 ≤ numR (fillL l k 191) ∧ numR (fillL l k 128) ≤ 1114111 ∧ (numR (fillL l k 128) < 55296 ∨ 57343 < numR (fillL l k 191))) := by
  rw [hh] at hok
  have e : bgN l = k := by unfold bgN; rw [hh]; omega
  unfold bg
  rw [e, hh]
  constructor
  · exact fun h => h.2.2
  · exact fun h => ⟨by omega, Classical.not_not.1 ht, h⟩
theorem bg_long {l : List Int} {c : Int} (hh : l.headD 0 = c) (h : shMany c < (l.length : Int)) : ¬ bg l := by
  unfold bg
  rw [hh]
  intro h'
  omega
theorem bg_tail {l : List Int} (h : ¬ tl l = true) : ¬ bg l := fun h' => h h'.2.1
theorem g89_eq {l : List Int} (hl : Byt l) (h1 : 1 ≤ l.length) (hn : l.length ≤ 1000000) : g89 l = some (decide (bg l)) := by
  refine g_eq ?_
  unfold g89
  obtain ⟨c, t, hL⟩ : ∃ c t, l = c :: t := by cases l with | nil => simp at h1 | cons c t => exact ⟨c, t, rfl⟩
  have hc : 0 ≤ c ∧ c ≤ 255 := hl c (by rw [hL]; simp)
  have e0 : l.getD (0 : Int).toNat 0 = c := by rw [hL]; rfl
  have hh : l.headD 0 = c := by rw [hL]; rfl
  simp only [e0]
  have hm := many_le c
  refine g_ck (by omega) (g_call (g88_eq hc.1 hc.2) (g_if (fun h => g_some (by rw [decide_eq_false (bg_long hh h)])) fun h => g_call (g101_eq hn) (g_if (fun ht => g_some (by rw [decide_eq_false (bg_tail ht)])) fun ht => g_ck (by omega) (g_ck (by omega) (g_jo ?_)))))
  refine g_bind (g_loop (R := fun o => ∃ k : Nat, o = (fillL l k 128, fillL l k 191) ∧ (l.length : Int) + k ≤ shMany (l.headD 0) ∧ ¬ ((l.length + k : Nat) : Int) < shMany c) (fun s => ∃ k : Nat, s = (fillL l k 128, fillL l k 191) ∧ (l.length : Int) + k ≤ shMany (l.headD 0)) (fun s => (shMany c - s.1.length).toNat) ?_ ⟨0, by simp [fillL], by rw [hh]; omega⟩) ?_
  · rintro _ ⟨k, rfl, hk⟩
    dsimp only
    rw [hh] at hk
    simp only [fill_len]
    refine g_if (fun hi => g_ck (by omega) (g_ck (by omega) (g_go ⟨k + 1, by simp [fillL, List.replicate_succ'], by rw [hh]; omega⟩ (by simp [fill_len]; omega)))) fun hi => g_out ⟨k, rfl, by rw [hh]; omega, hi⟩
  · rintro _ ⟨k, rfl, hok, hi⟩
    dsimp only
    have hok' := hok
    rw [hh] at hok'
    refine g_call (g90_eq (fill_byt hl (by omega)) (by rw [fill_len]; omega)) (g_call (g90_eq (fill_byt hl (by omega)) (by rw [fill_len]; omega)) (g_ck (by omega) ?_))
    have e := bg_iff hh h ht hok hi
    refine g_if (fun a => g_if (fun b => g_if (fun d => g_some ?_) fun d => g_some ?_) fun b => g_some ?_) fun a => g_some ?_
    · rw [eq_comm, decide_eq_true_eq, e]; exact ⟨a, b, .inl d⟩
    · rw [decide_eq_decide, e]; exact ⟨fun x => ⟨a, b, .inr x⟩, fun x => x.2.2.resolve_left d⟩
    · rw [eq_comm, decide_eq_false_iff_not, e]; exact fun x => b x.2.1
    · rw [eq_comm, decide_eq_false_iff_not, e]; exact fun x => a x.1
def nr (l : List Int) : Int × Int × Bool :=
  if l = [] then (0, 0, true) else
  if 0 < shMany (l.headD 0) ∧ shMany (l.headD 0) ≤ l.length ∧ bg (l.take (shMany (l.headD 0)).toNat) then (numR (l.take (shMany (l.headD 0)).toNat), shMany (l.headD 0), false) else
  if 0 < shMany (l.headD 0) ∧ l.length < shMany (l.headD 0) ∧ bg l then (0, 0, true) else (65533, 1, false)
theorem sh_cases (c : Int) (h0 : 0 ≤ c) (h1 : c ≤ 255) : (c < 128 ∧ shMany c = 1) ∨ (((128 ≤ c ∧ c < 194) ∨ 245 ≤ c) ∧ shMany c = 0) ∨ (194 ≤ c ∧ c < 224 ∧ shMany c = 2) ∨ (224 ≤ c ∧ c < 240 ∧ shMany c = 3) ∨ (240 ≤ c ∧ c ≤ 244 ∧ shMany c = 4) := by
  unfold shMany
  repeat' split <;> omega
theorem bg_1 {c : Int} (e : shMany c = 1) (h0 : 0 ≤ c) (h : c < 128) : bg [c] := by
  simp [bg, tl, bgN, fillL, froms, numR, e]
  omega
theorem bg_2a {c : Int} (e : shMany c = 2) (h : 194 ≤ c) (h' : c < 224) : bg [c] := by
  simp [bg, tl, bgN, fillL, froms, numR, numF, heads, e]
  omega
theorem bg_2b {c d : Int} (e : shMany c = 2) (h : 194 ≤ c) (h' : c < 224) : bg [c, d] ↔ 128 ≤ d ∧ d ≤ 191 := by
  simp [bg, tl, bgN, fillL, froms, numR, numF, heads, e]
  omega
theorem bg_3a {c : Int} (e : shMany c = 3) (h : 224 ≤ c) (h' : c < 240) : bg [c] := by
  simp [bg, tl, bgN, fillL, froms, numR, numF, heads, e]
  omega
theorem bg_3b {c d : Int} (e : shMany c = 3) (h : 224 ≤ c) (h' : c < 240) : bg [c, d] ↔ shLow c ≤ d ∧ d ≤ shHigh c := by
  simp only [shLow, shHigh]
  simp [bg, tl, bgN, fillL, froms, numR, numF, heads, e]
  repeat' split <;> omega
theorem bg_3c {c d f : Int} (e : shMany c = 3) (h : 224 ≤ c) (h' : c < 240) : bg [c, d, f] ↔ (shLow c ≤ d ∧ d ≤ shHigh c) ∧ 128 ≤ f ∧ f ≤ 191 := by
  simp only [shLow, shHigh]
  simp [bg, tl, bgN, fillL, froms, numR, numF, heads, e]
  repeat' split <;> omega
theorem bg_4a {c : Int} (e : shMany c = 4) (h : 240 ≤ c) (h' : c ≤ 244) : bg [c] := by
  simp [bg, tl, bgN, fillL, froms, numR, numF, heads, e]
  omega
theorem bg_4b {c d : Int} (e : shMany c = 4) (h : 240 ≤ c) (h' : c ≤ 244) : bg [c, d] ↔ shLow c ≤ d ∧ d ≤ shHigh c := by
  simp only [shLow, shHigh]
  simp [bg, tl, bgN, fillL, froms, numR, numF, heads, e]
  repeat' split <;> omega
theorem bg_4c {c d f : Int} (e : shMany c = 4) (h : 240 ≤ c) (h' : c ≤ 244) : bg [c, d, f] ↔ (shLow c ≤ d ∧ d ≤ shHigh c) ∧ 128 ≤ f ∧ f ≤ 191 := by
  simp only [shLow, shHigh]
  simp [bg, tl, bgN, fillL, froms, numR, numF, heads, e]
  repeat' split <;> omega
theorem bg_4d {c d f g : Int} (e : shMany c = 4) (h : 240 ≤ c) (h' : c ≤ 244) : bg [c, d, f, g] ↔ (shLow c ≤ d ∧ d ≤ shHigh c) ∧ (128 ≤ f ∧ f ≤ 191) ∧ 128 ≤ g ∧ g ≤ 191 := by
  simp only [shLow, shHigh]
  simp [bg, tl, bgN, fillL, froms, numR, numF, heads, e]
  repeat' split <;> omega
theorem nr_eq {l : List Int} (hl : Byt l) : nr l = nx l := by
  rcases l with _ | ⟨c, t⟩
  · rfl
  have hc := hl c (by simp)
  have hb : ∀ d ∈ t, 0 ≤ d ∧ d ≤ 255 := fun d hd => hl d (by simp [hd])
  rcases sh_cases c hc.1 hc.2 with ⟨h, e⟩ | ⟨h, e⟩ | ⟨h, h', e⟩ | ⟨h, h', e⟩ | ⟨h, h', e⟩
  · have h2 : shBits c = c := by simp [shBits, h]
    simp [nr, nx, e, nxGo, numR, bg_1 e hc.1 h, h2]
    omega
  · simp [nr, nx, e]
  · have h2 : shBits c = c - 192 := by simp only [shBits]; repeat' split <;> omega
    have h3 : shLow c = 128 := by simp only [shLow]; repeat' split <;> omega
    have h4 : shHigh c = 191 := by simp only [shHigh]; repeat' split <;> omega
    rcases t with _ | ⟨d, t⟩
    · simp [nr, nx, e, nxGo, bg_2a e h h']
    · simp [nr, nx, e, nxGo, h2, h3, h4, bg_2b e h h', numR, heads, numF]
      repeat' split
      all_goals first | rfl | (exfalso; omega)
  · have h2 : shBits c = c - 224 := by simp only [shBits]; repeat' split <;> omega
    rcases t with _ | ⟨d, _ | ⟨f, t⟩⟩
    · simp [nr, nx, e, nxGo, bg_3a e h h']
    · simp [nr, nx, e, nxGo, h2, bg_3b e h h', numR, heads, numF]
      repeat' split
      all_goals first | rfl | (exfalso; omega)
    · simp [nr, nx, e, nxGo, h2, bg_3c e h h', numR, heads, numF]
      repeat' split
      all_goals first | rfl | (exfalso; omega)
  · have h2 : shBits c = c - 240 := by simp only [shBits]; repeat' split <;> omega
    rcases t with _ | ⟨d, _ | ⟨f, _ | ⟨g, t⟩⟩⟩
    · simp [nr, nx, e, nxGo, bg_4a e h h']
    · simp [nr, nx, e, nxGo, h2, bg_4b e h h', numR, heads, numF]
      repeat' split
      all_goals first | rfl | (exfalso; omega)
    · simp [nr, nx, e, nxGo, h2, bg_4c e h h', numR, heads, numF]
      repeat' split
      all_goals first | rfl | (exfalso; omega)
    · simp [nr, nx, e, nxGo, h2, bg_4d e h h', numR, heads, numF]
      repeat' split
      all_goals first | rfl | (exfalso; omega)
theorem nr_nil {l : List Int} (h : (l.length : Int) = 0) : nr l = (0, 0, true) := by
  have : l = [] := List.eq_nil_of_length_eq_zero (by omega)
  subst this
  rfl
theorem nr_whole {l : List Int} (h : 0 < l.length) (h1 : 0 < shMany (l.headD 0)) (h2 : shMany (l.headD 0) ≤ l.length) (h3 : bg (l.take ((shMany (l.headD 0)).toNat - Int.toNat 0))) : nr l = (numR (l.take ((shMany (l.headD 0)).toNat - Int.toNat 0)), shMany (l.headD 0), false) := by
  unfold nr
  rw [if_neg (fun e => by subst e; simp at h), if_pos ⟨h1, h2, h3⟩]
  rfl
theorem nr_part {l : List Int} (h : 0 < l.length) (h1 : 0 < shMany (l.headD 0)) (h2 : l.length < shMany (l.headD 0)) (h3 : bg l) : nr l = (0, 0, true) := by
  unfold nr
  rw [if_neg (fun e => by subst e; simp at h), if_neg (fun h => by omega), if_pos ⟨h1, h2, h3⟩]
theorem nr_bad {l : List Int} (h : 0 < l.length) (h1 : ¬ (0 < shMany (l.headD 0) ∧ shMany (l.headD 0) ≤ l.length ∧ bg (l.take ((shMany (l.headD 0)).toNat - Int.toNat 0)))) (h2 : ¬ (0 < shMany (l.headD 0) ∧ l.length < shMany (l.headD 0) ∧ bg l)) : nr l = (65533, 1, false) := by
  unfold nr
  rw [if_neg (fun e => by subst e; simp at h), if_neg (show ¬ (0 < shMany (l.headD 0) ∧ shMany (l.headD 0) ≤ l.length ∧ bg (l.take (shMany (l.headD 0)).toNat)) from h1), if_neg h2]
theorem take_byt {l : List Int} (h : Byt l) {n : Nat} : Byt (l.take n) := fun c hc => h c (List.mem_of_mem_take hc)
theorem g72_eq {l : List Int} (hl : Byt l) (hn : l.length ≤ 1000000) : g72 l = some (nx l) := by
  rw [← nr_eq hl]
  refine g_eq ?_
  unfold g72
  refine g_if (fun h => g_some (nr_nil h).symm) fun h => ?_
  have h1 : 1 ≤ l.length := by omega
  obtain ⟨c, t, hL⟩ : ∃ c t, l = c :: t := by cases l with | nil => simp at h1 | cons c t => exact ⟨c, t, rfl⟩
  have hc : 0 ≤ c ∧ c ≤ 255 := hl c (by rw [hL]; simp)
  have e0 : l.getD (0 : Int).toNat 0 = c := by rw [hL]; rfl
  have hh : l.headD 0 = c := by rw [hL]; rfl
  simp only [e0]
  have hm := many_le c
  refine g_ck (by omega) (g_call (g88_eq hc.1 hc.2) ?_)
  have hd : l.drop (0 : Int).toNat = l := rfl
  rw [hd]
  refine g_jn (fun v => v = decide (0 < shMany c ∧ shMany c ≤ l.length ∧ bg (l.take ((shMany c).toNat - (0 : Int).toNat)))) (fun k hk => g_if (fun a => g_if (fun b => g_ck (by omega) (g_call (g89_eq (take_byt hl) (by rw [List.length_take]; simp only [Int.toNat_zero]; omega) (by rw [List.length_take]; omega)) (hk _ (by simp [a, b])))) fun b => hk _ (by simp [b])) fun a => hk _ (by simp [a])) ?_
  rintro _ rfl
  simp only [decide_eq_true_eq]
  refine g_if (fun a => g_ck (by omega) (g_call (g90_eq (take_byt hl) (by rw [List.length_take]; simp only [Int.toNat_zero]; omega)) (g_some ?_))) fun a => ?_
  · rw [← hh] at a ⊢
    exact (nr_whole (by omega) a.1 a.2.1 a.2.2).symm
  · have bad : ¬ (0 < shMany (l.headD 0) ∧ l.length < shMany (l.headD 0) ∧ bg l) → (65533, 1, false) = nr l := fun h2 => (nr_bad (by omega) (by rw [hh]; exact a) h2).symm
    refine g_if (fun b => g_if (fun d => g_call (g89_eq hl h1 hn) (g_if (fun f => g_some ?_) fun f => g_some (bad fun x => f (by simpa using x.2.2)))) fun d => g_some (bad fun x => d (by rw [hh] at x; exact x.2.1))) fun b => g_some (bad fun x => b (by rw [hh] at x; exact x.1))
    exact (nr_part (by omega) (by rw [hh]; exact b) (by rw [hh]; exact d) (by simpa using f)).symm
end Go.Proofs.YtenjkphlbdhaiaaGreat
end
section
namespace Go.Proofs.YtenjkphlbdhaiaaGreat
open Go Go.Eng
def isR (r : Int) : Prop := 0 ≤ r ∧ r ≤ 1114111 ∧ (r < 55296 ∨ 57343 < r)
instance (r : Int) : Decidable (isR r) := by unfold isR; infer_instance
theorem g96_eq (r : Int) : g96 r = some (decide (isR r)) := by
  refine g_eq ?_
  unfold g96
  refine g_if (fun a => g_if (fun b => g_if (fun c => g_some ?_) fun c => g_some ?_) fun b => g_some ?_) fun a => g_some ?_
  · rw [eq_comm, decide_eq_true_eq]; exact ⟨a, b, .inl c⟩
  · rw [decide_eq_decide]; exact ⟨fun x => ⟨a, b, .inr x⟩, fun x => x.2.2.resolve_left c⟩
  · rw [eq_comm, decide_eq_false_iff_not]; exact fun x => b x.2.1
  · rw [eq_comm, decide_eq_false_iff_not]; exact fun x => a x.1
theorem g81_eq (r : Int) : g81 r = some (decide (isR r)) := g96_eq r
def norm (r : Int) : Int := if isR r then r else 65533
theorem norm_r (r : Int) : isR (norm r) := by
  unfold norm
  split
  · assumption
  · exact ⟨by omega, by omega, .inr (by omega)⟩
def enc (v : Int) : List Int :=
  if v < 128 then [v] else if v < 2048 then [192 + v / 64, 128 + v % 64] else if v < 65536 then [224 + v / 4096, 128 + v / 64 % 64, 128 + v % 64] else [240 + v / 262144, 128 + v / 4096 % 64, 128 + v / 64 % 64, 128 + v % 64]
theorem bor8 (x y : Int) (i : Nat) (hx₀ : 0 ≤ x) (hx : x % 2 ^ i = 0) (hx₁ : x < 256) (hy₀ : 0 ≤ y) (hy : y < 2 ^ i) (hy₁ : y < 256) : bits .or .u8 x y = x + y := bits_join .u8 8 (by decide) keep8 i x y hx₀ hx hx₁ hy₀ hy hy₁
theorem wrap8 (n : Int) : IntKind.u8.wrap n = n % 256 := by rw [IntKind.wrap_u8]
theorem tailB (x : Int) : bits .or .u8 128 (bits .and .u8 (IntKind.u8.wrap x) 63) = 128 + x % 64 := by
  rw [wrap8, band63 (by omega) (by omega), bor8 128 _ 6 (by omega) (by omega) (by omega) (by omega) (by omega) (by omega)]
  omega
theorem g97_0 (v : Int) : g97 v 0 = some (128 + v % 64) := by
  refine g_eq ?_
  unfold g97
  refine g_ck (by decide) (g_some ?_)
  rw [tailB]
  simp
theorem g97_6 (v : Int) : g97 v 6 = some (128 + v / 64 % 64) := by
  refine g_eq ?_
  unfold g97
  refine g_ck (by decide) (g_some ?_)
  rw [tailB]
  rfl
theorem g97_12 (v : Int) : g97 v 12 = some (128 + v / 4096 % 64) := by
  refine g_eq ?_
  unfold g97
  refine g_ck (by decide) (g_some ?_)
  rw [tailB]
  rfl
theorem g79_eq (r : Int) : g79 r = some (enc (norm r)) := by
  refine g_eq ?_
  unfold g79
  refine g_jn (fun v => v = norm r) (fun k hk => g_call (g96_eq r) (g_if (fun h => hk _ (by unfold norm; rw [if_neg (by simpa using h)])) fun h => hk _ (by unfold norm; rw [if_pos (by simpa using h)]))) ?_
  rintro _ rfl
  obtain ⟨h0, h1, h2⟩ := norm_r r
  generalize norm r = v at *
  unfold enc
  have p6 : (2 : Int) ^ (6 : Int).toNat = 64 := rfl
  have p12 : (2 : Int) ^ (12 : Int).toNat = 4096 := rfl
  have p18 : (2 : Int) ^ (18 : Int).toNat = 262144 := rfl
  refine g_if (fun a => g_some ?_) fun a => g_if (fun b => g_call (g97_0 v) (g_some ?_)) fun b => g_if (fun c => g_call (g97_6 v) (g_call (g97_0 v) (g_some ?_))) fun c => g_call (g97_12 v) (g_call (g97_6 v) (g_call (g97_0 v) (g_some ?_)))
  · rw [if_pos a, wrap8]
    congr 1; omega
  · rw [if_neg a, if_pos b, wrap8, p6, bor8 192 _ 6 (by omega) (by omega) (by omega) (by omega) (by omega) (by omega)]
    congr 1; omega
  · rw [if_neg a, if_neg b, if_pos c, wrap8, p12, bor8 224 _ 4 (by omega) (by omega) (by omega) (by omega) (by omega) (by omega)]
    congr 1; omega
  · rw [if_neg a, if_neg b, if_neg c, wrap8, p18, bor8 240 _ 3 (by omega) (by omega) (by omega) (by omega) (by omega) (by omega)]
    congr 1; omega
theorem g82_eq {v : Int} (h : 0 ≤ v) : g82 v = some (128 + v % 64) := by
  refine g_eq ?_
  unfold g82
  rw [Int.tmod_eq_emod_of_nonneg h]
  refine g_i32 (by omega) (g_some ?_)
  rw [wrap8]
  omega
theorem g68_eq (r : Int) : g68 r = some (enc (norm r)) := by
  refine g_eq ?_
  unfold g68
  refine g_jn (fun v => v = norm r) (fun k hk => g_call (g81_eq r) (g_if (fun h => hk _ (by unfold norm; rw [if_neg (by simpa using h)])) fun h => hk _ (by unfold norm; rw [if_pos (by simpa using h)]))) ?_
  rintro _ rfl
  obtain ⟨h0, h1, h2⟩ := norm_r r
  generalize norm r = v at *
  unfold enc
  rw [Int.tdiv_eq_ediv_of_nonneg h0, Int.tdiv_eq_ediv_of_nonneg h0, Int.tdiv_eq_ediv_of_nonneg h0]
  refine g_if (fun a => g_some ?_) fun a => g_if (fun b => g_i32 (by omega) (g_i32 (by omega) (g_call (g82_eq h0) (g_some ?_)))) fun b => g_if (fun c => g_i32 (by omega) (g_i32 (by omega) (g_i32 (by omega) (g_call (g82_eq (by omega)) (g_call (g82_eq h0) (g_some ?_)))))) fun c => g_i32 (by omega) (g_i32 (by omega) (g_i32 (by omega) (g_call (g82_eq (by omega)) (g_i32 (by omega) (g_call (g82_eq (by omega)) (g_call (g82_eq h0) (g_some ?_)))))))
  · rw [if_pos a, wrap8]
    congr 1; omega
  · rw [if_neg a, if_pos b, wrap8]
    congr 1; omega
  · rw [if_neg a, if_neg b, if_pos c, wrap8]
    congr 1; omega
  · rw [if_neg a, if_neg b, if_neg c, wrap8]
    congr 1; omega
theorem enc_byt {v : Int} (h : isR v) : Byt (enc v) := by
  obtain ⟨h0, h1, h2⟩ := h
  unfold enc
  intro c hc
  repeat' split at hc
  all_goals simp only [List.mem_cons, List.not_mem_nil, or_false] at hc; omega
theorem enc_len {v : Int} : 1 ≤ (enc v).length ∧ (enc v).length ≤ 4 := by
  unfold enc
  repeat' split
  all_goals simp
theorem nx_enc {v : Int} (h : isR v) (t : List Int) : nx (enc v ++ t) = (v, ((enc v).length : Int), false) := by
  obtain ⟨h0, h1, h2⟩ := h
  unfold enc
  split
  · rename_i a
    have e1 : shMany v = 1 := by simp only [shMany]; rw [if_pos a]
    have e2 : shBits v = v := by simp only [shBits]; rw [if_pos a]
    simp [nx, e1, e2, nxGo]
  split
  · rename_i a b
    have e1 : shMany (192 + v / 64) = 2 := by simp only [shMany]; repeat' split <;> omega
    have e2 : shBits (192 + v / 64) = v / 64 := by simp only [shBits]; repeat' split <;> omega
    have e3 : shLow (192 + v / 64) = 128 := by simp only [shLow]; repeat' split <;> omega
    have e4 : shHigh (192 + v / 64) = 191 := by simp only [shHigh]; repeat' split <;> omega
    simp only [nx, e1, e2, e3, e4, nxGo, List.cons_append, List.nil_append, show (2 - 1 : Int).toNat = 1 from rfl]
    rw [if_neg (by omega), if_neg (by omega)]
    simp
    omega
  split
  · rename_i a b c
    have e1 : shMany (224 + v / 4096) = 3 := by simp only [shMany]; repeat' split <;> omega
    have e2 : shBits (224 + v / 4096) = v / 4096 := by simp only [shBits]; repeat' split <;> omega
    have e3 : shLow (224 + v / 4096) ≤ 128 + v / 64 % 64 := by simp only [shLow]; repeat' split <;> omega
    have e4 : 128 + v / 64 % 64 ≤ shHigh (224 + v / 4096) := by simp only [shHigh]; repeat' split <;> omega
    simp only [nx, e1, e2, nxGo, List.cons_append, List.nil_append, show (3 - 1 : Int).toNat = 2 from rfl]
    rw [if_neg (by omega), if_neg (by omega), if_neg (by omega)]
    simp
    omega
  · rename_i a b c
    have e1 : shMany (240 + v / 262144) = 4 := by simp only [shMany]; repeat' split <;> omega
    have e2 : shBits (240 + v / 262144) = v / 262144 := by simp only [shBits]; repeat' split <;> omega
    have e3 : shLow (240 + v / 262144) ≤ 128 + v / 4096 % 64 := by simp only [shLow]; repeat' split <;> omega
    have e4 : 128 + v / 4096 % 64 ≤ shHigh (240 + v / 262144) := by simp only [shHigh]; repeat' split <;> omega
    simp only [nx, e1, e2, nxGo, List.cons_append, List.nil_append, show (4 - 1 : Int).toNat = 3 from rfl]
    rw [if_neg (by omega), if_neg (by omega), if_neg (by omega), if_neg (by omega)]
    simp
    omega
end Go.Proofs.YtenjkphlbdhaiaaGreat
end
section
namespace Go.Proofs.YtenjkphlbdhaiaaGreat
open Go Go.Eng
theorem drop_byt {l : List Int} (h : Byt l) {n : Nat} : Byt (l.drop n) := fun c hc => h c (List.mem_of_mem_drop hc)
theorem nx_inv {l : List Int} (hl : Byt l) {r n : Int} (h : nx l = (r, n, false)) : (r = 65533 ∧ n = 1 ∧ 1 ≤ l.length) ∨ (isR r ∧ l = enc r ++ l.drop n.toNat ∧ n = ((enc r).length : Int)) := by
  cases l with
  | nil => simp [nx] at h
  | cons c t =>
    have hc := hl c List.mem_cons_self
    rcases sh_cases c hc.1 hc.2 with ⟨a, e⟩ | ⟨a, e⟩ | ⟨a, a', e⟩ | ⟨a, a', e⟩ | ⟨a, a', e⟩
    · have e2 : shBits c = c := by simp only [shBits]; rw [if_pos a]
      simp [nx, e, e2, nxGo] at h
      obtain ⟨rfl, rfl⟩ := h
      right
      refine ⟨⟨by omega, by omega, .inl (by omega)⟩, ?_, ?_⟩
      · unfold enc; rw [if_pos a]; rfl
      · unfold enc; rw [if_pos a]; rfl
    · simp [nx, e] at h
      obtain ⟨rfl, rfl⟩ := h
      exact .inl ⟨rfl, rfl, by simp⟩
    · have e2 : shBits c = c % 32 := by simp only [shBits]; repeat' split <;> omega
      have e3 : shLow c = 128 := by simp only [shLow]; repeat' split <;> omega
      have e4 : shHigh c = 191 := by simp only [shHigh]; repeat' split <;> omega
      cases t with
      | nil => simp [nx, e, nxGo] at h
      | cons d t =>
        have hd := hl d (by simp)
        simp only [nx, e, e2, e3, e4, nxGo, show (2 - 1 : Int).toNat = 1 from rfl] at h
        rw [if_neg (by omega)] at h
        split at h
        · cases h; exact .inl ⟨rfl, rfl, by simp⟩
        · cases h
          right
          have q : enc (c % 32 * 64 + d % 64) = [c, d] := by
            unfold enc
            rw [if_neg (by omega), if_pos (by omega)]
            congr 1
            · omega
            · congr 1; omega
          exact ⟨⟨by omega, by omega, .inl (by omega)⟩, by rw [q]; rfl, by rw [q]; rfl⟩
    · have e2 : shBits c = c % 16 := by simp only [shBits]; repeat' split <;> omega
      have e3 : (c = 224 ∧ shLow c = 160) ∨ (c ≠ 224 ∧ shLow c = 128) := by simp only [shLow]; repeat' split <;> omega
      have e4 : (c = 237 ∧ shHigh c = 159) ∨ (c ≠ 237 ∧ shHigh c = 191) := by simp only [shHigh]; repeat' split <;> omega
      cases t with
      | nil => simp [nx, e, nxGo] at h
      | cons d t =>
        have hd := hl d (by simp)
        simp only [nx, e, e2, nxGo, show (3 - 1 : Int).toNat = 2 from rfl] at h
        rw [if_neg (by omega)] at h
        split at h
        · cases h; exact .inl ⟨rfl, rfl, by simp⟩
        · cases t with
          | nil => simp [nxGo] at h
          | cons f t =>
            have hf := hl f (by simp)
            simp only [nxGo] at h
            split at h
            · cases h; exact .inl ⟨rfl, rfl, by simp⟩
            · cases h
              right
              have q : enc ((c % 16 * 64 + d % 64) * 64 + f % 64) = [c, d, f] := by
                unfold enc
                rw [if_neg (by omega), if_neg (by omega), if_pos (by omega)]
                congr 1
                · omega
                · congr 1
                  · omega
                  · congr 1; omega
              exact ⟨⟨by omega, by omega, by omega⟩, by rw [q]; rfl, by rw [q]; rfl⟩
    · have e2 : shBits c = c % 8 := by simp only [shBits]; repeat' split <;> omega
      have e3 : (c = 240 ∧ shLow c = 144) ∨ (c ≠ 240 ∧ shLow c = 128) := by simp only [shLow]; repeat' split <;> omega
      have e4 : (c = 244 ∧ shHigh c = 143) ∨ (c ≠ 244 ∧ shHigh c = 191) := by simp only [shHigh]; repeat' split <;> omega
      cases t with
      | nil => simp [nx, e, nxGo] at h
      | cons d t =>
        have hd := hl d (by simp)
        simp only [nx, e, e2, nxGo, show (4 - 1 : Int).toNat = 3 from rfl] at h
        rw [if_neg (by omega)] at h
        split at h
        · cases h; exact .inl ⟨rfl, rfl, by simp⟩
        · cases t with
          | nil => simp [nxGo] at h
          | cons f t =>
            have hf := hl f (by simp)
            simp only [nxGo] at h
            split at h
            · cases h; exact .inl ⟨rfl, rfl, by simp⟩
            · cases t with
              | nil => simp [nxGo] at h
              | cons g t =>
                have hg := hl g (by simp)
                simp only [nxGo] at h
                split at h
                · cases h; exact .inl ⟨rfl, rfl, by simp⟩
                · cases h
                  right
                  have q : enc (((c % 8 * 64 + d % 64) * 64 + f % 64) * 64 + g % 64) = [c, d, f, g] := by
                    unfold enc
                    rw [if_neg (by omega), if_neg (by omega), if_neg (by omega)]
                    congr 1
                    · omega
                    · congr 1
                      · omega
                      · congr 1
                        · omega
                        · congr 1; omega
                  exact ⟨⟨by omega, by omega, by omega⟩, by rw [q]; rfl, by rw [q]; rfl⟩
def stp (l : List Int) : Int × Int := if (nx l).2.2 = true then (65533, 1) else ((nx l).1, (nx l).2.1)
theorem stp_pos {l : List Int} (hl : Byt l) : isR (stp l).1 ∧ 1 ≤ (stp l).2 ∧ (stp l).2 ≤ 4 ∧ (1 ≤ l.length → (stp l).2 ≤ l.length) := by
  have hb : isR 65533 := ⟨by omega, by omega, .inr (by omega)⟩
  unfold stp
  by_cases h : (nx l).2.2 = true
  · rw [if_pos h]; exact ⟨hb, by simp, by simp, fun h => by dsimp only; omega⟩
  · rw [if_neg h]
    have e : nx l = ((nx l).1, (nx l).2.1, false) := by
      have : (nx l).2.2 = false := by simpa using h
      rw [← this]
    rcases nx_inv hl e with ⟨h1, h2, h3⟩ | ⟨h1, h2, h3⟩
    · dsimp only
      rw [h1, h2]
      exact ⟨hb, by omega, by omega, fun h => by omega⟩
    · have := enc_len (v := (nx l).1)
      have hlen := congrArg List.length h2
      rw [List.length_append, List.length_drop] at hlen
      dsimp only
      exact ⟨h1, by omega, by omega, fun h => by omega⟩
def ps (l : List Int) : Nat → Nat
  | 0 => 0
  | k + 1 => ps l k + (stp (l.drop (ps l k))).2.toNat
def rn (l : List Int) (k : Nat) : Int := (stp (l.drop (ps l k))).1
def rs (l : List Int) (k : Nat) : List Int := (List.range k).map (rn l)
def pp (l : List Int) (k : Nat) : List Int := (List.range k).map fun i => (ps l i : Int)
theorem rs_succ (l : List Int) (k : Nat) : rs l (k + 1) = rs l k ++ [rn l k] := by simp [rs, List.range_succ]
theorem pp_succ (l : List Int) (k : Nat) : pp l (k + 1) = pp l k ++ [(ps l k : Int)] := by simp [pp, List.range_succ]
theorem rs_len (l : List Int) (k : Nat) : (rs l k).length = k := by simp [rs]
theorem pp_len (l : List Int) (k : Nat) : (pp l k).length = k := by simp [pp]
theorem rn_R {l : List Int} (hl : Byt l) (k : Nat) : isR (rn l k) := (stp_pos (drop_byt hl)).1
theorem ps_step {l : List Int} (hl : Byt l) (k : Nat) : ps l k < ps l (k + 1) ∧ ps l (k + 1) ≤ ps l k + 4 ∧ (ps l k < l.length → ps l (k + 1) ≤ l.length) := by
  have h := stp_pos (drop_byt hl (n := ps l k))
  rw [ps]
  refine ⟨by omega, by omega, fun hk => ?_⟩
  have := h.2.2.2 (by rw [List.length_drop]; omega)
  rw [List.length_drop] at this
  omega
theorem ps_lt {l : List Int} (hl : Byt l) : ∀ (j i : Nat), ps l i + j ≤ ps l (i + j)
  | 0, i => Nat.le_refl _
  | j + 1, i => by
    have := ps_lt hl j i
    have := (ps_step hl (i + j)).1
    rw [show i + (j + 1) = (i + j) + 1 by omega]
    omega
theorem ps_ge {l : List Int} (hl : Byt l) (k : Nat) : k ≤ ps l k := by have := ps_lt hl k 0; simp [ps] at this; omega
theorem ps_mono {l : List Int} (hl : Byt l) {i k : Nat} (h : i < k) : ps l i < ps l k := by have := ps_lt hl (k - i) i; rw [show i + (k - i) = k by omega] at this; omega
theorem ps_inj {l : List Int} (hl : Byt l) {i k : Nat} (h : ps l i = ps l k) : i = k := by
  have a : ¬ i < k := fun q => by have := ps_mono hl q; omega
  have b : ¬ k < i := fun q => by have := ps_mono hl q; omega
  omega
theorem bytes_str {l : List Int} (hl : Byt l) : bytesOf (strOf l) = l := by
  unfold bytesOf strOf
  simp only [List.map_map]
  conv => rhs; rw [← List.map_id l]
  refine List.map_congr_left fun c hc => ?_
  have := hl c hc
  simp only [Function.comp, UInt8.toNat_ofNat', id]
  omega
theorem str_size (l : List Int) : (strOf l).size = l.length := by simp [strOf, ByteArray.size]
end Go.Proofs.YtenjkphlbdhaiaaGreat
end
section
namespace Go.Proofs.YtenjkphlbdhaiaaGreat
open Go Go.Eng
def inP (l : List (Int × Int)) (r : Int) : Bool := l.any fun p => decide (p.1 ≤ r) && decide (r ≤ p.2)
def wiP : List (Int × Int) → Int → Bool
  | [], _ => false
  | p :: l, a => if a < p.1 then false else if a ≤ p.2 then true else wiP l a
def flat : List (Int × Int) → List Int
  | [] => []
  | p :: l => p.1 :: p.2 :: flat l
def asc : List (Int × Int) → Bool
  | p :: q :: l => decide (p.1 ≤ q.1) && asc (q :: l)
  | _ => true
theorem flat_len : ∀ l, (flat l).length = 2 * l.length
  | [] => rfl
  | _ :: l => by simp only [flat, List.length_cons, flat_len l]; omega
theorem flat_0 : ∀ (l : List (Int × Int)) (j : Nat), (flat l).getD (2 * j) 0 = (l.getD j (0, 0)).1
  | [], j => by simp [flat]
  | p :: l, 0 => rfl
  | p :: l, j + 1 => by
    have := flat_0 l j
    rw [show 2 * (j + 1) = 2 * j + 1 + 1 by omega]
    simpa [flat] using this
theorem flat_1 : ∀ (l : List (Int × Int)) (j : Nat), (flat l).getD (2 * j + 1) 0 = (l.getD j (0, 0)).2
  | [], j => by simp [flat]
  | p :: l, 0 => rfl
  | p :: l, j + 1 => by
    have := flat_1 l j
    rw [show 2 * (j + 1) + 1 = 2 * j + 1 + 1 + 1 by omega]
    simpa [flat] using this
theorem asc_tail {p : Int × Int} {l : List (Int × Int)} (h : asc (p :: l) = true) : asc l = true := by
  cases l with
  | nil => rfl
  | cons q l => simp only [asc, Bool.and_eq_true] at h; exact h.2
theorem asc_low {a : Int} : ∀ {l : List (Int × Int)} {p : Int × Int}, asc (p :: l) = true → a < p.1 → inP l a = false
  | [], _, _, _ => rfl
  | q :: l, p, h, ha => by
    have h1 : p.1 ≤ q.1 := by simp only [asc, Bool.and_eq_true, decide_eq_true_eq] at h; exact h.1
    have := asc_low (asc_tail h) (show a < q.1 by omega)
    show ((decide (q.1 ≤ a) && decide (a ≤ q.2)) || inP l a) = false
    rw [this, decide_eq_false (by omega)]
    rfl
theorem wi_in {a : Int} : ∀ {l : List (Int × Int)}, asc l = true → wiP l a = inP l a
  | [], _ => rfl
  | p :: l, h => by
    show (if a < p.1 then false else if a ≤ p.2 then true else wiP l a) = ((decide (p.1 ≤ a) && decide (a ≤ p.2)) || inP l a)
    split
    · rename_i h1
      rw [asc_low h h1, decide_eq_false (by omega)]; rfl
    · split
      · rw [decide_eq_true (by omega), decide_eq_true (by assumption)]; rfl
      · rename_i h1 h2
        rw [wi_in (asc_tail h), decide_eq_false h2, Bool.and_false, Bool.false_or]
theorem pdrop {l : List (Int × Int)} {j : Nat} (h : j < l.length) : l.drop j = l.getD j (0, 0) :: l.drop (j + 1) := by
  rw [List.drop_eq_getElem_cons h, List.getD_eq_getElem?_getD, List.getElem?_eq_getElem h]; rfl
theorem wi_loop {l : List (Int × Int)} {a0 : Int} (hn : l.length ≤ 100000) : Gives (loopO (σ := Int) (ρ := (Bool) ⊕ (Unit)) (fun s674 =>
          ck (inR .i64 (s674 + 1)) <|
          if (s674 + 1) < (((flat l).length : Nat) : Int) then
            (
              ck (0 ≤ s674 ∧ s674 < (((flat l).length : Nat) : Int)) <|
              ck (inR .i64 (s674 + 1)) <|
              ck (0 ≤ s674 + 1 ∧ s674 + 1 < (((flat l).length : Nat) : Int)) <|
              if a0 < ((flat l).getD s674.toNat 0) then
                some (.out (.inl (false)))
              else
                (
                  if a0 ≤ ((flat l).getD (s674 + 1).toNat 0) then
                    some (.out (.inl (true)))
                  else
                    (
                      ck (inR .i64 (s674 + 2)) <|
                      some (.go (s674 + 2))
                    )
                )
            )
          else
            some (.out (.inr (())))
        ) 0) (fun o => (o = .inl true ∧ wiP l a0 = true) ∨ ((o = .inl false ∨ o = .inr ()) ∧ wiP l a0 = false)) := by
  have hl := flat_len l
  refine g_loop (fun s : Int => ∃ j : Nat, s = 2 * (j : Int) ∧ j ≤ l.length ∧ wiP l a0 = wiP (l.drop j) a0) (fun s : Int => (2 * (l.length : Int) - s).toNat) ?_ ⟨0, rfl, Nat.zero_le _, rfl⟩
  rintro s ⟨j, rfl, hj, hw⟩
  refine g_i64 (by omega) (g_if (fun h => ?_) fun h => ?_)
  · have hlt : j < l.length := by omega
    have e0 : (2 * (j : Int)).toNat = 2 * j := by omega
    have e1 : (2 * (j : Int) + 1).toNat = 2 * j + 1 := by omega
    rw [e0, e1, flat_0, flat_1]
    rw [pdrop hlt] at hw
    simp only [wiP] at hw
    refine g_ck (by omega) (g_i64 (by omega) (g_ck (by omega) (g_if (fun h1 => g_out (.inr ⟨.inl rfl, by rw [hw, if_pos h1]⟩)) fun h1 => g_if (fun h2 => g_out (.inl ⟨rfl, by rw [hw, if_neg h1, if_pos h2]⟩)) fun h2 => g_i64 (by omega) (g_go ⟨j + 1, by show (2 * (j : Int) + 2) = _; omega, by omega, by rw [hw, if_neg h1, if_neg h2]⟩ ?_))))
    show (_ - (_ + 2) : Int).toNat < (_ - _ : Int).toNat
    omega
  · have : l.length ≤ j := by omega
    rw [List.drop_eq_nil_of_le this] at hw
    exact g_out (.inr ⟨.inr rfl, hw⟩)
def mkL : List (Int × Int) := [(768, 879), (1155, 1161), (1425, 1469), (1471, 1471), (1473, 1474), (1476, 1477), (1479, 1479), (1552, 1562), (1611, 1631), (1648, 1648), (1750, 1756), (1759, 1764), (1767, 1768), (1770, 1773), (3633, 3633), (3636, 3642), (3655, 3662), (6832, 6911), (7616, 7679), (8203, 8207), (8288, 8292), (8400, 8432), (12330, 12333), (12441, 12442), (65024, 65039), (65056, 65071), (65279, 65279), (917760, 917999)]
def wdL : List (Int × Int) := [(4352, 4447), (8986, 8987), (9001, 9002), (9193, 9196), (9200, 9200), (9203, 9203), (9725, 9726), (9748, 9749), (9800, 9811), (9855, 9855), (9875, 9875), (9889, 9889), (9898, 9899), (9917, 9918), (9924, 9925), (9934, 9934), (9940, 9940), (9962, 9962), (9970, 9971), (9973, 9973), (9978, 9978), (9981, 9981), (9989, 9989), (9994, 9995), (10024, 10024), (10060, 10060), (10062, 10062), (10067, 10069), (10071, 10071), (10133, 10135), (10160, 10160), (10175, 10175), (11035, 11036), (11088, 11088), (11093, 11093), (11904, 12350), (12353, 19903), (19968, 42191), (43360, 43391), (44032, 55203), (63744, 64255), (65040, 65049), (65072, 65135), (65281, 65376), (65504, 65510), (127744, 128591), (128640, 128767), (129280, 129535), (129648, 129791), (131072, 196605), (196608, 262141)]
theorem g92_eq : g92 = some mkL := rfl
theorem g93_eq : g93 = some wdL := rfl
set_option maxRecDepth 100000 in
theorem g103_eq : g103 = some (flat mkL) := rfl
set_option maxRecDepth 100000 in
theorem g100_eq : g100 = some (flat wdL) := rfl
theorem mk_asc : asc mkL = true := by kernel_rfl
theorem wd_asc : asc wdL = true := by kernel_rfl
theorem mk_len : mkL.length ≤ 1000 := by decide
theorem wd_len : wdL.length ≤ 1000 := by decide
def ctl (a : Int) : Prop := (0 ≤ a ∧ a ≤ 31) ∨ (127 ≤ a ∧ a ≤ 159)
instance (a : Int) : Decidable (ctl a) := by unfold ctl; infer_instance
def wof (a : Int) : Int := if ¬ isR a ∨ ctl a ∨ inP mkL a = true then 0 else if inP wdL a = true then 2 else 1
def isMk (a : Int) : Prop := wof a = 0 ∧ isR a ∧ ¬ ctl a
instance (a : Int) : Decidable (isMk a) := by unfold isMk; infer_instance
theorem ctl_go {a : Int} : Gives (if 0 ≤ a then (if a ≤ 31 then some true else (if 127 ≤ a then some (decide (a ≤ 159)) else some false)) else (if 127 ≤ a then some (decide (a ≤ 159)) else some false)) fun v => v = decide (ctl a) := by
  refine g_if (fun h1 => g_if (fun h2 => g_some ?_) fun h2 => g_if (fun h3 => g_some ?_) fun h3 => g_some ?_) fun h1 => g_if (fun h3 => g_some ?_) fun h3 => g_some ?_
  · rw [eq_comm, decide_eq_true_eq]; exact .inl ⟨h1, h2⟩
  · rw [decide_eq_decide]; unfold ctl; omega
  · rw [eq_comm, decide_eq_false_iff_not]; unfold ctl; omega
  · rw [decide_eq_decide]; unfold ctl; omega
  · rw [eq_comm, decide_eq_false_iff_not]; unfold ctl; omega
theorem g74_eq (a : Int) : g74 a = some (decide (ctl a)) := g_eq (by unfold g74; exact ctl_go)
theorem g83_eq (a : Int) : g83 a = some (decide (ctl a)) := g_eq (by unfold g83; exact ctl_go)
theorem g64_eq (a : Int) : g64 a = some (decide (ctl a)) := g_eq (by unfold g64; exact ctl_go)
theorem isr_go {a : Int} : Gives (if 0 ≤ a then (if a ≤ 1114111 then (if a < 55296 then some true else some (decide (57343 < a))) else some false) else some false) fun v => v = decide (isR a) := by
  refine g_if (fun a => g_if (fun b => g_if (fun c => g_some ?_) fun c => g_some ?_) fun b => g_some ?_) fun a => g_some ?_
  · rw [eq_comm, decide_eq_true_eq]; exact ⟨a, b, .inl c⟩
  · rw [decide_eq_decide]; exact ⟨fun x => ⟨a, b, .inr x⟩, fun x => x.2.2.resolve_left c⟩
  · rw [eq_comm, decide_eq_false_iff_not]; exact fun x => b x.2.1
  · rw [eq_comm, decide_eq_false_iff_not]; exact fun x => a x.1
theorem g84_eq (a : Int) : g84 a = some (decide (isR a)) := g_eq (by unfold g84; exact isr_go)
theorem g73_eq (a : Int) : g73 a = some (decide (isR a)) := by
  refine g_eq ?_
  unfold g73
  refine g_if (fun a => g_if (fun b => g_if (fun c => g_some ?_) fun c => g_some ?_) fun b => g_some ?_) fun a => g_some ?_
  · rw [decide_eq_decide]; exact ⟨fun x => ⟨a, b, .inr (by omega)⟩, fun x => by have := x.2.2; omega⟩
  · rw [eq_comm, decide_eq_true_eq]; exact ⟨a, b, .inl (by omega)⟩
  · rw [eq_comm, decide_eq_false_iff_not]; exact fun x => b x.2.1
  · rw [eq_comm, decide_eq_false_iff_not]; exact fun x => a x.1
theorem g91_eq {l : List (Int × Int)} (a : Int) (hn : l.length ≤ 100000) : g91 l a = some (inP l a) := by
  refine g_eq ?_
  unfold g91
  refine g_jo (g_bind (g_loop (R := fun o => (∃ u, o = .inl u ∧ inP l a = true) ∨ ∃ u, o = .inr u ∧ inP l a = false) (fun i : Int => 0 ≤ i ∧ i ≤ l.length ∧ inP l a = inP (l.drop i.toNat) a) (fun i : Int => ((l.length : Int) - i).toNat) ?_ ⟨Int.le_refl _, by omega, rfl⟩) ?_)
  · rintro i ⟨h0, h1, h2⟩
    have nx : ∀ (hi : i < l.length), ¬ ((l.getD i.toNat (0, 0)).1 ≤ a ∧ a ≤ (l.getD i.toNat (0, 0)).2) → inP l a = inP (l.drop (i + 1).toNat) a := fun hi hc => by
      rw [h2, pdrop (by omega), show (i + 1).toNat = i.toNat + 1 by omega]
      show ((decide (_ ≤ a) && decide (a ≤ _)) || inP _ a) = _
      by_cases c1 : (l.getD i.toNat (0, 0)).1 ≤ a
      · rw [decide_eq_false (p := a ≤ _) (fun c2 => hc ⟨c1, c2⟩), Bool.and_false, Bool.false_or]
      · rw [decide_eq_false (p := _ ≤ a) c1, Bool.false_and, Bool.false_or]
    have go : ∀ (hi : i < l.length), ¬ ((l.getD i.toNat (0, 0)).1 ≤ a ∧ a ≤ (l.getD i.toNat (0, 0)).2) → (0 ≤ i + 1 ∧ i + 1 ≤ l.length ∧ inP l a = inP (l.drop (i + 1).toNat) a) ∧ ((l.length : Int) - (i + 1)).toNat < ((l.length : Int) - i).toNat := fun hi hc => ⟨⟨by omega, by omega, nx hi hc⟩, by omega⟩
    refine g_if (fun hi => g_ck (by omega) (g_if (fun c1 => g_ck (by omega) (g_if (fun c2 => g_out (.inl ⟨_, rfl, ?_⟩)) fun c2 => g_i64 (by omega) (g_go (go hi fun c => c2 c.2).1 (go hi fun c => c2 c.2).2))) fun c1 => g_i64 (by omega) (g_go (go hi fun c => c1 c.1).1 (go hi fun c => c1 c.1).2))) fun hi => g_out (.inr ⟨_, rfl, ?_⟩)
    · rw [h2, pdrop (by omega)]
      show ((decide (_ ≤ a) && decide (a ≤ _)) || inP _ a) = true
      rw [decide_eq_true (p := (l.getD i.toNat (0, 0)).1 ≤ a) c1, decide_eq_true (p := a ≤ (l.getD i.toNat (0, 0)).2) c2]; rfl
    · rw [h2, List.drop_eq_nil_of_le (by omega)]; rfl
  · intro o ho
    refine g_sm (fun v hv => ?_) fun r hr => ?_
    · rcases ho with ⟨v', e, h'⟩ | ⟨v', e, h'⟩ <;> rw [e] at hv <;> cases hv
      exact g_some h'.symm
    · rcases ho with ⟨v', e, h'⟩ | ⟨v', e, h'⟩ <;> rw [e] at hr <;> cases hr
      exact g_some h'.symm
theorem g75_eq (a : Int) : g75 a = some (inP mkL a) := by
  unfold g75
  rw [g92_eq, Option.bind_some, g91_eq a (by have := mk_len; omega), Option.bind_some]
theorem g76_eq (a : Int) : g76 a = some (!inP mkL a && inP wdL a) := by
  unfold g76
  rw [g75_eq, Option.bind_some, g93_eq, Option.bind_some, g91_eq a (by have := wd_len; omega), Option.bind_some]
  cases inP mkL a <;> rfl
theorem g62_eq (a : Int) : g62 a = some (wof a) := by
  unfold g62 wof
  rw [g73_eq, Option.bind_some, g74_eq, Option.bind_some, g75_eq, Option.bind_some, g76_eq, Option.bind_some]
  by_cases h1 : isR a
  · by_cases h2 : ctl a
    · simp [h1, h2]
    · cases h3 : inP mkL a
      · cases h4 : inP wdL a <;> simp [h1, h2]
      · simp [h1, h2]
  · simp [h1]
theorem g69_eq (a : Int) : g69 a = some (decide (isMk a)) := by
  unfold g69 isMk
  rw [g62_eq, Option.bind_some, g81_eq, Option.bind_some, g83_eq, Option.bind_some]
  by_cases h1 : wof a = 0 <;> by_cases h2 : isR a <;> by_cases h3 : ctl a <;> simp [h1, h2, h3]
theorem g85_eq (a : Int) : g85 a = some (inP mkL a) := by
  refine g_eq ?_
  unfold g85
  rw [g103_eq, Option.bind_some]
  rw [← wi_in mk_asc]
  refine g_jo (g_bind (wi_loop (l := mkL) (a0 := a) (by have := mk_len; omega)) ?_)
  intro o ho
  refine g_sm (fun v hv => ?_) fun r hr => ?_
  · rcases ho with ⟨e, h⟩ | ⟨e | e, h⟩ <;> rw [e] at hv <;> cases hv
    · exact g_some h.symm
    · exact g_some h.symm
  · rcases ho with ⟨e, h⟩ | ⟨e | e, h⟩ <;> rw [e] at hr <;> cases hr
    exact g_some h.symm
theorem g71_eq (a : Int) : g71 a = some (wof a) := by
  refine g_eq ?_
  unfold g71
  simp only [g84_eq, g64_eq, g85_eq, g100_eq, Option.bind_some]
  refine g_jn (fun v => v = decide (¬ isR a ∨ ctl a ∨ inP mkL a = true)) (fun k hk => ?_) ?_
  · refine g_if (fun h => hk _ ?_) fun h => g_if (fun h2 => hk _ ?_) fun h2 => hk _ ?_
    · simp at h; simp [h]
    · simp at h2; simp [h2]
    · simp at h h2; simp [h, h2]
  · rintro _ rfl
    unfold wof
    refine g_if (fun h => g_some ?_) fun h => ?_
    · rw [if_pos (by simpa using h)]
    · rw [if_neg (by simpa using h), ← wi_in wd_asc]
      refine g_jo (g_bind (wi_loop (l := wdL) (a0 := a) (by have := wd_len; omega)) ?_)
      intro o ho
      refine g_sm (fun v hv => ?_) fun r hr => ?_
      · rcases ho with ⟨e, h⟩ | ⟨e | e, h⟩ <;> rw [e] at hv <;> cases hv
        · exact g_if (fun _ => g_some (by rw [h]; rfl)) fun h' => absurd rfl h'
        · exact g_if (fun h' => by cases h') fun _ => g_some (by rw [h]; rfl)
      · rcases ho with ⟨e, h⟩ | ⟨e | e, h⟩ <;> rw [e] at hr <;> cases hr
        exact g_some (by rw [h]; rfl)
theorem g80_eq (a : Int) : g80 a = some (decide (isMk a)) := by
  refine g_eq ?_
  unfold g80 isMk
  rw [g71_eq, Option.bind_some, g64_eq, Option.bind_some]
  refine g_if (fun h => g_some (by simp [h])) fun h => g_if (fun h2 => g_some (by simp at h2; simp [h2])) fun h2 => ?_
  simp at h h2
  have := isr_go (a := a)
  obtain ⟨v, hv, e⟩ := this
  exact ⟨v, hv, by rw [e]; simp [h, h2]⟩
theorem g78_eq (a : Int) : g78 a = some (decide (0 < wof a)) := by
  unfold g78
  rw [g71_eq, Option.bind_some]
end Go.Proofs.YtenjkphlbdhaiaaGreat
end
section
namespace Go.Proofs.YtenjkphlbdhaiaaGreat
open Go Go.Eng
theorem stp_enc {v : Int} (h : isR v) (t : List Int) : stp (enc v ++ t) = (v, ((enc v).length : Int)) := by
  unfold stp
  rw [nx_enc h t]
  rfl
def encs (R : List Int) : List Int := R.flatMap enc
theorem encs_cons (r : Int) (R : List Int) : encs (r :: R) = enc r ++ encs R := rfl
theorem encs_app (R T : List Int) : encs (R ++ T) = encs R ++ encs T := by simp [encs]
theorem encs_byt {R : List Int} (h : ∀ r ∈ R, isR r) : Byt (encs R) := fun c hc => by
  obtain ⟨r, hr, hc⟩ := List.mem_flatMap.1 hc
  exact enc_byt (h r hr) c hc
theorem ps_encs {R : List Int} (h : ∀ r ∈ R, isR r) : ∀ k, k ≤ R.length → ps (encs R) k = (encs (R.take k)).length
  | 0, _ => by simp [ps, encs]
  | k + 1, hk => by
    have ih := ps_encs h k (by omega)
    have e : encs R = encs (R.take k) ++ encs (R.drop k) := by rw [← encs_app, List.take_append_drop]
    have hd : (encs R).drop (ps (encs R) k) = encs (R.drop k) := by
      rw [ih]
      conv => lhs; rw [e]
      exact List.drop_left
    have hlt : k < R.length := by omega
    have hd2 : R.drop k = R[k] :: R.drop (k + 1) := List.drop_eq_getElem_cons hlt
    have hR : isR R[k] := h _ (List.getElem_mem _)
    show ps (encs R) k + (stp ((encs R).drop (ps (encs R) k))).2.toNat = _
    rw [hd, hd2, encs_cons, stp_enc hR, ih, List.take_add_one, encs_app, List.length_append, List.getElem?_eq_getElem hlt]
    simp [encs]
theorem rs_encs {R : List Int} (h : ∀ r ∈ R, isR r) : ps (encs R) R.length = (encs R).length ∧ rs (encs R) R.length = R := by
  refine ⟨by rw [ps_encs h _ (Nat.le_refl _), List.take_length], ?_⟩
  refine List.ext_getElem (by rw [rs_len]) fun k h1 h2 => ?_
  have hd : (encs R).drop (ps (encs R) k) = encs (R.drop k) := by
    have e : encs R = encs (R.take k) ++ encs (R.drop k) := by rw [← encs_app, List.take_append_drop]
    rw [ps_encs h k (by omega)]
    conv => lhs; rw [e]
    exact List.drop_left
  have hd2 : R.drop k = R[k] :: R.drop (k + 1) := List.drop_eq_getElem_cons h2
  simp only [rs, List.getElem_map, List.getElem_range]
  show (stp ((encs R).drop (ps (encs R) k))).1 = _
  rw [hd, hd2, encs_cons, stp_enc (h _ (List.getElem_mem _))]
def cstep (out : List (List Int)) (r : Int) : List (List Int) :=
  if 0 < wof r then out ++ [enc r]
  else if isMk r ∧ out ≠ [] ∧ (out.getLastD []).length + (enc r).length ≤ 64 then out.dropLast ++ [out.getLastD [] ++ enc r]
  else out
def cuts (R : List Int) : List (List Int) := R.foldl cstep []
def Cl (c : List Int) (R : List Int) : Prop := c = encs R ∧ (∀ r ∈ R, isR r) ∧ c.length ≤ 64 ∧ ∃ b M, R = b :: M ∧ 0 < wof b ∧ ∀ m ∈ M, isMk m
theorem cl_marks {out : List (List Int)} : ∀ {M : List Int} {c : List Int}, (∀ m ∈ M, isMk m) → (c ++ encs M).length ≤ 64 → M.foldl cstep (out ++ [c]) = out ++ [c ++ encs M]
  | [], c, _, _ => by simp [encs]
  | m :: M, c, h, hl => by
    have hm := h m (.head _)
    rw [encs_cons, ← List.append_assoc] at hl ⊢
    have h1 : cstep (out ++ [c]) m = out ++ [c ++ enc m] := by
      unfold cstep
      have h64 : ((out ++ [c]).getLastD []).length + (enc m).length ≤ 64 := by
        rw [List.length_append, List.length_append] at hl
        simp only [List.getLastD_concat]
        omega
      rw [if_neg (by rw [hm.1]; omega), if_pos ⟨hm, by simp, h64⟩]
      simp
    rw [List.foldl_cons, h1]
    exact cl_marks (fun x hx => h x (.tail _ hx)) hl
theorem cl_fold {out : List (List Int)} {c R : List Int} (h : Cl c R) : R.foldl cstep out = out ++ [c] := by
  obtain ⟨rfl, _, hl, b, M, rfl, hb, hM⟩ := h
  rw [List.foldl_cons]
  have h1 : cstep out b = out ++ [enc b] := by unfold cstep; rw [if_pos hb]
  rw [h1, encs_cons]
  exact cl_marks hM hl
theorem cl_cuts {c R : List Int} (h : Cl c R) : cuts R = [c] := cl_fold h
def AllCl (out : List (List Int)) : Prop := ∀ c ∈ out, ∃ R, Cl c R
theorem enc_len4 {v : Int} : 1 ≤ (enc v).length ∧ (enc v).length ≤ 4 := enc_len
theorem cstep_cl {out : List (List Int)} {r : Int} (h : AllCl out) (hr : isR r) : AllCl (cstep out r) := by
  have hl := @enc_len r
  unfold cstep
  split
  · rename_i hw
    intro c hc
    rcases List.mem_append.1 hc with hc | hc
    · exact h c hc
    · rw [List.mem_singleton.1 hc]
      exact ⟨[r], by simp [encs], fun x hx => by rw [List.mem_singleton.1 hx]; exact hr, by omega, r, [], rfl, hw, fun m hm => by cases hm⟩
  · split
    · rename_i hm
      obtain ⟨hm, hne, hs⟩ := hm
      intro c hc
      rcases List.mem_append.1 hc with hc | hc
      · exact h c (List.dropLast_subset _ hc)
      · rw [List.mem_singleton.1 hc]
        have hlast : out.getLastD [] ∈ out := by
          rw [List.getLastD_eq_getLast?, List.getLast?_eq_some_getLast hne]
          exact List.getLast_mem hne
        obtain ⟨R, h1, h2, h3, b, M, h4, h5, h6⟩ := h _ hlast
        refine ⟨R ++ [r], ?_, fun x hx => ?_, by rw [List.length_append]; exact hs, b, M ++ [r], by rw [h4]; rfl, h5, fun m hm' => ?_⟩
        · rw [encs_app, ← h1]; simp [encs]
        · rcases List.mem_append.1 hx with hx | hx
          · exact h2 x hx
          · rw [List.mem_singleton.1 hx]; exact hr
        · rcases List.mem_append.1 hm' with hx | hx
          · exact h6 m hx
          · rw [List.mem_singleton.1 hx]; exact hm
    · exact h
theorem cuts_cl' : ∀ {R : List Int} {out : List (List Int)}, AllCl out → (∀ r ∈ R, isR r) → AllCl (R.foldl cstep out)
  | [], _, h, _ => h
  | r :: R, _, h, hR => cuts_cl' (R := R) (cstep_cl h (hR r (.head _))) fun x hx => hR x (.tail _ hx)
theorem cuts_cl {R : List Int} (hR : ∀ r ∈ R, isR r) : AllCl (cuts R) := cuts_cl' (fun c hc => by cases hc) hR
theorem cstep_len (out : List (List Int)) (r : Int) : (cstep out r).length ≤ out.length + 1 := by
  unfold cstep
  split
  · simp
  · split
    · rename_i h
      obtain ⟨_, hne, _⟩ := h
      have : 0 < out.length := List.length_pos_iff.2 hne
      rw [List.length_append, List.length_dropLast, List.length_singleton]
      omega
    · omega
theorem cuts_len' : ∀ (R : List Int) (out : List (List Int)), (R.foldl cstep out).length ≤ out.length + R.length
  | [], out => by simp
  | r :: R, out => by
    have h1 := cstep_len out r
    have h2 := cuts_len' R (cstep out r)
    rw [List.foldl_cons, List.length_cons]
    omega
theorem cuts_len (R : List Int) : (cuts R).length ≤ R.length := by have := cuts_len' R []; simpa [cuts] using this
end Go.Proofs.YtenjkphlbdhaiaaGreat
end
section
namespace Go.Proofs.YtenjkphlbdhaiaaGreat
open Go Go.Eng
theorem drop_all {l : List Int} {k : Nat} : (l.drop k).take (l.length - k) = l.drop k := List.take_of_length_le (by rw [List.length_drop]; omega)
theorem stp_more {l : List Int} (h : (nx l).2.2 = true) : stp l = (65533, 1) := by unfold stp; rw [if_pos h]
theorem stp_else {l : List Int} (h : ¬ (nx l).2.2 = true) : stp l = ((nx l).1, (nx l).2.1) := by unfold stp; rw [if_neg h]
theorem ps_more {l : List Int} {k : Nat} (h : (nx (l.drop (ps l k))).2.2 = true) : rn l k = 65533 ∧ (ps l k : Int) + 1 = (ps l (k + 1) : Nat) := by
  unfold rn; rw [ps, stp_more h]; exact ⟨rfl, by simp⟩
theorem ps_else {l : List Int} (hl : Byt l) {k : Nat} (h : ¬ (nx (l.drop (ps l k))).2.2 = true) : rn l k = (nx (l.drop (ps l k))).1 ∧ (ps l k : Int) + (nx (l.drop (ps l k))).2.1 = (ps l (k + 1) : Nat) := by
  have p := stp_pos (drop_byt hl (n := ps l k))
  unfold rn; rw [ps]
  rw [stp_else h] at p ⊢
  exact ⟨rfl, by dsimp only at p ⊢; omega⟩
theorem norm_of {v : Int} (h : isR v) : norm v = v := by unfold norm; rw [if_pos h]
theorem str_app (a b : List Int) : strOf (a ++ b) = strOf a ++ strOf b := by
  apply ByteArray.ext
  simp [strOf, ByteArray.data_append]
theorem g61_eq {l : List Int} (hl : Byt l) (hn : l.length ≤ 100000) {N : Nat} (hN : ps l N = l.length) : g61 l = some (rs l N, pp l N) := by
  refine g_eq ?_
  unfold g61
  refine g_jo (g_bind (Ω := fun o => o = (rs l N, pp l N)) (g_loop (fun s : List Int × List Int × Int => ∃ k : Nat, s = (rs l k, pp l k, (ps l k : Int)) ∧ ps l k ≤ l.length) (fun s => ((l.length : Int) - s.2.2).toNat) ?_ ⟨0, rfl, Nat.zero_le _⟩) ?_)
  · rintro _ ⟨k, rfl, hk⟩
    dsimp only
    have st := ps_step hl k
    have kl := ps_ge hl k
    refine g_if (fun hlt => g_ck (by omega) ?_) fun hge => g_out (by rw [ps_inj hl (i := k) (k := N) (by omega)])
    simp only [Int.toNat_natCast, drop_all]
    refine g_call (g72_eq (drop_byt hl) (by rw [List.length_drop]; omega)) (g_if (fun h => ?_) fun h => ?_)
    · obtain ⟨r1, r2⟩ := ps_more h
      rw [r2]
      exact g_ck (by rw [rs_len]; omega) (g_ck (by rw [pp_len]; omega) (g_i64 (by omega) (g_go ⟨k + 1, by rw [rs_succ, pp_succ, r1], by omega⟩ (by dsimp only; omega))))
    · obtain ⟨r1, r2⟩ := ps_else hl h
      rw [r2]
      exact g_ck (by rw [rs_len]; omega) (g_ck (by rw [pp_len]; omega) (g_i64 (by omega) (g_go ⟨k + 1, by rw [rs_succ, pp_succ, r1], by omega⟩ (by dsimp only; omega))))
  · rintro _ rfl
    exact g_some rfl
def strs (out : List (List Int)) : List ByteArray := out.map strOf
theorem strs_app (a b : List (List Int)) : strs (a ++ b) = strs a ++ strs b := by simp [strs]
theorem strs_len (a : List (List Int)) : (strs a).length = a.length := by simp [strs]
theorem strs_last {a : List (List Int)} (h : a ≠ []) : (strs a).getD (a.length - 1) default = strOf (a.getLastD []) := by
  obtain ⟨b, x, rfl⟩ : ∃ b x, a = b ++ [x] := ⟨a.dropLast, a.getLast h, (List.dropLast_concat_getLast h).symm⟩
  rw [List.getLastD_concat, strs_app, List.getD_eq_getElem?_getD]
  simp [strs]
theorem strs_set {a : List (List Int)} (h : a ≠ []) (x : List Int) : (strs a).set (a.length - 1) (strOf x) = strs (a.dropLast ++ [x]) := by
  obtain ⟨b, y, rfl⟩ : ∃ b x, a = b ++ [x] := ⟨a.dropLast, a.getLast h, (List.dropLast_concat_getLast h).symm⟩
  rw [strs_app, strs_app]
  simp [strs]
theorem cuts_take {R : List Int} {k : Nat} (h : k < R.length) : cuts (R.take (k + 1)) = cstep (cuts (R.take k)) R[k] := by
  unfold cuts
  rw [List.take_add_one, List.getElem?_eq_getElem h, List.foldl_append]
  rfl
theorem getD_at {R : List Int} {k : Nat} (h : k < R.length) : R.getD k 0 = R[k] := by simp [List.getD_eq_getElem?_getD, List.getElem?_eq_getElem h]
theorem last_le {out : List (List Int)} (h : AllCl out) : (out.getLastD []).length ≤ 64 := by
  by_cases hne : out = []
  · subst hne; simp
  · have hlast : out.getLastD [] ∈ out := by
      rw [List.getLastD_eq_getLast?, List.getLast?_eq_some_getLast hne]
      exact List.getLast_mem hne
    obtain ⟨R, _, _, h3, _⟩ := h _ hlast
    exact h3
theorem rs_R {l : List Int} (hl : Byt l) {N : Nat} : ∀ r ∈ rs l N, isR r := fun r hr => by
  obtain ⟨k, _, rfl⟩ := List.mem_map.1 hr
  exact rn_R hl k
theorem take_R {R : List Int} (hR : ∀ r ∈ R, isR r) {k : Nat} : ∀ r ∈ R.take k, isR r := fun r hr => hR r (List.mem_of_mem_take hr)
theorem g58_eq {l : List Int} (hl : Byt l) (hn : l.length ≤ 100000) {N : Nat} (hN : ps l N = l.length) : g58 (strOf l) = some (strs (cuts (rs l N))) := by
  refine g_eq ?_
  unfold g58
  have hNl : N ≤ l.length := by have := ps_ge hl N; omega
  have hR := rs_R hl (N := N)
  have hlen := rs_len l N
  generalize hRe : rs l N = R at hR hlen
  refine g_ck (by rw [str_size]; omega) (g_call (by rw [bytes_str hl]; exact g61_eq hl hn hN) ?_)
  rw [hRe]
  dsimp only
  refine g_jo (g_bind (Ω := fun o => o = strs (cuts R)) (g_loop (fun s : List ByteArray × Int => ∃ k : Nat, s = (strs (cuts (R.take k)), (k : Int)) ∧ k ≤ R.length) (fun s => ((R.length : Int) - s.2).toNat) ?_ ⟨0, rfl, Nat.zero_le _⟩) ?_)
  · rintro _ ⟨k, rfl, hk⟩
    dsimp only
    refine g_if (fun hlt => ?_) fun hge => g_out (by rw [List.take_of_length_le (by omega)])
    have hkl : k < R.length := by omega
    have hr : isR R[k] := hR _ (List.getElem_mem _)
    have hcl := cuts_cl (take_R hR (k := k))
    have hol : (cuts (R.take k)).length ≤ k := by have := cuts_len (R.take k); rw [List.length_take] at this; omega
    have hll := last_le hcl
    have hel := @enc_len R[k]
    have hstep := cuts_take hkl
    have hgo : (∃ k' : Nat, ((strs (cuts (R.take (k + 1))), (k : Int) + 1) : List ByteArray × Int) = (strs (cuts (R.take k')), (k' : Int)) ∧ k' ≤ R.length) := ⟨k + 1, by rw [Int.natCast_add]; rfl, by omega⟩
    generalize cuts (R.take k) = out at hcl hol hll hstep ⊢
    rw [hstep] at hgo
    have e0 : (k : Int).toNat = k := Int.toNat_natCast k
    rw [e0, getD_at hkl, strs_len]
    have hdec : ((R.length : Int) - ((k : Int) + 1)).toNat < ((R.length : Int) - (k : Int)).toNat := by omega
    refine g_ck (by omega) (g_call (g68_eq _) ?_)
    rw [norm_of hr]
    refine g_ck (enc_byt hr) (g_i64 (by omega) (g_ck (by omega) (g_call (g62_eq _) (g_if (fun hw => ?_) fun hw => ?_))))
    · refine g_ck (by omega) (g_i64 (by omega) (g_go ?_ hdec))
      have : cstep out R[k] = out ++ [enc R[k]] := by unfold cstep; rw [if_pos hw]
      rw [this, strs_app] at hgo
      exact hgo
    · refine g_ck (by omega) (g_call (g69_eq _) (g_if (fun hm => ?_) fun hm => ?_))
      · have hm : isMk R[k] := by simpa using hm
        refine g_if (fun hp => ?_) fun hp => ?_
        · have hne : out ≠ [] := fun e => by rw [e] at hp; simp at hp
          have e1 : ((out.length : Int) - 1).toNat = out.length - 1 := by omega
          have hpos : 0 < out.length := List.length_pos_iff.2 hne
          rw [e1, strs_last hne, str_size, str_size]
          refine g_ck (by omega) (g_i64 (by omega) (g_if (fun hs => ?_) fun hs => ?_))
          · refine g_ck (by omega) (g_ck (by omega) (g_ck (by omega) (g_i64 (by omega) (g_go ?_ hdec))))
            have : cstep out R[k] = out.dropLast ++ [out.getLastD [] ++ enc R[k]] := by unfold cstep; rw [if_neg hw, if_pos ⟨hm, hne, by omega⟩]
            rw [this, ← strs_set hne, str_app] at hgo
            exact hgo
          · refine g_i64 (by omega) (g_go ?_ hdec)
            have : cstep out R[k] = out := by unfold cstep; rw [if_neg hw, if_neg (fun h => hs (by have := h.2.2; omega))]
            rw [this] at hgo
            exact hgo
        · refine g_i64 (by omega) (g_go ?_ hdec)
          have : cstep out R[k] = out := by unfold cstep; rw [if_neg hw, if_neg (fun h => hp (by have := List.length_pos_iff.2 h.2.1; omega))]
          rw [this] at hgo
          exact hgo
      · have hm : ¬ isMk R[k] := by simpa using hm
        refine g_i64 (by omega) (g_go ?_ hdec)
        have : cstep out R[k] = out := by unfold cstep; rw [if_neg hw, if_neg (fun h => hm h.1)]
        rw [this] at hgo
        exact hgo
  · rintro _ rfl
    exact g_some rfl
end Go.Proofs.YtenjkphlbdhaiaaGreat
end
section
namespace Go.Proofs.YtenjkphlbdhaiaaGreat
open Go Go.Eng
theorem ex_N {l : List Int} (hl : Byt l) : ∃ N, ps l N = l.length := by
  have : ∀ (d k : Nat), l.length - ps l k ≤ d → ps l k ≤ l.length → ∃ N, ps l N = l.length := by
    intro d
    induction d with
    | zero => exact fun k h1 h2 => ⟨k, by omega⟩
    | succ d ih =>
      intro k h1 h2
      by_cases e : ps l k = l.length
      · exact ⟨k, e⟩
      · have s := ps_step hl k
        exact ih (k + 1) (by omega) (s.2.2 (by omega))
  exact this l.length 0 (by simp [ps]) (by simp [ps])
def bst (out : List (List Int)) : List ByteArray × List Int × Bool := if out = [] then ([], [], false) else (strs out.dropLast, out.getLastD [], true)
theorem bst_nil : bst [] = ([], [], false) := rfl
theorem bst_some {out : List (List Int)} (h : out ≠ []) : bst out = (strs out.dropLast, out.getLastD [], true) := by unfold bst; rw [if_neg h]
theorem last_byt {out : List (List Int)} (h : AllCl out) : Byt (out.getLastD []) := by
  by_cases hne : out = []
  · subst hne; intro c hc; simp at hc
  · have hlast : out.getLastD [] ∈ out := by
      rw [List.getLastD_eq_getLast?, List.getLast?_eq_some_getLast hne]
      exact List.getLast_mem hne
    obtain ⟨R, h1, h2, _⟩ := h _ hlast
    rw [h1]
    exact encs_byt h2
theorem strs_end {out : List (List Int)} (h : out ≠ []) : strs out.dropLast ++ [strOf (out.getLastD [])] = strs out := by
  obtain ⟨b, y, rfl⟩ : ∃ b x, out = b ++ [x] := ⟨out.dropLast, out.getLast h, (List.dropLast_concat_getLast h).symm⟩
  rw [List.getLastD_concat, List.dropLast_concat, strs_app]
  rfl
theorem g66_eq {out : List (List Int)} (h : AllCl out) (hn : out.length ≤ 200000) : g66 (bst out) = some (strs out, [], false) := by
  refine g_eq ?_
  unfold g66
  by_cases hne : out = []
  · subst hne
    rw [bst_nil]
    exact g_if (fun h => by cases h) fun _ => g_ck (by simp) (g_some rfl)
  · rw [bst_some hne]
    refine g_if (fun _ => g_ck (last_byt h) (g_ck ?_ (g_ck ?_ (g_some ?_)))) fun h => absurd rfl h
    · rw [strs_len, List.length_dropLast]; omega
    · dsimp only; omega
    · dsimp only; rw [strs_end hne]; rfl
theorem g65_eq {out : List (List Int)} {r : Int} (h : AllCl out) (hr : isR r) (hn : out.length ≤ 100000) : g65 (bst out) r = some (bst (cstep out r)) := by
  refine g_eq ?_
  unfold g65
  have hel := @enc_len r
  refine g_call (g78_eq _) (g_if (fun hw => ?_) fun hw => ?_)
  · have hw : 0 < wof r := by simpa using hw
    refine g_call (g66_eq h (by omega)) (g_call (g79_eq _) ?_)
    rw [norm_of hr]
    have hs : cstep out r = out ++ [enc r] := by unfold cstep; rw [if_pos hw]
    refine g_ck (by simp; omega) (g_some ?_)
    rw [hs, bst_some (by simp), List.dropLast_concat, List.getLastD_concat]
    rfl
  · have hw : ¬ 0 < wof r := by simpa using hw
    by_cases hne : out = []
    · subst hne
      have hs : cstep [] r = [] := by unfold cstep; rw [if_neg hw, if_neg (fun h => h.2.1 rfl)]
      rw [hs]
      exact g_if (fun _ => g_some rfl) fun h => absurd (by rw [bst_nil]; exact Bool.false_ne_true) h
    · rw [bst_some hne]
      have hll := last_le h
      refine g_if (fun h => absurd rfl h) fun _ => g_call (g80_eq _) (g_if (fun hm => g_some ?_) fun hm => g_call (g79_eq _) ?_)
      · have hm : ¬ isMk r := by simpa using hm
        have hs : cstep out r = out := by unfold cstep; rw [if_neg hw, if_neg (fun h => hm h.1)]
        rw [hs, bst_some hne]
      · have hm : isMk r := by simpa using hm
        rw [norm_of hr]
        dsimp only
        refine g_i64 (by omega) (g_if (fun hs => g_ck (by omega) (g_some ?_)) fun hs => g_some ?_)
        · have hs : cstep out r = out.dropLast ++ [out.getLastD [] ++ enc r] := by unfold cstep; rw [if_neg hw, if_pos ⟨hm, hne, by omega⟩]
          rw [hs, bst_some (by simp), List.dropLast_concat, List.getLastD_concat]
        · have hs : cstep out r = out := by unfold cstep; rw [if_neg hw, if_neg (fun h => hs (by have := h.2.2; omega))]
          rw [hs, bst_some hne]
theorem cstep_ctl {out : List (List Int)} {r : Int} (h : ctl r) : cstep out r = out := by
  have h0 : wof r = 0 := by unfold wof; rw [if_pos (.inr (.inl h))]
  unfold cstep
  rw [if_neg (by rw [h0]; omega), if_neg (fun h' => h'.1.2.2 h)]
theorem cuts_rs {l : List Int} (k : Nat) : cuts (rs l (k + 1)) = cstep (cuts (rs l k)) (rn l k) := by
  unfold cuts
  rw [rs_succ, List.foldl_append]
  rfl
theorem g56_eq {l : List Int} (hl : Byt l) (hn : l.length ≤ 50000) {N : Nat} (hN : ps l N = l.length) : g56 (strOf l) = some (strs (cuts (rs l N))) := by
  refine g_eq ?_
  unfold g56
  rw [bytes_str hl]
  refine g_jo (g_ck (by rw [str_size]; omega) (g_bind (Ω := fun o => o = bst (cuts (rs l N))) (g_loop (fun s : List ByteArray × List Int × Bool × Int => ∃ k : Nat, (s.1, s.2.1, s.2.2.1) = bst (cuts (rs l k)) ∧ s.2.2.2 = (ps l k : Int) ∧ ps l k ≤ l.length) (fun s => ((l.length : Int) - s.2.2.2).toNat) ?_ ⟨0, rfl, rfl, Nat.zero_le _⟩) ?_))
  · rintro ⟨b1, b2, b3, i⟩ ⟨k, hb, hi, hk⟩
    dsimp only at hb hi ⊢
    subst hi
    have st := ps_step hl k
    have kl := ps_ge hl k
    have hcl := cuts_cl (rs_R hl (N := k))
    have hol : (cuts (rs l k)).length ≤ k := by have := cuts_len (rs l k); rwa [rs_len] at this
    have hrn := rn_R hl k
    refine g_if (fun hlt => g_ck (by omega) ?_) fun hge => g_out (by rw [hb, ps_inj hl (i := k) (k := N) (by omega)])
    simp only [Int.toNat_natCast, drop_all]
    rw [hb]
    have hdone : ctl (rn l k) → (b1, b2, b3) = bst (cuts (rs l (k + 1))) := fun hc => by rw [cuts_rs, cstep_ctl hc]; exact hb
    have hadd : g65 (bst (cuts (rs l k))) (rn l k) = some (bst (cuts (rs l (k + 1)))) := by rw [cuts_rs]; exact g65_eq hcl hrn (by omega)
    refine g_call (g102_eq (drop_byt hl) (by rw [List.length_drop]; omega)) (g_if (fun h => ?_) fun h => ?_)
    · obtain ⟨r1, r2⟩ := ps_more h
      rw [r1] at hdone hadd
      refine g_call (g64_eq _) (g_if (fun hc => ?_) fun hc => ?_)
      · refine g_i64 (by omega) (g_go ⟨k + 1, hdone (by simpa using hc), by dsimp only; omega, by omega⟩ (by dsimp only; omega))
      · exact g_call hadd (g_i64 (by omega) (g_go ⟨k + 1, rfl, by dsimp only; omega, by omega⟩ (by dsimp only; omega)))
    · obtain ⟨r1, r2⟩ := ps_else hl h
      rw [← r1]
      refine g_call (g64_eq _) (g_if (fun hc => ?_) fun hc => ?_)
      · exact g_i64 (by omega) (g_go ⟨k + 1, hdone (by simpa using hc), by dsimp only; omega, by omega⟩ (by dsimp only; omega))
      · exact g_call hadd (g_i64 (by omega) (g_go ⟨k + 1, rfl, by dsimp only; omega, by omega⟩ (by dsimp only; omega)))
  · rintro _ rfl
    have hcl := cuts_cl (rs_R hl (N := N))
    have hol : (cuts (rs l N)).length ≤ N := by have := cuts_len (rs l N); rwa [rs_len] at this
    have kl := ps_ge hl N
    exact g_call (g66_eq hcl (by omega)) (g_some rfl)
theorem g40_cl {c R : List Int} (h : Cl c R) : g40 (strOf c) = some true := by
  refine g_eq ?_
  unfold g40
  have hc := h
  obtain ⟨rfl, hR, hl, _⟩ := h
  have hb := encs_byt hR
  obtain ⟨h1, h2⟩ := rs_encs hR
  refine g_call (g56_eq hb (by omega) h1) ?_
  rw [h2, cl_cuts hc]
  refine g_if (fun _ => g_ck (by simp [strs]) (g_some ?_)) fun h => absurd (by simp [strs]) h
  simp [strs]
end Go.Proofs.YtenjkphlbdhaiaaGreat
end
section
namespace Go.Proofs.YtenjkphlbdhaiaaGreat
open Go Go.Eng
abbrev Bf := Int × List ByteArray × Int × Int
structure Gp (b : Bf) (m : Int) (X G Y : List ByteArray) : Prop where
  e : b = (m, X ++ (G ++ Y), (X.length : Int), ((X.length + G.length : Nat) : Int))
  p0 : 0 < m
  p1 : m ≤ 4096
  pn : X.length + G.length + Y.length ≤ 1000000
variable {b : Bf} {m : Int} {X G Y : List ByteArray}
theorem g39_gp (h : Gp b m X G Y) : g39 b = some true := by
  rw [h.e]; unfold g39; have := h.p0; simp; omega
theorem g41_gp (h : Gp b m X G Y) : g41 b = some ((X.length + Y.length : Nat) : Int) := by
  have hn := h.pn
  rw [h.e]
  refine g_eq ?_
  unfold g41
  dsimp only
  refine g_i64 (by omega) (g_i64 (by simp only [List.length_append]; omega) (g_some ?_))
  simp only [List.length_append]
  omega
def tgt (a : Int) (s : Nat) : Nat := (max 0 (min a (s : Int))).toNat
theorem tgt_le (a : Int) (s : Nat) : tgt a s ≤ s := by unfold tgt; omega
theorem tgt_eq (a : Int) (s : Nat) : ((tgt a s : Nat) : Int) = max 0 (min a (s : Int)) := by unfold tgt; omega
theorem g43_gp (h : Gp b m X G Y) (a : Int) : g43 b a = some (tgt a (X.length + Y.length) : Int) := by
  unfold g43
  rw [g41_gp h, Option.bind_some, tgt_eq, gmax_eq, gmin_eq]
theorem cpy_line {z : ByteArray} (X Y : List ByteArray) : cpy (cpy (List.replicate (X.length + Y.length) z) 0 X X.length) X.length Y Y.length = X ++ Y := by
  unfold cpy
  simp
theorem g34_gp (h : Gp b m X G Y) : g34 b = some (X ++ Y) := by
  have hn := h.pn
  refine g_eq ?_
  unfold g34
  rw [g39_gp h, g41_gp h]
  simp only [Option.bind_some]
  refine g_if (fun h => absurd trivial h) fun _ => ?_
  rw [h.e]
  dsimp only
  have e1 : ((((X.length + Y.length : Nat) : Int)).toNat) = X.length + Y.length := Int.toNat_natCast _
  have e2 : (((X.length + G.length : Nat) : Int)).toNat = X.length + G.length := Int.toNat_natCast _
  have e3 : ((X ++ (G ++ Y)).drop ((0 : Int).toNat)).take (((X.length : Nat) : Int).toNat - (0 : Int).toNat) = X := by simp
  have e4 : ((X ++ (G ++ Y)).drop (X.length + G.length)).take ((((X ++ (G ++ Y)).length : Nat) : Int).toNat - (X.length + G.length)) = Y := by
    rw [← List.append_assoc, ← List.length_append, List.drop_left]
    exact List.take_of_length_le (by simp; omega)
  rw [e3, e1, e2, e4]
  have e5 : min X.length (X.length + Y.length) = X.length := by omega
  rw [e5]
  have e6 : ((X.length : Nat) : Int).toNat = X.length := Int.toNat_natCast _
  rw [e6, e1]
  have e7 : min Y.length (X.length + Y.length - X.length) = Y.length := by omega
  rw [e7, cpy_line]
  refine g_ck (by omega) (g_ck (by simp only [List.length_append]; omega) (g_ck (by omega) (g_ck (by simp only [List.length_append]; omega) (g_some rfl))))
theorem g14_gp (h : Gp b m X G Y) : g14 b = some (X.length : Int) := by
  unfold g14
  rw [g39_gp h]
  rw [h.e]
  rfl
theorem g16_gp (h : Gp b m X G Y) : g16 b = some ((X.length + Y.length : Nat) : Int) := by
  unfold g16
  rw [g39_gp h, g41_gp h]
  rfl
theorem g38_gp (h : Gp b m X G Y) : g38 b = some (m - ((X.length + Y.length : Nat) : Int)) := by
  have hn := h.pn
  have h1 := h.p0
  have h2 := h.p1
  refine g_eq ?_
  unfold g38
  rw [g39_gp h, g41_gp h]
  simp only [Option.bind_some]
  refine g_if (fun h => absurd trivial h) fun _ => ?_
  rw [h.e]
  exact g_i64 (by omega) (g_some rfl)
theorem eta_b (b : Bf) : (b.1, b.2.1, b.2.2.1, b.2.2.2) = b := rfl
theorem g11_gp (h : Gp b m X G Y) (a : Int) : ∃ b' G', g11 b a = some ((tgt a (X.length + Y.length) : Int), b') ∧ Gp b' m ((X ++ Y).take (tgt a (X.length + Y.length))) G' ((X ++ Y).drop (tgt a (X.length + Y.length))) ∧ G'.length = G.length := by
  have hn := h.pn
  have ht := tgt_le a (X.length + Y.length)
  have h48 := g43_gp h a
  generalize tgt a (X.length + Y.length) = t at ht h48 ⊢
  have main : Gives (g11 b a) (fun v => ∃ b' G', v = ((t : Int), b') ∧ Gp b' m ((X ++ Y).take t) G' ((X ++ Y).drop t) ∧ G'.length = G.length) := by
    unfold g11
    rw [eta_b, g39_gp h, h48]
    simp only [Option.bind_some]
    refine g_if (fun h => absurd trivial h) fun _ => ?_
    rw [h.e]
    dsimp only
    have e0 : ((t : Nat) : Int).toNat = t := Int.toNat_natCast _
    have eX : ((X.length : Nat) : Int).toNat = X.length := Int.toNat_natCast _
    have eG : ((X.length + G.length : Nat) : Int).toNat = X.length + G.length := Int.toNat_natCast _
    refine g_if (fun hlt => ?_) fun hge => ?_
    · have hlt : t < X.length := by omega
      have e1 : (((X.length + G.length : Nat) : Int) - ((X.length : Int) - (t : Int))).toNat = G.length + t := by omega
      have e2 : ((X ++ (G ++ Y)).drop t).take (X.length - t) = X.drop t := by
        rw [List.drop_append_of_le_length (by omega), List.take_append_of_le_length (by simp)]
        exact List.take_of_length_le (by simp)
      rw [e0, eX, eG, e1, e2]
      have e3 : min (X.length - t) (X.length + G.length - (G.length + t)) = X.length - t := by omega
      rw [e3]
      refine g_i64 (by omega) (g_i64 (by omega) (g_ck (by simp only [List.length_append]; omega) (g_ck (by simp only [List.length_append]; omega) (g_i64 (by omega) (g_some ?_)))))
      refine ⟨_, ((X ++ (G ++ Y)).take (G.length + t)).drop t, rfl, ⟨?_, h.p0, h.p1, ?_⟩, ?_⟩
      · have f1 : (X ++ Y).take t = X.take t := List.take_append_of_le_length (by omega)
        have f2 : (X ++ Y).drop t = X.drop t ++ Y := List.drop_append_of_le_length (by omega)
        have f3 : cpy (X ++ (G ++ Y)) (G.length + t) (X.drop t) (X.length - t) = X.take t ++ (((X ++ (G ++ Y)).take (G.length + t)).drop t ++ (X.drop t ++ Y)) := by
          unfold cpy
          have g1 : (X.drop t).take (X.length - t) = X.drop t := List.take_of_length_le (by simp)
          have g2 : (X ++ (G ++ Y)).drop (G.length + t + (X.length - t)) = Y := by
            rw [show G.length + t + (X.length - t) = (X ++ G).length by simp; omega, ← List.append_assoc, List.drop_left]
          have g3 : (X ++ (G ++ Y)).take (G.length + t) = X.take t ++ ((X ++ (G ++ Y)).take (G.length + t)).drop t := by
            conv => lhs; rw [← List.take_append_drop t ((X ++ (G ++ Y)).take (G.length + t))]
            rw [List.take_take, show min t (G.length + t) = t by omega, List.take_append_of_le_length (by omega)]
          rw [g1, g2]
          conv => lhs; rw [g3]
          simp [List.append_assoc]
        rw [f1, f2, f3]
        simp only [List.length_take, List.length_drop, List.length_append]
        refine congrArg (fun z => (m, _, z)) ?_
        refine Prod.ext ?_ ?_ <;> dsimp only <;> omega
      · simp only [List.length_take, List.length_drop, List.length_append]; omega
      · simp only [List.length_take, List.length_drop, List.length_append]; omega
    · have hge : X.length ≤ t := by omega
      have e1 : (((X.length + G.length : Nat) : Int) + ((t : Int) - (X.length : Int))).toNat = G.length + t := by omega
      have e2 : ((X ++ (G ++ Y)).drop (X.length + G.length)).take (G.length + t - (X.length + G.length)) = Y.take (t - X.length) := by
        rw [← List.append_assoc, ← List.length_append, List.drop_left, List.length_append, show G.length + t - (X.length + G.length) = t - X.length by omega]
      have eL : (((X ++ (G ++ Y)).length : Nat) : Int).toNat = X.length + (G.length + Y.length) := by rw [Int.toNat_natCast]; simp only [List.length_append]
      rw [eX, eG, e1, e2, eL]
      have e3 : min (G.length + t - (X.length + G.length)) (X.length + (G.length + Y.length) - X.length) = t - X.length := by omega
      rw [e3]
      refine g_i64 (by omega) (g_ck (by simp only [List.length_append]; omega) (g_i64 (by omega) (g_ck (by simp only [List.length_append]; omega) (g_i64 (by omega) (g_some ?_)))))
      refine ⟨_, ((G ++ Y).drop (t - X.length)).take G.length, rfl, ⟨?_, h.p0, h.p1, ?_⟩, ?_⟩
      · have f1 : (X ++ Y).take t = X ++ Y.take (t - X.length) := by rw [List.take_append]; rw [List.take_of_length_le (by omega)]
        have f2 : (X ++ Y).drop t = Y.drop (t - X.length) := by rw [List.drop_append]; rw [List.drop_eq_nil_of_le (by omega)]; rfl
        have f3 : cpy (X ++ (G ++ Y)) X.length (Y.take (t - X.length)) (t - X.length) = (X ++ Y.take (t - X.length)) ++ (((G ++ Y).drop (t - X.length)).take G.length ++ Y.drop (t - X.length)) := by
          unfold cpy
          have g1 : (Y.take (t - X.length)).take (t - X.length) = Y.take (t - X.length) := List.take_of_length_le (by simp; omega)
          have g2 : (X ++ (G ++ Y)).drop (X.length + (t - X.length)) = (G ++ Y).drop (t - X.length) := by rw [List.drop_append]; simp
          have g3 : (G ++ Y).drop (t - X.length) = ((G ++ Y).drop (t - X.length)).take G.length ++ Y.drop (t - X.length) := by
            conv => lhs; rw [← List.take_append_drop G.length ((G ++ Y).drop (t - X.length))]
            rw [List.drop_drop, show t - X.length + G.length = G.length + (t - X.length) by omega, ← List.drop_drop, List.drop_left]
          rw [g1, g2, List.take_left]
          conv => lhs; rw [g3]
        rw [f1, f2, f3]
        simp only [List.length_take, List.length_drop, List.length_append]
        refine congrArg (fun z => (m, _, z)) ?_
        refine Prod.ext ?_ ?_ <;> dsimp only <;> omega
      · simp only [List.length_take, List.length_drop, List.length_append]; omega
      · simp only [List.length_take, List.length_drop, List.length_append]; omega
  obtain ⟨v, hv, b', G', rfl, h1, h2⟩ := main
  exact ⟨b', G', hv, h1, h2⟩
theorem g42_gp (h : Gp b m X G Y) (n : Nat) (hb : 2 * (X.length + G.length + Y.length) + n + 8 ≤ 1000000) : ∃ b' G', g42 b n = some b' ∧ Gp b' m X G' Y ∧ n ≤ G'.length ∧ G'.length ≤ 2 * G.length + X.length + Y.length + n + 8 := by
  have hn := h.pn
  have h48 := g41_gp h
  have main : Gives (g42 b n) (fun v => ∃ G', Gp v m X G' Y ∧ n ≤ G'.length ∧ G'.length ≤ 2 * G.length + X.length + Y.length + n + 8) := by
    unfold g42
    rw [eta_b, h48]
    simp only [Option.bind_some]
    rw [h.e]
    dsimp only
    refine g_i64 (by omega) (g_if (fun hle => g_some ⟨G, ⟨rfl, h.p0, h.p1, hn⟩, by omega, by omega⟩) fun hgt => ?_)
    have eX : ((X.length : Nat) : Int).toNat = X.length := Int.toNat_natCast _
    have eG : ((X.length + G.length : Nat) : Int).toNat = X.length + G.length := Int.toNat_natCast _
    have hL : (X ++ (G ++ Y)).length = X.length + (G.length + Y.length) := by simp only [List.length_append]
    rw [hL]
    have eL : (((X.length + (G.length + Y.length) : Nat) : Int)).toNat = X.length + (G.length + Y.length) := Int.toNat_natCast _
    have eM : ((((X.length + (G.length + Y.length) : Nat) : Int)) + (((n : Int) + ((X.length + Y.length : Nat) : Int)) + 8)).toNat = (X.length + (G.length + Y.length)) + (n + (X.length + Y.length) + 8) := by omega
    have eH : (((X.length + G.length : Nat) : Int) + (((n : Int) + ((X.length + Y.length : Nat) : Int)) + 8)).toNat = X.length + G.length + (n + (X.length + Y.length) + 8) := by omega
    rw [eX, eG, eL, eM, eH]
    have e3 : ((X ++ (G ++ Y)).drop ((0 : Int).toNat)).take (X.length - (0 : Int).toNat) = X := by simp
    have e4 : ((X ++ (G ++ Y)).drop (X.length + G.length)).take (X.length + (G.length + Y.length) - (X.length + G.length)) = Y := by
      have : (X ++ (G ++ Y)).drop (X.length + G.length) = Y := by rw [← List.append_assoc, show X.length + G.length = (X ++ G).length by simp, List.drop_left]
      rw [this]
      exact List.take_of_length_le (by omega)
    rw [e3, e4]
    have e5 : min (X.length - (0 : Int).toNat) (X.length + (G.length + Y.length) + (n + (X.length + Y.length) + 8)) = X.length := by simp; omega
    have e6 : min (X.length + (G.length + Y.length) - (X.length + G.length)) ((((X.length + (G.length + Y.length) + (n + (X.length + Y.length) + 8) : Nat) : Int)).toNat - (X.length + G.length + (n + (X.length + Y.length) + 8))) = Y.length := by omega
    rw [e5, e6]
    refine g_i64 (by omega) (g_i64 (by omega) (g_i64 (by omega) (g_ck (by omega) (g_ck (by omega) (g_i64 (by omega) (g_ck (by omega) (g_ck (by omega) (g_i64 (by omega) (g_some ?_)))))))))
    generalize hk : n + (X.length + Y.length) + 8 = k
    refine ⟨List.replicate (G.length + k) ⟨#[]⟩, ⟨?_, h.p0, h.p1, by simp; omega⟩, by simp; omega, by simp; omega⟩
    have f : cpy (cpy (List.replicate (X.length + (G.length + Y.length) + k) (⟨#[]⟩ : ByteArray)) 0 X X.length) (X.length + G.length + k) Y Y.length = X ++ (List.replicate (G.length + k) ⟨#[]⟩ ++ Y) := by
      unfold cpy
      have g1 : List.take (X.length + G.length + k) (List.take 0 (List.replicate (X.length + (G.length + Y.length) + k) (⟨#[]⟩ : ByteArray)) ++ List.take X.length X ++ List.drop (0 + X.length) (List.replicate (X.length + (G.length + Y.length) + k) ⟨#[]⟩)) = X ++ List.replicate (G.length + k) ⟨#[]⟩ := by
        simp only [List.take_zero, List.nil_append, List.take_length, Nat.zero_add, List.drop_replicate]
        rw [List.take_append, List.take_of_length_le (by omega), List.take_replicate]
        congr 2
        omega
      have g2 : List.drop (X.length + G.length + k + Y.length) (List.take 0 (List.replicate (X.length + (G.length + Y.length) + k) (⟨#[]⟩ : ByteArray)) ++ List.take X.length X ++ List.drop (0 + X.length) (List.replicate (X.length + (G.length + Y.length) + k) ⟨#[]⟩)) = [] := List.drop_eq_nil_of_le (by simp; omega)
      rw [g1, g2, List.take_length, List.append_nil, List.append_assoc]
    rw [f]
    simp only [List.length_replicate]
    refine Prod.ext rfl (Prod.ext rfl (Prod.ext rfl ?_))
    dsimp only
    omega
  obtain ⟨v, hv, G', h1⟩ := main
  exact ⟨v, G', hv, h1⟩
theorem g10_gp (h : Gp b m X G Y) {A : List ByteArray} (hA : ∀ c ∈ A, g40 c = some true) (hroom : ((X.length + Y.length + A.length : Nat) : Int) ≤ m) (hb : 2 * (X.length + G.length + Y.length) + A.length + 8 ≤ 1000000) :
    ∃ b' G', g10 b A = some (0, b') ∧ Gp b' m (X ++ A) G' Y ∧ G'.length ≤ 2 * G.length + X.length + Y.length + A.length + 8 := by
  have hn := h.pn
  have hp := h.p0
  have hp1 := h.p1
  have h48 := g41_gp h
  obtain ⟨b1, G1, h57, hg1, hle, hle2⟩ := g42_gp h A.length hb
  have main : Gives (g10 b A) (fun v => ∃ b' G', v = (0, b') ∧ Gp b' m (X ++ A) G' Y ∧ G'.length ≤ 2 * G.length + X.length + Y.length + A.length + 8) := by
    unfold g10
    rw [eta_b, g39_gp h, h48, h57]
    simp only [Option.bind_some]
    refine g_if (fun h => absurd trivial h) fun _ => ?_
    refine g_jn (fun _ => True) (fun k hk => g_bind (g_loop (R := fun o => o = .inr ()) (fun i : Int => 0 ≤ i ∧ i ≤ A.length) (fun i : Int => ((A.length : Int) - i).toNat) ?_ ⟨Int.le_refl _, by omega⟩) ?_) ?_
    · rintro i ⟨h0, h1⟩
      refine g_if (fun hi => g_ck (by omega) (g_call (hA _ (getD_mem (by omega))) (g_if (fun h => absurd rfl h) fun _ => g_i64 (by omega) (g_go ⟨by omega, by omega⟩ (by omega))))) fun hi => g_out rfl
    · rintro _ rfl
      exact g_sm (fun v hv => by cases hv) fun r hr => hk () trivial
    · rintro _ _
      rw [h.e]
      dsimp only
      refine g_i64 (by omega) (g_if (fun hlt => by omega) fun _ => ?_)
      rw [hg1.e]
      dsimp only
      have eX : ((X.length : Nat) : Int).toNat = X.length := Int.toNat_natCast _
      have eG : ((X.length + G1.length : Nat) : Int).toNat = X.length + G1.length := Int.toNat_natCast _
      have hg1n := hg1.pn
      rw [eX, eG, show min A.length (X.length + G1.length - X.length) = A.length by omega]
      refine g_ck (by simp only [List.length_append]; omega) (g_i64 (by omega) (g_some ⟨_, G1.drop A.length, rfl, ⟨?_, hp, hp1, by simp only [List.length_append, List.length_drop]; omega⟩, by simp only [List.length_drop]; omega⟩))
      have f : cpy (X ++ (G1 ++ Y)) X.length A A.length = (X ++ A) ++ (G1.drop A.length ++ Y) := by
        unfold cpy
        rw [List.take_left, List.take_length, List.drop_append, List.drop_eq_nil_of_le (by omega), List.nil_append, show X.length + A.length - X.length = A.length by omega, List.drop_append_of_le_length (by omega)]
      rw [f]
      simp only [List.length_append, List.length_drop]
      refine congrArg (fun z => (m, _, z)) ?_
      refine Prod.ext ?_ ?_ <;> dsimp only <;> omega
  obtain ⟨v, hv, b', G', rfl, h1⟩ := main
  exact ⟨b', G', hv, h1⟩
theorem gp_new {m : Int} (h0 : 0 < m) (h1 : m ≤ 4096) : Gp (m, [], 0, 0) m [] [] [] := ⟨rfl, h0, h1, by simp⟩
end Go.Proofs.YtenjkphlbdhaiaaGreat
end
section
namespace Go.Proofs.YtenjkphlbdhaiaaGreat
open Go Go.Eng
variable {b : Bf} {m : Int} {X G Y : List ByteArray}
theorem g20_same {A : List ByteArray} (hn : A.length ≤ 1000000) : g20 A A = some true := by
  refine g_eq ?_
  unfold g20
  refine g_if (fun h => absurd rfl h) fun _ => g_jn (fun _ => True) (fun k hk => g_bind (g_loop (R := fun o => o = .inr ()) (fun i : Int => 0 ≤ i ∧ i ≤ A.length) (fun i : Int => ((A.length : Int) - i).toNat) ?_ ⟨Int.le_refl _, by omega⟩) ?_) fun _ _ => g_some rfl
  · rintro i ⟨h0, h1⟩
    exact g_if (fun hi => g_ck (by omega) (g_ck (by omega) (g_if (fun h => absurd rfl h) fun _ => g_i64 (by omega) (g_go ⟨by omega, by omega⟩ (by omega))))) fun hi => g_out rfl
  · rintro _ rfl
    exact g_sm (fun v hv => by cases hv) fun r hr => hk () trivial
theorem str_bytes (s : ByteArray) : strOf (bytesOf s) = s := by
  apply ByteArray.ext
  unfold strOf bytesOf
  apply Array.ext'
  simp only [List.map_map]
  conv => rhs; rw [← List.map_id s.data.toList]
  refine List.map_congr_left fun c _ => ?_
  simp
theorem bytes_byt (s : ByteArray) : Byt (bytesOf s) := fun c hc => by
  obtain ⟨x, _, rfl⟩ := List.mem_map.1 hc
  have := x.toNat_lt
  omega
theorem g44_eq {a : List Int} {s : List Int} (hs : Byt s) (hn : a.length + s.length ≤ 1000000) : g44 a (strOf s) = some ((s.length : Int), a ++ s) := by
  refine g_eq ?_
  unfold g44 g57
  simp only [Option.bind_some]
  rw [str_size, bytes_str hs]
  exact g_ck (by omega) (g_some rfl)
theorem g45_eq {a : List Int} (ha : Byt a) : g45 a = some (strOf a) := by
  refine g_eq ?_
  unfold g45
  exact g_ck ha (g_some rfl)
theorem flen64 : ∀ {cs : List (List Int)}, (∀ c ∈ cs, c.length ≤ 64) → cs.flatten.length ≤ 64 * cs.length
  | [], _ => by simp
  | c :: cs, h => by
    have h1 := h c (.head _)
    have h2 := flen64 (cs := cs) fun x hx => h x (.tail _ hx)
    rw [List.flatten_cons, List.length_append, List.length_cons]
    omega
theorem strs_get {cs : List (List Int)} {i : Nat} (h : i < cs.length) : (strs cs).getD i default = strOf cs[i] := by
  simp [strs, List.getD_eq_getElem?_getD, List.getElem?_eq_getElem h]
theorem g12_gp (h : Gp b m X G Y) {cs : List (List Int)} (hc : X ++ Y = strs cs) (hb : ∀ c ∈ cs, Byt c ∧ c.length ≤ 64) (hn : cs.length ≤ 5000) : g12 b = some (strOf cs.flatten) := by
  refine g_eq ?_
  unfold g12
  rw [g34_gp h, hc]
  simp only [Option.bind_some]
  have hfl : ∀ k, (cs.take k).flatten.length ≤ 64 * k := fun k => by
    have := flen64 (cs := cs.take k) fun c hc => (hb c (List.mem_of_mem_take hc)).2
    rw [List.length_take] at this
    omega
  refine g_jo (g_bind (Ω := fun o => o = cs.flatten) (g_loop (fun s : List Int × Int => ∃ k : Nat, s = ((cs.take k).flatten, (k : Int)) ∧ k ≤ cs.length) (fun s => ((cs.length : Int) - s.2).toNat) ?_ ⟨0, rfl, Nat.zero_le _⟩) ?_)
  · rintro _ ⟨k, rfl, hk⟩
    dsimp only
    rw [strs_len]
    refine g_if (fun hlt => g_ck (by omega) ?_) fun hge => g_out (by rw [List.take_of_length_le (by omega)])
    have hkl : k < cs.length := by omega
    have hbk := hb cs[k] (List.getElem_mem _)
    have := hfl k
    rw [Int.toNat_natCast, strs_get hkl]
    refine g_call (g44_eq hbk.1 (by omega)) (g_i64 (by omega) (g_go ⟨k + 1, ?_, by omega⟩ (by dsimp only; omega)))
    have e : (cs.take k).flatten ++ cs[k] = (cs.take (k + 1)).flatten := by rw [List.take_add_one, List.getElem?_eq_getElem hkl, List.flatten_append]; simp only [Option.toList_some, List.flatten_cons, List.flatten_nil, List.append_nil]
    rw [e, Int.natCast_add]
    rfl
  · rintro _ rfl
    refine g_call (g45_eq fun c hc => ?_) (g_some rfl)
    obtain ⟨x, hx, hc⟩ := List.mem_flatten.1 hc
    exact (hb x hx).1 c hc
theorem allcl_byt {cs : List (List Int)} (h : AllCl cs) : ∀ c ∈ cs, Byt c ∧ c.length ≤ 64 := fun c hc => by
  obtain ⟨R, h1, h2, h3, _⟩ := h c hc
  exact ⟨by rw [h1]; exact encs_byt h2, h3⟩
theorem g10_many (h : Gp b m X G Y) {A : List ByteArray} (hA : ∀ c ∈ A, g40 c = some true) (hroom : m < ((X.length + Y.length + A.length : Nat) : Int)) (hb : A.length ≤ 1000000) : g10 b A = some (3, b) := by
  have hn := h.pn
  have hp := h.p0
  have hp1 := h.p1
  have h48 := g41_gp h
  refine g_eq ?_
  unfold g10
  rw [eta_b, g39_gp h, h48]
  simp only [Option.bind_some]
  refine g_if (fun h => absurd trivial h) fun _ => ?_
  refine g_jn (fun _ => True) (fun k hk => g_bind (g_loop (R := fun o => o = .inr ()) (fun i : Int => 0 ≤ i ∧ i ≤ A.length) (fun i : Int => ((A.length : Int) - i).toNat) ?_ ⟨Int.le_refl _, by omega⟩) ?_) ?_
  · rintro i ⟨h0, h1⟩
    refine g_if (fun hi => g_ck (by omega) (g_call (hA _ (getD_mem (by omega))) (g_if (fun h => absurd rfl h) fun _ => g_i64 (by omega) (g_go ⟨by omega, by omega⟩ (by omega))))) fun hi => g_out rfl
  · rintro _ rfl
    exact g_sm (fun v hv => by cases hv) fun r hr => hk () trivial
  · rintro _ _
    have hb1 : b.1 = m := by rw [h.e]
    rw [hb1]
    exact g_i64 (by omega) (g_if (fun hlt => g_some rfl) fun hge => by omega)
theorem gp_more (h : Gp b m X G Y) {n : Nat} (hn : n ≤ Y.length) : Gp (b.1, b.2.1, b.2.2.1, b.2.2.2 + (n : Int)) m X (G ++ Y.take n) (Y.drop n) := by
  have hp := h.pn
  refine ⟨?_, h.p0, h.p1, by simp; omega⟩
  rw [h.e]
  dsimp only
  rw [List.append_assoc, List.take_append_drop]
  refine Prod.ext rfl (Prod.ext rfl (Prod.ext rfl ?_))
  simp
  omega
end Go.Proofs.YtenjkphlbdhaiaaGreat
end
section
namespace Go.Proofs.YtenjkphlbdhaiaaGreat
open Go Go.Eng
variable {b : Bf} {m : Int} {X G Y : List ByteArray}
theorem del_gives {β : Type} {K : Int × List ByteArray × Int × Int × List ByteArray → Option β} {Φ : β → Prop} (h : Gp b m X G Y) (a2 a3 : Int) {f t : Nat} (hf : tgt a2 (X.length + Y.length) = f) (ht : tgt a3 (X.length + Y.length) = t)
    (hk0 : t ≤ f → Gives (K (b.1, b.2.1, b.2.2.1, b.2.2.2, [])) Φ)
    (hk : ∀ b' G' X' Y', f < t → Gp b' m X' G' Y' → X' ++ Y' = (X ++ Y).take f ++ (X ++ Y).drop t → X'.length + G'.length + Y'.length = X.length + G.length + Y.length →
      X'.length = (if t ≤ X.length then X.length - (t - f) else if X.length < f then X.length else f) → Gives (K (b'.1, b'.2.1, b'.2.2.1, b'.2.2.2, ((X ++ Y).drop f).take (t - f))) Φ) :
    Gives ((g39 b).bind fun v106 =>
            if ¬ (v106 = true) then
              K (b.1, b.2.1, b.2.2.1, b.2.2.2, ([] : List ByteArray))
            else
              (
                (g43 b a2).bind fun v109 =>
                (g43 b a3).bind fun v111 =>
                if v111 ≤ v109 then
                  K (b.1, b.2.1, b.2.2.1, b.2.2.2, ([] : List ByteArray))
                else
                  (
                    (g34 b).bind fun v114 =>
                    ck (0 ≤ v109 ∧ v109 ≤ v111 ∧ v111 ≤ v111 ∧ v111 ≤ ((v114.length : Nat) : Int)) <|
                    (g11 b v109).bind fun v119 =>
                    ck (inR .i64 (v111 - v109)) <|
                    ck (inR .i64 (v119.2.2.2.2 + (v111 - v109))) <|
                    if v111 ≤ b.2.2.1 then
                      (
                        ck (inR .i64 (v111 - v109)) <|
                        ck (inR .i64 (b.2.2.1 - (v111 - v109))) <|
                        (g11 (v119.2.1, v119.2.2.1, v119.2.2.2.1, v119.2.2.2.2 + (v111 - v109)) (b.2.2.1 - (v111 - v109))).bind fun v126 =>
                        K (v126.2.1, v126.2.2.1, v126.2.2.2.1, v126.2.2.2.2, ((v114.drop v109.toNat).take (v111.toNat - v109.toNat)))
                      )
                    else
                      (
                        if b.2.2.1 < v109 then
                          (
                            (g11 (v119.2.1, v119.2.2.1, v119.2.2.2.1, v119.2.2.2.2 + (v111 - v109)) b.2.2.1).bind fun v141 =>
                            K (v141.2.1, v141.2.2.1, v141.2.2.2.1, v141.2.2.2.2, ((v114.drop v109.toNat).take (v111.toNat - v109.toNat)))
                          )
                        else
                          K (v119.2.1, v119.2.2.1, v119.2.2.2.1, v119.2.2.2.2 + (v111 - v109), ((v114.drop v109.toNat).take (v111.toNat - v109.toNat)))
                      )
                  )
              )) Φ := by
  have hn := h.pn
  have hfl := tgt_le a2 (X.length + Y.length)
  have htl := tgt_le a3 (X.length + Y.length)
  rw [hf] at hfl
  rw [ht] at htl
  have hlo : b.2.2.1 = (X.length : Int) := by rw [h.e]
  refine g_call (g39_gp h) (g_if (fun h => absurd rfl h) fun _ => g_call (g43_gp h a2) (g_call (g43_gp h a3) ?_))
  rw [hf, ht]
  refine g_if (fun hle => hk0 (by omega)) fun hlt => ?_
  have hlt : f < t := by omega
  have hll : (X ++ Y).length = X.length + Y.length := List.length_append
  refine g_call (g34_gp h) (g_ck (by omega) ?_)
  obtain ⟨b1, G1, e1, h1, l1⟩ := g11_gp h (f : Int)
  have hff : tgt (f : Int) (X.length + Y.length) = f := by unfold tgt; omega
  rw [hff] at e1 h1
  have hd : ((X ++ Y).drop f).length = X.length + Y.length - f := by rw [List.length_drop, hll]
  have h2 := gp_more h1 (n := t - f) (by rw [hd]; omega)
  have ed : ((X ++ Y).drop f).drop (t - f) = (X ++ Y).drop t := by rw [List.drop_drop]; congr 1; omega
  rw [ed] at h2
  have ei : ((t : Int) - (f : Int)) = ((t - f : Nat) : Int) := by omega
  have etl : ((X ++ Y).take f).length = f := by rw [List.length_take, hll]; omega
  have edl : ((X ++ Y).drop t).length = X.length + Y.length - t := by rw [List.length_drop, hll]
  have eG2 : (G1 ++ ((X ++ Y).drop f).take (t - f)).length = G.length + (t - f) := by rw [List.length_append, List.length_take, hd, l1]; omega
  have hNl : ((X ++ Y).take f ++ (X ++ Y).drop t).length = X.length + Y.length - (t - f) := by rw [List.length_append, etl, edl]; omega
  have hhi : b1.2.2.2 = ((f + G.length : Nat) : Int) := by rw [h1.e]; dsimp only; rw [etl, l1]
  refine g_call e1 ?_
  dsimp only
  rw [hlo, ei, Int.toNat_natCast, Int.toNat_natCast]
  refine g_i64 (by omega) (g_i64 (by omega) (g_if (fun c1 => g_i64 (by omega) (g_i64 (by omega) ?_)) fun c1 => g_if (fun c2 => ?_) fun c2 => ?_))
  · obtain ⟨b3, G3, e3, h3, l3⟩ := g11_gp h2 ((X.length : Int) - ((t - f : Nat) : Int))
    refine g_call e3 (hk b3 G3 _ _ hlt h3 (List.take_append_drop _ _) ?_ ?_)
    · rw [l3, eG2]; generalize tgt _ _ = τ; rw [List.length_take, List.length_drop, hNl]; omega
    · rw [if_pos (by omega), List.length_take, hNl, etl, edl]
      unfold tgt
      omega
  · obtain ⟨b3, G3, e3, h3, l3⟩ := g11_gp h2 (X.length : Int)
    refine g_call e3 (hk b3 G3 _ _ hlt h3 (List.take_append_drop _ _) ?_ ?_)
    · rw [l3, eG2]; generalize tgt _ _ = τ; rw [List.length_take, List.length_drop, hNl]; omega
    · rw [if_neg (by omega), if_pos (by omega), List.length_take, hNl, etl, edl]
      unfold tgt
      omega
  · refine hk _ _ _ _ hlt h2 rfl ?_ ?_
    · rw [eG2, etl, edl]; omega
    · rw [if_neg (by omega), if_neg (by omega), etl]
end Go.Proofs.YtenjkphlbdhaiaaGreat
end
section
namespace Go.Proofs.YtenjkphlbdhaiaaGreat
open Go Go.Eng
theorem cl_1 {v : Int} (h : isR v) (hw : 0 < wof v) (he : enc v = [v]) : Cl [v] [v] := ⟨by simp [encs, he], fun r hr => by rw [List.mem_singleton.1 hr]; exact h, by simp, v, [], rfl, hw, fun m hm => by cases hm⟩
theorem w97 : wof 97 = 1 := by kernel_rfl
theorem w98 : wof 98 = 1 := by kernel_rfl
theorem w99 : wof 99 = 1 := by kernel_rfl
theorem w100 : wof 100 = 1 := by kernel_rfl
theorem cla : Cl [97] [97] := cl_1 (by decide) (by rw [w97]; decide) rfl
theorem clb : Cl [98] [98] := cl_1 (by decide) (by rw [w98]; decide) rfl
theorem clc : Cl [99] [99] := cl_1 (by decide) (by rw [w99]; decide) rfl
theorem cld : Cl [100] [100] := cl_1 (by decide) (by rw [w100]; decide) rfl
theorem isa : g40 (lit [97]) = some true := g40_cl cla
theorem isb : g40 (lit [98]) = some true := g40_cl clb
theorem isc : g40 (lit [99]) = some true := g40_cl clc
theorem isd : g40 (lit [100]) = some true := g40_cl cld
theorem byt1 {v : Int} (h : 0 ≤ v ∧ v ≤ 255) : Byt [v] ∧ ([v] : List Int).length ≤ 64 := ⟨fun c hc => by rw [List.mem_singleton.1 hc]; exact h, by simp⟩
theorem awake_true : g6 = some true := by
  refine g_eq ?_
  unfold g6
  obtain ⟨b1, G1, e1, h1, l1⟩ := g10_gp (gp_new (m := 3) (by decide) (by decide)) (A := [lit [97], lit [98]]) (by
    intro c hc
    rcases List.mem_cons.1 hc with rfl | hc
    · exact isa
    · rw [List.mem_singleton.1 hc]; exact isb) (by decide) (by decide)
  have l1 : G1.length ≤ 10 := l1
  have h1 : Gp b1 3 [lit [97], lit [98]] G1 [] := h1
  refine g_call e1 ?_
  obtain ⟨b2, G2, e2, h2, l2⟩ := g11_gp h1 1
  have e2 : g11 b1 1 = some (1, b2) := e2
  have h2 : Gp b2 3 [lit [97]] G2 [lit [98]] := h2
  refine g_call e2 ?_
  obtain ⟨b3, G3, e3, h3, l3⟩ := g10_gp h2 (A := [lit [99]]) (by intro c hc; rw [List.mem_singleton.1 hc]; exact isc) (by decide) (by
    show 2 * (1 + G2.length + 1) + 1 + 8 ≤ 1000000
    omega)
  have l3 : G3.length ≤ 2 * G2.length + 1 + 1 + 1 + 8 := l3
  have h3 : Gp b3 3 [lit [97], lit [99]] G3 [lit [98]] := h3
  refine g_call e3 ?_
  refine g_call (g10_many h3 (A := [lit [100]]) (by intro c hc; rw [List.mem_singleton.1 hc]; exact isd) (by decide) (by decide)) ?_
  refine g_call (g12_gp h3 (cs := [[97], [99], [98]]) rfl (by
    intro c hc
    rcases List.mem_cons.1 hc with rfl | hc
    · exact byt1 (by decide)
    · rcases List.mem_cons.1 hc with rfl | hc
      · exact byt1 (by decide)
      · rw [List.mem_singleton.1 hc]; exact byt1 (by decide)) (by decide)) ?_
  refine g_jn (fun v => ∃ G, Gp (v.1, v.2.1, v.2.2.1, v.2.2.2.1) 3 [] G [lit [98]] ∧ v.2.2.2.2 = [lit [97], lit [99]]) (fun k hk => ?_) ?_
  · refine del_gives h3 0 2 (f := 0) (t := 2) rfl rfl (fun h => by omega) ?_
    intro b' G' X' Y' _ h' hxy _ hx
    have hx : X' = [] := List.eq_nil_of_length_eq_zero hx
    subst hx
    have hy : Y' = [lit [98]] := hxy
    subst hy
    exact hk _ ⟨G', h', rfl⟩
  · rintro ⟨p1, p2, p3, p4, gone⟩ ⟨G, h, hg⟩
    dsimp only at h hg ⊢
    subst hg
    refine g_if (fun _ => g_if (fun _ => g_if (fun _ => g_if (fun _ => g_if (fun _ => g_if (fun _ => g_ck (by decide) (g_if (fun _ => ?_) fun hc => absurd rfl hc)) fun hc => absurd rfl hc) fun hc => absurd rfl hc) fun hc => absurd rfl hc) fun hc => absurd rfl hc) fun hc => absurd rfl hc) fun hc => absurd rfl hc
    refine g_call (g14_gp h) (g_if (fun _ => ?_) fun hc => absurd rfl hc)
    refine g_call (g12_gp h (cs := [[98]]) rfl (by intro c hc; rw [List.mem_singleton.1 hc]; exact byt1 (by decide)) (by decide)) (g_some ?_)
    exact decide_eq_true rfl
end Go.Proofs.YtenjkphlbdhaiaaGreat
end
section
namespace Go.Proofs.YtenjkphlbdhaiaaGreat
open Go Go.Eng
variable {b : Bf} {m : Int} {X G Y : List ByteArray}
theorem g13_gp (h : Gp b m X G Y) (a2 a3 : Int) {f t : Nat} (hf : tgt a2 (X.length + Y.length) = f) (ht : tgt a3 (X.length + Y.length) = t) :
    ∃ b' G' X' Y' o, g13 b a2 a3 = some (o, b') ∧ Gp b' m X' G' Y' ∧ X'.length + G'.length + Y'.length = X.length + G.length + Y.length ∧
      ((t ≤ f ∧ o = [] ∧ X' = X ∧ Y' = Y) ∨ (f < t ∧ o = ((X ++ Y).drop f).take (t - f) ∧ X' ++ Y' = (X ++ Y).take f ++ (X ++ Y).drop t ∧ X'.length = (if t ≤ X.length then X.length - (t - f) else if X.length < f then X.length else f))) := by
  have main : Gives (g13 b a2 a3) fun r => ∃ G' X' Y', Gp r.2 m X' G' Y' ∧ X'.length + G'.length + Y'.length = X.length + G.length + Y.length ∧
      ((t ≤ f ∧ r.1 = [] ∧ X' = X ∧ Y' = Y) ∨ (f < t ∧ r.1 = ((X ++ Y).drop f).take (t - f) ∧ X' ++ Y' = (X ++ Y).take f ++ (X ++ Y).drop t ∧ X'.length = (if t ≤ X.length then X.length - (t - f) else if X.length < f then X.length else f))) := by
    unfold g13
    exact del_gives (K := fun p => some (p.2.2.2.2, (p.1, p.2.1, p.2.2.1, p.2.2.2.1))) h a2 a3 hf ht (fun hle => g_some ⟨G, X, Y, h, rfl, .inl ⟨hle, rfl, rfl, rfl⟩⟩) fun b' G' X' Y' hlt h' e1 e2 e3 => g_some ⟨G', X', Y', h', e2, .inr ⟨hlt, rfl, e1, e3⟩⟩
  obtain ⟨⟨o, b'⟩, hv, G', X', Y', h1, h2, h3⟩ := main
  exact ⟨b', G', X', Y', o, hv, h1, h2, h3⟩
theorem g51_gp' (h : Gp b m X G Y) {k : Nat} (hk : k < X.length + Y.length) : g51 b k = some ((X ++ Y).getD k default) := by
  have hn := h.pn
  refine g_eq ?_
  unfold g51 g48
  rw [h.e]
  dsimp only
  by_cases hx : k < X.length
  · rw [if_pos (by omega), Option.bind_some]
    refine g_ck (by simp only [List.length_append]; omega) (g_some ?_)
    rw [Int.toNat_natCast]
    simp only [List.getD_eq_getElem?_getD, List.getElem?_append_left hx]
  · rw [if_neg (by omega)]
    refine g_bind (Ω := fun v => v = (k : Int) + ((X.length + G.length : Nat) : Int) - (X.length : Int)) (g_i64 (by omega) (g_i64 (by omega) (g_some rfl))) ?_
    rintro _ rfl
    refine g_ck (by simp only [List.length_append]; omega) (g_some ?_)
    have e : ((k : Int) + ((X.length + G.length : Nat) : Int) - (X.length : Int)).toNat = k + G.length := by omega
    rw [e]
    simp only [List.getD_eq_getElem?_getD]
    rw [List.getElem?_append_right (by omega), List.getElem?_append_right (by omega), List.getElem?_append_right (by omega)]
    congr 2
    omega
theorem g26_gp (h : Gp b m X G Y) (a : Int) : g26 b a = some (if 0 ≤ a ∧ a < ((X.length + Y.length : Nat) : Int) then ((X ++ Y).getD a.toNat default, true) else (lit [], false)) := by
  refine g_eq ?_
  unfold g26
  refine g_call (g39_gp h) (g_if (fun hc => absurd rfl hc) fun _ => g_if (fun h0 => g_some (by rw [if_neg (by omega)])) fun h0 => g_call (g41_gp h) (g_if (fun h1 => g_some (by rw [if_neg (by omega)])) fun h1 => ?_))
  obtain ⟨k, rfl⟩ : ∃ k : Nat, a = (k : Int) := ⟨a.toNat, by omega⟩
  exact g_call (g51_gp' h (by omega)) (g_some (by rw [if_pos (by omega), Int.toNat_natCast]))
theorem set_mid {α : Type} {X G Y : List α} {k : Nat} {c : α} (hk : k < X.length) : (X ++ (G ++ Y)).set k c = X.set k c ++ (G ++ Y) := List.set_append_left _ _ hk
theorem g42_gp' (h : Gp b m X G Y) (n : Nat) (hb : 2 * (X.length + G.length + Y.length) + n + 8 ≤ 1000000) : ∃ b' G', g42 b n = some b' ∧ Gp b' m X G' Y ∧ n ≤ G'.length ∧ ((n ≤ G.length ∧ G'.length = G.length) ∨ (G.length < n ∧ G'.length ≤ G.length + X.length + Y.length + n + 8)) := by
  obtain ⟨b', G', h1, h2, h3, h4⟩ := g42_gp h n hb
  by_cases hle : n ≤ G.length
  · refine ⟨b, G, ?_, h, hle, .inl ⟨hle, rfl⟩⟩
    refine g_eq ?_
    unfold g42
    refine g_i64 ?_ (g_if (fun _ => g_some rfl) fun hc => absurd ?_ hc)
    · rw [h.e]; have := h.pn; dsimp only; omega
    · rw [h.e]; dsimp only; omega
  · refine ⟨b', G', h1, h2, h3, .inr ⟨by omega, ?_⟩⟩
    have hn := h.pn
    have h48 := g41_gp h
    have main : Gives (g42 b n) (fun v => (v.2.1.length : Int) = ((X.length + G.length + Y.length + (n + (X.length + Y.length) + 8) : Nat) : Int)) := by
      unfold g42
      rw [eta_b, h48]
      simp only [Option.bind_some]
      rw [h.e]
      dsimp only
      refine g_i64 (by omega) (g_if (fun hle => absurd hle (by omega)) fun hgt => ?_)
      have hL : (X ++ (G ++ Y)).length = X.length + (G.length + Y.length) := by simp only [List.length_append]
      rw [hL]
      refine g_i64 (by omega) (g_i64 (by omega) (g_i64 (by omega) (g_ck (by omega) (g_ck (by omega) (g_i64 (by omega) (g_ck (by omega) (g_ck (by omega) (g_i64 (by omega) (g_some ?_)))))))))
      dsimp only
      unfold cpy
      simp only [List.length_append, List.length_take, List.length_drop, List.length_replicate]
      omega
    obtain ⟨v, hv, hl⟩ := main
    rw [h1] at hv
    cases hv
    rw [h2.e] at hl
    simp only [List.length_append] at hl
    omega
theorem g10_gp' (h : Gp b m X G Y) {A : List ByteArray} (hA : ∀ c ∈ A, g40 c = some true) (hroom : ((X.length + Y.length + A.length : Nat) : Int) ≤ m) (hA1 : A.length ≤ 100) (hb : X.length + G.length + Y.length ≤ 9000) :
    ∃ b' G', g10 b A = some (0, b') ∧ Gp b' m (X ++ A) G' Y ∧ (X ++ A).length + G'.length + Y.length ≤ 9000 := by
  have hn := h.pn
  have hp := h.p0
  have hp1 := h.p1
  have h48 := g41_gp h
  obtain ⟨b1, G1, h57, hg1, hle, hle2⟩ := g42_gp' h A.length (by omega)
  have main : Gives (g10 b A) (fun v => ∃ b' G', v = (0, b') ∧ Gp b' m (X ++ A) G' Y ∧ G'.length = G1.length - A.length) := by
    unfold g10
    rw [eta_b, g39_gp h, h48, h57]
    simp only [Option.bind_some]
    refine g_if (fun h => absurd trivial h) fun _ => ?_
    refine g_jn (fun _ => True) (fun k hk => g_bind (g_loop (R := fun o => o = .inr ()) (fun i : Int => 0 ≤ i ∧ i ≤ A.length) (fun i : Int => ((A.length : Int) - i).toNat) ?_ ⟨Int.le_refl _, by omega⟩) ?_) ?_
    · rintro i ⟨h0, h1⟩
      refine g_if (fun hi => g_ck (by omega) (g_call (hA _ (getD_mem (by omega))) (g_if (fun h => absurd rfl h) fun _ => g_i64 (by omega) (g_go ⟨by omega, by omega⟩ (by omega))))) fun hi => g_out rfl
    · rintro _ rfl
      exact g_sm (fun v hv => by cases hv) fun r hr => hk () trivial
    · rintro _ _
      rw [h.e]
      dsimp only
      refine g_i64 (by omega) (g_if (fun hlt => by omega) fun _ => ?_)
      rw [hg1.e]
      dsimp only
      have eX : ((X.length : Nat) : Int).toNat = X.length := Int.toNat_natCast _
      have eG : ((X.length + G1.length : Nat) : Int).toNat = X.length + G1.length := Int.toNat_natCast _
      have hg1n := hg1.pn
      rw [eX, eG, show min A.length (X.length + G1.length - X.length) = A.length by omega]
      refine g_ck (by simp only [List.length_append]; omega) (g_i64 (by omega) (g_some ⟨_, G1.drop A.length, rfl, ⟨?_, hp, hp1, by simp only [List.length_append, List.length_drop]; omega⟩, List.length_drop⟩))
      have f : cpy (X ++ (G1 ++ Y)) X.length A A.length = (X ++ A) ++ (G1.drop A.length ++ Y) := by
        unfold cpy
        rw [List.take_left, List.take_length, List.drop_append, List.drop_eq_nil_of_le (by omega), List.nil_append, show X.length + A.length - X.length = A.length by omega, List.drop_append_of_le_length (by omega)]
      rw [f]
      simp only [List.length_append, List.length_drop]
      refine congrArg (fun z => (m, _, z)) ?_
      refine Prod.ext ?_ ?_ <;> dsimp only <;> omega
  obtain ⟨v, hv, b', G', rfl, h1, h2⟩ := main
  exact ⟨b', G', hv, h1, by simp only [List.length_append]; omega⟩
def IsC (c : ByteArray) : Prop := ∃ x R, Cl x R ∧ c = strOf x
theorem isC_is {c : ByteArray} (h : IsC c) : g40 c = some true := by
  obtain ⟨x, R, hc, rfl⟩ := h
  exact g40_cl hc
theorem isC_list : ∀ {l : List ByteArray}, (∀ c ∈ l, IsC c) → ∃ cs, AllCl cs ∧ l = strs cs
  | [], _ => ⟨[], (fun c hc => by cases hc), rfl⟩
  | c :: l, h => by
    obtain ⟨x, R, hx, rfl⟩ := h c (.head _)
    obtain ⟨cs, h1, rfl⟩ := isC_list fun c hc => h c (.tail _ hc)
    exact ⟨x :: cs, fun y hy => by rcases List.mem_cons.1 hy with rfl | hy; exact ⟨R, hx⟩; exact h1 y hy, rfl⟩
theorem isC_at {l : List ByteArray} (h : ∀ c ∈ l, IsC c) {k : Nat} (hk : k < l.length) : IsC (l.getD k default) := h _ (getD_mem (by omega))
end Go.Proofs.YtenjkphlbdhaiaaGreat
end
section
namespace Go.Proofs.YtenjkphlbdhaiaaGreat
open Go Go.Eng
theorem bytes_ext {a b : ByteArray} (h : a.data.toList = b.data.toList) : a = b := by
  cases a; cases b
  simp only [ByteArray.mk.injEq]
  exact Array.toList_inj.1 h
def standsAt (l : List ByteArray) (k : Nat) (T : List ByteArray) : Prop := (l.drop k).take T.length = T
theorem standsAt_len {l T : List ByteArray} {k : Nat} (h : standsAt l k T) : T.length ≤ l.length - k := by
  have := congrArg List.length h
  rw [List.length_take, List.length_drop] at this
  omega
theorem standsAt_iff {l T : List ByteArray} {k : Nat} : standsAt l k T ↔ T.length ≤ l.length - k ∧ ∀ j, j < T.length → l.getD (k + j) default = T.getD j default := by
  constructor
  · intro h
    refine ⟨standsAt_len h, fun j hj => ?_⟩
    have hl := standsAt_len h
    unfold standsAt at h
    have : ((l.drop k).take T.length)[j]? = T[j]? := by rw [h]
    rw [List.getElem?_take_of_lt hj, List.getElem?_drop] at this
    simp only [List.getD_eq_getElem?_getD, this]
  · rintro ⟨hl, h⟩
    unfold standsAt
    apply List.ext_getElem?
    intro j
    by_cases hj : j < T.length
    · rw [List.getElem?_take_of_lt hj, List.getElem?_drop]
      have := h j hj
      simp only [List.getD_eq_getElem?_getD] at this
      rw [List.getElem?_eq_getElem (by omega), List.getElem?_eq_getElem hj] at this ⊢
      simpa using this
    · rw [List.getElem?_eq_none (by simp; omega), List.getElem?_eq_none (by omega)]
variable {b : Bf} {m : Int} {X G Y : List ByteArray}
theorem g51_gp (h : Gp b m X G Y) {k : Nat} (hk : k < X.length + Y.length) : g51 b k = some ((X ++ Y).getD k default) := by
  have hn := h.pn
  refine g_eq ?_
  unfold g51 g48
  rw [h.e]
  dsimp only
  by_cases hx : k < X.length
  · rw [if_pos (by omega), Option.bind_some]
    refine g_ck (by simp only [List.length_append]; omega) (g_some ?_)
    rw [Int.toNat_natCast]
    simp only [List.getD_eq_getElem?_getD, List.getElem?_append_left hx]
  · rw [if_neg (by omega)]
    refine g_bind (Ω := fun v => v = (k : Int) + ((X.length + G.length : Nat) : Int) - (X.length : Int)) (g_i64 (by omega) (g_i64 (by omega) (g_some rfl))) ?_
    rintro _ rfl
    refine g_ck (by simp only [List.length_append]; omega) (g_some ?_)
    have e : ((k : Int) + ((X.length + G.length : Nat) : Int) - (X.length : Int)).toNat = k + G.length := by omega
    rw [e]
    simp only [List.getD_eq_getElem?_getD]
    rw [List.getElem?_append_right (by omega), List.getElem?_append_right (by omega), List.getElem?_append_right (by omega)]
    congr 2
    omega
theorem g50_gp (h : Gp b m X G Y) {k : Nat} (hk : k < X.length + Y.length) (T : List ByteArray) (hT : T.length ≤ 1000000) : Gives (g50 b k T) fun r => r = true ↔ standsAt (X ++ Y) k T := by
  have hn := h.pn
  have hL : (X ++ Y).length = X.length + Y.length := List.length_append
  unfold g50
  refine g_call (g41_gp h) (g_i64 (by omega) (g_if (fun hlt => g_some ?_) fun hge => ?_))
  · simp only [Bool.false_eq_true, false_iff]
    intro hs
    have := standsAt_len hs
    omega
  · refine g_jn (fun _ => standsAt (X ++ Y) k T) (fun kk hkk => g_bind (g_loop (R := fun o => (o = .inl () ∧ ¬ standsAt (X ++ Y) k T) ∨ (o = .inr () ∧ standsAt (X ++ Y) k T)) (fun i : Int => 0 ≤ i ∧ i ≤ T.length ∧ ∀ j : Nat, (j : Int) < i → (X ++ Y).getD (k + j) default = T.getD j default) (fun i : Int => ((T.length : Int) - i).toNat) ?_ ⟨Int.le_refl _, by omega, fun j hj => by omega⟩) ?_) fun _ hs => g_some (by simp [hs])
    · rintro i ⟨h0, h1, h2⟩
      refine g_if (fun hi => g_ck (by omega) (g_i64 (by omega) ?_)) fun hi => g_out (.inr ⟨rfl, standsAt_iff.2 ⟨by omega, fun j hj => h2 j (by omega)⟩⟩)
      have e : (k : Int) + i = ((k + i.toNat : Nat) : Int) := by omega
      rw [e]
      refine g_call (g51_gp h (by omega)) (g_if (fun hne => g_out (.inl ⟨rfl, fun hs => hne ?_⟩)) fun heq => g_i64 (by omega) (g_go ⟨by omega, by omega, fun j hj => ?_⟩ (by omega)))
      · rw [(standsAt_iff.1 hs).2 i.toNat (by omega)]
      · by_cases hji : (j : Int) < i
        · exact h2 j hji
        · have : j = i.toNat := by omega
          subst this
          exact bytes_ext (Decidable.not_not.1 heq)
    · rintro o (⟨rfl, hs⟩ | ⟨rfl, hs⟩)
      · exact g_sm (fun _ _ => g_some (by simp [hs])) (fun r hr => by cases hr)
      · exact g_sm (fun r hr => by cases hr) (fun _ _ => hkk _ hs)
theorem g23_gp (h : Gp b m X G Y) (T : List ByteArray) (hT : T.length ≤ 1000000) : Gives (g23 b T) fun r =>
    (r = (0, false) ∧ (T = [] ∨ ∀ k, X.length ≤ k → k < X.length + Y.length → ¬ standsAt (X ++ Y) k T)) ∨
    (T ≠ [] ∧ ∃ k : Nat, r = ((k : Int), true) ∧ X.length ≤ k ∧ k < X.length + Y.length ∧ standsAt (X ++ Y) k T ∧ ∀ j, X.length ≤ j → j < k → ¬ standsAt (X ++ Y) j T) := by
  have hn := h.pn
  have hL : (X ++ Y).length = X.length + Y.length := List.length_append
  unfold g23
  refine g_call (g39_gp h) (g_if (fun hc => absurd rfl hc) fun _ => g_if (fun h0 => g_some (.inl ⟨rfl, .inl (List.eq_nil_of_length_eq_zero (by omega))⟩)) fun h0 => ?_)
  have hne : T ≠ [] := fun e => by subst e; exact h0 rfl
  refine g_jn (fun _ => ∀ k, X.length ≤ k → k < X.length + Y.length → ¬ standsAt (X ++ Y) k T) (fun kk hkk => g_call (g34_gp h) (g_bind (g_loop (R := fun o => (∃ k : Nat, o = .inl (k : Int) ∧ X.length ≤ k ∧ k < X.length + Y.length ∧ standsAt (X ++ Y) k T ∧ ∀ j, X.length ≤ j → j < k → ¬ standsAt (X ++ Y) j T) ∨ (o = .inr () ∧ ∀ k, X.length ≤ k → k < X.length + Y.length → ¬ standsAt (X ++ Y) k T)) (fun i : Int => 0 ≤ i ∧ i ≤ (X ++ Y).length ∧ ∀ j : Nat, X.length ≤ j → (j : Int) < i → ¬ standsAt (X ++ Y) j T) (fun i : Int => (((X ++ Y).length : Int) - i).toNat) ?_ ⟨Int.le_refl _, by omega, fun j _ hj => by omega⟩) ?_)) fun _ hs => g_some (.inl ⟨rfl, .inr hs⟩)
  · rintro i ⟨hi0, hi1, hi2⟩
    refine g_if (fun hi => g_ck (by omega) ?_) fun hi => g_out (.inr ⟨rfl, fun k h1 h2 => hi2 k h1 (by omega)⟩)
    have ex : b.2.2.1 = (X.length : Int) := by rw [h.e]
    rw [ex]
    refine g_if (fun hx => ?_) fun hx => g_i64 (by omega) (g_go ⟨by omega, by omega, fun j h1 h2 => by omega⟩ (by omega))
    obtain ⟨k, rfl⟩ : ∃ k : Nat, i = (k : Int) := ⟨i.toNat, by omega⟩
    refine g_bind (g50_gp h (k := k) (by omega) T hT) fun r hr => ?_
    refine g_if (fun ht => g_out (.inl ⟨k, rfl, by omega, by omega, hr.1 ht, fun j h1 h2 => hi2 j h1 (by omega)⟩)) fun hf => g_i64 (by omega) (g_go ⟨by omega, by omega, fun j h1 h2 => ?_⟩ (by omega))
    by_cases hj : (j : Int) < k
    · exact hi2 j h1 hj
    · have : j = k := by omega
      subst this
      exact fun hs => hf (hr.2 hs)
  · rintro o (⟨k, rfl, h1, h2, h3, h4⟩ | ⟨rfl, hs⟩)
    · exact g_sm (fun r hr => by cases hr; exact g_some (.inr ⟨hne, k, rfl, h1, h2, h3, h4⟩)) (fun r hr => by cases hr)
    · exact g_sm (fun r hr => by cases hr) (fun _ _ => hkk _ hs)
end Go.Proofs.YtenjkphlbdhaiaaGreat
end
section
namespace Go.Proofs.YtenjkphlbdhaiaaGreat
open Go Go.Eng
variable {b : Bf} {m : Int} {X G Y : List ByteArray}
theorem g56_any (s : ByteArray) (hn : s.size ≤ 1000) : ∃ cs, g56 s = some (strs cs) ∧ g58 s = some (strs cs) ∧ AllCl cs := by
  have hb := bytes_byt s
  have hl := bytesOf_len s
  obtain ⟨N, hN⟩ := ex_N hb
  have h1 := g56_eq hb (by omega) hN
  have h2 := g58_eq hb (by omega) hN
  rw [str_bytes] at h1 h2
  exact ⟨_, h1, h2, cuts_cl (rs_R hb)⟩
noncomputable def isB (s : ByteArray) : Bool := (g40 s).getD false
theorem is_both {s : ByteArray} (hn : s.size ≤ 1000) : g40 s = some (isB s) ∧ g49 s = some (isB s) ∧ (isB s = true → IsC s) := by
  obtain ⟨cs, h1, h2, h3⟩ := g56_any s hn
  have hl := strs_len cs
  have key : ∃ v, g40 s = some v ∧ g49 s = some v ∧ (v = true → IsC s) := by
    by_cases h : cs.length = 1
    · obtain ⟨x, rfl⟩ := List.length_eq_one_iff.1 h
      refine ⟨decide ((strOf x).data.toList = s.data.toList), ?_, ?_, fun hv => ?_⟩
      · refine g_eq ?_
        unfold g40
        exact g_call h1 (g_t (by rw [hl]; rfl) (g_ck (by rw [hl]; simp) (g_some rfl)))
      · refine g_eq ?_
        unfold g49
        exact g_call h2 (g_t (by rw [hl]; rfl) (g_ck (by rw [hl]; simp) (g_some rfl)))
      · have hv := bytes_ext (of_decide_eq_true hv)
        obtain ⟨R, hR⟩ := h3 x (.head _)
        exact ⟨x, R, hR, hv.symm⟩
    · refine ⟨false, ?_, ?_, fun h => by cases h⟩
      · refine g_eq ?_
        unfold g40
        exact g_call h1 (g_f (by rw [hl]; omega) (g_some rfl))
      · refine g_eq ?_
        unfold g49
        exact g_call h2 (g_f (by rw [hl]; omega) (g_some rfl))
  obtain ⟨v, e1, e2, e3⟩ := key
  have : isB s = v := by unfold isB; rw [e1]; rfl
  rw [this]
  exact ⟨e1, e2, e3⟩
noncomputable def wc (s : ByteArray) : Int := (g55 s).getD 0
theorem w_both {c : ByteArray} (h : IsC c) : g54 c = some (wc c) ∧ g55 c = some (wc c) := by
  obtain ⟨x, R, hc, rfl⟩ := h
  have hc' := hc
  obtain ⟨h1, h2, h3, v, M, h4, h5, h6⟩ := hc'
  have hb : Byt x := by rw [h1]; exact encs_byt h2
  have hz := str_size x
  obtain ⟨p1, p2⟩ := rs_encs h2
  rw [← h1] at p1 p2
  have e56 : g56 (strOf x) = some (strs [x]) := by rw [g56_eq hb (by omega) p1, p2, cl_cuts hc]
  have e58 : g58 (strOf x) = some (strs [x]) := by rw [g58_eq hb (by omega) p1, p2, cl_cuts hc]
  have hel := @enc_len4 v
  have hxl : 0 < x.length := by rw [h1, h4, encs_cons, List.length_append]; omega
  have e55 : g55 (strOf x) = some (wof v) := by
    refine g_eq ?_
    unfold g55
    have e0 : (strs [x]).getD (0 : Int).toNat default = strOf x := rfl
    refine g_call e58 (g_f (by rw [strs_len]; simp) (g_ck (by rw [strs_len]; simp) ?_))
    rw [e0, bytes_str hb]
    refine g_ck (by omega) (g_call (g61_eq hb (by omega) p1) ?_)
    dsimp only
    rw [p2, h4]
    exact g_ck (by simp only [List.length_cons]; omega) (g_call (g62_eq _) (g_some rfl))
  have e60 : g60 (strOf x) = some (wof v) := by
    refine g_eq ?_
    unfold g60
    rw [bytes_str hb]
    refine g_jo (g_ck (by omega) (g_bind (Ω := fun o => o = .inl (wof v)) (g_loop (fun _ : Unit => True) (fun _ => 0) (fun _ _ => g_if (fun _ => g_ck (by omega) ?_) fun hc => absurd (by omega) hc) trivial) ?_))
    · have e1 : (x.drop (0 : Int).toNat).take (((x.length : Nat) : Int).toNat - (0 : Int).toNat) = enc v ++ encs M := by
        have : (0 : Int).toNat = 0 := rfl
        rw [this, List.drop_zero, Int.toNat_natCast, Nat.sub_zero, List.take_length, h1, h4, encs_cons]
      rw [e1]
      have e2 : g102 (enc v ++ encs M) = some (v, ((enc v).length : Int), false) := by
        rw [← nx_enc (h2 v (by rw [h4]; exact .head _)) (encs M)]
        refine g102_eq ?_ ?_
        · rw [← encs_cons, ← h4, ← h1]; exact hb
        · rw [← encs_cons, ← h4, ← h1]; omega
      exact g_call e2 (g_f (fun h => by cases h) (g_call (g71_eq _) (g_out rfl)))
    · rintro _ rfl
      exact g_sm (fun w hw => by cases hw; exact g_some rfl) fun w hw => by cases hw
  have e54 : g54 (strOf x) = some (wof v) := by
    refine g_eq ?_
    unfold g54
    refine g_jo (g_call e56 (g_bind (Ω := fun o => o = .inl (wof v)) (g_loop (fun _ : Unit => True) (fun _ => 0) (fun _ _ => g_if (fun _ => g_ck (by rw [strs_len]; simp) ?_) fun hc => absurd (by rw [strs_len]; simp) hc) trivial) ?_))
    · have e0 : (strs [x]).getD (0 : Int).toNat default = strOf x := rfl
      rw [e0]
      exact g_call e60 (g_out rfl)
    · rintro _ rfl
      exact g_sm (fun w hw => by cases hw; exact g_some rfl) fun w hw => by cases hw
  have : wc (strOf x) = wof v := by unfold wc; rw [e55]; rfl
  rw [this]
  exact ⟨e54, e55⟩
theorem g32_same {A : List Int} (hn : A.length ≤ 1000000) : g32 A A = some true := by
  refine g_eq ?_
  unfold g32
  refine g_if (fun h => absurd rfl h) fun _ => g_jn (fun _ => True) (fun k hk => g_bind (g_loop (R := fun o => o = .inr ()) (fun i : Int => 0 ≤ i ∧ i ≤ A.length) (fun i : Int => ((A.length : Int) - i).toNat) ?_ ⟨Int.le_refl _, by omega⟩) ?_) fun _ _ => g_some rfl
  · rintro i ⟨h0, h1⟩
    exact g_if (fun hi => g_ck (by omega) (g_ck (by omega) (g_if (fun h => absurd rfl h) fun _ => g_i64 (by omega) (g_go ⟨by omega, by omega⟩ (by omega))))) fun hi => g_out rfl
  · rintro _ rfl
    exact g_sm (fun v hv => by cases hv) fun r hr => hk () trivial
theorem g20_any {A C : List ByteArray} (hn : A.length ≤ 1000000) : Gives (g20 A C) fun r => r = true ↔ A = C := by
  unfold g20
  refine g_if (fun h => g_some ⟨(fun h => by cases h), fun e => absurd (by rw [e]) h⟩) fun hl => ?_
  have hl : A.length = C.length := by omega
  refine g_jn (fun _ => A = C) (fun k hk => g_bind (g_loop (R := fun o => (o = .inl () ∧ A ≠ C) ∨ (o = .inr () ∧ A = C)) (fun i : Int => 0 ≤ i ∧ i ≤ A.length ∧ ∀ j : Nat, (j : Int) < i → A.getD j default = C.getD j default) (fun i : Int => ((A.length : Int) - i).toNat) ?_ ⟨Int.le_refl _, by omega, fun j hj => by omega⟩) ?_) fun _ h => g_some ⟨fun _ => h, fun _ => rfl⟩
  · rintro i ⟨h0, h1, h2⟩
    refine g_if (fun hi => g_ck (by omega) (g_ck (by omega) (g_if (fun hne => g_out (.inl ⟨rfl, fun e => hne (by rw [e])⟩)) fun heq => g_i64 (by omega) (g_go ⟨by omega, by omega, fun j hj => ?_⟩ (by omega))))) fun hi => g_out (.inr ⟨rfl, ?_⟩)
    · by_cases hji : (j : Int) < i
      · exact h2 j hji
      · have : j = i.toNat := by omega
        subst this
        exact bytes_ext (Decidable.not_not.1 heq)
    · refine List.ext_getElem hl fun j hj hj' => ?_
      have := h2 j (by omega)
      simpa [List.getD_eq_getElem?_getD, List.getElem?_eq_getElem, hj, hj'] using this
  · rintro o (⟨rfl, h⟩ | ⟨rfl, h⟩)
    · exact g_sm (fun _ _ => g_some ⟨(fun h => by cases h), fun e => absurd e h⟩) fun _ hr => by cases hr
    · exact g_sm (fun _ hr => by cases hr) fun _ _ => hk _ h
def ris (n : Nat) : List Int := (List.range n).map fun (i : Nat) => (i : Int)
theorem ris_len (n : Nat) : (ris n).length = n := by simp [ris]
theorem ris_succ (n : Nat) : ris (n + 1) = ris n ++ [(n : Int)] := by simp [ris, List.range_succ]
def fal (p n : Nat) : List Int := (List.range n).map fun (i : Nat) => (p : Int) - 1 - (i : Int)
theorem fal_len (p n : Nat) : (fal p n).length = n := by simp [fal]
theorem fal_succ (p n : Nat) : fal p (n + 1) = fal p n ++ [(p : Int) - 1 - (n : Int)] := by simp [fal, List.range_succ]
theorem fal_take (p n k : Nat) (h : k ≤ n) : (fal p n).take k = fal p k := by
  unfold fal
  rw [← List.map_take, List.take_range, Nat.min_eq_left h]
def fals (L : List ByteArray) (p n : Nat) : List ByteArray := (List.range n).map fun i => L.getD (p - 1 - i) default
theorem fals_len (L : List ByteArray) (p n : Nat) : (fals L p n).length = n := by simp [fals]
theorem fals_succ (L : List ByteArray) (p n : Nat) : fals L p (n + 1) = fals L p n ++ [L.getD (p - 1 - n) default] := by simp [fals, List.range_succ]
theorem fals_take (L : List ByteArray) (p n k : Nat) (h : k ≤ n) : (fals L p n).take k = fals L p k := by
  unfold fals
  rw [← List.map_take, List.take_range, Nat.min_eq_left h]
theorem g33_eq (n : Nat) (hn : n ≤ 1000000) : g33 n = some (ris n) := by
  refine g_eq ?_
  unfold g33
  refine g_jo (g_bind (Ω := fun o => o = ris n) (g_loop (fun s : List Int × Int => ∃ k : Nat, s = (ris k, (k : Int)) ∧ k ≤ n) (fun s => ((n : Int) - s.2).toNat) ?_ ⟨0, rfl, Nat.zero_le _⟩) fun o ho => g_some ho)
  rintro _ ⟨k, rfl, hk⟩
  dsimp only
  refine g_if (fun hlt => ?_) fun hge => g_out (by rw [show k = n by omega])
  rw [ris_len]
  exact g_ck (by omega) (g_i64 (by omega) (g_go ⟨k + 1, by rw [ris_succ]; rfl, by omega⟩ (by dsimp only; omega)))
theorem g31_eq {L : List ByteArray} {p : Nat} {mm : Int} (hp : p ≤ L.length) (hn : L.length ≤ 5000) : g31 (L, (p : Int), mm) = some (fal p p, fals L p p) := by
  refine g_eq ?_
  unfold g31
  dsimp only
  refine g_jo (g_i64 (by omega) (g_bind (Ω := fun o => o = (fal p p, fals L p p)) (g_loop (fun s : List Int × List ByteArray × Int => ∃ k : Nat, s = (fal p k, fals L p k, (p : Int) - 1 - (k : Int)) ∧ k ≤ p) (fun s => (s.2.2 + 1).toNat) ?_ ⟨0, Prod.ext rfl (Prod.ext rfl (by dsimp only; omega)), Nat.zero_le _⟩) fun o ho => g_some (by rw [ho])))
  rintro _ ⟨k, rfl, hk⟩
  dsimp only
  rw [fal_len, fals_len]
  refine g_if (fun hlt => ?_) fun hge => g_out (by rw [show k = p by omega])
  have e : ((p : Int) - 1 - (k : Int)).toNat = p - 1 - k := by omega
  rw [e]
  exact g_ck (by omega) (g_ck (by omega) (g_ck (by omega) (g_i64 (by omega) (g_go ⟨k + 1, by rw [fal_succ, fals_succ]; refine Prod.ext rfl (Prod.ext rfl ?_); dsimp only; omega, by omega⟩ (by dsimp only; omega)))))
theorem g35_eq {cs : List (List Int)} (hc : AllCl cs) (hn : cs.length ≤ 5000) (p mm : Int) : g35 (strs cs, p, mm) = some (strOf cs.flatten) := by
  have hsl := strs_len cs
  have hfl : ∀ k, (cs.take k).flatten.length ≤ 64 * k := fun k => by
    have := flen64 (cs := cs.take k) fun c h => (allcl_byt hc c (List.mem_of_mem_take h)).2
    rw [List.length_take] at this
    omega
  refine g_eq ?_
  unfold g35
  dsimp only
  refine g_jo (g_bind (Ω := fun o => o = strOf cs.flatten) (g_loop (fun s : ByteArray × Int => ∃ k : Nat, s = (strOf (cs.take k).flatten, (k : Int)) ∧ k ≤ cs.length) (fun s => ((cs.length : Int) - s.2).toNat) ?_ ⟨0, rfl, Nat.zero_le _⟩) fun o ho => g_some ho)
  rintro _ ⟨k, rfl, hk⟩
  dsimp only
  rw [hsl]
  refine g_if (fun hlt => g_ck (by omega) ?_) fun hge => g_out (by rw [List.take_of_length_le (by omega)])
  have hkl : k < cs.length := by omega
  have h1 := (allcl_byt hc cs[k] (List.getElem_mem _)).2
  have h2 := hfl k
  rw [Int.toNat_natCast, strs_get hkl]
  refine g_ck (by rw [str_size, str_size]; omega) (g_i64 (by omega) (g_go ⟨k + 1, ?_, by omega⟩ (by dsimp only; omega)))
  have e : (cs.take k).flatten ++ cs[k] = (cs.take (k + 1)).flatten := by rw [List.take_add_one, List.getElem?_eq_getElem hkl, List.flatten_append]; simp only [Option.toList_some, List.flatten_cons, List.flatten_nil, List.append_nil]
  rw [← str_app, e, Int.natCast_add]
  rfl
theorem g36_eq (h : Gp b m X G Y) (hc : ∀ c ∈ X ++ Y, IsC c) (hn : (X ++ Y).length ≤ 5000) : g36 b = some ((X ++ Y).map wc) := by
  refine g_eq ?_
  unfold g36
  refine g_jo (g_call (g34_gp h) ?_)
  generalize X ++ Y = L at hc hn
  refine g_bind (Ω := fun o => o = L.map wc) (g_loop (fun s : List Int × Int => ∃ k : Nat, s = ((L.take k).map wc, (k : Int)) ∧ k ≤ L.length) (fun s => ((L.length : Int) - s.2).toNat) ?_ ⟨0, rfl, Nat.zero_le _⟩) fun o ho => g_some ho
  rintro _ ⟨k, rfl, hk⟩
  dsimp only
  refine g_if (fun hlt => g_ck (by omega) ?_) fun hge => g_out (by rw [List.take_of_length_le (by omega)])
  have hkl : k < L.length := by omega
  rw [Int.toNat_natCast]
  refine g_call (w_both (isC_at hc hkl)).1 (g_ck (by rw [List.length_map, List.length_take]; omega) (g_i64 (by omega) (g_go ⟨k + 1, ?_, by omega⟩ (by dsimp only; omega))))
  rw [List.take_add_one, List.getElem?_eq_getElem hkl, List.map_append, List.getD_eq_getElem?_getD, List.getElem?_eq_getElem hkl, Int.natCast_add]
  rfl
theorem g37_eq {L : List ByteArray} (hc : ∀ c ∈ L, IsC c) (hn : L.length ≤ 5000) (p mm : Int) : g37 (L, p, mm) = some (L.map wc) := by
  refine g_eq ?_
  unfold g37
  dsimp only
  refine g_jo (g_bind (Ω := fun o => o = L.map wc) (g_loop (fun s : List Int × Int => ∃ k : Nat, s = ((L.take k).map wc, (k : Int)) ∧ k ≤ L.length) (fun s => ((L.length : Int) - s.2).toNat) ?_ ⟨0, rfl, Nat.zero_le _⟩) fun o ho => g_some ho)
  rintro _ ⟨k, rfl, hk⟩
  dsimp only
  refine g_if (fun hlt => g_ck (by omega) ?_) fun hge => g_out (by rw [List.take_of_length_le (by omega)])
  have hkl : k < L.length := by omega
  rw [Int.toNat_natCast]
  refine g_call (w_both (isC_at hc hkl)).2 (g_ck (by rw [List.length_map, List.length_take]; omega) (g_i64 (by omega) (g_go ⟨k + 1, ?_, by omega⟩ (by dsimp only; omega))))
  rw [List.take_add_one, List.getElem?_eq_getElem hkl, List.map_append, List.getD_eq_getElem?_getD, List.getElem?_eq_getElem hkl, Int.natCast_add]
  rfl
end Go.Proofs.YtenjkphlbdhaiaaGreat
end
section
namespace Go.Proofs.YtenjkphlbdhaiaaGreat
open Go Go.Eng
structure GI (b : Bf) (m : Int) (X Y : List ByteArray) : Prop where
  gp : ∃ G, Gp b m X G Y ∧ X.length + G.length + Y.length ≤ 9000
  sz : ((X.length + Y.length : Nat) : Int) ≤ m
  cl : ∀ c ∈ X ++ Y, IsC c
abbrev Rb := List ByteArray × Int × Int
variable {b : Bf} {m : Int} {X Y : List ByteArray} {L : List ByteArray} {p : Nat}
theorem GI.m4 (h : GI b m X Y) : m ≤ 4096 := by obtain ⟨G, hG, _⟩ := h.gp; exact hG.p1
theorem g46_eq (a : Int) (q mm : Int) : g46 (L, q, mm) a = some (tgt a L.length : Int) := by
  unfold g46
  rw [tgt_eq, gmax_eq, gmin_eq]
theorem g18_eq (a : Int) (q mm : Int) : g18 (L, q, mm) a = some ((L, (tgt a L.length : Int), mm), (tgt a L.length : Int)) := by
  refine g_eq ?_
  unfold g18
  exact g_call (g46_eq a q mm) (g_some rfl)
theorem g47_eq {A : List ByteArray} {f t : Nat} (hf : f ≤ L.length) (ht : t ≤ L.length) (hL : L.length ≤ 5000) (hA : A.length ≤ 5000) : g47 L f t A = some (L.take f ++ A ++ L.drop t) := by
  refine g_eq ?_
  unfold g47
  have h0 : (0 : Int).toNat = 0 := rfl
  have e1 : L.length - t = (L.drop t).length := by rw [List.length_drop]
  simp only [h0, Int.toNat_natCast, List.drop_zero, Nat.sub_zero, List.nil_append]
  rw [e1, List.take_length]
  exact g_ck (by omega) (g_ck (by rw [List.length_take]; omega) (g_ck (by rw [List.length_take]; omega) (g_ck (by omega) (g_ck (by rw [List.length_append, List.length_take, List.length_drop]; omega) (g_some rfl)))))
theorem g27_eq (a : Int) (q mm : Int) : g27 (L, q, mm) a = some (if 0 ≤ a ∧ a < (L.length : Int) then (L.getD a.toNat default, true) else (lit [], false)) := by
  refine g_eq ?_
  unfold g27
  dsimp only
  exact g_if (fun h0 => g_some (by rw [if_neg (by omega)])) fun h0 => g_if (fun h1 => g_some (by rw [if_neg (by omega)])) fun h1 => g_ck (by omega) (g_some (by rw [if_pos (by omega)]))
theorem g10_bad (h : GI b m X Y) {A : List ByteArray} (hz : ∀ s ∈ A, s.size ≤ 80) (hn : A.length ≤ 12) (hb : ¬ ∀ s ∈ A, isB s = true) : g10 b A = some (1, b) := by
  obtain ⟨G, hG, hT⟩ := h.gp
  refine g_eq ?_
  unfold g10
  refine g_call (g39_gp hG) (g_if (fun h => absurd rfl h) fun _ => g_jo (g_bind (g_loop (R := fun o => o = .inl ()) (fun i : Int => 0 ≤ i ∧ i ≤ A.length ∧ ∀ j : Nat, (j : Int) < i → isB (A.getD j default) = true) (fun i : Int => ((A.length : Int) - i).toNat) ?_ ⟨Int.le_refl _, by omega, fun j hj => by omega⟩) ?_))
  · rintro i ⟨h0, h1, h2⟩
    refine g_if (fun hi => g_ck (by omega) (g_call (is_both (by have := hz _ (getD_mem (l := A) (i := i.toNat) (by omega)); omega)).1 (g_if (fun _ => g_out rfl) fun hg => g_i64 (by omega) (g_go ⟨by omega, by omega, fun j hj => ?_⟩ (by omega))))) fun hi => ?_
    · by_cases hji : (j : Int) < i
      · exact h2 j hji
      · have : j = i.toNat := by omega
        subst this
        exact Decidable.not_not.1 hg
    · refine absurd (fun s hs => ?_) hb
      obtain ⟨j, hj, rfl⟩ := List.getElem_of_mem hs
      have := h2 j (by omega)
      simpa [List.getD_eq_getElem?_getD, List.getElem?_eq_getElem hj] using this
  · rintro _ rfl
    exact g_sm (fun v hv => g_some rfl) fun r hr => by cases hr
theorem g25_bad {A : List ByteArray} (hz : ∀ s ∈ A, s.size ≤ 80) (hn : A.length ≤ 12) (hb : ¬ ∀ s ∈ A, isB s = true) (q mm : Int) : g25 (L, q, mm) A = some ((L, q, mm), 1) := by
  refine g_eq ?_
  unfold g25
  refine g_jo (g_bind (g_loop (R := fun o => o = .inl ()) (fun i : Int => 0 ≤ i ∧ i ≤ A.length ∧ ∀ j : Nat, (j : Int) < i → isB (A.getD j default) = true) (fun i : Int => ((A.length : Int) - i).toNat) ?_ ⟨Int.le_refl _, by omega, fun j hj => by omega⟩) ?_)
  · rintro i ⟨h0, h1, h2⟩
    refine g_if (fun hi => g_ck (by omega) (g_call (is_both (by have := hz _ (getD_mem (l := A) (i := i.toNat) (by omega)); omega)).2.1 (g_if (fun _ => g_out rfl) fun hg => g_i64 (by omega) (g_go ⟨by omega, by omega, fun j hj => ?_⟩ (by omega))))) fun hi => ?_
    · by_cases hji : (j : Int) < i
      · exact h2 j hji
      · have : j = i.toNat := by omega
        subst this
        exact Decidable.not_not.1 hg
    · refine absurd (fun s hs => ?_) hb
      obtain ⟨j, hj, rfl⟩ := List.getElem_of_mem hs
      have := h2 j (by omega)
      simpa [List.getD_eq_getElem?_getD, List.getElem?_eq_getElem hj] using this
  · rintro _ rfl
    exact g_sm (fun v hv => g_some rfl) fun r hr => by cases hr
theorem g25_good {A : List ByteArray} (hz : ∀ s ∈ A, s.size ≤ 80) (hn : A.length ≤ 12) (hb : ∀ s ∈ A, isB s = true) (hp : p ≤ L.length) {mm : Int} (hL : L.length ≤ 4096) (hm : 0 < mm ∧ mm ≤ 4096) : g25 (L, (p : Int), mm) A = some (if mm < ((L.length + A.length : Nat) : Int) then ((L, (p : Int), mm), 3) else ((L.take p ++ A ++ L.drop p, ((p + A.length : Nat) : Int), mm), 0)) := by
  refine g_eq ?_
  unfold g25
  refine g_jn (fun _ => True) (fun k hk => g_bind (g_loop (R := fun o => o = .inr ()) (fun i : Int => 0 ≤ i ∧ i ≤ A.length) (fun i : Int => ((A.length : Int) - i).toNat) ?_ ⟨Int.le_refl _, by omega⟩) ?_) fun _ _ => ?_
  · rintro i ⟨h0, h1⟩
    refine g_if (fun hi => g_ck (by omega) (g_call (is_both (by have := hz _ (getD_mem (l := A) (i := i.toNat) (by omega)); omega)).2.1 (g_if (fun hg => absurd (hb _ (getD_mem (by omega))) hg) fun hg => g_i64 (by omega) (g_go ⟨by omega, by omega⟩ (by omega))))) fun hi => g_out rfl
  · rintro _ rfl
    exact g_sm (fun v hv => by cases hv) fun r hr => hk () trivial
  · dsimp only
    refine g_i64 (by omega) (g_if (fun hlt => g_some (by rw [if_pos (by omega)])) fun hge => g_call (g47_eq hp hp (by omega) (by omega)) (g_i64 (by omega) (g_some (by rw [if_neg (by omega), Int.natCast_add]))))
theorem ins_both (h : GI b m X Y) {A : List ByteArray} (hz : ∀ s ∈ A, s.size ≤ 80) (hn : A.length ≤ 12) : ∃ c b' X' Y', g10 b A = some (c, b') ∧ g25 (X ++ Y, (X.length : Int), m) A = some ((X' ++ Y', (X'.length : Int), m), c) ∧ GI b' m X' Y' := by
  have hs := h.sz
  have hm4 := h.m4
  obtain ⟨G, hG, hT⟩ := h.gp
  have h0 := hG.p0
  have hll : (X ++ Y).length = X.length + Y.length := List.length_append
  by_cases hb : ∀ s ∈ A, isB s = true
  · have hc : ∀ s ∈ A, IsC s := fun s hs => (is_both (by have := hz s hs; omega)).2.2 (hb s hs)
    have e25 := g25_good (L := X ++ Y) (p := X.length) hz hn hb (by omega) (mm := m) (by omega) ⟨h0, hm4⟩
    by_cases hr : m < ((X.length + Y.length + A.length : Nat) : Int)
    · rw [if_pos (by rw [hll]; exact hr)] at e25
      exact ⟨3, b, X, Y, g10_many hG (fun c hc' => isC_is (hc c hc')) hr (by omega), e25, h⟩
    · rw [if_neg (by rw [hll]; exact hr), List.take_left, List.drop_left] at e25
      obtain ⟨b', G', e1, hG', hT'⟩ := g10_gp' hG (A := A) (fun c hc' => isC_is (hc c hc')) (by omega) (by omega) hT
      refine ⟨0, b', X ++ A, Y, e1, ?_, ⟨G', hG', hT'⟩, by rw [List.length_append]; omega, fun c hc' => ?_⟩
      · rw [e25, List.length_append]
      · rcases List.mem_append.1 hc' with hc' | hc'
        · rcases List.mem_append.1 hc' with hc' | hc'
          · exact h.cl c (List.mem_append.2 (.inl hc'))
          · exact hc c hc'
        · exact h.cl c (List.mem_append.2 (.inr hc'))
  · exact ⟨1, b, X, Y, g10_bad h hz hn hb, g25_bad hz hn hb _ _, h⟩
theorem set_right {α : Type} {X G Y : List α} {k : Nat} {c : α} (hk : X.length + G.length ≤ k) : (X ++ (G ++ Y)).set k c = X ++ (G ++ Y.set (k - X.length - G.length) c) := by
  rw [List.set_append_right _ _ (by omega), List.set_append_right _ _ (by omega)]
theorem rep_both (h : GI b m X Y) (a : Int) {s : ByteArray} (hz : s.size ≤ 80) : ∃ c b' X' Y', g21 b a s = some (c, b') ∧ g22 (X ++ Y, (X.length : Int), m) a s = some ((X' ++ Y', (X'.length : Int), m), c) ∧ GI b' m X' Y' := by
  have hs := h.sz
  have hm4 := h.m4
  obtain ⟨G, hG, hT⟩ := h.gp
  have hn := hG.pn
  have hll : (X ++ Y).length = X.length + Y.length := List.length_append
  obtain ⟨i1, i2, i3⟩ := is_both (s := s) (by omega)
  have low : ∀ (hh : a < 0 ∨ ((X.length + Y.length : Nat) : Int) ≤ a), g21 b a s = some (5, b) ∧ g22 (X ++ Y, (X.length : Int), m) a s = some ((X ++ Y, (X.length : Int), m), 5) := fun hh => by
    constructor
    · refine g_eq ?_
      unfold g21
      refine g_call (g39_gp hG) (g_if (fun hc => absurd rfl hc) fun _ => g_if (fun _ => g_some rfl) fun h0 => g_call (g41_gp hG) (g_if (fun _ => g_some rfl) fun h1 => by omega))
    · refine g_eq ?_
      unfold g22
      dsimp only
      exact g_if (fun _ => g_some rfl) fun h0 => g_if (fun _ => g_some rfl) fun h1 => by rw [hll] at h1; omega
  by_cases hh : a < 0 ∨ ((X.length + Y.length : Nat) : Int) ≤ a
  · exact ⟨5, b, X, Y, (low hh).1, (low hh).2, h⟩
  obtain ⟨k, rfl⟩ : ∃ k : Nat, a = (k : Int) := ⟨a.toNat, by omega⟩
  have hk : k < X.length + Y.length := by omega
  have e22 : ∀ v, isB s = v → g22 (X ++ Y, (X.length : Int), m) k s = some (if v = true then (((X ++ Y).set k s, (X.length : Int), m), 0) else ((X ++ Y, (X.length : Int), m), 1)) := fun v hv => by
    refine g_eq ?_
    unfold g22
    dsimp only
    refine g_f (by omega) (g_f (by omega) (g_call i2 ?_))
    subst hv
    refine g_if (fun hb => g_some (by rw [if_neg hb])) fun hb => g_i64 (by omega) ?_
    have e1 : (k : Int) + 1 = ((k + 1 : Nat) : Int) := by omega
    rw [e1]
    refine g_call (g47_eq (by omega) (by omega) (by omega) (by simp)) (g_some ?_)
    rw [if_pos (Decidable.not_not.1 hb), List.set_eq_take_append_cons_drop, if_pos (by omega)]
    simp
  cases hv : isB s with
  | false =>
    have e2 := e22 _ hv
    rw [if_neg (by decide)] at e2
    refine ⟨1, b, X, Y, ?_, e2, h⟩
    refine g_eq ?_
    unfold g21
    exact g_call (g39_gp hG) (g_f (fun h => h rfl) (g_f (by omega) (g_call (g41_gp hG) (g_f (by omega) (g_call i1 (g_t (by rw [hv]; decide) (g_some rfl)))))))
  | true =>
    have e2 := e22 _ hv
    rw [if_pos rfl] at e2
    have hsc := i3 hv
    have hpre : ∀ {Φ : Int × Bf → Prop}, Gives ((g48 b k).bind fun v24 => ck (0 ≤ v24 ∧ v24 < ((b.2.1.length : Nat) : Int)) <| some (0, (b.1, (b.2.1.set v24.toNat s), b.2.2.1, b.2.2.2))) Φ → Gives (g21 b k s) Φ := fun hH => by
      unfold g21
      exact g_call (g39_gp hG) (g_f (fun h => h rfl) (g_f (by omega) (g_call (g41_gp hG) (g_f (by omega) (g_call i1 (g_f (by rw [hv]; exact fun h => h rfl) hH))))))
    have hmem : ∀ {Z : List ByteArray} {j : Nat}, (∀ c ∈ Z, IsC c) → ∀ c ∈ Z.set j s, IsC c := fun hZ c hc => by
      rcases List.mem_or_eq_of_mem_set hc with hc | rfl
      · exact hZ c hc
      · exact hsc
    have hsplit := fun c => h.cl c
    by_cases hx : k < X.length
    · have main : Gives (g21 b k s) fun r => r.1 = 0 ∧ Gp r.2 m (X.set k s) G Y := hpre (by
        refine g_bind (Ω := fun v => v = (k : Int)) ?_ ?_
        · unfold g48
          refine g_if (fun _ => g_some rfl) fun hc => absurd ?_ hc
          rw [hG.e]; dsimp only; omega
        rintro _ rfl
        refine g_ck (by rw [hG.e]; simp only [List.length_append]; omega) (g_some ⟨rfl, ?_, hG.p0, hG.p1, by simpa using hn⟩)
        rw [hG.e]
        dsimp only
        rw [Int.toNat_natCast, set_mid hx, List.length_set])
      obtain ⟨⟨c, b'⟩, e1, rfl, hG'⟩ := main
      refine ⟨0, b', X.set k s, Y, e1, ?_, ⟨⟨G, hG', by rw [List.length_set]; exact hT⟩, by rw [List.length_set]; exact hs, fun c hc => ?_⟩⟩
      · rw [e2, List.length_set, List.set_append_left _ _ hx]
      · rcases List.mem_append.1 hc with hc | hc
        · exact hmem (fun c hc => h.cl c (List.mem_append.2 (.inl hc))) c hc
        · exact h.cl c (List.mem_append.2 (.inr hc))
    · have main : Gives (g21 b k s) fun r => r.1 = 0 ∧ Gp r.2 m X G (Y.set (k - X.length) s) := hpre (by
        refine g_bind (Ω := fun v => v = ((k + G.length : Nat) : Int)) ?_ ?_
        · unfold g48
          refine g_if (fun hc => absurd hc ?_) fun _ => ?_
          · rw [hG.e]; dsimp only; omega
          · rw [hG.e]; dsimp only
            exact g_i64 (by omega) (g_i64 (by omega) (g_some (by omega)))
        rintro _ rfl
        refine g_ck (by rw [hG.e]; simp only [List.length_append]; omega) (g_some ⟨rfl, ?_, hG.p0, hG.p1, by simpa using hn⟩)
        rw [hG.e]
        dsimp only
        rw [Int.toNat_natCast, set_right (by omega), show k + G.length - X.length - G.length = k - X.length by omega])
      obtain ⟨⟨c, b'⟩, e1, rfl, hG'⟩ := main
      refine ⟨0, b', X, Y.set (k - X.length) s, e1, ?_, ⟨⟨G, hG', by rw [List.length_set]; exact hT⟩, by rw [List.length_set]; exact hs, fun c hc => ?_⟩⟩
      · rw [e2, List.set_append_right _ _ (by omega)]
      · rcases List.mem_append.1 hc with hc | hc
        · exact h.cl c (List.mem_append.2 (.inl hc))
        · exact hmem (fun c hc => h.cl c (List.mem_append.2 (.inr hc))) c hc
theorem mov_both (h : GI b m X Y) (a : Int) : ∃ n b' X' Y', g11 b a = some (n, b') ∧ g18 (X ++ Y, (X.length : Int), m) a = some ((X' ++ Y', (X'.length : Int), m), n) ∧ GI b' m X' Y' := by
  obtain ⟨G, hG, hT⟩ := h.gp
  have hs := h.sz
  have hll : (X ++ Y).length = X.length + Y.length := List.length_append
  obtain ⟨b', G', e1, hG', hl⟩ := g11_gp hG a
  have ht := tgt_le a (X.length + Y.length)
  have hlt : ((X ++ Y).take (tgt a (X.length + Y.length))).length = tgt a (X.length + Y.length) := by rw [List.length_take]; omega
  refine ⟨_, b', _, _, e1, ?_, ⟨G', hG', ?_⟩, ?_, ?_⟩
  · rw [g18_eq, hll, List.take_append_drop, hlt]
  · rw [hlt, List.length_drop]; omega
  · rw [hlt, List.length_drop]; omega
  · rw [List.take_append_drop]; exact h.cl
theorem del_both (h : GI b m X Y) (a t : Int) : ∃ o b' X' Y', g13 b a t = some (o, b') ∧ g19 (X ++ Y, (X.length : Int), m) a t = some ((X' ++ Y', (X'.length : Int), m), o) ∧ GI b' m X' Y' ∧ o.length ≤ 5000 := by
  obtain ⟨G, hG, hT⟩ := h.gp
  have hs := h.sz
  have hm4 := h.m4
  have hll : (X ++ Y).length = X.length + Y.length := List.length_append
  obtain ⟨i, hi⟩ : ∃ i, tgt a (X.length + Y.length) = i := ⟨_, rfl⟩
  obtain ⟨j, hj⟩ : ∃ j, tgt t (X.length + Y.length) = j := ⟨_, rfl⟩
  have hil := tgt_le a (X.length + Y.length)
  have hjl := tgt_le t (X.length + Y.length)
  rw [hi] at hil
  rw [hj] at hjl
  obtain ⟨b', G', X', Y', o, e1, hG', hT', hc⟩ := g13_gp hG a t hi hj
  have e46a := g46_eq (L := X ++ Y) a (X.length : Int) m
  have e46b := g46_eq (L := X ++ Y) t (X.length : Int) m
  rw [hll, hi] at e46a
  rw [hll, hj] at e46b
  rcases hc with ⟨hji, rfl, rfl, rfl⟩ | ⟨hij, rfl, hxy, hxl⟩
  · refine ⟨[], b', X', Y', e1, ?_, ⟨⟨G', hG', by omega⟩, hs, h.cl⟩, by simp⟩
    refine g_eq ?_
    unfold g19
    exact g_call e46a (g_call e46b (g_t (by omega) (g_some rfl)))
  · have hol : (((X ++ Y).drop i).take (j - i)).length = j - i := by rw [List.length_take, List.length_drop, hll]; omega
    have hlen : X'.length + Y'.length = X.length + Y.length - (j - i) := by rw [← List.length_append, hxy, List.length_append, List.length_take, List.length_drop, hll]; omega
    refine ⟨_, b', X', Y', e1, ?_, ⟨⟨G', hG', by omega⟩, by omega, ?_⟩, by omega⟩
    · refine g_eq ?_
      unfold g19
      refine g_call e46a (g_call e46b (g_f (by omega) ?_))
      dsimp only
      rw [Int.toNat_natCast, Int.toNat_natCast]
      refine g_ck (by omega) (g_ck (by omega) (g_call (g47_eq (A := []) (by omega) (by omega) (by omega) (by decide)) ?_))
      rw [List.append_nil, List.nil_append, hxy]
      split at hxl
      · exact g_t (by omega) (g_i64 (by omega) (g_i64 (by omega) (g_some (by rw [hxl]; refine Prod.ext (Prod.ext rfl (Prod.ext ?_ rfl)) rfl; dsimp only; omega))))
      · refine g_f (by omega) ?_
        split at hxl
        · exact g_f (by omega) (g_some (by rw [hxl]))
        · refine g_if (fun hc => g_some (by rw [hxl])) fun hc => g_some (by rw [hxl]; refine Prod.ext (Prod.ext rfl (Prod.ext ?_ rfl)) rfl; dsimp only; omega)
    · rw [hxy]
      intro c hc
      rcases List.mem_append.1 hc with hc | hc
      · exact h.cl c (List.mem_of_mem_take hc)
      · exact h.cl c (List.mem_of_mem_drop hc)
theorem g24_rel {T : List ByteArray} (hT : T.length ≤ 1000) (hp : p ≤ L.length) (hL : L.length ≤ 5000) (mm : Int) : Gives (g24 (L, (p : Int), mm) T) fun r =>
    (r = (0, false) ∧ (T = [] ∨ ∀ k, p ≤ k → k < L.length → ¬ standsAt L k T)) ∨
    (T ≠ [] ∧ ∃ k : Nat, r = ((k : Int), true) ∧ p ≤ k ∧ k < L.length ∧ standsAt L k T ∧ ∀ j, p ≤ j → j < k → ¬ standsAt L j T) := by
  unfold g24
  dsimp only
  refine g_jn (fun _ => T = [] ∨ ∀ k, p ≤ k → k < L.length → ¬ standsAt L k T) (fun kk hkk => g_bind (g_loop (R := fun o => (∃ k : Nat, o = .inl (k : Int) ∧ T ≠ [] ∧ p ≤ k ∧ k < L.length ∧ standsAt L k T ∧ ∀ j, p ≤ j → j < k → ¬ standsAt L j T) ∨ (o = .inr () ∧ (T = [] ∨ ∀ k, p ≤ k → k < L.length → ¬ standsAt L k T)))
    (fun i : Int => ∃ k : Nat, i = (k : Int) ∧ p ≤ k ∧ k ≤ L.length ∧ ∀ j, p ≤ j → j < k → ¬ standsAt L j T) (fun i : Int => ((L.length : Int) - i).toNat) ?_ ⟨p, rfl, Nat.le_refl _, hp, fun j _ _ => by omega⟩) ?_) fun _ hs => g_some (.inl ⟨rfl, hs⟩)
  · rintro _ ⟨k, rfl, h1, h2, h3⟩
    refine g_if (fun hT0 => ?_) fun hT0 => g_out (.inr ⟨rfl, .inl (List.eq_nil_of_length_eq_zero (by omega))⟩)
    have hne : T ≠ [] := fun e => by subst e; simp at hT0
    refine g_if (fun hk => g_i64 (by omega) (g_if (fun hle => ?_) fun hle => g_out (.inr ⟨rfl, .inr fun j j1 j2 hst => ?_⟩))) fun hk => g_out (.inr ⟨rfl, .inr fun j j1 j2 => h3 j j1 (by omega)⟩)
    · have e : ((k : Int) + ((T.length : Nat) : Int)).toNat - (k : Int).toNat = T.length := by omega
      rw [e, Int.toNat_natCast]
      refine g_i64 (by omega) (g_ck (by omega) (g_bind (g20_any (by rw [List.length_take, List.length_drop]; omega)) fun r hr => g_if (fun ht => g_out (.inl ⟨k, rfl, hne, h1, by omega, hr.1 ht, h3⟩)) fun hf => g_i64 (by omega) (g_go ⟨k + 1, by omega, by omega, by omega, fun j j1 j2 => ?_⟩ (by omega))))
      by_cases hjk : j < k
      · exact h3 j j1 hjk
      · have : j = k := by omega
        subst this
        exact fun hs => hf (hr.2 hs)
    · by_cases hjk : j < k
      · exact h3 j j1 hjk hst
      · have := standsAt_len hst
        omega
  · rintro o (⟨k, rfl, h0, h1, h2, h3, h4⟩ | ⟨rfl, hs⟩)
    · exact g_sm (fun r hr => by cases hr; exact g_some (.inr ⟨h0, k, rfl, h1, h2, h3, h4⟩)) (fun r hr => by cases hr)
    · exact g_sm (fun r hr => by cases hr) (fun _ _ => hkk _ hs)
theorem find_both (h : GI b m X Y) {T : List ByteArray} (hT : T.length ≤ 12) : ∃ r, g23 b T = some r ∧ g24 (X ++ Y, (X.length : Int), m) T = some r := by
  obtain ⟨G, hG, hT'⟩ := h.gp
  have hs := h.sz
  have hm4 := h.m4
  have hll : (X ++ Y).length = X.length + Y.length := List.length_append
  obtain ⟨r, e1, h1⟩ := g23_gp hG T (by omega)
  obtain ⟨r', e2, h2⟩ := g24_rel (L := X ++ Y) (p := X.length) (T := T) (by omega) (by omega) (by omega) m
  rw [hll] at h2
  have : r = r' := by
    rcases h1 with ⟨rfl, h1⟩ | ⟨hne, k, rfl, a1, a2, a3, a4⟩ <;> rcases h2 with ⟨rfl, h2⟩ | ⟨hne', k', rfl, b1, b2, b3, b4⟩
    · rfl
    · rcases h1 with h1 | h1
      · exact absurd h1 hne'
      · exact absurd b3 (h1 k' b1 b2)
    · rcases h2 with h2 | h2
      · exact absurd h2 hne
      · exact absurd a3 (h2 k a1 a2)
    · have : k = k' := by
        rcases Nat.lt_trichotomy k k' with hlt | he | hlt
        · exact absurd a3 (b4 k a1 hlt)
        · exact he
        · exact absurd b3 (a4 k' b1 hlt)
      rw [this]
  subst this
  exact ⟨r, e1, e2⟩
end Go.Proofs.YtenjkphlbdhaiaaGreat
end
section
namespace Go.Proofs.YtenjkphlbdhaiaaGreat
open Go Go.Eng
variable {b : Bf} {m : Int} {X Y : List ByteArray} {L : List ByteArray} {p : Nat}
theorem g17_gives (L : List ByteArray) : Gives (g17 L) fun T => T.length ≤ 12 ∧ ∀ s ∈ T, s.size ≤ 80 := by
  unfold g17
  refine g_jn (fun v => v.length ≤ 12 ∧ ∀ s ∈ v, s.size ≤ 80) (fun kk hkk => g_bind (g_loop (R := fun v : List ByteArray => v.length ≤ 12 ∧ ∀ s ∈ v, s.size ≤ 80) (fun s : List ByteArray × Int => 0 ≤ s.2 ∧ s.2 ≤ 12 ∧ (s.1.length : Int) ≤ s.2 ∧ ∀ x ∈ s.1, x.size ≤ 80) (fun s => (12 - s.2).toNat) ?_ ⟨Int.le_refl _, by decide, Int.le_refl _, fun x hx => by cases hx⟩) fun v hv => hkk v hv) fun v hv => g_some hv
  rintro ⟨l, i⟩ ⟨h0, h1, h2, h3⟩
  dsimp only at h0 h1 h2 h3 ⊢
  have add : ∀ {x : ByteArray}, x.size ≤ 80 → ∀ y ∈ l ++ [x], y.size ≤ 80 := fun hx y hy => by
    rcases List.mem_append.1 hy with hy | hy
    · exact h3 y hy
    · rw [List.mem_singleton.1 hy]; exact hx
  refine g_if (fun hi => g_if (fun h12 => g_ck (by omega) (g_if (fun h80 => g_ck (by omega) (g_ck (by omega) (g_i64 (by omega) (g_go ⟨by omega, by omega, by simp; omega, add ?_⟩ (by omega))))) fun h80 => g_ck (by omega) (g_i64 (by omega) (g_go ⟨by omega, by omega, by simp; omega, add (by omega)⟩ (by omega))))) fun _ => g_out ⟨by omega, h3⟩) fun _ => g_out ⟨by omega, h3⟩
  rw [ByteArray.size_extract]
  have e1 : (80 : Int).toNat = 80 := rfl
  have e2 : (0 : Int).toNat = 0 := rfl
  omega
theorem g9_eq (h : GI b m X Y) (a : Int) {st : Int} (h0 : 0 ≤ st ∧ st ≤ 255) : g9 b (X ++ Y, (X.length : Int), m) a st = some (true, b) := by
  have hs := h.sz
  have hm4 := h.m4
  obtain ⟨G, hG, hT⟩ := h.gp
  have hm0 := hG.p0
  have hll : (X ++ Y).length = X.length + Y.length := List.length_append
  obtain ⟨cs, hcs, hxy⟩ := isC_list h.cl
  have hcl := strs_len cs
  rw [← hxy, hll] at hcl
  have e27 := g27_eq (L := X ++ Y) a (X.length : Int) m
  rw [hll] at e27
  have e26 := g26_gp hG a
  have e34 := g34_gp hG
  have e14 := g14_gp hG
  have e16 := g16_gp hG
  have e38 := g38_gp hG
  have e12 := g12_gp hG hxy (allcl_byt hcs) (by omega)
  have e35 := g35_eq hcs (by omega) (X.length : Int) m
  rw [← hxy] at e35
  have e36 := g36_eq hG h.cl (by omega)
  have e37 := g37_eq h.cl (by omega) (X.length : Int) m
  have e31 := g31_eq (L := X ++ Y) (p := X.length) (mm := m) (by omega) (by omega)
  obtain ⟨n, rfl⟩ : ∃ n : Nat, st = (n : Int) := ⟨st.toNat, by omega⟩
  generalize hLL : X ++ Y = L at *
  generalize hx : X.length = lo at *
  have hlo : lo ≤ L.length := by omega
  refine g_eq ?_
  unfold g9
  refine g_call e26 (g_call e27 ?_)
  refine g_jn (fun v => v = (ris (min n L.length), L.take (min n L.length))) (fun k hk => g_call e34 (g_bind (g_loop (R := fun o : (List Int × List ByteArray) ⊕ (List Int × List ByteArray) => o = .inl (ris (min n L.length), L.take (min n L.length)) ∨ o = .inr (ris (min n L.length), L.take (min n L.length)))
    (fun s : List Int × List ByteArray × Int => ∃ k : Nat, s = (ris k, L.take k, (k : Int)) ∧ k ≤ L.length ∧ k ≤ n) (fun s => ((L.length : Int) - s.2.2).toNat) ?_ ⟨0, rfl, Nat.zero_le _, Nat.zero_le _⟩) ?_)) ?_
  · rintro _ ⟨k, rfl, hk1, hk2⟩
    dsimp only
    rw [ris_len, List.length_take]
    refine g_if (fun hlt => g_ck (by omega) (g_if (fun hge => g_out (.inl (by rw [show min n L.length = k by omega]))) fun hlt2 => g_ck (by omega) (g_ck (by omega) (g_i64 (by omega) (g_go ⟨k + 1, ?_, by omega, by omega⟩ (by dsimp only; omega)))))) fun hge => g_out (.inr (by rw [show min n L.length = k by omega]))
    have hkl : k < L.length := by omega
    rw [ris_succ, List.take_add_one, List.getElem?_eq_getElem hkl, Int.toNat_natCast, List.getD_eq_getElem?_getD, List.getElem?_eq_getElem hkl]
    rfl
  · rintro _ (rfl | rfl)
    · exact g_sm (fun v hv => by cases hv; exact hk _ rfl) fun v hv => by cases hv
    · exact g_sm (fun v hv => by cases hv) fun v hv => by cases hv; exact hk _ rfl
  rintro _ rfl
  refine g_jn (fun v => v = (fal lo (min n lo), fals L lo (min n lo))) (fun k hk => g_call e34 (g_call e14 (g_i64 (by omega) (g_bind (g_loop (R := fun o : (List Int × List ByteArray) ⊕ (List Int × List ByteArray) => o = .inl (fal lo (min n lo), fals L lo (min n lo)) ∨ o = .inr (fal lo (min n lo), fals L lo (min n lo)))
    (fun s : List Int × List ByteArray × Int => ∃ k : Nat, s = (fal lo k, fals L lo k, (lo : Int) - 1 - (k : Int)) ∧ k ≤ lo ∧ k ≤ n) (fun s => (s.2.2 + 1).toNat) ?_ ⟨0, Prod.ext rfl (Prod.ext rfl (by dsimp only; omega)), Nat.zero_le _, Nat.zero_le _⟩) ?_)))) ?_
  · rintro _ ⟨k, rfl, hk1, hk2⟩
    dsimp only
    rw [fal_len, fals_len]
    refine g_if (fun hlt => g_ck (by omega) (g_if (fun hge => g_out (.inl (by rw [show min n lo = k by omega]))) fun hlt2 => g_ck (by omega) (g_ck (by omega) (g_i64 (by omega) (g_go ⟨k + 1, ?_, by omega, by omega⟩ (by dsimp only; omega)))))) fun hge => g_out (.inr (by rw [show min n lo = k by omega]))
    have e : ((lo : Int) - 1 - (k : Int)).toNat = lo - 1 - k := by omega
    rw [fal_succ, fals_succ, e]
    refine Prod.ext rfl (Prod.ext rfl ?_)
    dsimp only
    omega
  · rintro _ (rfl | rfl)
    · exact g_sm (fun v hv => by cases hv; exact hk _ rfl) fun v hv => by cases hv
    · exact g_sm (fun v hv => by cases hv) fun v hv => by cases hv; exact hk _ rfl
  rintro _ rfl
  dsimp only
  refine g_call e31 (g_f (not_not_intro rfl) (g_f (not_not_intro Iff.rfl) ?_))
  have h00 : (0 : Int).toNat = 0 := rfl
  have q1 : gmin (n : Int) ((L.length : Nat) : Int) = ((min n L.length : Nat) : Int) := by rw [gmin_eq]; omega
  have q2 : gmin (n : Int) (((fal lo lo).length : Nat) : Int) = ((min n lo : Nat) : Int) := by rw [gmin_eq, fal_len]; omega
  dsimp only
  rw [q1, q2]
  refine g_call (g33_eq _ (by omega)) (g_call (g32_same (by rw [ris_len]; omega)) (g_f (by decide) (g_ck (by omega) ?_)))
  rw [h00, Int.toNat_natCast, Nat.sub_zero, List.drop_zero]
  refine g_call (g20_same (by rw [List.length_take]; omega)) (g_f (by decide) (g_ck (by rw [fal_len]; omega) ?_))
  rw [Int.toNat_natCast, Nat.sub_zero, List.drop_zero, List.drop_zero, fal_take _ _ _ (by omega), fals_take _ _ _ _ (by omega)]
  refine g_call (g32_same (by rw [fal_len]; omega)) (g_f (by decide) (g_ck (by rw [fals_len]; omega) (g_call (g20_same (by rw [fals_len]; omega)) (g_f (by decide) ?_))))
  refine g_call e34 (g_call (g20_same (by omega)) (g_t rfl (g_call e12 (g_call e35 (g_t rfl (g_call e36 (g_call e37 (g_call (g32_same (by rw [List.length_map]; omega)) (g_t rfl (g_call e14 (g_t rfl (g_call e16 (g_t (by omega) (g_call e38 (g_i64 (by omega) (g_some ?_))))))))))))))))
  refine Prod.ext (decide_eq_true ?_) rfl
  omega
theorem g8_gives (h : GI b m X Y) (op : Int × Int × Int × List ByteArray) : Gives (g8 b (X ++ Y, (X.length : Int), m) op) fun r => ∃ b' X' Y', r = ((X' ++ Y', (X'.length : Int), m), true, b') ∧ GI b' m X' Y' := by
  unfold g8
  refine g_jn (fun v => v.length ≤ 12 ∧ ∀ s ∈ v, s.size ≤ 80) (fun k hk => g_bind (g17_gives _) fun v hv => hk v hv) ?_
  rintro T ⟨hT, hTz⟩
  refine g_if (fun _ => ?_) fun _ => g_if (fun _ => ?_) fun _ => g_if (fun _ => ?_) fun _ => g_if (fun _ => ?_) fun _ => ?_
  · obtain ⟨n, b', X', Y', e1, e2, h'⟩ := mov_both h op.2.1
    exact g_call e1 (g_call e2 (g_some ⟨b', X', Y', by simp, h'⟩))
  · obtain ⟨o, b', X', Y', e1, e2, h', ho⟩ := del_both h op.2.1 op.2.2.1
    exact g_call e1 (g_call e2 (g_call (g20_same (by dsimp only; omega)) (g_some ⟨b', X', Y', rfl, h'⟩)))
  · refine g_jn (fun v => v.size ≤ 80) (fun k hk => g_if (fun h0 => g_ck (by omega) (hk _ (hTz _ (getD_mem (by have : (0 : Int).toNat = 0 := rfl; omega))))) fun _ => hk _ (by decide)) fun s hs => ?_
    obtain ⟨n, b', X', Y', e1, e2, h'⟩ := rep_both h op.2.1 hs
    exact g_call e1 (g_call e2 (g_some ⟨b', X', Y', by simp, h'⟩))
  · obtain ⟨r, e1, e2⟩ := find_both h hT
    exact g_call e1 (g_call e2 (g_t rfl (g_some ⟨b, X, Y, by simp, h⟩)))
  · obtain ⟨n, b', X', Y', e1, e2, h'⟩ := ins_both h hTz hT
    exact g_call e1 (g_call e2 (g_some ⟨b', X', Y', by simp, h'⟩))
theorem gi_new (h0 : 0 < m) (h1 : m ≤ 4096) : GI (m, [], 0, 0) m [] [] :=
  ⟨⟨[], gp_new h0 h1, by decide⟩, by simp only [List.length_nil]; omega, fun c hc => by simp at hc⟩
theorem cpy_all (l : List ByteArray) : cpy (List.replicate l.length (⟨#[]⟩ : ByteArray)) 0 l l.length = l := by
  unfold cpy
  simp
abbrev Zs := List ByteArray × Int × Int × Int × List ByteArray × Int × Int × Int
theorem g3_gives {a0 : Int} {a1 : List (Int × Int × Int × ((Option Addr × Nat) × List ByteArray))} {a2 a3 : Int} (h3 : 0 ≤ a3 ∧ a3 ≤ 255) : Gives (g3 a0 a1 a2 a3) fun r => r = true := by
  have none : Gives ((g6).bind fun v => if ¬ (v = true) then some false else jn (α := _) (β := Unit) (fun k => (loopO (σ := Unit) (ρ := Unit) (fun s => if 0 < ((a1.length : Nat) : Int) then some (.out ()) else some (.out ())) ()).bind fun o => k ()) (fun v => some true)) fun r => r = true :=
    g_call awake_true (g_f (by decide) (g_jn (fun _ => True) (fun k hk => g_bind (g_loop (R := fun _ => True) (fun _ => True) (fun _ => 0) (fun _ _ => g_if (fun _ => g_out trivial) fun _ => g_out trivial) trivial) fun _ _ => hk () trivial) fun _ _ => g_some rfl))
  unfold g3
  refine g_if (fun h1 => g_t h1 none) fun h1 => g_if (fun h2 => g_f h1 (g_t h2 none)) fun h2 => g_f h1 (g_f h2 (g_call awake_true (g_f (by decide) ?_)))
  refine g_jn (fun _ => True) (fun k hk => g_bind (g_loop (R := fun o : Rb ⊕ Rb => ∃ v, o = .inr v) (fun s : Zs => ∃ b X Y i, s = (X ++ Y, (X.length : Int), a0, b.1, b.2.1, b.2.2.1, b.2.2.2, i) ∧ GI b a0 X Y ∧ 0 ≤ i ∧ i ≤ 60) (fun s => (60 - s.2.2.2.2.2.2.2).toNat) ?_ ⟨(a0, [], 0, 0), [], [], 0, rfl, gi_new (by omega) (by omega), by decide, by decide⟩) ?_) fun _ _ => g_some rfl
  · rintro _ ⟨b, X, Y, i, rfl, h, h0, h60⟩
    dsimp only
    have next : ∀ {b' : Bf} {X' Y' : List ByteArray}, GI b' a0 X' Y' → i < 60 → Gives (ck (inR .i64 a3) <| (g9 b' (X' ++ Y', (X'.length : Int), a0) a2 a3).bind fun v => if ¬ (v.1 = true) then some (.out (.inl (X' ++ Y', (X'.length : Int), a0))) else ck (inR .i64 (i + 1)) <| some (.go (X' ++ Y', (X'.length : Int), a0, v.2.1, v.2.2.1, v.2.2.2.1, v.2.2.2.2, i + 1)))
        (rnd (fun s : Zs => ∃ b X Y i, s = (X ++ Y, (X.length : Int), a0, b.1, b.2.1, b.2.2.1, b.2.2.2, i) ∧ GI b a0 X Y ∧ 0 ≤ i ∧ i ≤ 60) (fun s => (60 - s.2.2.2.2.2.2.2).toNat) ((60 - i).toNat) (fun o : Rb ⊕ Rb => ∃ v, o = .inr v)) := fun {b' X' Y'} h' hi => g_i64 (by omega) (g_call (g9_eq h' a2 h3) (g_f (not_not_intro rfl) (g_i64 (by omega) (g_go ⟨b', X', Y', i + 1, rfl, h', by omega, by omega⟩ (by dsimp only; omega)))))
    refine g_if (fun hl => g_if (fun hi => g_ck (by omega) (g_if (fun _ => ?_) fun _ => g_ck (by omega) ?_)) fun _ => g_out ⟨_, rfl⟩) fun _ => g_out ⟨_, rfl⟩
    · obtain ⟨G, hG, hT⟩ := h.gp
      have hn := hG.pn
      have hbl : b.2.1.length = X.length + G.length + Y.length := by rw [hG.e]; simp only [List.length_append]; omega
      refine g_call (g39_gp hG) (g_f (by decide) (g_ck (by omega) (g_call (g16_gp hG) ?_)))
      obtain ⟨o, b', X', Y', e1, _⟩ := del_both h 0 ((X.length + Y.length : Nat) : Int)
      refine g_call e1 ?_
      rw [Int.toNat_natCast, Nat.min_self, cpy_all]
      exact next h hi
    · refine g_bind (g8_gives h _) ?_
      rintro _ ⟨b', X', Y', rfl, h'⟩
      exact g_f (not_not_intro rfl) (next h' hi)
  · rintro _ ⟨v, rfl⟩
    exact g_sm (fun w hw => by cases hw) fun w hw => hk _ trivial
theorem gapRuns_law {a0 : Int} {a1 : List (Int × Int × Int × ((Option Addr × Nat) × List ByteArray))} {a2 a3 : Int} (_ : inR .i64 a0) (_ : ∀ a ∈ a1, inR .u8 a.1 ∧ inR .i64 a.2.1 ∧ inR .i64 a.2.2.1 ∧ ∀ s ∈ a.2.2.2.2, (fun s : ByteArray => s.size ≤ maxLen) s) (_ : inR .i64 a2) (h3 : inR .u8 a3) : Gives (g3 a0 a1 a2 a3) fun b => b = true := g3_gives h3
end Go.Proofs.YtenjkphlbdhaiaaGreat
end
