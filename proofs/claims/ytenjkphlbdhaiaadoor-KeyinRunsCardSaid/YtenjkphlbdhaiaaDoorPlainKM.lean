import Derived.Test.YtenjkphlbdhaiaaDoorLiftD1
import Derived.Test.YtenjkphlbdhaiaaDoorEngLd
import Derived.Test.YtenjkphlbdhaiaaDoorLiftD2
import Derived.Test.YtenjkphlbdhaiaaDoorLiftD3
import Derived.Test.YtenjkphlbdhaiaaDoorLiftD4
import Derived.Test.YtenjkphlbdhaiaaDoorLiftD5
set_option linter.unusedVariables false
set_option linter.unusedSimpArgs false
namespace Go.Proofs.YtenjkphlbdhaiaaDoor
open Go Go.Eng

theorem keep8 : ∀ n : Int, 0 ≤ n → n < 2 ^ 8 → IntKind.u8.wrap n = n := fun n h0 h1 => by rw [IntKind.wrap_u8]; omega
theorem band31 {c : Int} (h0 : 0 ≤ c) (h1 : c ≤ 255) : bits .and .u8 c 31 = c % 32 := bits_mask .u8 8 (by decide) keep8 5 (by decide) c h0 (by omega)
theorem band15 {c : Int} (h0 : 0 ≤ c) (h1 : c ≤ 255) : bits .and .u8 c 15 = c % 16 := bits_mask .u8 8 (by decide) keep8 4 (by decide) c h0 (by omega)
theorem band7 {c : Int} (h0 : 0 ≤ c) (h1 : c ≤ 255) : bits .and .u8 c 7 = c % 8 := bits_mask .u8 8 (by decide) keep8 3 (by decide) c h0 (by omega)
theorem band63 {c : Int} (h0 : 0 ≤ c) (h1 : c ≤ 255) : bits .and .u8 c 63 = c % 64 := bits_mask .u8 8 (by decide) keep8 6 (by decide) c h0 (by omega)

def shMany (c : Int) : Int := if c < 128 then 1 else if c < 194 then 0 else if c < 224 then 2 else if c < 240 then 3 else if c ≤ 244 then 4 else 0
def shLow (c : Int) : Int := if c < 194 then 0 else if c = 224 then 160 else if c = 240 then 144 else if c ≤ 244 then 128 else 0
def shHigh (c : Int) : Int := if c < 194 then 0 else if c = 237 then 159 else if c = 244 then 143 else if c ≤ 244 then 191 else 0
def shBits (c : Int) : Int := if c < 128 then c else if c < 194 then 0 else if c < 224 then c % 32 else if c < 240 then c % 16 else if c ≤ 244 then c % 8 else 0

def nxGo (n : Int) : Nat → Int → Int → Int → List Int → Int × Int × Bool
  | 0, _, _, r, _ => (r, n, false)
  | _ + 1, _, _, _, [] => (0, 0, true)
  | k + 1, lo, hi, r, b :: t => if b < lo ∨ hi < b then (65533, 1, false) else nxGo n k 128 191 (r * 64 + b % 64) t
def nx : List Int → Int × Int × Bool
  | [] => (0, 0, true)
  | c :: t => if shMany c = 0 then (65533, 1, false) else nxGo (shMany c) (shMany c - 1).toNat (shLow c) (shHigh c) (shBits c) t
def Byt (l : List Int) : Prop := ∀ c ∈ l, 0 ≤ c ∧ c ≤ 255
def boundR (i r : Int) : Prop := 0 ≤ r ∧ ((i = 1 ∧ r < 128) ∨ (i = 2 ∧ r < 8192) ∨ (i = 3 ∧ r < 524288) ∨ (i = 4 ∧ r < 33554432))
def okN (l : List Int) (m : Int) (lo hi : Int) (i r : Int) : Prop := 1 ≤ i ∧ i ≤ m ∧ boundR i r ∧ nxGo m (m - i).toNat (if i = 1 then lo else 128) (if i = 1 then hi else 191) r (l.drop i.toNat) = nx l
theorem many_le (c : Int) : 0 ≤ shMany c ∧ shMany c ≤ 4 := by unfold shMany; repeat' split <;> omega
theorem bits_lt (c : Int) (h0 : 0 ≤ c) : 0 ≤ shBits c ∧ shBits c < 128 := by unfold shBits; repeat' split <;> omega
theorem drop_getD {l : List Int} {i : Nat} (h : i < l.length) : l.drop i = l.getD i 0 :: l.drop (i + 1) := by
  rw [List.drop_eq_getElem_cons h]; simp [h]
theorem next_start {c : Int} {t : List Int} (h0 : 0 ≤ c) (h : ¬ shMany c = 0) : okN (c :: t) (shMany c) (shLow c) (shHigh c) 1 (shBits c) := by
  have := many_le c
  have := bits_lt c h0
  refine ⟨by omega, by show 1 ≤ _; omega, ⟨by show 0 ≤ _; omega, .inl ⟨rfl, by show _ < _; omega⟩⟩, ?_⟩
  simp only [nx, if_neg h, if_true]
  rfl
theorem next_none {c : Int} {t : List Int} (h : shMany c = 0) : nx (c :: t) = (65533, 1, false) := by simp [nx, h]
theorem next_end {l : List Int} {m lo hi i r : Int} (h : okN l m lo hi i r) (hi : ¬ i < m) : nx l = (r, m, false) := by
  obtain ⟨h1, h2, h3, h4⟩ := h
  have e : (m - i).toNat = 0 := by omega
  rw [← h4, e]
  rfl
theorem next_short {l : List Int} {m lo hi i r : Int} (h : okN l m lo hi i r) (hi : i < m) (hl : (l.length : Int) ≤ i) : nx l = (0, 0, true) := by
  obtain ⟨h1, h2, h3, h4⟩ := h
  obtain ⟨k, e⟩ : ∃ k, (m - i).toNat = k + 1 := ⟨(m - i).toNat - 1, by omega⟩
  rw [← h4, e, List.drop_eq_nil_of_le (by omega)]
  rfl
theorem next_bad {l : List Int} {m lo hi i r : Int} (h : okN l m lo hi i r) (hi' : i < m) (hl : i < (l.length : Int)) (hb : l.getD i.toNat 0 < (if i = 1 then lo else 128) ∨ (if i = 1 then hi else 191) < l.getD i.toNat 0) : nx l = (65533, 1, false) := by
  obtain ⟨h1, h2, h3, h4⟩ := h
  obtain ⟨k, e⟩ : ∃ k, (m - i).toNat = k + 1 := ⟨(m - i).toNat - 1, by omega⟩
  rw [← h4, e, drop_getD (by omega)]
  simp only [nxGo, if_pos hb]
theorem next_more {l : List Int} (hl0 : Byt l) {m lo hi i r : Int} (hm : m ≤ 4) (h : okN l m lo hi i r) (hi' : i < m) (hl : i < (l.length : Int)) (hb : ¬ (l.getD i.toNat 0 < (if i = 1 then lo else 128) ∨ (if i = 1 then hi else 191) < l.getD i.toNat 0)) :
    okN l m lo hi (i + 1) (bits .or .i32 (IntKind.i32.wrap (r * 64)) (bits .and .u8 (l.getD i.toNat 0) 63)) ∧ (m - (i + 1)).toNat < (m - i).toNat := by
  obtain ⟨h1, h2, h3, h4⟩ := h
  have hb0 : 0 ≤ l.getD i.toNat 0 ∧ l.getD i.toNat 0 ≤ 255 := hl0 _ (by
    have : i.toNat < l.length := by omega
    simp [this])
  obtain ⟨h31, h32⟩ := h3
  have hr : r < 524288 := by omega
  have hw : IntKind.i32.wrap (r * 64) = r * 64 := by rw [IntKind.wrap_i32]; omega
  have he : bits .or .i32 (IntKind.i32.wrap (r * 64)) (bits .and .u8 (l.getD i.toNat 0) 63) = r * 64 + l.getD i.toNat 0 % 64 := by
    rw [band63 hb0.1 hb0.2, hw]
    exact bits_join .i32 31 (by decide) (fun n h0 h1 => by rw [IntKind.wrap_i32]; omega) 6 _ _ (by omega) (by omega) (by omega) (by omega) (by omega) (by omega)
  rw [he]
  obtain ⟨k, e⟩ : ∃ k, (m - i).toNat = k + 1 := ⟨(m - i).toNat - 1, by omega⟩
  refine ⟨⟨by show 1 ≤ i + 1; omega, by show i + 1 ≤ m; omega, ⟨by show 0 ≤ r * 64 + _; omega, ?_⟩, ?_⟩, by omega⟩
  · show (i + 1 = 1 ∧ _) ∨ (i + 1 = 2 ∧ r * 64 + _ < _) ∨ (i + 1 = 3 ∧ r * 64 + _ < _) ∨ (i + 1 = 4 ∧ r * 64 + _ < _)
    omega
  · rw [e, drop_getD (by omega)] at h4
    simp only [nxGo, if_neg hb] at h4
    have e1 : (m - (i + 1)).toNat = k := by omega
    have e2 : (i + 1).toNat = i.toNat + 1 := by omega
    have e3 : ¬ i + 1 = 1 := by omega
    simp only [e1, e2, if_neg e3]
    exact h4
theorem g66_eq {c : Int} (h0 : 0 ≤ c) (h1 : c ≤ 255) : g66 c = some (shMany c, shLow c, shHigh c, shBits c) := by
  refine g_eq ?_
  unfold g66
  have b31 := band31 h0 h1; have b15 := band15 h0 h1; have b7 := band7 h0 h1
  simp only [shMany, shLow, shHigh, shBits, b31, b15, b7]
  repeat' (first | with_reducible refine g_if (fun _ => ?_) (fun _ => ?_) | refine g_i32 (by omega) ?_)
  all_goals
    refine g_some ?_
    simp only [Prod.mk.injEq]
    refine ⟨?_, ?_, ?_, ?_⟩ <;> (repeat' split) <;> omega
theorem g53_eq {l : List Int} (hl : Byt l) (hn : l.length ≤ 1000000) : g53 l = some (nx l) := by
  refine g_eq ?_
  unfold g53
  rcases l with _ | ⟨c, t⟩
  · exact g_t (by simp) (g_some rfl)
  have hc := hl c (by simp)
  refine g_f (by simp only [List.length_cons]; omega) (g_ck (by simp only [List.length_cons]; omega) ?_)
  have e0 : (c :: t).getD (0 : Int).toNat 0 = c := rfl
  rw [e0]
  refine g_call (g66_eq hc.1 hc.2) ?_
  dsimp only
  refine g_if (fun h => g_some (next_none h).symm) fun h => ?_
  have hm := many_le c
  refine g_jo (g_bind (g_loop (R := fun o => (∃ v, o = .inl v ∧ v = nx (c :: t)) ∨ ∃ r, o = .inr r ∧ (r, shMany c, false) = nx (c :: t)) (fun s => okN (c :: t) (shMany c) (shLow c) (shHigh c) s.2 s.1) (fun s => (shMany c - s.2).toNat) ?_ (next_start hc.1 h)) ?_)
  · rintro ⟨r, i⟩ hs
    dsimp only at hs ⊢
    refine g_if (fun hi => g_if (fun hs2 => g_out (.inl ⟨_, rfl, (next_short hs hi hs2).symm⟩)) fun hs2 => ?_) fun hi => g_out (.inr ⟨_, rfl, (next_end hs hi).symm⟩)
    have hi1 : 1 ≤ i := hs.1
    have hbyt : 0 ≤ (c :: t).getD i.toNat 0 ∧ (c :: t).getD i.toNat 0 ≤ 255 := hl _ (by
      have : i.toNat < (c :: t).length := by omega
      simp only [List.getD_eq_getElem?_getD, List.getElem?_eq_getElem this, Option.getD_some]
      exact List.getElem_mem _)
    refine g_jn (fun v => v = (if i = 1 then shLow c else 128, if i = 1 then shHigh c else 191)) (fun k hk => g_if (fun e => hk _ (by rw [if_pos e, if_pos e])) fun e => hk _ (by rw [if_neg e, if_neg e])) ?_
    rintro _ rfl
    dsimp only
    refine g_ck (by omega) (g_if (fun hb => g_out (.inl ⟨_, rfl, (next_bad hs hi (by omega) (.inl hb)).symm⟩)) fun hb => g_ck (by omega) (g_if (fun hb' => g_out (.inl ⟨_, rfl, (next_bad hs hi (by omega) (.inr hb')).symm⟩)) fun hb' => ?_))
    refine g_ck (by omega) (g_i32 ?_ (g_i64 (by omega) ?_))
    · rw [band63 hbyt.1 hbyt.2]; omega
    · obtain ⟨n1, n2⟩ := next_more hl (by omega) hs hi (by omega) (fun hh => hh.elim hb hb')
      exact g_go n1 n2
  · intro o ho
    refine g_sm (fun v hv => ?_) fun r hr => ?_
    · rcases ho with ⟨v', e, h'⟩ | ⟨v', e, h'⟩ <;> rw [e] at hv <;> cases hv
      exact g_some h'
    · rcases ho with ⟨v', e, h'⟩ | ⟨v', e, h'⟩ <;> rw [e] at hr <;> cases hr
      exact g_some h'
end Go.Proofs.YtenjkphlbdhaiaaDoor

namespace Go.Proofs.YtenjkphlbdhaiaaDoor
open Go Go.Eng

theorem g56_eq {c : Int} (h0 : 0 ≤ c) (h1 : c ≤ 255) : g56 c = some (shMany c) := by
  refine g_eq ?_
  unfold g56
  simp only [shMany]
  refine g_if (fun h => g_some (by rw [if_pos h])) fun h => g_jn (fun v => v = decide (194 ≤ c ∧ c < 224)) (fun k hk => g_if (fun h2 => hk _ (by simp [h2])) fun h2 => hk _ (by simp [h2])) ?_
  rintro _ rfl
  simp only [decide_eq_true_eq]
  repeat' with_reducible refine g_if (fun _ => ?_) (fun _ => ?_)
  all_goals
    refine g_some ?_
    (repeat' split) <;> omega
def tl (l : List Int) : Bool := l.tail.all fun c => decide (128 ≤ c) && decide (c ≤ 191)
def okT (l : List Int) (i : Int) : Prop := 1 ≤ i ∧ (i = 1 ∨ i ≤ l.length) ∧ tl l = (l.drop i.toNat).all fun c => decide (128 ≤ c) && decide (c ≤ 191)
theorem tails_end {l : List Int} {i : Int} (h : okT l i) (hi : ¬ i < l.length) : tl l = true := by
  obtain ⟨h1, h2, h3⟩ := h
  rw [h3, List.drop_eq_nil_of_le (by omega)]
  rfl
theorem tails_bad {l : List Int} {i : Int} (h : okT l i) (hi : i < l.length) (hb : l.getD i.toNat 0 < 128 ∨ 191 < l.getD i.toNat 0) : tl l = false := by
  obtain ⟨h1, h2, h3⟩ := h
  rw [h3, drop_getD (by omega), List.all_cons]
  rcases hb with hb | hb
  · rw [decide_eq_false (by omega)]; rfl
  · rw [decide_eq_false (p := l.getD i.toNat 0 ≤ 191) (by omega)]; simp
theorem tails_more {l : List Int} {i : Int} (h : okT l i) (hi : i < l.length) (hb : ¬ l.getD i.toNat 0 < 128) (hb' : ¬ 191 < l.getD i.toNat 0) : okT l (i + 1) ∧ (l.length - (i + 1) : Int).toNat < (l.length - i : Int).toNat := by
  obtain ⟨h1, h2, h3⟩ := h
  refine ⟨⟨by show 1 ≤ i + 1; omega, .inr (by show i + 1 ≤ _; omega), ?_⟩, by show (_ - (i + 1)).toNat < (_ - i).toNat; omega⟩
  have e : (i + 1 : Int).toNat = i.toNat + 1 := by omega
  show tl l = (l.drop (i + 1 : Int).toNat).all _
  rw [h3, e, drop_getD (by omega), List.all_cons, decide_eq_true (by omega), decide_eq_true (p := l.getD i.toNat 0 ≤ 191) (by omega)]
  rfl
theorem byt_at {l : List Int} (hl : Byt l) {i : Int} (h0 : 0 ≤ i) (hi : i < l.length) : 0 ≤ l.getD i.toNat 0 ∧ l.getD i.toNat 0 ≤ 255 := hl _ (by
  have : i.toNat < l.length := by omega
  simp only [List.getD_eq_getElem?_getD, List.getElem?_eq_getElem this, Option.getD_some]
  exact List.getElem_mem _)
theorem g71_eq {l : List Int} (hn : l.length ≤ 1000000) : g71 l = some (tl l) := by
  refine g_eq ?_
  unfold g71
  refine g_jo (g_bind (g_loop (R := fun o => (∃ u, o = .inl u ∧ tl l = false) ∨ ∃ u, o = .inr u ∧ tl l = true) (okT l) (fun i => (l.length - i : Int).toNat) ?_ ⟨Int.le_refl _, .inl rfl, by cases l <;> rfl⟩) ?_)
  · intro i hs
    have hi1 := hs.1
    refine g_if (fun hi => g_ck (by omega) (g_if (fun hb => g_out (.inl ⟨_, rfl, tails_bad hs hi (.inl hb)⟩)) fun hb => g_ck (by omega) (g_if (fun hb' => g_out (.inl ⟨_, rfl, tails_bad hs hi (.inr hb')⟩)) fun hb' => g_i64 (by omega) ?_))) fun hi => g_out (.inr ⟨_, rfl, tails_end hs hi⟩)
    obtain ⟨n1, n2⟩ := tails_more hs hi hb hb'
    exact g_go n1 n2
  · intro o ho
    refine g_sm (fun v hv => ?_) fun r hr => ?_
    · rcases ho with ⟨v', e, h'⟩ | ⟨v', e, h'⟩ <;> rw [e] at hv <;> cases hv
      exact g_some h'.symm
    · rcases ho with ⟨v', e, h'⟩ | ⟨v', e, h'⟩ <;> rw [e] at hr <;> cases hr
      exact g_some h'.symm
def heads : List Int := [0, 0, 192, 224, 240]
def numF (r b : Int) : Int := r * 64 + b % 64
def numR (l : List Int) : Int := if l.length < 2 ∨ 4 < l.length then l.headD 0 else l.tail.foldl numF (l.headD 0 - heads.getD l.length 0)
def okM (l : List Int) (i r : Int) : Prop := 1 ≤ i ∧ i ≤ l.length ∧ l.length ≤ 4 ∧ ((i = 1 ∧ -256 ≤ r ∧ r ≤ 256) ∨ (i = 2 ∧ -16384 ≤ r ∧ r < 16500) ∨ (i = 3 ∧ -1048576 ≤ r ∧ r < 1058000) ∨ (i = 4 ∧ -67108864 ≤ r ∧ r < 68000000)) ∧ numR l = (l.drop i.toNat).foldl numF r
theorem num_short {l : List Int} (h : l.length < 2 ∨ 4 < l.length) : numR l = l.headD 0 := by simp only [numR, if_pos h]
theorem num_end {l : List Int} {i r : Int} (h : okM l i r) (hi : ¬ i < l.length) : numR l = r := by
  obtain ⟨h1, h2, h3, h4, h5⟩ := h
  rw [h5, List.drop_eq_nil_of_le (by omega)]
  rfl
theorem heads_le (n : Nat) : 0 ≤ heads.getD n 0 ∧ heads.getD n 0 ≤ 240 := by
  rcases n with _ | _ | _ | _ | _ | n <;> simp [heads]
theorem num_start {l : List Int} {c : Int} {t : List Int} (hL : l = c :: t) (hc : 0 ≤ c ∧ c ≤ 255) (h : ¬ (l.length : Int) < 2) (h' : ¬ 4 < (l.length : Int)) : okM l 1 (IntKind.i32.wrap (c - heads.getD (l.length : Int).toNat 0)) := by
  rw [Int.toNat_natCast]
  have hk := heads_le l.length
  have e : IntKind.i32.wrap (c - heads.getD l.length 0) = c - heads.getD l.length 0 := by rw [IntKind.wrap_i32]; omega
  rw [e]
  refine ⟨Int.le_refl _, by show (1 : Int) ≤ _; omega, by omega, .inl ⟨rfl, by show -256 ≤ c - heads.getD l.length 0; omega, by show c - heads.getD l.length 0 ≤ 256; omega⟩, ?_⟩
  simp only [numR]
  rw [if_neg (by omega), hL]
  rfl
theorem tmod_in {l : List Int} (hl : Byt l) {i : Int} (h0 : 0 ≤ i) (hi : i < l.length) : inR .i32 ((l.getD i.toNat 0).tmod 64) := by
  have hb0 : 0 ≤ l.getD i.toNat 0 ∧ l.getD i.toNat 0 ≤ 255 := hl _ (by
    have : i.toNat < l.length := by omega
    simp [this])
  rw [Int.tmod_eq_emod_of_nonneg hb0.1]
  simp only [inR]
  omega
theorem num_more {l : List Int} (hl : Byt l) {i r : Int} (h : okM l i r) (hi : i < l.length) :
    inR .i32 (r * 64) ∧ inR .i32 (r * 64 + (l.getD i.toNat 0).tmod 64) ∧ okM l (i + 1) (r * 64 + (l.getD i.toNat 0).tmod 64) ∧ (l.length - (i + 1) : Int).toNat < (l.length - i : Int).toNat := by
  obtain ⟨h1, h2, h3, h4, h5⟩ := h
  have hb0 : 0 ≤ l.getD i.toNat 0 ∧ l.getD i.toNat 0 ≤ 255 := hl _ (by
    have : i.toNat < l.length := by omega
    simp [this])
  rw [Int.tmod_eq_emod_of_nonneg hb0.1]
  generalize hb : l.getD i.toNat 0 = b at *
  refine ⟨by simp only [inR]; omega, by simp only [inR]; omega, ⟨by show 1 ≤ i + 1; omega, by show i + 1 ≤ _; omega, h3, ?_, ?_⟩, by show (_ - (i + 1)).toNat < (_ - i).toNat; omega⟩
  · show (i + 1 = 1 ∧ _ ≤ r * 64 + b % 64 ∧ r * 64 + b % 64 ≤ _) ∨ (i + 1 = 2 ∧ _ ≤ r * 64 + b % 64 ∧ r * 64 + b % 64 < _) ∨ (i + 1 = 3 ∧ _ ≤ r * 64 + b % 64 ∧ r * 64 + b % 64 < _) ∨ (i + 1 = 4 ∧ _ ≤ r * 64 + b % 64 ∧ r * 64 + b % 64 < _)
    omega
  · have e : (i + 1 : Int).toNat = i.toNat + 1 := by omega
    show numR l = (l.drop (i + 1 : Int).toNat).foldl numF _
    rw [h5, e, drop_getD (by omega), hb]
    rfl
theorem g58_eq {l : List Int} (hl : Byt l) (h1 : 1 ≤ l.length) : g58 l = some (numR l) := by
  refine g_eq ?_
  unfold g58
  obtain ⟨c, t, hL⟩ : ∃ c t, l = c :: t := by cases l with | nil => simp at h1 | cons c t => exact ⟨c, t, rfl⟩
  have hc : 0 ≤ c ∧ c ≤ 255 := hl c (by rw [hL]; simp)
  have e0 : l.getD (0 : Int).toNat 0 = c := by rw [hL]; rfl
  have eh : l.headD 0 = c := by rw [hL]; rfl
  simp only [e0]
  refine g_if (fun h => g_ck (by omega) (g_i32 (by omega) (g_some (by rw [num_short (.inl (by omega)), eh])))) fun h => g_if (fun h' => g_ck (by omega) (g_i32 (by omega) (g_some (by rw [num_short (.inr (by omega)), eh])))) fun h' => ?_
  have hk := heads_le (l.length : Int).toNat
  refine g_ck (by omega) (g_i64 (by omega) (g_ck (by omega) (g_i64 ?_ (g_jo (g_bind (g_loop (R := fun o => o = numR l) (fun s => okM l s.2 s.1) (fun s => (l.length - s.2 : Int).toNat) ?_ (num_start hL hc h h')) ?_)))))
  · exact ⟨by have := hk.2; show _ ≤ c - heads.getD _ 0; omega, by have := hk.1; show c - heads.getD _ 0 ≤ _; omega⟩
  · rintro ⟨r, i⟩ hs
    dsimp only at hs ⊢
    have hi1 := hs.1
    refine g_if (fun hi => ?_) fun hi => g_out (num_end hs hi).symm
    obtain ⟨m1, m2, m3, m4⟩ := num_more hl hs hi
    exact g_ck m1 (g_ck (by omega) (g_ck (tmod_in hl (by omega) hi) (g_ck m2 (g_i64 (by omega) (g_go m3 m4)))))
  · rintro _ rfl
    exact g_some rfl
def froms : List Int := [0, 0, 128, 2048, 65536]
def fillL (l : List Int) (k : Nat) (x : Int) : List Int := l ++ List.replicate k x
def bgN (l : List Int) : Nat := (shMany (l.headD 0)).toNat - l.length
def bg (l : List Int) : Prop := (l.length : Int) ≤ shMany (l.headD 0) ∧ tl l = true ∧ froms.getD (shMany (l.headD 0)).toNat 0 ≤ numR (fillL l (bgN l) 191) ∧ numR (fillL l (bgN l) 128) ≤ 1114111 ∧ (numR (fillL l (bgN l) 128) < 55296 ∨ 57343 < numR (fillL l (bgN l) 191))
instance (l : List Int) : Decidable (bg l) := by unfold bg; infer_instance
theorem fill_byt {l : List Int} (h : Byt l) {k : Nat} {x : Int} (hx : 0 ≤ x ∧ x ≤ 255) : Byt (fillL l k x) := fun c hc => by
  rcases List.mem_append.1 hc with hc | hc
  · exact h c hc
  · rw [(List.mem_replicate.1 hc).2]; exact hx
theorem fill_len {l : List Int} {k : Nat} {x : Int} : (fillL l k x).length = l.length + k := by simp [fillL]
theorem bg_iff {l : List Int} {c : Int} (hh : l.headD 0 = c) {k : Nat} (hs : ¬ shMany c < (l.length : Int)) (ht : ¬ ¬ tl l = true) (hok : (l.length : Int) + k ≤ shMany (l.headD 0)) (h : ¬ ((l.length + k : Nat) : Int) < shMany c) :
    bg l ↔ (froms.getD (shMany c).toNat 0 ≤ numR (fillL l k 191) ∧ numR (fillL l k 128) ≤ 1114111 ∧ (numR (fillL l k 128) < 55296 ∨ 57343 < numR (fillL l k 191))) := by
  rw [hh] at hok
  have e : bgN l = k := by unfold bgN; rw [hh]; omega
  unfold bg
  rw [e, hh]
  constructor
  · exact fun h => h.2.2
  · exact fun h => ⟨by omega, Classical.not_not.1 ht, h⟩
theorem bg_long {l : List Int} {c : Int} (hh : l.headD 0 = c) (h : shMany c < (l.length : Int)) : ¬ bg l := by
  unfold bg
  rw [hh]
  intro h'
  omega
theorem bg_tail {l : List Int} (h : ¬ tl l = true) : ¬ bg l := fun h' => h h'.2.1
theorem g57_eq {l : List Int} (hl : Byt l) (h1 : 1 ≤ l.length) (hn : l.length ≤ 1000000) : g57 l = some (decide (bg l)) := by
  refine g_eq ?_
  unfold g57
  obtain ⟨c, t, hL⟩ : ∃ c t, l = c :: t := by cases l with | nil => simp at h1 | cons c t => exact ⟨c, t, rfl⟩
  have hc : 0 ≤ c ∧ c ≤ 255 := hl c (by rw [hL]; simp)
  have e0 : l.getD (0 : Int).toNat 0 = c := by rw [hL]; rfl
  have hh : l.headD 0 = c := by rw [hL]; rfl
  simp only [e0]
  have hm := many_le c
  refine g_ck (by omega) (g_call (g56_eq hc.1 hc.2) (g_if (fun h => g_some (by rw [decide_eq_false (bg_long hh h)])) fun h => g_call (g71_eq hn) (g_if (fun ht => g_some (by rw [decide_eq_false (bg_tail ht)])) fun ht => g_ck (by omega) (g_ck (by omega) (g_jo ?_)))))
  refine g_bind (g_loop (R := fun o => ∃ k : Nat, o = (fillL l k 128, fillL l k 191) ∧ (l.length : Int) + k ≤ shMany (l.headD 0) ∧ ¬ ((l.length + k : Nat) : Int) < shMany c) (fun s => ∃ k : Nat, s = (fillL l k 128, fillL l k 191) ∧ (l.length : Int) + k ≤ shMany (l.headD 0)) (fun s => (shMany c - s.1.length).toNat) ?_ ⟨0, by simp [fillL], by rw [hh]; omega⟩) ?_
  · rintro _ ⟨k, rfl, hk⟩
    dsimp only
    rw [hh] at hk
    simp only [fill_len]
    refine g_if (fun hi => g_ck (by omega) (g_ck (by omega) (g_go ⟨k + 1, by simp [fillL, List.replicate_succ'], by rw [hh]; omega⟩ (by simp [fill_len]; omega)))) fun hi => g_out ⟨k, rfl, by rw [hh]; omega, hi⟩
  · rintro _ ⟨k, rfl, hok, hi⟩
    dsimp only
    have hok' := hok
    rw [hh] at hok'
    refine g_call (g58_eq (fill_byt hl (by omega)) (by rw [fill_len]; omega)) (g_call (g58_eq (fill_byt hl (by omega)) (by rw [fill_len]; omega)) (g_ck (by omega) ?_))
    have e := bg_iff hh h ht hok hi
    refine g_if (fun a => g_if (fun b => g_if (fun d => g_some ?_) fun d => g_some ?_) fun b => g_some ?_) fun a => g_some ?_
    · rw [eq_comm, decide_eq_true_eq, e]; exact ⟨a, b, .inl d⟩
    · rw [decide_eq_decide, e]; exact ⟨fun x => ⟨a, b, .inr x⟩, fun x => x.2.2.resolve_left d⟩
    · rw [eq_comm, decide_eq_false_iff_not, e]; exact fun x => b x.2.1
    · rw [eq_comm, decide_eq_false_iff_not, e]; exact fun x => a x.1
def nr (l : List Int) : Int × Int × Bool :=
  if l = [] then (0, 0, true) else
  if 0 < shMany (l.headD 0) ∧ shMany (l.headD 0) ≤ l.length ∧ bg (l.take (shMany (l.headD 0)).toNat) then (numR (l.take (shMany (l.headD 0)).toNat), shMany (l.headD 0), false) else
  if 0 < shMany (l.headD 0) ∧ l.length < shMany (l.headD 0) ∧ bg l then (0, 0, true) else (65533, 1, false)
theorem sh_cases (c : Int) (h0 : 0 ≤ c) (h1 : c ≤ 255) : (c < 128 ∧ shMany c = 1) ∨ (((128 ≤ c ∧ c < 194) ∨ 245 ≤ c) ∧ shMany c = 0) ∨ (194 ≤ c ∧ c < 224 ∧ shMany c = 2) ∨ (224 ≤ c ∧ c < 240 ∧ shMany c = 3) ∨ (240 ≤ c ∧ c ≤ 244 ∧ shMany c = 4) := by
  unfold shMany
  repeat' split <;> omega
theorem bg_1 {c : Int} (e : shMany c = 1) (h0 : 0 ≤ c) (h : c < 128) : bg [c] := by
  simp [bg, tl, bgN, fillL, froms, numR, e]
  omega
theorem bg_2a {c : Int} (e : shMany c = 2) (h : 194 ≤ c) (h' : c < 224) : bg [c] := by
  simp [bg, tl, bgN, fillL, froms, numR, numF, heads, e]
  omega
theorem bg_2b {c d : Int} (e : shMany c = 2) (h : 194 ≤ c) (h' : c < 224) : bg [c, d] ↔ 128 ≤ d ∧ d ≤ 191 := by
  simp [bg, tl, bgN, fillL, froms, numR, numF, heads, e]
  omega
theorem bg_3a {c : Int} (e : shMany c = 3) (h : 224 ≤ c) (h' : c < 240) : bg [c] := by
  simp [bg, tl, bgN, fillL, froms, numR, numF, heads, e]
  omega
theorem bg_3b {c d : Int} (e : shMany c = 3) (h : 224 ≤ c) (h' : c < 240) : bg [c, d] ↔ shLow c ≤ d ∧ d ≤ shHigh c := by
  simp only [shLow, shHigh]
  simp [bg, tl, bgN, fillL, froms, numR, numF, heads, e]
  repeat' split <;> omega
theorem bg_3c {c d f : Int} (e : shMany c = 3) (h : 224 ≤ c) (h' : c < 240) : bg [c, d, f] ↔ (shLow c ≤ d ∧ d ≤ shHigh c) ∧ 128 ≤ f ∧ f ≤ 191 := by
  simp only [shLow, shHigh]
  simp [bg, tl, bgN, fillL, froms, numR, numF, heads, e]
  repeat' split <;> omega
theorem bg_4a {c : Int} (e : shMany c = 4) (h : 240 ≤ c) (h' : c ≤ 244) : bg [c] := by
  simp [bg, tl, bgN, fillL, froms, numR, numF, heads, e]
  omega
theorem bg_4b {c d : Int} (e : shMany c = 4) (h : 240 ≤ c) (h' : c ≤ 244) : bg [c, d] ↔ shLow c ≤ d ∧ d ≤ shHigh c := by
  simp only [shLow, shHigh]
  simp [bg, tl, bgN, fillL, froms, numR, numF, heads, e]
  repeat' split <;> omega
theorem bg_4c {c d f : Int} (e : shMany c = 4) (h : 240 ≤ c) (h' : c ≤ 244) : bg [c, d, f] ↔ (shLow c ≤ d ∧ d ≤ shHigh c) ∧ 128 ≤ f ∧ f ≤ 191 := by
  simp only [shLow, shHigh]
  simp [bg, tl, bgN, fillL, froms, numR, numF, heads, e]
  repeat' split <;> omega
theorem bg_4d {c d f g : Int} (e : shMany c = 4) (h : 240 ≤ c) (h' : c ≤ 244) : bg [c, d, f, g] ↔ (shLow c ≤ d ∧ d ≤ shHigh c) ∧ (128 ≤ f ∧ f ≤ 191) ∧ 128 ≤ g ∧ g ≤ 191 := by
  simp only [shLow, shHigh]
  simp [bg, tl, bgN, fillL, froms, numR, numF, heads, e]
  repeat' split <;> omega
theorem nr_eq {l : List Int} (hl : Byt l) : nr l = nx l := by
  rcases l with _ | ⟨c, t⟩
  · rfl
  have hc := hl c (by simp)
  have hb : ∀ d ∈ t, 0 ≤ d ∧ d ≤ 255 := fun d hd => hl d (by simp [hd])
  rcases sh_cases c hc.1 hc.2 with ⟨h, e⟩ | ⟨h, e⟩ | ⟨h, h', e⟩ | ⟨h, h', e⟩ | ⟨h, h', e⟩
  · have h2 : shBits c = c := by simp [shBits, h]
    simp [nr, nx, e, nxGo, numR, bg_1 e hc.1 h, h2]
    omega
  · simp [nr, nx, e]
  · have h2 : shBits c = c - 192 := by simp only [shBits]; repeat' split <;> omega
    have h3 : shLow c = 128 := by simp only [shLow]; repeat' split <;> omega
    have h4 : shHigh c = 191 := by simp only [shHigh]; repeat' split <;> omega
    rcases t with _ | ⟨d, t⟩
    · simp [nr, nx, e, nxGo, bg_2a e h h']
    · simp [nr, nx, e, nxGo, h2, h3, h4, bg_2b e h h', numR, heads, numF]
      repeat' split
      all_goals first | rfl | (exfalso; omega)
  · have h2 : shBits c = c - 224 := by simp only [shBits]; repeat' split <;> omega
    rcases t with _ | ⟨d, _ | ⟨f, t⟩⟩
    · simp [nr, nx, e, nxGo, bg_3a e h h']
    · simp [nr, nx, e, nxGo, h2, bg_3b e h h', numR, heads, numF]
      repeat' split
      all_goals first | rfl | (exfalso; omega)
    · simp [nr, nx, e, nxGo, h2, bg_3c e h h', numR, heads, numF]
      repeat' split
      all_goals first | rfl | (exfalso; omega)
  · have h2 : shBits c = c - 240 := by simp only [shBits]; repeat' split <;> omega
    rcases t with _ | ⟨d, _ | ⟨f, _ | ⟨g, t⟩⟩⟩
    · simp [nr, nx, e, nxGo, bg_4a e h h']
    · simp [nr, nx, e, nxGo, h2, bg_4b e h h', numR, heads, numF]
      repeat' split
      all_goals first | rfl | (exfalso; omega)
    · simp [nr, nx, e, nxGo, h2, bg_4c e h h', numR, heads, numF]
      repeat' split
      all_goals first | rfl | (exfalso; omega)
    · simp [nr, nx, e, nxGo, h2, bg_4d e h h', numR, heads, numF]
      repeat' split
      all_goals first | rfl | (exfalso; omega)

theorem nr_nil {l : List Int} (h : (l.length : Int) = 0) : nr l = (0, 0, true) := by
  have : l = [] := List.eq_nil_of_length_eq_zero (by omega)
  subst this
  rfl
theorem nr_whole {l : List Int} (h : 0 < l.length) (h1 : 0 < shMany (l.headD 0)) (h2 : shMany (l.headD 0) ≤ l.length) (h3 : bg (l.take ((shMany (l.headD 0)).toNat - Int.toNat 0))) : nr l = (numR (l.take ((shMany (l.headD 0)).toNat - Int.toNat 0)), shMany (l.headD 0), false) := by
  unfold nr
  rw [if_neg (fun e => by subst e; simp at h), if_pos ⟨h1, h2, h3⟩]
  rfl
theorem nr_part {l : List Int} (h : 0 < l.length) (h1 : 0 < shMany (l.headD 0)) (h2 : l.length < shMany (l.headD 0)) (h3 : bg l) : nr l = (0, 0, true) := by
  unfold nr
  rw [if_neg (fun e => by subst e; simp at h), if_neg (fun h => by omega), if_pos ⟨h1, h2, h3⟩]
theorem nr_bad {l : List Int} (h : 0 < l.length) (h1 : ¬ (0 < shMany (l.headD 0) ∧ shMany (l.headD 0) ≤ l.length ∧ bg (l.take ((shMany (l.headD 0)).toNat - Int.toNat 0)))) (h2 : ¬ (0 < shMany (l.headD 0) ∧ l.length < shMany (l.headD 0) ∧ bg l)) : nr l = (65533, 1, false) := by
  unfold nr
  rw [if_neg (fun e => by subst e; simp at h), if_neg (show ¬ (0 < shMany (l.headD 0) ∧ shMany (l.headD 0) ≤ l.length ∧ bg (l.take (shMany (l.headD 0)).toNat)) from h1), if_neg h2]
theorem take_byt {l : List Int} (h : Byt l) {n : Nat} : Byt (l.take n) := fun c hc => h c (List.mem_of_mem_take hc)
theorem g44_eq {l : List Int} (hl : Byt l) (hn : l.length ≤ 1000000) : g44 l = some (nx l) := by
  rw [← nr_eq hl]
  refine g_eq ?_
  unfold g44
  refine g_if (fun h => g_some (nr_nil h).symm) fun h => ?_
  have h1 : 1 ≤ l.length := by omega
  obtain ⟨c, t, hL⟩ : ∃ c t, l = c :: t := by cases l with | nil => simp at h1 | cons c t => exact ⟨c, t, rfl⟩
  have hc : 0 ≤ c ∧ c ≤ 255 := hl c (by rw [hL]; simp)
  have e0 : l.getD (0 : Int).toNat 0 = c := by rw [hL]; rfl
  have hh : l.headD 0 = c := by rw [hL]; rfl
  simp only [e0]
  have hm := many_le c
  refine g_ck (by omega) (g_call (g56_eq hc.1 hc.2) ?_)
  have hd : l.drop (0 : Int).toNat = l := rfl
  rw [hd]
  refine g_jn (fun v => v = decide (0 < shMany c ∧ shMany c ≤ l.length ∧ bg (l.take ((shMany c).toNat - (0 : Int).toNat)))) (fun k hk => g_if (fun a => g_if (fun b => g_ck (by omega) (g_call (g57_eq (take_byt hl) (by rw [List.length_take]; simp only [Int.toNat_zero]; omega) (by rw [List.length_take]; omega)) (hk _ (by simp [a, b])))) fun b => hk _ (by simp [b])) fun a => hk _ (by simp [a])) ?_
  rintro _ rfl
  simp only [decide_eq_true_eq]
  refine g_if (fun a => g_ck (by omega) (g_call (g58_eq (take_byt hl) (by rw [List.length_take]; simp only [Int.toNat_zero]; omega)) (g_some ?_))) fun a => ?_
  · rw [← hh] at a ⊢
    exact (nr_whole (by omega) a.1 a.2.1 a.2.2).symm
  · have bad : ¬ (0 < shMany (l.headD 0) ∧ l.length < shMany (l.headD 0) ∧ bg l) → (65533, 1, false) = nr l := fun h2 => (nr_bad (by omega) (by rw [hh]; exact a) h2).symm
    refine g_if (fun b => g_if (fun d => g_call (g57_eq hl h1 hn) (g_if (fun f => g_some ?_) fun f => g_some (bad fun x => f (by simpa using x.2.2)))) fun d => g_some (bad fun x => d (by rw [hh] at x; exact x.2.1))) fun b => g_some (bad fun x => b (by rw [hh] at x; exact x.1))
    exact (nr_part (by omega) (by rw [hh]; exact b) (by rw [hh]; exact d) (by simpa using f)).symm
end Go.Proofs.YtenjkphlbdhaiaaDoor

namespace Go.Proofs.YtenjkphlbdhaiaaDoor
open Go Go.Eng

def isR (r : Int) : Prop := 0 ≤ r ∧ r ≤ 1114111 ∧ (r < 55296 ∨ 57343 < r)
instance (r : Int) : Decidable (isR r) := by unfold isR; infer_instance
theorem g64_eq (r : Int) : g64 r = some (decide (isR r)) := by
  refine g_eq ?_
  unfold g64
  refine g_if (fun a => g_if (fun b => g_if (fun c => g_some ?_) fun c => g_some ?_) fun b => g_some ?_) fun a => g_some ?_
  · rw [eq_comm, decide_eq_true_eq]; exact ⟨a, b, .inl c⟩
  · rw [decide_eq_decide]; exact ⟨fun x => ⟨a, b, .inr x⟩, fun x => x.2.2.resolve_left c⟩
  · rw [eq_comm, decide_eq_false_iff_not]; exact fun x => b x.2.1
  · rw [eq_comm, decide_eq_false_iff_not]; exact fun x => a x.1
theorem g45_eq (r : Int) : g45 r = some (decide (isR r)) := g64_eq r
def norm (r : Int) : Int := if isR r then r else 65533
theorem norm_r (r : Int) : isR (norm r) := by
  unfold norm
  split
  · assumption
  · exact ⟨by omega, by omega, .inr (by omega)⟩
def enc (v : Int) : List Int :=
  if v < 128 then [v] else if v < 2048 then [192 + v / 64, 128 + v % 64] else if v < 65536 then [224 + v / 4096, 128 + v / 64 % 64, 128 + v % 64] else [240 + v / 262144, 128 + v / 4096 % 64, 128 + v / 64 % 64, 128 + v % 64]
theorem bor8 (x y : Int) (i : Nat) (hx₀ : 0 ≤ x) (hx : x % 2 ^ i = 0) (hx₁ : x < 256) (hy₀ : 0 ≤ y) (hy : y < 2 ^ i) (hy₁ : y < 256) : bits .or .u8 x y = x + y := bits_join .u8 8 (by decide) keep8 i x y hx₀ hx hx₁ hy₀ hy hy₁
theorem wrap8 (n : Int) : IntKind.u8.wrap n = n % 256 := by rw [IntKind.wrap_u8]
theorem tailB (x : Int) : bits .or .u8 128 (bits .and .u8 (IntKind.u8.wrap x) 63) = 128 + x % 64 := by
  rw [wrap8, band63 (by omega) (by omega), bor8 128 _ 6 (by omega) (by omega) (by omega) (by omega) (by omega) (by omega)]
  omega
theorem g65_0 (v : Int) : g65 v 0 = some (128 + v % 64) := by
  refine g_eq ?_
  unfold g65
  refine g_ck (by decide) (g_some ?_)
  rw [tailB]
  simp
theorem g65_6 (v : Int) : g65 v 6 = some (128 + v / 64 % 64) := by
  refine g_eq ?_
  unfold g65
  refine g_ck (by decide) (g_some ?_)
  rw [tailB]
  rfl
theorem g65_12 (v : Int) : g65 v 12 = some (128 + v / 4096 % 64) := by
  refine g_eq ?_
  unfold g65
  refine g_ck (by decide) (g_some ?_)
  rw [tailB]
  rfl
theorem g51_eq (r : Int) : g51 r = some (enc (norm r)) := by
  refine g_eq ?_
  unfold g51
  refine g_jn (fun v => v = norm r) (fun k hk => g_call (g64_eq r) (g_if (fun h => hk _ (by unfold norm; rw [if_neg (by simpa using h)])) fun h => hk _ (by unfold norm; rw [if_pos (by simpa using h)]))) ?_
  rintro _ rfl
  obtain ⟨h0, h1, h2⟩ := norm_r r
  generalize norm r = v at *
  unfold enc
  have p6 : (2 : Int) ^ (6 : Int).toNat = 64 := rfl
  have p12 : (2 : Int) ^ (12 : Int).toNat = 4096 := rfl
  have p18 : (2 : Int) ^ (18 : Int).toNat = 262144 := rfl
  refine g_if (fun a => g_some ?_) fun a => g_if (fun b => g_call (g65_0 v) (g_some ?_)) fun b => g_if (fun c => g_call (g65_6 v) (g_call (g65_0 v) (g_some ?_))) fun c => g_call (g65_12 v) (g_call (g65_6 v) (g_call (g65_0 v) (g_some ?_)))
  · rw [if_pos a, wrap8]
    congr 1; omega
  · rw [if_neg a, if_pos b, wrap8, p6, bor8 192 _ 6 (by omega) (by omega) (by omega) (by omega) (by omega) (by omega)]
    congr 1; omega
  · rw [if_neg a, if_neg b, if_pos c, wrap8, p12, bor8 224 _ 4 (by omega) (by omega) (by omega) (by omega) (by omega) (by omega)]
    congr 1; omega
  · rw [if_neg a, if_neg b, if_neg c, wrap8, p18, bor8 240 _ 3 (by omega) (by omega) (by omega) (by omega) (by omega) (by omega)]
    congr 1; omega
theorem g46_eq {v : Int} (h : 0 ≤ v) : g46 v = some (128 + v % 64) := by
  refine g_eq ?_
  unfold g46
  rw [Int.tmod_eq_emod_of_nonneg h]
  refine g_i32 (by omega) (g_some ?_)
  rw [wrap8]
  omega
theorem g34_eq (r : Int) : g34 r = some (enc (norm r)) := by
  refine g_eq ?_
  unfold g34
  refine g_jn (fun v => v = norm r) (fun k hk => g_call (g45_eq r) (g_if (fun h => hk _ (by unfold norm; rw [if_neg (by simpa using h)])) fun h => hk _ (by unfold norm; rw [if_pos (by simpa using h)]))) ?_
  rintro _ rfl
  obtain ⟨h0, h1, h2⟩ := norm_r r
  generalize norm r = v at *
  unfold enc
  rw [Int.tdiv_eq_ediv_of_nonneg h0, Int.tdiv_eq_ediv_of_nonneg h0, Int.tdiv_eq_ediv_of_nonneg h0]
  refine g_if (fun a => g_some ?_) fun a => g_if (fun b => g_i32 (by omega) (g_i32 (by omega) (g_call (g46_eq h0) (g_some ?_)))) fun b => g_if (fun c => g_i32 (by omega) (g_i32 (by omega) (g_i32 (by omega) (g_call (g46_eq (by omega)) (g_call (g46_eq h0) (g_some ?_)))))) fun c => g_i32 (by omega) (g_i32 (by omega) (g_i32 (by omega) (g_call (g46_eq (by omega)) (g_i32 (by omega) (g_call (g46_eq (by omega)) (g_call (g46_eq h0) (g_some ?_)))))))
  · rw [if_pos a, wrap8]
    congr 1; omega
  · rw [if_neg a, if_pos b, wrap8]
    congr 1; omega
  · rw [if_neg a, if_neg b, if_pos c, wrap8]
    congr 1; omega
  · rw [if_neg a, if_neg b, if_neg c, wrap8]
    congr 1; omega
theorem enc_byt {v : Int} (h : isR v) : Byt (enc v) := by
  obtain ⟨h0, h1, h2⟩ := h
  unfold enc
  intro c hc
  repeat' split at hc
  all_goals simp only [List.mem_cons, List.not_mem_nil, or_false] at hc; omega
theorem enc_len {v : Int} : 1 ≤ (enc v).length ∧ (enc v).length ≤ 4 := by
  unfold enc
  repeat' split
  all_goals simp
theorem nx_enc {v : Int} (h : isR v) (t : List Int) : nx (enc v ++ t) = (v, ((enc v).length : Int), false) := by
  obtain ⟨h0, h1, h2⟩ := h
  unfold enc
  split
  · rename_i a
    have e1 : shMany v = 1 := by simp only [shMany]; rw [if_pos a]
    have e2 : shBits v = v := by simp only [shBits]; rw [if_pos a]
    simp [nx, e1, e2, nxGo]
  split
  · rename_i a b
    have e1 : shMany (192 + v / 64) = 2 := by simp only [shMany]; repeat' split <;> omega
    have e2 : shBits (192 + v / 64) = v / 64 := by simp only [shBits]; repeat' split <;> omega
    have e3 : shLow (192 + v / 64) = 128 := by simp only [shLow]; repeat' split <;> omega
    have e4 : shHigh (192 + v / 64) = 191 := by simp only [shHigh]; repeat' split <;> omega
    simp only [nx, e1, e2, e3, e4, nxGo, List.cons_append, List.nil_append, show (2 - 1 : Int).toNat = 1 from rfl]
    rw [if_neg (by omega), if_neg (by omega)]
    simp
    omega
  split
  · rename_i a b c
    have e1 : shMany (224 + v / 4096) = 3 := by simp only [shMany]; repeat' split <;> omega
    have e2 : shBits (224 + v / 4096) = v / 4096 := by simp only [shBits]; repeat' split <;> omega
    have e3 : shLow (224 + v / 4096) ≤ 128 + v / 64 % 64 := by simp only [shLow]; repeat' split <;> omega
    have e4 : 128 + v / 64 % 64 ≤ shHigh (224 + v / 4096) := by simp only [shHigh]; repeat' split <;> omega
    simp only [nx, e1, e2, nxGo, List.cons_append, List.nil_append, show (3 - 1 : Int).toNat = 2 from rfl]
    rw [if_neg (by omega), if_neg (by omega), if_neg (by omega)]
    simp
    omega
  · rename_i a b c
    have e1 : shMany (240 + v / 262144) = 4 := by simp only [shMany]; repeat' split <;> omega
    have e2 : shBits (240 + v / 262144) = v / 262144 := by simp only [shBits]; repeat' split <;> omega
    have e3 : shLow (240 + v / 262144) ≤ 128 + v / 4096 % 64 := by simp only [shLow]; repeat' split <;> omega
    have e4 : 128 + v / 4096 % 64 ≤ shHigh (240 + v / 262144) := by simp only [shHigh]; repeat' split <;> omega
    simp only [nx, e1, e2, nxGo, List.cons_append, List.nil_append, show (4 - 1 : Int).toNat = 3 from rfl]
    rw [if_neg (by omega), if_neg (by omega), if_neg (by omega), if_neg (by omega)]
    simp
    omega
end Go.Proofs.YtenjkphlbdhaiaaDoor

namespace Go.Proofs.YtenjkphlbdhaiaaDoor
open Go Go.Eng

theorem drop_byt {l : List Int} (h : Byt l) {n : Nat} : Byt (l.drop n) := fun c hc => h c (List.mem_of_mem_drop hc)
theorem nx_inv {l : List Int} (hl : Byt l) {r n : Int} (h : nx l = (r, n, false)) : (r = 65533 ∧ n = 1 ∧ 1 ≤ l.length) ∨ (isR r ∧ l = enc r ++ l.drop n.toNat ∧ n = ((enc r).length : Int)) := by
  cases l with
  | nil => simp [nx] at h
  | cons c t =>
    have hc := hl c List.mem_cons_self
    rcases sh_cases c hc.1 hc.2 with ⟨a, e⟩ | ⟨a, e⟩ | ⟨a, a', e⟩ | ⟨a, a', e⟩ | ⟨a, a', e⟩
    · have e2 : shBits c = c := by simp only [shBits]; rw [if_pos a]
      simp [nx, e, e2, nxGo] at h
      obtain ⟨rfl, rfl⟩ := h
      right
      refine ⟨⟨by omega, by omega, .inl (by omega)⟩, ?_, ?_⟩
      · unfold enc; rw [if_pos a]; rfl
      · unfold enc; rw [if_pos a]; rfl
    · simp [nx, e] at h
      obtain ⟨rfl, rfl⟩ := h
      exact .inl ⟨rfl, rfl, by simp⟩
    · have e2 : shBits c = c % 32 := by simp only [shBits]; repeat' split <;> omega
      have e3 : shLow c = 128 := by simp only [shLow]; repeat' split <;> omega
      have e4 : shHigh c = 191 := by simp only [shHigh]; repeat' split <;> omega
      cases t with
      | nil => simp [nx, e, nxGo] at h
      | cons d t =>
        have hd := hl d (by simp)
        simp only [nx, e, e2, e3, e4, nxGo, show (2 - 1 : Int).toNat = 1 from rfl] at h
        rw [if_neg (by omega)] at h
        split at h
        · cases h; exact .inl ⟨rfl, rfl, by simp⟩
        · cases h
          right
          have q : enc (c % 32 * 64 + d % 64) = [c, d] := by
            unfold enc
            rw [if_neg (by omega), if_pos (by omega)]
            congr 1
            · omega
            · congr 1; omega
          exact ⟨⟨by omega, by omega, .inl (by omega)⟩, by rw [q]; rfl, by rw [q]; rfl⟩
    · have e2 : shBits c = c % 16 := by simp only [shBits]; repeat' split <;> omega
      have e3 : (c = 224 ∧ shLow c = 160) ∨ (c ≠ 224 ∧ shLow c = 128) := by simp only [shLow]; repeat' split <;> omega
      have e4 : (c = 237 ∧ shHigh c = 159) ∨ (c ≠ 237 ∧ shHigh c = 191) := by simp only [shHigh]; repeat' split <;> omega
      cases t with
      | nil => simp [nx, e, nxGo] at h
      | cons d t =>
        have hd := hl d (by simp)
        simp only [nx, e, e2, nxGo, show (3 - 1 : Int).toNat = 2 from rfl] at h
        rw [if_neg (by omega)] at h
        split at h
        · cases h; exact .inl ⟨rfl, rfl, by simp⟩
        · cases t with
          | nil => simp [nxGo] at h
          | cons f t =>
            have hf := hl f (by simp)
            simp only [nxGo] at h
            split at h
            · cases h; exact .inl ⟨rfl, rfl, by simp⟩
            · cases h
              right
              have q : enc ((c % 16 * 64 + d % 64) * 64 + f % 64) = [c, d, f] := by
                unfold enc
                rw [if_neg (by omega), if_neg (by omega), if_pos (by omega)]
                congr 1
                · omega
                · congr 1
                  · omega
                  · congr 1; omega
              exact ⟨⟨by omega, by omega, by omega⟩, by rw [q]; rfl, by rw [q]; rfl⟩
    · have e2 : shBits c = c % 8 := by simp only [shBits]; repeat' split <;> omega
      have e3 : (c = 240 ∧ shLow c = 144) ∨ (c ≠ 240 ∧ shLow c = 128) := by simp only [shLow]; repeat' split <;> omega
      have e4 : (c = 244 ∧ shHigh c = 143) ∨ (c ≠ 244 ∧ shHigh c = 191) := by simp only [shHigh]; repeat' split <;> omega
      cases t with
      | nil => simp [nx, e, nxGo] at h
      | cons d t =>
        have hd := hl d (by simp)
        simp only [nx, e, e2, nxGo, show (4 - 1 : Int).toNat = 3 from rfl] at h
        rw [if_neg (by omega)] at h
        split at h
        · cases h; exact .inl ⟨rfl, rfl, by simp⟩
        · cases t with
          | nil => simp [nxGo] at h
          | cons f t =>
            have hf := hl f (by simp)
            simp only [nxGo] at h
            split at h
            · cases h; exact .inl ⟨rfl, rfl, by simp⟩
            · cases t with
              | nil => simp [nxGo] at h
              | cons g t =>
                have hg := hl g (by simp)
                simp only [nxGo] at h
                split at h
                · cases h; exact .inl ⟨rfl, rfl, by simp⟩
                · cases h
                  right
                  have q : enc (((c % 8 * 64 + d % 64) * 64 + f % 64) * 64 + g % 64) = [c, d, f, g] := by
                    unfold enc
                    rw [if_neg (by omega), if_neg (by omega), if_neg (by omega)]
                    congr 1
                    · omega
                    · congr 1
                      · omega
                      · congr 1
                        · omega
                        · congr 1; omega
                  exact ⟨⟨by omega, by omega, by omega⟩, by rw [q]; rfl, by rw [q]; rfl⟩
/-- what stands first, and how many bytes it takes -/
def stp (l : List Int) : Int × Int := if (nx l).2.2 = true then (65533, 1) else ((nx l).1, (nx l).2.1)
theorem stp_pos {l : List Int} (hl : Byt l) : isR (stp l).1 ∧ 1 ≤ (stp l).2 ∧ (stp l).2 ≤ 4 ∧ (1 ≤ l.length → (stp l).2 ≤ l.length) := by
  have hb : isR 65533 := ⟨by omega, by omega, .inr (by omega)⟩
  unfold stp
  by_cases h : (nx l).2.2 = true
  · rw [if_pos h]; exact ⟨hb, by simp, by simp, fun h => by dsimp only; omega⟩
  · rw [if_neg h]
    have e : nx l = ((nx l).1, (nx l).2.1, false) := by
      have : (nx l).2.2 = false := by simpa using h
      rw [← this]
    rcases nx_inv hl e with ⟨h1, h2, h3⟩ | ⟨h1, h2, h3⟩
    · dsimp only
      rw [h1, h2]
      exact ⟨hb, by omega, by omega, fun h => by omega⟩
    · have := enc_len (v := (nx l).1)
      have hlen := congrArg List.length h2
      rw [List.length_append, List.length_drop] at hlen
      dsimp only
      exact ⟨h1, by omega, by omega, fun h => by omega⟩
theorem stp_nil {l : List Int} (h : l = []) : (stp l) = (65533, 1) := by subst h; rfl
theorem stp_good {l : List Int} (hl : Byt l) : l = enc (stp l).1 ++ l.drop (stp l).2.toNat ↔ ((nx l).2.2 = false ∧ ((nx l).1 ≠ 65533 ∨ (nx l).2.1 = 3)) := by
  constructor
  · intro h
    have hp := stp_pos hl
    have h' := nx_enc hp.1 (l.drop (stp l).2.toNat)
    rw [← h] at h'
    refine ⟨by rw [h'], ?_⟩
    rw [h']
    by_cases q : (stp l).1 = 65533
    · right; rw [q]; rfl
    · left; exact q
  · rintro ⟨h1, h2⟩
    have e : nx l = ((nx l).1, (nx l).2.1, false) := by rw [← h1]
    have e' : stp l = ((nx l).1, (nx l).2.1) := by unfold stp; rw [if_neg (by simp [h1])]
    rw [e']
    rcases nx_inv hl e with ⟨h3, h4, h5⟩ | ⟨h3, h4, h5⟩
    · omega
    · exact h4
/-- the places, the runes, the text -/
def ps (l : List Int) : Nat → Nat
  | 0 => 0
  | k + 1 => ps l k + (stp (l.drop (ps l k))).2.toNat
def rn (l : List Int) (k : Nat) : Int := (stp (l.drop (ps l k))).1
def rs (l : List Int) (k : Nat) : List Int := (List.range k).map (rn l)
def pp (l : List Int) (k : Nat) : List Int := (List.range k).map fun i => (ps l i : Int)
def tx (l : List Int) (k : Nat) : List Int := (List.range k).flatMap fun i => enc (rn l i)
theorem rs_succ (l : List Int) (k : Nat) : rs l (k + 1) = rs l k ++ [rn l k] := by simp [rs, List.range_succ]
theorem pp_succ (l : List Int) (k : Nat) : pp l (k + 1) = pp l k ++ [(ps l k : Int)] := by simp [pp, List.range_succ]
theorem tx_succ (l : List Int) (k : Nat) : tx l (k + 1) = tx l k ++ enc (rn l k) := by simp [tx, List.range_succ]
theorem rs_len (l : List Int) (k : Nat) : (rs l k).length = k := by simp [rs]
theorem pp_len (l : List Int) (k : Nat) : (pp l k).length = k := by simp [pp]
theorem rn_R {l : List Int} (hl : Byt l) (k : Nat) : isR (rn l k) := (stp_pos (drop_byt hl)).1
theorem tx_len {l : List Int} : ∀ k, (tx l k).length ≤ 4 * k
  | 0 => by simp [tx]
  | k + 1 => by
    have := tx_len (l := l) k
    have := enc_len (v := rn l k)
    rw [tx_succ, List.length_append]; omega
theorem tx_byt {l : List Int} (hl : Byt l) : ∀ k, Byt (tx l k)
  | 0 => fun c hc => by simp [tx] at hc
  | k + 1 => fun c hc => by
    rw [tx_succ] at hc
    rcases List.mem_append.1 hc with h | h
    · exact tx_byt hl k c h
    · exact enc_byt (rn_R hl k) c h
theorem ps_step {l : List Int} (hl : Byt l) (k : Nat) : ps l k < ps l (k + 1) ∧ ps l (k + 1) ≤ ps l k + 4 ∧ (ps l k < l.length → ps l (k + 1) ≤ l.length) := by
  have h := stp_pos (drop_byt hl (n := ps l k))
  rw [ps]
  refine ⟨by omega, by omega, fun hk => ?_⟩
  have := h.2.2.2 (by rw [List.length_drop]; omega)
  rw [List.length_drop] at this
  omega
theorem ps_lt {l : List Int} (hl : Byt l) : ∀ (j i : Nat), ps l i + j ≤ ps l (i + j)
  | 0, i => Nat.le_refl _
  | j + 1, i => by
    have := ps_lt hl j i
    have := (ps_step hl (i + j)).1
    rw [show i + (j + 1) = (i + j) + 1 by omega]
    omega
theorem ps_ge {l : List Int} (hl : Byt l) (k : Nat) : k ≤ ps l k := by have := ps_lt hl k 0; simp [ps] at this; omega
theorem ps_mono {l : List Int} (hl : Byt l) {i k : Nat} (h : i < k) : ps l i < ps l k := by have := ps_lt hl (k - i) i; rw [show i + (k - i) = k by omega] at this; omega
theorem ps_lt_iff {l : List Int} (hl : Byt l) {i k : Nat} : ps l i < ps l k ↔ i < k := by
  refine ⟨fun h => ?_, ps_mono hl⟩
  by_cases q : i < k
  · exact q
  · by_cases e : i = k
    · subst e; omega
    · have := ps_mono hl (show k < i by omega); omega
theorem ps_inj {l : List Int} (hl : Byt l) {i k : Nat} (h : ps l i = ps l k) : i = k := by
  have a : ¬ i < k := fun q => by have := ps_mono hl q; omega
  have b : ¬ k < i := fun q => by have := ps_mono hl q; omega
  omega
def goodAt (l : List Int) (i : Nat) : Prop := l.drop (ps l i) = enc (rn l i) ++ l.drop (ps l (i + 1))
theorem goodAt_iff {l : List Int} (hl : Byt l) (i : Nat) : goodAt l i ↔ ((nx (l.drop (ps l i))).2.2 = false ∧ ((nx (l.drop (ps l i))).1 ≠ 65533 ∨ (nx (l.drop (ps l i))).2.1 = 3)) := by
  rw [← stp_good (drop_byt hl)]
  unfold goodAt rn
  rw [ps, List.drop_drop]
theorem tx_split (l : List Int) {i : Nat} : ∀ {N : Nat}, i < N → ∃ R, tx l N = tx l i ++ (enc (rn l i) ++ R)
  | 0, h => by omega
  | N + 1, h => by
    by_cases e : i = N
    · subst e; exact ⟨[], by rw [tx_succ, List.append_nil]⟩
    · obtain ⟨R, hR⟩ := tx_split l (i := i) (N := N) (by omega)
      exact ⟨R ++ enc (rn l N), by rw [tx_succ, hR]; simp only [List.append_assoc]⟩
theorem tx_pre {l : List Int} : ∀ k, (∀ i, i < k → goodAt l i) → l = tx l k ++ l.drop (ps l k)
  | 0, _ => by simp [tx, ps]
  | k + 1, h => by
    have ih := tx_pre k fun i hi => h i (by omega)
    have g := h k (by omega)
    rw [tx_succ, List.append_assoc, ← g]
    exact ih
theorem tx_good {l : List Int} (hl : Byt l) {N : Nat} (hN : ps l N = l.length) : tx l N = l ↔ ∀ i, i < N → goodAt l i := by
  constructor
  · intro h i
    induction i using Nat.strongRecOn with
    | _ i ih =>
      intro hi
      have p := tx_pre i fun j hj => ih j hj (by omega)
      obtain ⟨R, hR⟩ := tx_split l hi
      have e : l.drop (ps l i) = enc (rn l i) ++ R := by
        have q : tx l i ++ l.drop (ps l i) = tx l i ++ (enc (rn l i) ++ R) := by rw [← p, ← hR, h]
        exact List.append_cancel_left q
      have hx := nx_enc (rn_R hl i) R
      rw [← e] at hx
      have hs : (stp (l.drop (ps l i))).2 = ((enc (rn l i)).length : Int) := by
        have e2 : stp (l.drop (ps l i)) = ((nx (l.drop (ps l i))).1, (nx (l.drop (ps l i))).2.1) := by
          unfold stp
          rw [if_neg (by rw [hx]; simp)]
        rw [e2, hx]
      unfold goodAt
      rw [ps, hs, ← List.drop_drop, e, Int.toNat_natCast, List.drop_left]
  · intro h
    have p := tx_pre N h
    rw [hN, List.drop_length, List.append_nil] at p
    exact p.symm
/-- bytes as a string, and back -/
theorem bytes_str {l : List Int} (hl : Byt l) : bytesOf (strOf l) = l := by
  unfold bytesOf strOf
  simp only [List.map_map]
  conv => rhs; rw [← List.map_id l]
  refine List.map_congr_left fun c hc => ?_
  have := hl c hc
  simp only [Function.comp, UInt8.toNat_ofNat', id]
  omega
theorem str_size (l : List Int) : (strOf l).size = l.length := by simp [strOf, ByteArray.size]
theorem str_eq {a b : List Int} (ha : Byt a) (hb : Byt b) : (strOf a).data.toList = (strOf b).data.toList ↔ a = b := by
  constructor
  · intro h
    have e : bytesOf (strOf a) = bytesOf (strOf b) := by unfold bytesOf; rw [h]
    rwa [bytes_str ha, bytes_str hb] at e
  · rintro rfl; rfl
end Go.Proofs.YtenjkphlbdhaiaaDoor

namespace Go.Proofs.YtenjkphlbdhaiaaDoor
open Go Go.Eng

theorem drop_all {l : List Int} {k : Nat} : (l.drop k).take (l.length - k) = l.drop k := List.take_of_length_le (by rw [List.length_drop]; omega)
/-- one step of any of the walks through bytes -/
theorem stp_more {l : List Int} (h : (nx l).2.2 = true) : stp l = (65533, 1) := by unfold stp; rw [if_pos h]
theorem stp_else {l : List Int} (h : ¬ (nx l).2.2 = true) : stp l = ((nx l).1, (nx l).2.1) := by unfold stp; rw [if_neg h]
theorem ps_more {l : List Int} {k : Nat} (h : (nx (l.drop (ps l k))).2.2 = true) : rn l k = 65533 ∧ (ps l k : Int) + 1 = (ps l (k + 1) : Nat) := by
  unfold rn; rw [ps, stp_more h]; exact ⟨rfl, by simp⟩
theorem ps_else {l : List Int} (hl : Byt l) {k : Nat} (h : ¬ (nx (l.drop (ps l k))).2.2 = true) : rn l k = (nx (l.drop (ps l k))).1 ∧ (ps l k : Int) + (nx (l.drop (ps l k))).2.1 = (ps l (k + 1) : Nat) := by
  have p := stp_pos (drop_byt hl (n := ps l k))
  unfold rn; rw [ps]
  rw [stp_else h] at p ⊢
  exact ⟨rfl, by dsimp only at p ⊢; omega⟩
/-- the document's runes and places -/
theorem runes_gives {β : Type} {l : List Int} {K : List Int × List Int → Option β} {Φ : β → Prop} (hl : Byt l) (hn : l.length ≤ 1000000) {n : Nat} (e : n = l.length)
    (hk : ∀ N, ps l N = l.length → Gives (K (rs l N, pp l N)) Φ) :
    Gives ((loopO (σ := List Int × List Int × Int) (ρ := List Int × List Int) (fun s657 =>
          if s657.2.2 < ((n : Nat) : Int) then
            (
              ck (0 ≤ s657.2.2 ∧ s657.2.2 ≤ ((n : Nat) : Int) ∧ ((n : Nat) : Int) ≤ ((n : Nat) : Int)) <|
              (g44 ((l.drop s657.2.2.toNat).take (((n : Nat) : Int).toNat - s657.2.2.toNat))).bind fun v687 =>
              if v687.2.2 = true then
                (
                  ck ((s657.1.length + 1) * 4 ≤ 140737488355328) <|
                  ck ((s657.2.1.length + 1) * 8 ≤ 140737488355328) <|
                  ck (inR .i64 (s657.2.2 + 1)) <|
                  some (.go ((s657.1 ++ [65533]), (s657.2.1 ++ [s657.2.2]), s657.2.2 + 1))
                )
              else
                (
                  ck ((s657.1.length + 1) * 4 ≤ 140737488355328) <|
                  ck ((s657.2.1.length + 1) * 8 ≤ 140737488355328) <|
                  ck (inR .i64 (s657.2.2 + v687.2.1)) <|
                  some (.go ((s657.1 ++ [v687.1]), (s657.2.1 ++ [s657.2.2]), s657.2.2 + v687.2.1))
                )
            )
          else
            some (.out (s657.1, s657.2.1))
        ) ([], [], 0)).bind fun o683 => K (o683.1, o683.2)) Φ := by
  subst e
  refine g_bind (Ω := fun o => ∃ N, ps l N = l.length ∧ o = (rs l N, pp l N)) (g_loop (fun s : List Int × List Int × Int => ∃ k : Nat, s = (rs l k, pp l k, (ps l k : Int)) ∧ ps l k ≤ l.length) (fun s => ((l.length : Int) - s.2.2).toNat) ?_ ⟨0, rfl, Nat.zero_le _⟩) ?_
  · rintro _ ⟨k, rfl, hk⟩
    dsimp only
    have st := ps_step hl k
    have kl := ps_ge hl k
    refine g_if (fun hlt => g_ck (by omega) ?_) fun hge => g_out ⟨k, by omega, rfl⟩
    simp only [Int.toNat_natCast, drop_all]
    refine g_call (g44_eq (drop_byt hl) (by rw [List.length_drop]; omega)) (g_if (fun h => ?_) fun h => ?_)
    · obtain ⟨r1, r2⟩ := ps_more h
      rw [r2]
      exact g_ck (by rw [rs_len]; omega) (g_ck (by rw [pp_len]; omega) (g_i64 (by omega) (g_go ⟨k + 1, by rw [rs_succ, pp_succ, r1], by omega⟩ (by dsimp only; omega))))
    · obtain ⟨r1, r2⟩ := ps_else hl h
      rw [r2]
      exact g_ck (by rw [rs_len]; omega) (g_ck (by rw [pp_len]; omega) (g_i64 (by omega) (g_go ⟨k + 1, by rw [rs_succ, pp_succ, r1], by omega⟩ (by dsimp only; omega))))
  · rintro _ ⟨N, h, rfl⟩
    exact hk N h
theorem norm_of {v : Int} (h : isR v) : norm v = v := by unfold norm; rw [if_pos h]
/-- runes, as bytes again -/
theorem flat_gives {β : Type} {l : List Int} {K : List Int → Option β} {Φ : β → Prop} (hl : Byt l) {N : Nat} (hN : N ≤ 1000000) (hk : Gives (K (tx l N)) Φ) {n : Nat} (e : n = N) :
    Gives ((loopO (σ := List Int × Int) (ρ := List Int) (fun s730 =>
            if s730.2 < ((n : Nat) : Int) then
              (
                ck (0 ≤ s730.2 ∧ s730.2 < ((n : Nat) : Int)) <|
                (g34 ((rs l N).getD s730.2.toNat 0)).bind fun v747 =>
                ck ((s730.1.length + v747.length) * 1 ≤ 140737488355328) <|
                ck (inR .i64 (s730.2 + 1)) <|
                some (.go ((s730.1 ++ v747), s730.2 + 1))
              )
            else
              some (.out s730.1)
          ) ([], 0)).bind fun o744 => K o744) Φ := by
  subst e
  refine g_bind (Ω := fun o => o = tx l n) (g_loop (fun s : List Int × Int => ∃ k : Nat, s = (tx l k, (k : Int)) ∧ k ≤ n) (fun s => ((n : Int) - s.2).toNat) ?_ ⟨0, rfl, Nat.zero_le _⟩) fun o ho => ho ▸ hk
  rintro _ ⟨k, rfl, hk⟩
  dsimp only
  refine g_if (fun hlt => g_ck (by omega) ?_) fun hge => g_out (by rw [show k = n by omega])
  have e1 : (rs l n).getD (k : Int).toNat 0 = rn l k := by
    simp [rs, List.getD_eq_getElem?_getD, show k < n by omega]
  rw [e1]
  have t1 := tx_len (l := l) k
  have t2 := enc_len (v := rn l k)
  refine g_call (g34_eq _) ?_
  rw [norm_of (rn_R hl k)]
  exact g_ck (by omega) (g_i64 (by omega) (g_go ⟨k + 1, by rw [tx_succ]; rfl, by omega⟩ (by dsimp only; omega)))
theorem text_gives {l : List Int} (hl : Byt l) (hn : l.length ≤ 1000000) {N : Nat} (hN : ps l N = l.length) : Gives (g39 l) fun r => r = strOf (tx l N) := by
  unfold g39
  refine g_ck (by omega) (g_jn (fun v => v = tx l N) (fun k hk => ?_) fun v hv => ?_)
  · refine g_bind (Ω := fun o => o = tx l N) (g_loop (fun s : List Int × Int => ∃ k : Nat, s = (tx l k, (ps l k : Int)) ∧ ps l k ≤ l.length) (fun s => ((l.length : Int) - s.2).toNat) ?_ ⟨0, rfl, Nat.zero_le _⟩) fun o ho => hk _ ho
    rintro _ ⟨k, rfl, hk⟩
    dsimp only
    have st := ps_step hl k
    have kl := ps_ge hl k
    have t1 := tx_len (l := l) k
    refine g_if (fun hlt => g_ck (by omega) ?_) fun hge => g_out (by rw [ps_inj hl (show ps l k = ps l N by omega)])
    simp only [Int.toNat_natCast, drop_all]
    refine g_call (g53_eq (drop_byt hl) (by rw [List.length_drop]; omega)) (g_if (fun h => ?_) fun h => ?_)
    · obtain ⟨r1, r2⟩ := ps_more h
      have t2 := enc_len (v := rn l k)
      refine g_call (g51_eq _) ?_
      rw [r2, ← r1, norm_of (rn_R hl k)]
      exact g_ck (by omega) (g_i64 (by omega) (g_go ⟨k + 1, by rw [tx_succ], by omega⟩ (by dsimp only; omega)))
    · obtain ⟨r1, r2⟩ := ps_else hl h
      have t2 := enc_len (v := rn l k)
      refine g_call (g51_eq _) ?_
      rw [r2, ← r1, norm_of (rn_R hl k)]
      exact g_ck (by omega) (g_i64 (by omega) (g_go ⟨k + 1, by rw [tx_succ], by omega⟩ (by dsimp only; omega)))
  · subst hv
    exact g_ck (tx_byt hl N) (g_some rfl)

theorem ref_runes {l : List Int} (hl : Byt l) (hn : l.length ≤ 1000000) : Gives (g33 l) fun v => ∃ N, ps l N = l.length ∧ v = (rs l N, pp l N) := by
  unfold g33
  refine g_jn (fun v => ∃ N, ps l N = l.length ∧ v = (rs l N, pp l N)) (fun k hk => runes_gives (K := fun o => k (o.1, o.2)) hl hn rfl fun N h => hk _ ⟨N, h, rfl⟩) fun v hv => g_some hv
theorem ref_text {l : List Int} (hl : Byt l) (hn : l.length ≤ 1000000) : ∃ N, ps l N = l.length ∧ g26 l = some (strOf (tx l N)) := by
  obtain ⟨v, e, N, hN, rfl⟩ := ref_runes hl hn
  refine ⟨N, hN, g_eq ?_⟩
  unfold g26
  have hk := ps_ge hl N
  refine g_call e (g_jn (fun v => v = tx l N) (fun k hk' => flat_gives (K := k) hl (N := N) (by omega) (hk' _ rfl) (rs_len l N)) fun v hv => ?_)
  subst hv
  exact g_ck (tx_byt hl N) (g_some rfl)
/-- the program's text of bytes is the document's -/
theorem text_same {l : List Int} (hl : Byt l) (hn : l.length ≤ 1000000) : ∃ s, g39 l = some s ∧ g26 l = some s := by
  obtain ⟨N, hN, e⟩ := ref_text hl hn
  exact ⟨_, g_eq (text_gives hl hn hN), e⟩

end Go.Proofs.YtenjkphlbdhaiaaDoor

namespace Go.Proofs.YtenjkphlbdhaiaaDoor
open Go Go.Eng

abbrev Ky := Int × ByteArray × Int × Bool × Bool × Bool
abbrev Fd := Int × Int × ByteArray × Int × Bool × Bool × Bool × Bool × Bool
def ky0 : Ky := (0, ⟨#[]⟩, 0, false, false, false)

/-! ### tables -/
theorem letter_eq (a : Int) : ∃ v, g37 a = some v ∧ g55 a = some v := by
  by_cases h1 : a = 65; · subst h1; exact ⟨_, rfl, rfl⟩
  by_cases h2 : a = 66; · subst h2; exact ⟨_, rfl, rfl⟩
  by_cases h3 : a = 67; · subst h3; exact ⟨_, rfl, rfl⟩
  by_cases h4 : a = 68; · subst h4; exact ⟨_, rfl, rfl⟩
  by_cases h5 : a = 72; · subst h5; exact ⟨_, rfl, rfl⟩
  by_cases h6 : a = 70; · subst h6; exact ⟨_, rfl, rfl⟩
  by_cases h7 : a = 80; · subst h7; exact ⟨((18, ⟨#[]⟩, 1, false, false, false), true), by simp [g37, jn, ck, inR], by simp [g55, jn, ck, inR]⟩
  by_cases h8 : a = 81; · subst h8; exact ⟨((18, ⟨#[]⟩, 2, false, false, false), true), by simp [g37, jn, ck, inR], by simp [g55, jn, ck, inR]⟩
  by_cases h9 : a = 82; · subst h9; exact ⟨((18, ⟨#[]⟩, 3, false, false, false), true), by simp [g37, jn, ck, inR], by simp [g55, jn, ck, inR]⟩
  by_cases h0 : a = 83; · subst h0; exact ⟨((18, ⟨#[]⟩, 4, false, false, false), true), by simp [g37, jn, ck, inR], by simp [g55, jn, ck, inR]⟩
  refine ⟨((0, ⟨#[]⟩, 0, false, false, false), false), ?_, ?_⟩
  · simp [g37, jn, ck, inR, *]
  · simp [g55, jn, ck, inR, *]
theorem tilde_eq {a : Int} (h0 : 0 ≤ a) : ∃ v, g60 a = some v ∧ g69 a = some v := by
  by_cases h : a ≤ 24
  · have : a = 0 ∨ a = 1 ∨ a = 2 ∨ a = 3 ∨ a = 4 ∨ a = 5 ∨ a = 6 ∨ a = 7 ∨ a = 8 ∨ a = 9 ∨ a = 10 ∨ a = 11 ∨ a = 12 ∨ a = 13 ∨ a = 14 ∨ a = 15 ∨ a = 16 ∨ a = 17 ∨ a = 18 ∨ a = 19 ∨ a = 20 ∨ a = 21 ∨ a = 22 ∨ a = 23 ∨ a = 24 := by omega
    rcases this with rfl | rfl | rfl | rfl | rfl | rfl | rfl | rfl | rfl | rfl | rfl | rfl | rfl | rfl | rfl | rfl | rfl | rfl | rfl | rfl | rfl | rfl | rfl | rfl | rfl
    all_goals
      simp only [g60, g69, jn, ck, inR]
      simp
  · refine ⟨((0, ⟨#[]⟩, 0, false, false, false), false), ?_, ?_⟩
    · simp only [g60, jn, ck]
      simp only [if_neg (show ¬ a = 1 by omega), if_neg (show ¬ a = 3 by omega), if_neg (show ¬ a = 4 by omega), if_neg (show ¬ a = 5 by omega), if_neg (show ¬ a = 6 by omega), if_neg (show ¬ a = 23 by omega), if_neg (show ¬ a = 24 by omega), if_pos (show 11 ≤ a by omega), if_pos (show 17 ≤ a by omega), decide_eq_true_eq, if_neg (show ¬ a = 7 by omega), if_neg (show ¬ a = 8 by omega), if_neg (show ¬ a ≤ 15 by omega), if_neg (show ¬ a ≤ 21 by omega)]
    · simp only [g69, jn, ck]
      simp only [if_neg (show ¬ a = 1 by omega), if_neg (show ¬ a = 3 by omega), if_neg (show ¬ a = 4 by omega), if_neg (show ¬ a = 5 by omega), if_neg (show ¬ a = 6 by omega), if_neg (show ¬ a = 23 by omega), if_neg (show ¬ a = 24 by omega), if_neg (show ¬ a = 11 by omega), if_neg (show ¬ a = 12 by omega), if_neg (show ¬ a = 13 by omega), if_neg (show ¬ a = 14 by omega), if_neg (show ¬ a = 15 by omega), if_neg (show ¬ a = 17 by omega), if_neg (show ¬ a = 18 by omega), if_neg (show ¬ a = 19 by omega), if_neg (show ¬ a = 20 by omega), if_neg (show ¬ a = 21 by omega), decide_eq_true_eq, if_neg (show ¬ a = 7 by omega), if_neg (show ¬ a = 8 by omega)]

/-! ### the numbers of a sequence -/
def ns (l0 l1 many d : Int) : List Int → Option (Int × Int × Int × Int)
  | [] => some (l0, l1, many, d)
  | c :: r =>
    if c = 59 ∧ many = 0 then ns (if d = 0 then 1 else l0) l1 1 0 r
    else if 48 ≤ c ∧ c ≤ 57 ∧ d < 4 then (if many = 0 then ns (l0 * 10 + (c - 48)) l1 many (d + 1) r else ns l0 (l1 * 10 + (c - 48)) many (d + 1) r)
    else none
theorem ns_c {l0 l1 many d c : Int} {r : List Int} : ns l0 l1 many d (c :: r) = if c = 59 ∧ many = 0 then ns (if d = 0 then 1 else l0) l1 1 0 r
    else if 48 ≤ c ∧ c ≤ 57 ∧ d < 4 then (if many = 0 then ns (l0 * 10 + (c - 48)) l1 many (d + 1) r else ns l0 (l1 * 10 + (c - 48)) many (d + 1) r)
    else none := rfl
def nsB (l0 l1 many d : Int) : Prop := 0 ≤ l0 ∧ l0 ≤ 99999 ∧ 0 ≤ l1 ∧ l1 ≤ 99999 ∧ 0 ≤ d ∧ d ≤ 4 ∧ (many = 0 ∨ many = 1) ∧ (many = 0 → l1 = 0 ∧ l0 ≤ (if d = 0 then 0 else if d = 1 then 9 else if d = 2 then 99 else if d = 3 then 999 else 9999)) ∧ (many = 1 → l1 ≤ (if d = 0 then 0 else if d = 1 then 9 else if d = 2 then 99 else if d = 3 then 999 else 9999))
theorem nsB_dig0 {l0 l1 d c : Int} (h : nsB l0 l1 0 d) (h4 : d < 4) (hc : 48 ≤ c ∧ c ≤ 57) : nsB (l0 * 10 + (c - 48)) l1 0 (d + 1) := by
  obtain ⟨h1, h2, h3, h5, h6, h7, h8, h9, h10⟩ := h
  obtain ⟨k9, h11⟩ := h9 rfl
  have hd : d = 0 ∨ d = 1 ∨ d = 2 ∨ d = 3 := by omega
  rcases hd with rfl | rfl | rfl | rfl <;> simp at h11 <;> refine ⟨by omega, by omega, by omega, by omega, by omega, by omega, .inl rfl, fun _ => ⟨k9, by simp; omega⟩, fun h => by omega⟩
theorem nsB_dig1 {l0 l1 d c : Int} (h : nsB l0 l1 1 d) (h4 : d < 4) (hc : 48 ≤ c ∧ c ≤ 57) : nsB l0 (l1 * 10 + (c - 48)) 1 (d + 1) := by
  obtain ⟨h1, h2, h3, h5, h6, h7, h8, h9, h10⟩ := h
  have h11 := h10 rfl
  have hd : d = 0 ∨ d = 1 ∨ d = 2 ∨ d = 3 := by omega
  rcases hd with rfl | rfl | rfl | rfl <;> simp at h11 <;> refine ⟨by omega, by omega, by omega, by omega, by omega, by omega, .inr rfl, fun h => by omega, fun _ => by simp; omega⟩
theorem nsB_semi {l0 l1 d : Int} (h : nsB l0 l1 0 d) : nsB (if d = 0 then 1 else l0) l1 1 0 := by
  obtain ⟨h1, h2, h3, h5, h6, h7, h8, h9, h10⟩ := h
  obtain ⟨h9, h11⟩ := h9 rfl
  refine ⟨by split <;> omega, by split <;> omega, h3, h5, by omega, by omega, .inr rfl, fun h => by omega, fun _ => by simp; omega⟩
theorem ns_ok : ∀ (p : List Int) {l0 l1 many d : Int} {v : Int × Int × Int × Int}, nsB l0 l1 many d → ns l0 l1 many d p = some v → nsB v.1 v.2.1 v.2.2.1 v.2.2.2
  | [], _, _, _, _, _, hb, h => by cases h; exact hb
  | c :: r, l0, l1, many, d, v, hb, h => by
    unfold ns at h
    split at h
    · rename_i hc; obtain ⟨_, rfl⟩ := hc; exact ns_ok r (nsB_semi hb) h
    · split at h
      · rename_i hc
        split at h
        · rename_i hm; subst hm; exact ns_ok r (nsB_dig0 hb hc.2.2 ⟨hc.1, hc.2.1⟩) h
        · rename_i hm
          have : many = 1 := by have := hb.2.2.2.2.2.2.1; omega
          subst this
          exact ns_ok r (nsB_dig1 hb hc.2.2 ⟨hc.1, hc.2.1⟩) h
      · cases h
theorem ns_drop {p : List Int} {i : Int} (h0 : 0 ≤ i) (h1 : i < p.length) : p.drop i.toNat = p.getD i.toNat 0 :: p.drop (i + 1).toNat := by
  rw [drop_getD (by omega), show (i + 1).toNat = i.toNat + 1 by omega]
/-- the program's -/
theorem g68_gives {p : List Int} (hp : Byt p) (hn : p.length ≤ 1000000) : Gives (g68 p) fun r => match ns 0 0 0 0 p with
    | none => r.2.2 = false
    | some v => r = ((if v.2.2.2 = 0 ∧ v.2.2.1 = 0 then 1 else v.1, if v.2.2.2 = 0 ∧ v.2.2.1 = 1 then 1 else v.2.1), v.2.2.1 + 1, true) := by
  unfold g68
  refine g_jn (fun v => ns 0 0 0 0 p = some v) (fun k hk => g_bind (g_loop (R := fun o => (∃ u, o = .inl u ∧ ns 0 0 0 0 p = none) ∨ ∃ v, o = .inr v ∧ ns 0 0 0 0 p = some v)
    (fun s : Int × Int × Int × Int × Int => 0 ≤ s.2.2.2.2 ∧ s.2.2.2.2 ≤ p.length ∧ nsB s.1 s.2.1 s.2.2.1 s.2.2.2.1 ∧ ns 0 0 0 0 p = ns s.1 s.2.1 s.2.2.1 s.2.2.2.1 (p.drop s.2.2.2.2.toNat)) (fun s => ((p.length : Int) - s.2.2.2.2).toNat) ?_ ⟨Int.le_refl _, by dsimp only; omega, ⟨by decide, by decide, by decide, by decide, by decide, by decide, .inl rfl, fun _ => ⟨rfl, by decide⟩, fun h => by cases h⟩, rfl⟩) ?_) ?_
  · rintro ⟨l0, l1, many, d, i⟩ ⟨h0, h1, hb, he⟩
    dsimp only at h0 h1 hb he ⊢
    refine g_if (fun hi => g_ck (by omega) ?_) fun hi => g_out (.inr ⟨_, rfl, by rw [he, List.drop_eq_nil_of_le (by omega)]; rfl⟩)
    have hc : 0 ≤ p.getD i.toNat 0 ∧ p.getD i.toNat 0 ≤ 255 := hp _ (getD_mem (by omega))
    rw [ns_drop h0 hi] at he
    generalize p.getD i.toNat 0 = c at hc he
    have hm := hb.2.2.2.2.2.2.1
    have hb5 := hb.2.2.2.2.1
    have hb6 := hb.2.2.2.2.2.1
    refine g_jn (fun v => v = true ↔ (c = 59 ∧ many = 0)) (fun k2 hk2 => g_if (fun h => hk2 _ (by simp [h])) fun h => hk2 _ (by simp [h])) fun v hv => ?_
    refine g_if (fun ht => ?_) fun hf => ?_
    · obtain ⟨hc59, hm0⟩ := hv.1 ht
      subst hm0
      have he : ns 0 0 0 0 p = ns (if d = 0 then 1 else l0) l1 1 0 (p.drop (i + 1).toNat) := by rw [he, ns_c, if_pos ⟨hc59, rfl⟩]
      have hb' := nsB_semi hb
      refine g_if (fun hd => g_ck (by decide) (g_if (fun _ => g_i64 (by omega) (g_go ⟨by dsimp only; omega, by dsimp only; omega, by rw [if_pos hd] at hb'; exact hb', by rw [if_pos hd] at he; exact he⟩ (by dsimp only; omega))) fun hx => absurd rfl hx)) fun hd => g_i64 (by omega) (g_go ⟨by dsimp only; omega, by dsimp only; omega, by rw [if_neg hd] at hb'; exact hb', by rw [if_neg hd] at he; exact he⟩ (by dsimp only; omega))
    · have hnc : ¬ (c = 59 ∧ many = 0) := fun h => hf (hv.2 h)
      refine g_jn (fun v => v = true ↔ (48 ≤ c ∧ c ≤ 57 ∧ d < 4)) (fun k2 hk2 => g_if (fun h1 => g_if (fun h2 => hk2 _ (by simp [h1, h2])) fun h2 => hk2 _ (by simp [h2])) fun h1 => hk2 _ (by simp [h1])) fun v2 hv2 => ?_
      refine g_if (fun ht => ?_) fun hf2 => g_out (.inl ⟨_, rfl, ?_⟩)
      · obtain ⟨c1, c2, c3⟩ := hv2.1 ht
        have hl := hb.1; have hl2 := hb.2.1; have hl3 := hb.2.2.1; have hl4 := hb.2.2.2.1
        rcases hm with rfl | rfl
        · have he : ns 0 0 0 0 p = ns (l0 * 10 + (c - 48)) l1 0 (d + 1) (p.drop (i + 1).toNat) := by rw [he, ns_c, if_neg hnc, if_pos ⟨c1, c2, c3⟩, if_pos rfl]
          refine g_ck (by omega) (g_if (fun _ => g_i64 (by omega) (g_ck (by show _ ∧ _; omega) (g_i64 (by omega) (g_i64 (by omega) (g_ck (by omega) (g_if (fun _ => g_i64 (by omega) (g_i64 (by omega) (g_go ⟨by dsimp only; omega, by dsimp only; omega, nsB_dig0 hb c3 ⟨c1, c2⟩, he⟩ (by dsimp only; omega)))) fun hx => absurd rfl hx)))))) fun hx => absurd rfl hx)
        · have he : ns 0 0 0 0 p = ns l0 (l1 * 10 + (c - 48)) 1 (d + 1) (p.drop (i + 1).toNat) := by rw [he, ns_c, if_neg hnc, if_pos ⟨c1, c2, c3⟩, if_neg (by decide)]
          refine g_ck (by omega) (g_if (fun hx => absurd hx (by decide)) fun _ => g_if (fun _ => g_i64 (by omega) (g_ck (by show _ ∧ _; omega) (g_i64 (by omega) (g_i64 (by omega) (g_ck (by omega) (g_if (fun hx => absurd hx (by decide)) fun _ => g_if (fun _ => g_i64 (by omega) (g_i64 (by omega) (g_go ⟨by dsimp only; omega, by dsimp only; omega, nsB_dig1 hb c3 ⟨c1, c2⟩, he⟩ (by dsimp only; omega)))) fun hx => absurd rfl hx)))))) fun hx => absurd rfl hx)
      · have hnd : ¬ (48 ≤ c ∧ c ≤ 57 ∧ d < 4) := fun h => hf2 (hv2.2 h)
        rw [he, ns_c, if_neg hnc, if_neg hnd]
  · rintro o (⟨u, rfl, hs⟩ | ⟨v, rfl, hs⟩)
    · exact g_sm (fun _ _ => g_some (by rw [hs])) (fun r hr => by cases hr)
    · exact g_sm (fun r hr => by cases hr) (fun r hr => by cases hr; exact hk _ hs)
  · rintro ⟨l0, l1, many, d⟩ hs
    have hb := ns_ok p (v := (l0, l1, many, d)) ⟨by decide, by decide, by decide, by decide, by decide, by decide, .inl rfl, fun _ => ⟨rfl, by decide⟩, fun h => by cases h⟩ hs
    rw [hs]
    dsimp only at hb ⊢
    have hm := hb.2.2.2.2.2.2.1
    refine g_if (fun hd => ?_) fun hd => g_i64 (by omega) (g_some (by simp [hd]))
    rcases hm with rfl | rfl
    · exact g_ck (by decide) (g_if (fun _ => g_i64 (by decide) (g_some (by simp [hd]))) fun hx => absurd rfl hx)
    · exact g_ck (by decide) (g_if (fun hx => absurd hx (by decide)) fun _ => g_if (fun _ => g_i64 (by decide) (g_some (by simp [hd]))) fun hx => absurd rfl hx)

end Go.Proofs.YtenjkphlbdhaiaaDoor

namespace Go.Proofs.YtenjkphlbdhaiaaDoor
open Go Go.Eng

def fx (d x : Int) : Int := if d = 0 then 1 else x
inductive RelN : List Int → List Int → Int → Int → Int → Int → Prop
  | one (l0 l1 d : Int) : RelN [l0] [d] l0 l1 0 d
  | two (r0 d0 l1 d : Int) : RelN [r0, l1] [d0, d] (fx d0 r0) l1 1 d
/-- the document's -/
theorem g59_gives {p : List Int} (hp : Byt p) (hn : p.length ≤ 1000000) : Gives (g59 p) fun r => match ns 0 0 0 0 p with
    | none => r.2 = false
    | some v => r = (if v.2.2.1 = 0 then [fx v.2.2.2 v.1] else [v.1, fx v.2.2.2 v.2.1], true) := by
  unfold g59
  refine g_jn (fun v => ∃ l0 l1 many d, ns 0 0 0 0 p = some (l0, l1, many, d) ∧ RelN v.1 v.2 l0 l1 many d) (fun k hk => g_bind (g_loop (R := fun o => (o = .inl () ∧ ns 0 0 0 0 p = none) ∨ ∃ v, o = .inr v ∧ ∃ l0 l1 many d, ns 0 0 0 0 p = some (l0, l1, many, d) ∧ RelN v.1 v.2 l0 l1 many d)
    (fun s : List Int × List Int × Int => 0 ≤ s.2.2 ∧ s.2.2 ≤ p.length ∧ ∃ l0 l1 many d, nsB l0 l1 many d ∧ RelN s.1 s.2.1 l0 l1 many d ∧ ns 0 0 0 0 p = ns l0 l1 many d (p.drop s.2.2.toNat)) (fun s => ((p.length : Int) - s.2.2).toNat) ?_ ⟨Int.le_refl _, by dsimp only; omega, 0, 0, 0, 0, ⟨by decide, by decide, by decide, by decide, by decide, by decide, .inl rfl, fun _ => ⟨rfl, by decide⟩, fun h => by cases h⟩, .one .., rfl⟩) ?_) ?_
  · rintro ⟨L, D, i⟩ ⟨h0, h1, l0, l1, many, d, hb, hr, he⟩
    dsimp only at h0 h1 hr he ⊢
    refine g_if (fun hi => ?_) fun hi => g_out (.inr ⟨_, rfl, l0, l1, many, d, by rw [he, List.drop_eq_nil_of_le (by omega)]; rfl, hr⟩)
    have hc : 0 ≤ p.getD i.toNat 0 ∧ p.getD i.toNat 0 ≤ 255 := hp _ (getD_mem (by omega))
    rw [ns_drop h0 hi] at he
    generalize p.getD i.toNat 0 = c at hc he
    have hl := hb.1; have hl2 := hb.2.1; have hl3 := hb.2.2.1; have hl4 := hb.2.2.2.1
    have hb5 := hb.2.2.2.2.1
    have hb6 := hb.2.2.2.2.2.1
    cases hr with
    | one =>
      simp only [List.length_cons, List.length_nil, Nat.zero_add]
      refine g_i64 (by decide) (g_jn (fun v => v = true ↔ c = 59) (fun k2 hk2 => g_ck (by omega) (g_if (fun h => hk2 _ (by simp [h])) fun h => hk2 _ (by simp [h]))) fun v hv => g_if (fun ht => ?_) fun hf => ?_)
      · have hc59 := hv.1 ht
        have he : ns 0 0 0 0 p = ns (if d = 0 then 1 else l0) l1 1 0 (p.drop (i + 1).toNat) := by rw [he, ns_c, if_pos ⟨hc59, rfl⟩]
        have hl1 : l1 = 0 := (hb.2.2.2.2.2.2.2.1 rfl).1
        subst hl1
        exact g_ck (by decide) (g_ck (by decide) (g_i64 (by omega) (g_go ⟨by dsimp only; omega, by dsimp only; omega, _, _, _, _, nsB_semi hb, .two l0 d 0 0, he⟩ (by dsimp only; omega))))
      · have hnc : ¬ (c = 59 ∧ (0 : Int) = 0) := fun h => hf (hv.2 h.1)
        refine g_jn (fun v => v = true ↔ (48 ≤ c ∧ c ≤ 57 ∧ d < 4)) (fun k2 hk2 => g_ck (by omega) (g_if (fun h1 => g_ck (by omega) (g_if (fun h2 => g_ck (by decide) (hk2 _ (by simp [h1, h2]))) fun h2 => hk2 _ (by simp [h2]))) fun h1 => hk2 _ (by simp [h1]))) fun v2 hv2 => g_if (fun ht => ?_) fun hf2 => g_out (.inl ⟨rfl, by rw [he, ns_c, if_neg hnc, if_neg (fun h => hf2 (hv2.2 h))]⟩)
        obtain ⟨c1, c2, c3⟩ := hv2.1 ht
        have he : ns 0 0 0 0 p = ns (l0 * 10 + (c - 48)) l1 0 (d + 1) (p.drop (i + 1).toNat) := by rw [he, ns_c, if_neg hnc, if_pos ⟨c1, c2, c3⟩, if_pos rfl]
        have e0 : (((1 : Nat) : Int) - 1).toNat = 0 := rfl
        simp only [e0, List.getD_cons_zero, List.set_cons_zero]
        refine g_ck (by decide) (g_i64 (by omega) (g_ck (by omega) (g_ck (by show _ ∧ _; omega) (g_i64 (by omega) (g_i64 (by omega) (g_ck (by decide) (g_i64 (by omega) (g_ck (by decide) (g_ck (by decide) (g_i64 (by omega) (g_go ⟨by dsimp only; omega, by dsimp only; omega, _, _, _, _, nsB_dig0 hb c3 ⟨c1, c2⟩, ?_, he⟩ (by dsimp only; omega))))))))))))
        rw [Int.mul_comm 10 l0]
        exact .one ..
    | two r0 d0 _ _ =>
      simp only [List.length_cons, List.length_nil, Nat.zero_add]
      refine g_i64 (by decide) (g_jn (fun v => v = false) (fun k2 hk2 => g_ck (by omega) (g_if (fun h => hk2 _ (by decide)) fun h => hk2 _ rfl)) fun v hv => g_if (fun ht => by rw [hv] at ht; cases ht) fun hf => ?_)
      have hnc : ¬ (c = 59 ∧ (1 : Int) = 0) := fun h => absurd h.2 (by decide)
      refine g_jn (fun v => v = true ↔ (48 ≤ c ∧ c ≤ 57 ∧ d < 4)) (fun k2 hk2 => g_ck (by omega) (g_if (fun h1 => g_ck (by omega) (g_if (fun h2 => g_ck (by decide) (hk2 _ (by simp [h1, h2]))) fun h2 => hk2 _ (by simp [h2]))) fun h1 => hk2 _ (by simp [h1]))) fun v2 hv2 => g_if (fun ht => ?_) fun hf2 => g_out (.inl ⟨rfl, by rw [he, ns_c, if_neg hnc, if_neg (fun h => hf2 (hv2.2 h))]⟩)
      obtain ⟨c1, c2, c3⟩ := hv2.1 ht
      have he : ns 0 0 0 0 p = ns (fx d0 r0) (l1 * 10 + (c - 48)) 1 (d + 1) (p.drop (i + 1).toNat) := by rw [he, ns_c, if_neg hnc, if_pos ⟨c1, c2, c3⟩, if_neg (by decide)]
      have e0 : (((1 + 1 : Nat) : Int) - 1).toNat = 1 := rfl
      simp only [e0, List.getD_cons_succ, List.getD_cons_zero, List.set_cons_succ, List.set_cons_zero]
      refine g_ck (by decide) (g_i64 (by omega) (g_ck (by omega) (g_ck (by show _ ∧ _; omega) (g_i64 (by omega) (g_i64 (by omega) (g_ck (by decide) (g_i64 (by omega) (g_ck (by decide) (g_ck (by decide) (g_i64 (by omega) (g_go ⟨by dsimp only; omega, by dsimp only; omega, _, _, _, _, nsB_dig1 hb c3 ⟨c1, c2⟩, ?_, he⟩ (by dsimp only; omega))))))))))))
      rw [Int.mul_comm 10 l1]
      exact .two ..
  · rintro o (⟨rfl, hs⟩ | ⟨v, rfl, l0, l1, many, d, hs, hr⟩)
    · exact g_sm (fun _ _ => g_some (by rw [hs])) (fun r hr => by cases hr)
    · exact g_sm (fun r hr => by cases hr) (fun r hr2 => by cases hr2; exact hk _ ⟨l0, l1, many, d, hs, hr⟩)
  · rintro ⟨L, D⟩ ⟨l0, l1, many, d, hs, hr⟩
    rw [hs]
    dsimp only at hr ⊢
    cases hr with
    | one =>
      refine g_jn (fun v => v = [fx d l0]) (fun k hk => g_bind (g_loop (R := fun v => v = [fx d l0]) (fun s : List Int × Int => s = ([l0], 0) ∨ s = ([fx d l0], 1)) (fun s => (2 - s.2).toNat) ?_ (.inl rfl)) fun v hv => hk v hv) fun v hv => g_some (by rw [hv]; rfl)
      rintro _ (rfl | rfl)
      · refine g_if (fun _ => g_if (fun _ => g_ck (by simp) (g_if (fun hd => g_ck (by simp) (g_i64 (by simp) (g_go (.inr ?_) (by simp)))) fun hd => g_i64 (by simp) (g_go (.inr ?_) (by simp)))) fun hx => absurd (by simp) hx) fun hx => absurd (by simp) hx
        · have hd : d = 0 := hd
          simp [fx, hd]
        · have hd : ¬ d = 0 := hd
          simp [fx, hd]
      · exact g_if (fun hx => absurd hx (by simp)) fun _ => g_out rfl
    | two r0 d0 _ _ =>
      refine g_jn (fun v => v = [fx d0 r0, fx d l1]) (fun k hk => g_bind (g_loop (R := fun v => v = [fx d0 r0, fx d l1]) (fun s : List Int × Int => s = ([r0, l1], 0) ∨ s = ([fx d0 r0, l1], 1) ∨ s = ([fx d0 r0, fx d l1], 2)) (fun s => (3 - s.2).toNat) ?_ (.inl rfl)) fun v hv => hk v hv) fun v hv => g_some (by rw [hv]; rfl)
      rintro _ (rfl | rfl | rfl)
      · refine g_if (fun _ => g_if (fun _ => g_ck (by simp) (g_if (fun hd => g_ck (by simp) (g_i64 (by simp) (g_go (.inr (.inl ?_)) (by simp)))) fun hd => g_i64 (by simp) (g_go (.inr (.inl ?_)) (by simp)))) fun hx => absurd (by simp) hx) fun hx => absurd (by simp) hx
        · have hd : d0 = 0 := hd
          simp [fx, hd]
        · have hd : ¬ d0 = 0 := hd
          simp [fx, hd]
      · refine g_if (fun _ => g_if (fun _ => g_ck (by simp) (g_if (fun hd => g_ck (by simp) (g_i64 (by simp) (g_go (.inr (.inr ?_)) (by simp)))) fun hd => g_i64 (by simp) (g_go (.inr (.inr ?_)) (by simp)))) fun hx => absurd (by simp) hx) fun hx => absurd (by simp) hx
        · have hd : d = 0 := hd
          simp [fx, hd]
        · have hd : ¬ d = 0 := hd
          simp [fx, hd]
      · exact g_if (fun hx => absurd hx (by simp)) fun _ => g_out rfl

end Go.Proofs.YtenjkphlbdhaiaaDoor

namespace Go.Proofs.YtenjkphlbdhaiaaDoor
open Go Go.Eng

theorem letter_code {a : Int} {v : Ky × Bool} (h : g37 a = some v) (ht : v.2 = true) : v.1.1 = 18 ↔ 80 ≤ a ∧ a ≤ 83 := by
  by_cases h1 : a = 65; · subst h1; cases h; decide
  by_cases h2 : a = 66; · subst h2; cases h; decide
  by_cases h3 : a = 67; · subst h3; cases h; decide
  by_cases h4 : a = 68; · subst h4; cases h; decide
  by_cases h5 : a = 72; · subst h5; cases h; decide
  by_cases h6 : a = 70; · subst h6; cases h; decide
  by_cases h7 : 80 ≤ a ∧ a ≤ 83
  · have : a = 80 ∨ a = 81 ∨ a = 82 ∨ a = 83 := by omega
    rcases this with rfl | rfl | rfl | rfl <;> simp [g37, jn, ck, inR] at h <;> subst h <;> decide
  · have e0 : ¬ a = 80 := by omega
    have e1 : ¬ a = 81 := by omega
    have e2 : ¬ a = 82 := by omega
    have e3 : ¬ a = 83 := by omega
    simp [g37, jn, ck, inR, *] at h
    subst h
    cases ht
/-- the keys that are held besides -/
def hl (k : Ky) (n : Int) : Ky × Bool := if 1 ≤ n ∧ n ≤ 8 then ((k.1, k.2.1, k.2.2.1, decide (Int.tmod (Int.tdiv (n - 1) 2) 2 = 1), decide (Int.tmod (n - 1) 2 = 1), decide (Int.tdiv (n - 1) 4 = 1)), true) else (ky0, false)
theorem g70_eq (k : Ky) (n : Int) : g70 k n = some (hl k n) := by
  unfold g70 hl
  by_cases h1 : n < 1
  · rw [if_pos h1, if_neg (by omega)]; rfl
  · rw [if_neg h1]
    by_cases h8 : 8 < n
    · rw [if_pos h8, if_neg (by omega)]; rfl
    · rw [if_neg h8, if_pos (by omega)]
      have : n = 1 ∨ n = 2 ∨ n = 3 ∨ n = 4 ∨ n = 5 ∨ n = 6 ∨ n = 7 ∨ n = 8 := by omega
      rcases this with rfl | rfl | rfl | rfl | rfl | rfl | rfl | rfl <;> rfl
theorem g67_eq (k : Ky) (b : Bool) : g67 k b = some (if b = true then (k, true) else (ky0, false)) := by
  unfold g67
  cases b <;> rfl
theorem bool_eq {b c : Bool} (h : c = true ↔ b = true) : c = b := by cases c <;> cases b <;> simp_all
/-- two answers are the same, but for what nobody looks at -/
def KEq (v v' : Ky × Bool) : Prop := v.2 = v'.2 ∧ (v.2 = true → v.1 = v'.1)
theorem obeyed_eq {p : List Int} {e : Int} (hp : Byt p) (hn : p.length ≤ 1000000) : ∃ v v', g48 p e = some v ∧ g54 p e = some v' ∧ KEq v v' := by
  obtain ⟨r, er, hr⟩ := g68_gives hp hn
  obtain ⟨s, es, hs⟩ := g59_gives hp hn
  have B0 : nsB 0 0 0 0 := ⟨by decide, by decide, by decide, by decide, by decide, by decide, .inl rfl, fun _ => ⟨rfl, by decide⟩, fun h => by cases h⟩
  by_cases h90 : e = 90
  · subst h90
    have e54 : g54 p 90 = some (if (p.length : Int) = 0 then ((4, ⟨#[]⟩, 0, false, false, false), true) else (ky0, false)) := by
      unfold g54
      rw [if_pos rfl, g67_eq, Option.bind_some]
      by_cases h : (p.length : Int) = 0
      · rw [if_pos h, if_pos (by simpa using h)]
      · rw [if_neg h, if_neg (by simpa using h)]
    refine ⟨if s.2 = true then ((4, ⟨#[]⟩, 0, false, false, false), decide ((p.length : Int) = 0)) else (ky0, false), _, ?_, e54, ?_⟩
    · unfold g48
      rw [es, Option.bind_some]
      by_cases h : s.2 = true
      · rw [if_neg (not_not_intro h), if_pos h]; rfl
      · rw [if_pos h, if_neg h]; rfl
    · by_cases h0 : (p.length : Int) = 0
      · have : p = [] := List.eq_nil_of_length_eq_zero (by omega)
        subst this
        have hs : s = _ := hs
        rw [hs]
        exact ⟨rfl, fun _ => rfl⟩
      · rw [if_neg h0]
        have hd : decide ((p.length : Int) = 0) = false := decide_eq_false h0
        split
        · exact ⟨hd, fun h => by rw [hd] at h; cases h⟩
        · exact ⟨rfl, fun _ => rfl⟩
  · cases hns : ns 0 0 0 0 p with
    | none =>
      rw [hns] at hr hs
      refine ⟨(ky0, false), (ky0, false), ?_, ?_, rfl, fun _ => rfl⟩
      · unfold g48
        rw [es, Option.bind_some, if_pos (by rw [hs]; decide)]; rfl
      · unfold g54
        rw [if_neg h90, er, Option.bind_some, if_pos (by rw [hr]; decide)]; rfl
    | some v =>
      rw [hns] at hr hs
      have hb := ns_ok p B0 hns
      obtain ⟨l0, l1, many, d⟩ := v
      dsimp only at hr hs hb
      have hm := hb.2.2.2.2.2.2.1
      have k1 := hb.1; have k2 := hb.2.1; have k3 := hb.2.2.1; have k4 := hb.2.2.2.1
      -- what both read
      obtain ⟨A, B, hA, hB, hr, hs⟩ : ∃ A B : Int, (0 ≤ A ∧ A ≤ 99999) ∧ (0 ≤ B ∧ B ≤ 99999) ∧ r = ((A, B), many + 1, true) ∧ s = (if many = 0 then [A] else [A, B], true) := by
        rcases hm with rfl | rfl
        · refine ⟨fx d l0, l1, by unfold fx; split <;> omega, ⟨by omega, by omega⟩, ?_, ?_⟩
          · rw [hr]; simp [fx]
          · rw [hs]; simp
        · refine ⟨l0, fx d l1, ⟨by omega, by omega⟩, by unfold fx; split <;> omega, ?_, ?_⟩
          · rw [hr]; simp [fx]
          · rw [hs]; simp
      clear hb k1 k2 k3 k4 hns
      -- the key ahead of what is held
      have fin : ∀ (t : Ky) (b : Bool), ∃ v v',
          (if ¬ (b = true) then some (ky0, false) else if many + 1 = 2 then some (hl t B) else some (t, true)) = some v ∧
          (if ¬ (b = true) then some (ky0, false) else if many + 1 = 2 then some (hl t B) else some (t, true)) = some v' ∧ KEq v v' := fun t b => by
        split
        · exact ⟨_, _, rfl, rfl, rfl, fun _ => rfl⟩
        · split <;> exact ⟨_, _, rfl, rfl, rfl, fun _ => rfl⟩
      -- the program's end
      have pe : ∀ (w : Int × ByteArray × Int × Bool × Bool × Bool × Bool), (if ¬ (w.2.2.2.2.2.2 = true) then
              some (((0, (⟨#[]⟩ : ByteArray), 0, false, false, false), false) : Ky × Bool)
            else
              (
                if many + 1 = 2 then
                  (
                    ck (0 ≤ (1 : Int) ∧ 1 < ((2 : Nat) : Int)) <|
                    if 1 = ((0 : Nat) : Int) then
                      (
                        (g70 (w.1, w.2.1, w.2.2.1, w.2.2.2.1, w.2.2.2.2.1, w.2.2.2.2.2.1) A).bind fun v1490 =>
                        some ((v1490.1.1, v1490.1.2.1, v1490.1.2.2.1, v1490.1.2.2.2.1, v1490.1.2.2.2.2.1, v1490.1.2.2.2.2.2), v1490.2)
                      )
                    else
                      (
                        if 1 = ((1 : Nat) : Int) then
                          (
                            (g70 (w.1, w.2.1, w.2.2.1, w.2.2.2.1, w.2.2.2.2.1, w.2.2.2.2.2.1) B).bind fun v1493 =>
                            some ((v1493.1.1, v1493.1.2.1, v1493.1.2.2.1, v1493.1.2.2.2.1, v1493.1.2.2.2.2.1, v1493.1.2.2.2.2.2), v1493.2)
                          )
                        else
                          none
                      )
                  )
                else
                  some ((w.1, w.2.1, w.2.2.1, w.2.2.2.1, w.2.2.2.2.1, w.2.2.2.2.2.1), true)
              )) = (if ¬ (w.2.2.2.2.2.2 = true) then some (ky0, false) else if many + 1 = 2 then some (hl (w.1, w.2.1, w.2.2.1, w.2.2.2.1, w.2.2.2.2.1, w.2.2.2.2.2.1) B) else some ((w.1, w.2.1, w.2.2.1, w.2.2.2.1, w.2.2.2.2.1, w.2.2.2.2.2.1), true)) := fun w => by
        split
        · rfl
        · split
          · rw [g70_eq, g70_eq]
            rfl
          · rfl
      -- the document's
      have re : ∀ (w : Int × ByteArray × Int × Bool × Bool × Bool × Bool), (if ¬ (w.2.2.2.2.2.2 = true) then
          some (((0, (⟨#[]⟩ : ByteArray), 0, false, false, false), false) : Ky × Bool)
        else
          (
            if ((s.1.length : Nat) : Int) = 2 then
              (
                ck (0 ≤ (1 : Int) ∧ 1 < ((s.1.length : Nat) : Int)) <|
                ck (inR .i64 ((s.1.getD (1 : Int).toNat 0) - 1)) <|
                if ((s.1.getD (1 : Int).toNat 0) - 1) < 0 then
                  some ((0, (⟨#[]⟩ : ByteArray), 0, false, false, false), false)
                else
                  (
                    if 7 < ((s.1.getD (1 : Int).toNat 0) - 1) then
                      some ((0, (⟨#[]⟩ : ByteArray), 0, false, false, false), false)
                    else
                      (
                        ck (inR .i64 (Int.tdiv ((s.1.getD (1 : Int).toNat 0) - 1) 2)) <|
                        ck (inR .i64 (Int.tdiv ((s.1.getD (1 : Int).toNat 0) - 1) 4)) <|
                        some ((w.1, w.2.1, w.2.2.1, (decide ((Int.tmod (Int.tdiv ((s.1.getD (1 : Int).toNat 0) - 1) 2) 2) = 1)), (decide ((Int.tmod ((s.1.getD (1 : Int).toNat 0) - 1) 2) = 1)), (decide ((Int.tdiv ((s.1.getD (1 : Int).toNat 0) - 1) 4) = 1))), true)
                      )
                  )
              )
            else
              some ((w.1, w.2.1, w.2.2.1, w.2.2.2.1, w.2.2.2.2.1, w.2.2.2.2.2.1), true)
          )) = (if ¬ (w.2.2.2.2.2.2 = true) then some (ky0, false) else if many + 1 = 2 then some (hl (w.1, w.2.1, w.2.2.1, w.2.2.2.1, w.2.2.2.2.1, w.2.2.2.2.2.1) B) else some ((w.1, w.2.1, w.2.2.1, w.2.2.2.1, w.2.2.2.2.1, w.2.2.2.2.2.1), true)) := fun w => by
        split
        · rfl
        · rw [hs]
          rcases hm with rfl | rfl
          · rfl
          · simp only [if_neg (show ¬ (1 : Int) = 0 by decide)]
            have e1 : ([A, B].getD (1 : Int).toNat 0) = B := rfl
            rw [e1, if_pos (show (([A, B].length : Nat) : Int) = 2 from rfl), if_pos (show (1 : Int) + 1 = 2 from rfl)]
            unfold ck hl
            rw [if_pos (show 0 ≤ (1 : Int) ∧ 1 < (([A, B].length : Nat) : Int) from ⟨by decide, by show (1 : Int) < 2; decide⟩), if_pos (show inR .i64 (B - 1) from ⟨by omega, by omega⟩)]
            by_cases b1 : B - 1 < 0
            · rw [if_pos b1, if_neg (by omega)]; rfl
            · rw [if_neg b1]
              by_cases b2 : 7 < B - 1
              · rw [if_pos b2, if_neg (by omega)]; rfl
              · rw [if_neg b2, if_pos (show 1 ≤ B ∧ B ≤ 8 by omega)]
                have : B = 1 ∨ B = 2 ∨ B = 3 ∨ B = 4 ∨ B = 5 ∨ B = 6 ∨ B = 7 ∨ B = 8 := by omega
                rcases this with rfl | rfl | rfl | rfl | rfl | rfl | rfl | rfl <;> rfl
      have sl : ((s.1.length : Nat) : Int) = many + 1 := by rw [hs]; rcases hm with rfl | rfl <;> rfl
      have s2 : s.2 = true := by rw [hs]
      have s0 : s.1.getD (0 : Int).toNat 0 = A := by rw [hs]; rcases hm with rfl | rfl <;> rfl
      have r2 : r.2.2 = true := by rw [hr]
      have rm : r.2.1 = many + 1 := by rw [hr]
      have rA : r.1.1 = A := by rw [hr]
      have rB : r.1.2 = B := by rw [hr]
      have close : ∀ (t : Ky × Bool) (b : Bool), Gives (g48 p e) (fun v => some v = if ¬ (b = true) then some (ky0, false) else if many + 1 = 2 then some (hl t.1 B) else some (t.1, true)) →
          Gives (g54 p e) (fun v => some v = if ¬ (b = true) then some (ky0, false) else if many + 1 = 2 then some (hl t.1 B) else some (t.1, true)) → ∃ v v', g48 p e = some v ∧ g54 p e = some v' ∧ KEq v v' := by
        rintro t b ⟨v, hv, e1⟩ ⟨v', hv', e2⟩
        have : v = v' := Option.some.inj (e1.trans e2.symm)
        subst this
        exact ⟨v, v, hv, hv', rfl, fun _ => rfl⟩
      by_cases h126 : e = 126
      · subst h126
        obtain ⟨t, t1, t2⟩ := tilde_eq hA.1
        refine close t t.2 ?_ ?_
        · unfold g48
          refine g_call es (g_if (fun hc => absurd s2 hc) fun _ => g_jn (fun w => w = (t.1.1, t.1.2.1, t.1.2.2.1, t.1.2.2.2.1, t.1.2.2.2.2.1, t.1.2.2.2.2.2, t.2)) (fun k hk => g_if (fun hc => absurd hc h90) fun _ => g_if (fun _ => g_ck (by rw [sl]; omega) (by rw [s0]; exact g_call t1 (hk _ rfl))) fun hc => absurd rfl hc) ?_)
          rintro _ rfl
          rw [re]
          split
          · exact g_some rfl
          · split <;> exact g_some rfl
        · unfold g54
          refine g_if (fun hc => absurd hc h90) fun _ => g_call er (g_if (fun hc => absurd r2 hc) fun _ => g_jn (fun w => w = (t.1.1, t.1.2.1, t.1.2.2.1, t.1.2.2.2.1, t.1.2.2.2.2.1, t.1.2.2.2.2.2, t.2)) (fun k hk => g_if (fun _ => g_ck (by decide) (g_if (fun _ => by rw [rA]; exact g_call t2 (hk _ rfl)) fun hc => absurd rfl hc)) fun hc => absurd rfl hc) ?_)
          rintro _ rfl
          rw [rm, rA, rB, pe]
          split
          · exact g_some rfl
          · split <;> exact g_some rfl
      · obtain ⟨t, t1, t2⟩ := letter_eq e
        have hcode := letter_code t1
        let b : Bool := t.2 && decide (A = 1) && (decide (¬ t.1.1 = 18) || decide (many = 1))
        have hbt : b = true ↔ (t.2 = true ∧ A = 1 ∧ (t.1.1 = 18 → many = 1)) := by
          simp only [b, Bool.and_eq_true, Bool.or_eq_true, decide_eq_true_eq]
          constructor
          · rintro ⟨⟨h1, h2⟩, h3⟩
            exact ⟨h1, h2, fun h => by rcases h3 with h3 | h3; exact absurd h h3; exact h3⟩
          · rintro ⟨h1, h2, h3⟩
            exact ⟨⟨h1, h2⟩, by by_cases h : t.1.1 = 18; exact .inr (h3 h); exact .inl h⟩
        have bb : ∀ c : Bool, (c = true ↔ b = true) → c = b := fun c h => bool_eq h
        refine close t b ?_ ?_
        · unfold g48
          refine g_call es (g_if (fun hc => absurd s2 hc) fun _ => g_jn (fun w => w = (t.1.1, t.1.2.1, t.1.2.2.1, t.1.2.2.2.1, t.1.2.2.2.2.1, t.1.2.2.2.2.2, b)) (fun k hk => g_if (fun hc => absurd hc h90) fun _ => g_if (fun hc => absurd hc h126) fun _ => ?_) ?_)
          · refine g_jn (fun v => v = true ↔ (80 ≤ e ∧ e ≤ 83)) (fun k2 hk2 => g_if (fun h1 => hk2 _ (by simp [h1])) fun h1 => hk2 _ (by simp [h1])) fun v hv => ?_
            refine g_if (fun ht => ?_) fun hf => ?_
            · refine g_call t1 (g_if (fun h2 => g_if (fun hL => g_ck (by rw [sl]; omega) (by
                rw [s0]
                refine hk _ ?_
                rw [bb (decide (A = 1)) (by
                  rw [hbt, decide_eq_true_eq]
                  exact ⟨fun h => ⟨h2, h, fun _ => by rw [sl] at hL; omega⟩, fun h => h.2.1⟩)])) fun hL => hk _ (by
                rw [bb false (by
                  rw [hbt]
                  refine ⟨fun h => (by cases h), fun h => ?_⟩
                  have := h.2.2 ((hcode h2).2 (hv.1 ht))
                  rw [sl] at hL
                  omega)])) fun h2 => hk _ (by
                rw [bb false (by rw [hbt]; exact ⟨fun h => (by cases h), fun h => absurd h.1 h2⟩)]))
            · refine g_call t1 (g_if (fun h2 => g_ck (by rw [sl]; omega) (by
                rw [s0]
                refine hk _ ?_
                rw [bb (decide (A = 1)) (by
                  rw [hbt, decide_eq_true_eq]
                  exact ⟨fun h => ⟨h2, h, fun h18 => absurd (hv.2 ((hcode h2).1 h18)) hf⟩, fun h => h.2.1⟩)])) fun h2 => hk _ (by
                rw [bb false (by rw [hbt]; exact ⟨fun h => (by cases h), fun h => absurd h.1 h2⟩)]))
          · rintro _ rfl
            rw [re]
            split
            · exact g_some rfl
            · split <;> exact g_some rfl
        · unfold g54
          refine g_if (fun hc => absurd hc h90) fun _ => g_call er (g_if (fun hc => absurd r2 hc) fun _ => g_jn (fun w => w = (t.1.1, t.1.2.1, t.1.2.2.1, t.1.2.2.2.1, t.1.2.2.2.2.1, t.1.2.2.2.2.2, b)) (fun k hk => g_if (fun hc => absurd hc h126) fun _ => ?_) ?_)
          · rw [rm, rA]
            refine g_call t2 (g_if (fun h2 => g_ck (by decide) (g_if (fun _ => g_if (fun h1 => g_if (fun h18 => hk _ (by
              rw [bb true (by rw [hbt]; exact ⟨fun _ => ⟨h2, h1, fun h => absurd h h18⟩, fun _ => rfl⟩)])) fun h18 => hk _ (by
              rw [bb (decide (many + 1 = 2)) (by
                rw [hbt, decide_eq_true_eq]
                exact ⟨fun h => ⟨h2, h1, fun _ => by omega⟩, fun h => by have := h.2.2 (Decidable.not_not.1 h18); omega⟩)])) fun h1 => hk _ (by
              rw [bb false (by rw [hbt]; exact ⟨fun h => (by cases h), fun h => absurd h.2.1 h1⟩)])) fun hc => absurd rfl hc)) fun h2 => hk _ (by
              rw [bb false (by rw [hbt]; exact ⟨fun h => (by cases h), fun h => absurd h.1 h2⟩)]))
          · rintro _ rfl
            rw [rm, rA, rB, pe]
            split
            · exact g_some rfl
            · split <;> exact g_some rfl

end Go.Proofs.YtenjkphlbdhaiaaDoor

namespace Go.Proofs.YtenjkphlbdhaiaaDoor
open Go Go.Eng

def F0 : Fd := (0, 0, ⟨#[]⟩, 0, false, false, false, false, false)
def Fd.key (v : Fd) : Ky := (v.2.1, v.2.2.1, v.2.2.2.1, v.2.2.2.2.1, v.2.2.2.2.2.1, v.2.2.2.2.2.2.1)
def Fd.is (v : Fd) : Bool := v.2.2.2.2.2.2.2.1
def Fd.pa (v : Fd) : Bool := v.2.2.2.2.2.2.2.2
/-- two answers are the same, but for what nobody looks at -/
def FEq (v v' : Fd) : Prop := v.1 = v'.1 ∧ v.is = v'.is ∧ v.pa = v'.pa ∧ (v.is = true → v.key = v'.key)
theorem FEq.rfl {v : Fd} : FEq v v := ⟨Eq.refl _, Eq.refl _, Eq.refl _, fun _ => Eq.refl _⟩

/-! ### what is plain -/
def sg (c : Int) : Int := if 1 ≤ c ∧ c ≤ 26 then c + 96 else c + 64
def pl (l : List Int) : Fd :=
  if l.getD 0 0 = 13 ∨ l.getD 0 0 = 10 then (1, 2, ⟨#[]⟩, 0, false, false, false, true, false)
  else if l.getD 0 0 = 9 then (1, 3, ⟨#[]⟩, 0, false, false, false, true, false)
  else if l.getD 0 0 = 8 ∨ l.getD 0 0 = 127 then (1, 6, ⟨#[]⟩, 0, false, false, false, true, false)
  else if l.getD 0 0 < 32 then (1, 17, strOf [sg (l.getD 0 0)], 0, false, false, false, true, false)
  else if (nx l).2.2 = true then F0
  else ((nx l).2.1, 1, strOf (enc (norm (nx l).1)), 0, false, false, false, true, false)
theorem sign_eq {c : Int} (h0 : 0 ≤ c) (h1 : c < 32) : g47 c = some (strOf [sg c]) ∧ g52 c = some (strOf [sg c]) := by
  have hb : ∀ x : Int, 0 ≤ x → x ≤ 255 → isBytes [x] := fun x h0 h1 y hy => by rw [List.mem_singleton.1 hy]; exact ⟨h0, h1⟩
  constructor
  · refine g_eq ?_
    unfold g47 sg
    refine g_if (fun a => g_if (fun b => g_ck (by show _ ∧ _; omega) (g_ck (hb _ (by omega) (by omega)) (g_some (by rw [if_pos ⟨a, b⟩])))) fun b => g_ck (by show _ ∧ _; omega) (g_ck (hb _ (by omega) (by omega)) (g_some (by rw [if_neg (fun h => b h.2)])))) fun a => g_ck (by show _ ∧ _; omega) (g_ck (hb _ (by omega) (by omega)) (g_some (by rw [if_neg (fun h => a h.1)])))
  · refine g_eq ?_
    unfold g52 sg
    refine g_ck (by show _ ∧ _; omega) (g_if (fun a => g_if (fun b => g_ck (by show _ ∧ _; omega) (g_ck (hb _ (by omega) (by omega)) (g_some (by rw [if_pos ⟨by omega, by omega⟩, show c + 64 + 32 = c + 96 by omega])))) fun b => g_ck (hb _ (by omega) (by omega)) (g_some (by rw [if_neg (fun h => b (by omega))]))) fun a => g_ck (hb _ (by omega) (by omega)) (g_some (by rw [if_neg (fun h => a (by omega))])))
theorem norm_isR (v : Int) : isR (norm v) := by
  unfold norm
  split
  · assumption
  · exact ⟨by decide, by decide, .inr (by decide)⟩
theorem plain_eq {l : List Int} (hl : Byt l) (hn : l.length ≤ 1000000) (h1 : 1 ≤ l.length) : g35 l = some (pl l) ∧ g41 l = some (pl l) := by
  have hc : 0 ≤ l.getD 0 0 ∧ l.getD 0 0 ≤ 255 := hl _ (getD_mem (by omega))
  have e0 : (0 : Int).toNat = 0 := rfl
  constructor
  · refine g_eq ?_
    unfold g35
    rw [e0]
    unfold pl
    generalize l.getD 0 0 = c at hc ⊢
    refine g_ck (by omega) (g_jn (fun v => v = true ↔ (c = 13 ∨ c = 10)) (fun k hk => g_if (fun h => hk _ (by simp [h])) fun h => hk _ (by simp [h])) fun v hv => g_if (fun ht => g_some (by rw [if_pos (hv.1 ht)])) fun hf => ?_)
    rw [if_neg (fun h => hf (hv.2 h))]
    refine g_if (fun h => g_some (by rw [if_pos h])) fun h => ?_
    rw [if_neg h]
    refine g_if (fun h => g_some (by rw [if_pos (.inl h)])) fun h8 => g_if (fun h => g_some (by rw [if_pos (.inr h)])) fun h127 => ?_
    rw [if_neg (fun h : c = 8 ∨ c = 127 => h.elim h8 h127)]
    refine g_if (fun h => g_call (sign_eq hc.1 h).1 (g_some (by rw [if_pos h]))) fun h => ?_
    rw [if_neg h]
    refine g_call (g44_eq hl hn) (g_if (fun h => g_some (by rw [if_pos h]; rfl)) fun h => ?_)
    rw [if_neg h]
    exact g_call (g34_eq _) (g_ck (enc_byt (norm_isR _)) (g_some rfl))
  · refine g_eq ?_
    unfold g41
    rw [e0]
    unfold pl
    generalize l.getD 0 0 = c at hc ⊢
    refine g_ck (by omega) (g_jn (fun v => v = true ↔ (c = 13 ∨ c = 10)) (fun k hk => g_if (fun h => hk _ (by simp [h])) fun h => hk _ (by simp [h])) fun v hv => g_if (fun ht => g_some (by rw [if_pos (hv.1 ht)])) fun hf => ?_)
    rw [if_neg (fun h => hf (hv.2 h))]
    refine g_if (fun h => g_some (by rw [if_pos h])) fun h => ?_
    rw [if_neg h]
    refine g_jn (fun v => v = true ↔ (c = 8 ∨ c = 127)) (fun k hk => g_if (fun h => hk _ (by simp [h])) fun h => hk _ (by simp [h])) fun v hv => g_if (fun ht => g_some (by rw [if_pos (hv.1 ht)])) fun hf => ?_
    rw [if_neg (fun h => hf (hv.2 h))]
    refine g_if (fun h => g_call (sign_eq hc.1 h).2 (g_some (by rw [if_pos h]))) fun h => ?_
    rw [if_neg h]
    refine g_call (g53_eq hl hn) (g_if (fun h => g_some (by rw [if_pos h]; rfl)) fun h => ?_)
    rw [if_neg h]
    exact g_call (g51_eq _) (g_ck (enc_byt (norm_isR _)) (g_some rfl))

/-! ### what begins with ESC and a bracket -/
def sc (lo hi : Int) (l : List Int) (i : Nat) : Nat := i + ((l.drop i).takeWhile fun c => decide (lo ≤ c) && decide (c ≤ hi)).length
theorem sc_step {lo hi : Int} {l : List Int} {i : Nat} (h : i < l.length) : sc lo hi l i = if lo ≤ l.getD i 0 ∧ l.getD i 0 ≤ hi then sc lo hi l (i + 1) else i := by
  unfold sc
  rw [drop_getD h, List.takeWhile_cons]
  generalize l.getD i 0 = c
  by_cases hc : lo ≤ c ∧ c ≤ hi
  · rw [if_pos hc, if_pos (by simp [hc])]
    simp
    omega
  · rw [if_neg hc, if_neg (by simpa using hc)]
    simp
theorem sc_end {lo hi : Int} {l : List Int} {i : Nat} (h : l.length ≤ i) : sc lo hi l i = i := by
  unfold sc
  rw [List.drop_eq_nil_of_le h]
  rfl
theorem sc_le {lo hi : Int} {l : List Int} {i : Nat} (h : i ≤ l.length) : i ≤ sc lo hi l i ∧ sc lo hi l i ≤ l.length := by
  unfold sc
  have := (List.takeWhile_prefix (l := l.drop i) fun c => decide (lo ≤ c) && decide (c ≤ hi)).length_le
  rw [List.length_drop] at this
  omega
/-- both walks -/
theorem scan_gives {β : Type} {lo hi : Int} {l : List Int} {K : Int → Option β} {Φ : β → Prop} (hn : l.length ≤ 1000000) {i : Nat} (hi' : i ≤ l.length) (hk : Gives (K (sc lo hi l i : Nat)) Φ) :
    Gives ((loopO (σ := Int) (ρ := Int) (fun s1627 =>
          if s1627 < ((l.length : Nat) : Int) then
            (
              ck (0 ≤ s1627 ∧ s1627 < ((l.length : Nat) : Int)) <|
              if lo ≤ (l.getD s1627.toNat 0) then
                (
                  ck (0 ≤ s1627 ∧ s1627 < ((l.length : Nat) : Int)) <|
                  if (l.getD s1627.toNat 0) ≤ hi then
                    (
                      ck (inR .i64 (s1627 + 1)) <|
                      some (.go (s1627 + 1))
                    )
                  else
                    some (.out s1627)
                )
              else
                some (.out s1627)
            )
          else
            some (.out s1627)
        ) (i : Int)).bind fun o1641 => K o1641) Φ := by
  refine g_bind (Ω := fun o : Int => o = ((sc lo hi l i : Nat) : Int)) (g_loop (fun s : Int => ∃ k : Nat, s = (k : Int) ∧ k ≤ l.length ∧ sc lo hi l i = sc lo hi l k) (fun s => ((l.length : Int) - s).toNat) ?_ ⟨i, rfl, hi', rfl⟩) fun o ho => by rw [ho]; exact hk
  rintro _ ⟨k, rfl, h1, h2⟩
  refine g_if (fun h => ?_) fun h => g_out (by rw [h2, sc_end (by omega)])
  rw [Int.toNat_natCast]
  have hs := sc_step (lo := lo) (hi := hi) (l := l) (i := k) (by omega)
  refine g_ck (by omega) (g_if (fun a => g_ck (by omega) (g_if (fun b => g_i64 (by omega) (g_go ⟨k + 1, by omega, by omega, by rw [h2, hs, if_pos ⟨a, b⟩]⟩ (by omega))) fun b => g_out (by rw [h2, hs, if_neg (fun h => b h.2)]))) fun a => g_out (by rw [h2, hs, if_neg (fun h => a h.1)]))

end Go.Proofs.YtenjkphlbdhaiaaDoor

namespace Go.Proofs.YtenjkphlbdhaiaaDoor
open Go Go.Eng

noncomputable def sq (p : List Int) (e : Int) : Ky × Bool := (g48 p e).getD (ky0, false)
theorem sq_ref {p : List Int} {e : Int} (hp : Byt p) (hn : p.length ≤ 1000000) : g48 p e = some (sq p e) := by
  obtain ⟨v, _, h, _⟩ := obeyed_eq (e := e) hp hn
  unfold sq
  rw [h]; rfl
theorem sq_prog {p : List Int} {e : Int} (hp : Byt p) (hn : p.length ≤ 1000000) : ∃ v', g54 p e = some v' ∧ KEq (sq p e) v' := by
  obtain ⟨v, v', h, h', hk⟩ := obeyed_eq (e := e) hp hn
  unfold sq
  rw [h]
  exact ⟨v', h', hk⟩
theorem ns_bad : ∀ (p : List Int) {l0 l1 many d c : Int}, c ∈ p → c < 48 → ns l0 l1 many d p = none
  | [], _, _, _, _, _, h, _ => by cases h
  | x :: r, l0, l1, many, d, c, h, hc => by
    rw [ns_c]
    rcases List.mem_cons.1 h with rfl | h
    · rw [if_neg (fun h => by omega), if_neg (fun h => by omega)]
    · split
      · exact ns_bad r h hc
      · split
        · split <;> exact ns_bad r h hc
        · rfl
theorem sq_bad {p : List Int} {e c : Int} (hp : Byt p) (hn : p.length ≤ 1000000) (h : c ∈ p) (hc : c < 48) : (sq p e).2 = false := by
  obtain ⟨s, es, hs⟩ := g59_gives hp hn
  rw [ns_bad p h hc] at hs
  have hs : s.2 = false := hs
  have : g48 p e = some (ky0, false) := by
    unfold g48
    rw [es, Option.bind_some, if_pos (by rw [hs]; decide)]; rfl
  unfold sq
  rw [this]; rfl
noncomputable def lt (a : Int) : Ky × Bool := (g37 a).getD (ky0, false)
theorem lt_eq (a : Int) : g37 a = some (lt a) ∧ g55 a = some (lt a) := by
  obtain ⟨v, h, h'⟩ := letter_eq a
  unfold lt
  rw [h, h']
  exact ⟨rfl, rfl⟩
def mkF (n : Int) (k : Ky) (i p : Bool) : Fd := (n, k.1, k.2.1, k.2.2.1, k.2.2.2.1, k.2.2.2.2.1, k.2.2.2.2.2, i, p)
/-- from the places where the walks have come to -/
noncomputable def brkAt (l : List Int) (mid i : Nat) : Fd :=
  if 32 ≤ i then mkF 32 ky0 false false
  else if i = l.length then F0
  else if l.getD i 0 < 64 ∨ 126 < l.getD i 0 then mkF i ky0 false false
  else if mid = i ∧ l.getD i 0 = 126 ∧ (l.drop 2).take (i - 2) = [50, 48, 48] then mkF (i + 1) ky0 false true
  else mkF (i + 1) (sq ((l.drop 2).take (i - 2)) (l.getD i 0)).1 (sq ((l.drop 2).take (i - 2)) (l.getD i 0)).2 false
noncomputable def brk (l : List Int) : Fd := brkAt l (sc 48 63 l 2) (sc 32 47 l (sc 48 63 l 2))
theorem byt_sub {l : List Int} (h : Byt l) {a n : Nat} : Byt ((l.drop a).take n) := fun c hc => h c (List.mem_of_mem_drop (List.mem_of_mem_take hc))
theorem len_sub {l : List Int} (h : l.length ≤ 1000000) {a n : Nat} : ((l.drop a).take n).length ≤ 1000000 := by rw [List.length_take, List.length_drop]; omega
theorem str200 {p : List Int} (hp : isBytes p) : (strOf p).data.toList = (lit [50, 48, 48]).data.toList ↔ p = [50, 48, 48] := by
  have : (lit [50, 48, 48]) = strOf [50, 48, 48] := rfl
  rw [this]
  exact str_eq hp (by intro c hc; simp at hc; omega)
theorem mid_lt {l : List Int} {i : Nat} (h2 : 2 ≤ l.length) (hi : sc 32 47 l (sc 48 63 l 2) = i) (hne : sc 48 63 l 2 < i) : ∃ c ∈ (l.drop 2).take (i - 2), c < 48 := by
  have hm := sc_le (lo := 48) (hi := 63) h2
  have hI := sc_le (lo := 32) (hi := 47) (i := sc 48 63 l 2) hm.2
  generalize sc 48 63 l 2 = m at hi hne hm hI
  have hs := sc_step (lo := 32) (hi := 47) (l := l) (i := m) (by omega)
  refine ⟨l.getD m 0, ?_, ?_⟩
  · have : l.getD m 0 = ((l.drop 2).take (i - 2)).getD (m - 2) 0 := by
      simp only [List.getD_eq_getElem?_getD]
      rw [List.getElem?_take_of_lt (by omega), List.getElem?_drop, show 2 + (m - 2) = m by omega]
    rw [this]
    exact getD_mem (by rw [List.length_take, List.length_drop]; omega)
  · split at hs
    · rename_i h; omega
    · omega
theorem g36_eq {l : List Int} (hl : Byt l) (hn : l.length ≤ 1000000) (h2 : 2 ≤ l.length) : g36 l = some (brk l) := by
  refine g_eq ?_
  unfold g36
  have hm := sc_le (lo := 48) (hi := 63) h2
  have hI := sc_le (lo := 32) (hi := 47) (i := sc 48 63 l 2) hm.2
  refine g_jn (fun v => v = ((sc 48 63 l 2 : Nat) : Int)) (fun k hk => scan_gives (i := 2) hn h2 (hk _ rfl)) ?_
  rintro _ rfl
  refine g_jn (fun v => v = ((sc 32 47 l (sc 48 63 l 2) : Nat) : Int)) (fun k hk => scan_gives hn hm.2 (hk _ rfl)) ?_
  rintro _ rfl
  unfold brk
  have hmid := @mid_lt l _ h2 rfl
  generalize sc 32 47 l (sc 48 63 l 2) = i at hI hmid
  generalize sc 48 63 l 2 = m at hm hI hmid
  unfold brkAt
  have e1 : (i : Int).toNat = i := Int.toNat_natCast _
  have e2 : (2 : Int).toNat = 2 := rfl
  rw [e1, e2]
  by_cases hlt : i < l.length
  · have hc : 0 ≤ l.getD i 0 ∧ l.getD i 0 ≤ 255 := hl _ (getD_mem hlt)
    generalize l.getD i 0 = c at hc
    refine g_jn (fun _ => ¬ (32 ≤ i) ∧ ¬ (c < 64 ∨ 126 < c) ∧ ¬ (m = i ∧ c = 126 ∧ (l.drop 2).take (i - 2) = [50, 48, 48])) (fun k hk => ?_) ?_
    · refine g_if (fun h => g_some (by rw [if_pos (show 32 ≤ i by omega)]; rfl)) fun h32 => ?_
      rw [if_neg (show ¬ 32 ≤ i by omega)]
      refine g_if (fun h => absurd h (by omega)) fun _ => ?_
      rw [if_neg (show ¬ i = l.length by omega)]
      refine g_jn (fun v => v = true ↔ (c < 64 ∨ 126 < c)) (fun k2 hk2 => g_ck (by omega) (g_if (fun h => hk2 _ (by simp [h])) fun h => g_ck (by omega) (hk2 _ (by simp [h])))) fun v hv => g_if (fun ht => g_some (by rw [if_pos (hv.1 ht)]; rfl)) fun hf => ?_
      have hnc : ¬ (c < 64 ∨ 126 < c) := fun h => hf (hv.2 h)
      rw [if_neg hnc]
      refine g_if (fun hmi => g_ck (by omega) (g_if (fun h126 => g_ck (by omega) (g_ck (byt_sub hl) (g_if (fun hs => g_i64 (by omega) (g_some ?_)) fun hs => ?_))) fun h126 => ?_)) fun hmi => ?_
      · rw [if_pos ⟨by omega, h126, (str200 (byt_sub hl)).1 hs⟩]; rfl
      · have hno : ¬ (m = i ∧ c = 126 ∧ (l.drop 2).take (i - 2) = [50, 48, 48]) := fun h => hs ((str200 (byt_sub hl)).2 h.2.2)
        have := hk () ⟨by omega, hnc, hno⟩
        rw [if_neg (show ¬ 32 ≤ i by omega), if_neg (show ¬ i = l.length by omega), if_neg hnc] at this
        exact this
      · have hno : ¬ (m = i ∧ c = 126 ∧ (l.drop 2).take (i - 2) = [50, 48, 48]) := fun h => h126 h.2.1
        have := hk () ⟨by omega, hnc, hno⟩
        rw [if_neg (show ¬ 32 ≤ i by omega), if_neg (show ¬ i = l.length by omega), if_neg hnc] at this
        exact this
      · have hno : ¬ (m = i ∧ c = 126 ∧ (l.drop 2).take (i - 2) = [50, 48, 48]) := fun h => hmi (by omega)
        have := hk () ⟨by omega, hnc, hno⟩
        rw [if_neg (show ¬ 32 ≤ i by omega), if_neg (show ¬ i = l.length by omega), if_neg hnc] at this
        exact this
    · rintro _ ⟨h32, hnc, hno⟩
      rw [if_neg h32, if_neg (show ¬ i = l.length by omega), if_neg hnc, if_neg hno]
      refine g_ck (by omega) (g_ck (by omega) (g_call (sq_ref (byt_sub hl) (len_sub hn)) (g_i64 (by omega) (g_some rfl))))
  · have hi : i = l.length := by omega
    refine g_jn (fun _ => False) (fun k hk => g_if (fun h => g_some (by rw [if_pos (show 32 ≤ i by omega)]; rfl)) fun h32 => g_if (fun h => g_some (by rw [if_neg (show ¬ 32 ≤ i by omega), if_pos hi]; rfl)) fun h => absurd (by omega) h) fun _ h => h.elim
theorem g42_eq {l : List Int} (hl : Byt l) (hn : l.length ≤ 1000000) (h2 : 2 ≤ l.length) : ∃ v', g42 l = some v' ∧ FEq (brk l) v' := by
  show Gives (g42 l) (FEq (brk l))
  unfold g42
  have hm := sc_le (lo := 48) (hi := 63) h2
  have hI := sc_le (lo := 32) (hi := 47) (i := sc 48 63 l 2) hm.2
  refine g_jn (fun v => v = ((sc 48 63 l 2 : Nat) : Int)) (fun k hk => scan_gives (i := 2) hn h2 (hk _ rfl)) ?_
  rintro _ rfl
  refine g_jn (fun v => v = ((sc 32 47 l (sc 48 63 l 2) : Nat) : Int)) (fun k hk => scan_gives hn hm.2 (hk _ rfl)) ?_
  rintro _ rfl
  unfold brk
  have hmid := @mid_lt l _ h2 rfl
  generalize sc 32 47 l (sc 48 63 l 2) = i at hI hmid
  generalize sc 48 63 l 2 = m at hm hI hmid
  unfold brkAt
  have e1 : (i : Int).toNat = i := Int.toNat_natCast _
  have e2 : (2 : Int).toNat = 2 := rfl
  rw [e1, e2]
  refine g_if (fun h => g_some (by rw [if_pos (show 32 ≤ i by omega)]; exact FEq.rfl)) fun h32 => ?_
  rw [if_neg (show ¬ 32 ≤ i by omega)]
  refine g_if (fun h => g_some (by rw [if_pos (show i = l.length by omega)]; exact FEq.rfl)) fun hlen => ?_
  rw [if_neg (show ¬ i = l.length by omega)]
  have hc : 0 ≤ l.getD i 0 ∧ l.getD i 0 ≤ 255 := hl _ (getD_mem (by omega))
  generalize l.getD i 0 = c at hc
  refine g_ck (by omega) (g_if (fun h => g_some (by rw [if_pos (.inl h)]; exact FEq.rfl)) fun h1 => g_if (fun h => g_some (by rw [if_pos (.inr h)]; exact FEq.rfl)) fun h2 => g_i64 (by omega) ?_)
  rw [if_neg (fun h : c < 64 ∨ 126 < c => h.elim h1 h2)]
  have sqe : ∀ {Φ : Fd → Prop}, (∀ v', KEq (sq ((l.drop 2).take (i - 2)) c) v' → Φ ((i : Int) + 1, v'.1.1, v'.1.2.1, v'.1.2.2.1, v'.1.2.2.2.1, v'.1.2.2.2.2.1, v'.1.2.2.2.2.2, v'.2, false)) →
      Gives ((g54 ((l.drop 2).take (i - 2)) c).bind fun v1747 => some ((i : Int) + 1, v1747.1.1, v1747.1.2.1, v1747.1.2.2.1, v1747.1.2.2.2.1, v1747.1.2.2.2.2.1, v1747.1.2.2.2.2.2, v1747.2, false)) Φ := fun h => by
    obtain ⟨v', e, hk⟩ := sq_prog (e := c) (byt_sub hl (a := 2) (n := i - 2)) (len_sub hn)
    exact g_call e (g_some (h v' hk))
  have mk : ∀ v', KEq (sq ((l.drop 2).take (i - 2)) c) v' → FEq (mkF (i + 1) (sq ((l.drop 2).take (i - 2)) c).1 (sq ((l.drop 2).take (i - 2)) c).2 false) ((i : Int) + 1, v'.1.1, v'.1.2.1, v'.1.2.2.1, v'.1.2.2.2.1, v'.1.2.2.2.2.1, v'.1.2.2.2.2.2, v'.2, false) := fun v' hk => by
    refine ⟨rfl, hk.1, rfl, fun h => ?_⟩
    have := hk.2 h
    exact this
  refine g_if (fun hmi => g_some ?_) fun hmi => ?_
  · have hne : ¬ (m = i ∧ c = 126 ∧ (l.drop 2).take (i - 2) = [50, 48, 48]) := fun h => by omega
    rw [if_neg hne]
    obtain ⟨x, hx, hx48⟩ := hmid (by omega)
    have hb := sq_bad (e := c) (byt_sub hl (a := 2) (n := i - 2)) (len_sub hn) hx hx48
    refine ⟨rfl, hb, rfl, fun h => ?_⟩
    have h : (sq ((l.drop 2).take (i - 2)) c).2 = true := h
    rw [hb] at h
    cases h
  · refine g_if (fun h126 => g_ck (by omega) (g_ck (byt_sub hl) (g_if (fun hs => g_some ?_) fun hs => g_ck (by omega) (sqe ?_)))) fun h126 => g_ck (by omega) (sqe ?_)
    · rw [if_pos ⟨by omega, h126, (str200 (byt_sub hl)).1 hs⟩]; exact FEq.rfl
    · rw [if_neg (fun h => hs ((str200 (byt_sub hl)).2 h.2.2))]
      exact mk
    · rw [if_neg (fun h => h126 h.2.1)]
      exact mk

end Go.Proofs.YtenjkphlbdhaiaaDoor

namespace Go.Proofs.YtenjkphlbdhaiaaDoor
open Go Go.Eng

noncomputable def lb (l : List Int) : Fd :=
  if l.length = 2 then F0
  else if l.getD 2 0 < 64 ∨ 126 < l.getD 2 0 then mkF 2 ky0 false false
  else mkF 3 (lt (l.getD 2 0)).1 (lt (l.getD 2 0)).2 false
def alt (f : Fd) : Fd := if 0 < f.1 then (f.1 + 1, f.2.1, f.2.2.1, f.2.2.2.1, true, f.2.2.2.2.2.1, f.2.2.2.2.2.2.1, f.2.2.2.2.2.2.2.1, f.2.2.2.2.2.2.2.2) else f
noncomputable def fs (l : List Int) : Fd :=
  if ¬ l.getD 0 0 = 27 then pl l
  else if l.length = 1 then F0
  else if l.getD 1 0 = 27 then (1, 5, ⟨#[]⟩, 0, false, false, false, true, false)
  else if l.getD 1 0 = 91 then brk l
  else if l.getD 1 0 = 79 then lb l
  else alt (pl (l.drop 1))
theorem first_eq {l : List Int} (hl : Byt l) (hn : l.length ≤ 1000000) (h1 : 1 ≤ l.length) : g27 l = some (fs l) ∧ ∃ v', g32 l = some v' ∧ FEq (fs l) v' := by
  have e0 : (0 : Int).toNat = 0 := rfl
  have e1 : (1 : Int).toNat = 1 := rfl
  have e2 : (2 : Int).toNat = 2 := rfl
  have e3 : (l.drop 1).take (((l.length : Nat) : Int).toNat - 1) = l.drop 1 := List.take_of_length_le (by rw [List.length_drop]; omega)
  have hd : Byt (l.drop 1) := fun c hc => hl c (List.mem_of_mem_drop hc)
  have hdn : (l.drop 1).length ≤ 1000000 := by rw [List.length_drop]; omega
  constructor
  · refine g_eq ?_
    unfold g27 fs
    rw [e0, e1, e2, e3]
    refine g_ck (by omega) (g_if (fun h => g_call (plain_eq hl hn h1).1 (g_some (by rw [if_pos h]))) fun h => ?_)
    rw [if_neg h]
    refine g_if (fun h => g_some (by rw [if_pos (show l.length = 1 by omega)]; rfl)) fun hl1 => ?_
    rw [if_neg (show ¬ l.length = 1 by omega)]
    refine g_ck (by omega) (g_if (fun h => g_some (by rw [if_pos h])) fun h27 => ?_)
    rw [if_neg h27]
    refine g_if (fun h => g_call (g36_eq hl hn (by omega)) (g_some (by rw [if_pos h]))) fun h91 => ?_
    rw [if_neg h91]
    refine g_if (fun h => ?_) fun h79 => ?_
    · rw [if_pos h]
      unfold lb
      refine g_if (fun h => g_some (by rw [if_pos (show l.length = 2 by omega)]; rfl)) fun hl2 => ?_
      rw [if_neg (show ¬ l.length = 2 by omega)]
      refine g_ck (by omega) (g_if (fun h => g_some (by rw [if_pos (.inl h)]; rfl)) fun a => g_ck (by omega) (g_if (fun h => g_some (by rw [if_pos (.inr h)]; rfl)) fun b => g_ck (by omega) ?_))
      rw [if_neg (fun h : l.getD 2 0 < 64 ∨ 126 < l.getD 2 0 => h.elim a b)]
      exact g_call (lt_eq _).1 (g_some rfl)
    · rw [if_neg h79]
      refine g_ck (by omega) (g_call (plain_eq hd hdn (by rw [List.length_drop]; omega)).1 (g_if (fun h => g_i64 (by
        have : (pl (l.drop 1)).1 ≤ 4 := by
          unfold pl
          have := stp_pos hd
          unfold stp at this
          repeat' split
          all_goals first | (show (1 : Int) ≤ 4; decide) | (show (0 : Int) ≤ 4; decide) | skip
          rename_i hnx
          rw [if_neg hnx] at this
          exact this.2.2.1
        omega) (g_some (by unfold alt; rw [if_pos h]))) fun h => g_some (by unfold alt; rw [if_neg h])))
  · show Gives (g32 l) (FEq (fs l))
    unfold g32 fs
    rw [e0, e1, e3]
    refine g_ck (by omega) (g_if (fun h => g_call (plain_eq hl hn h1).2 (g_some (by rw [if_pos h]; exact FEq.rfl))) fun h => ?_)
    rw [if_neg h]
    refine g_if (fun h => g_some (by rw [if_pos (show l.length = 1 by omega)]; exact FEq.rfl)) fun hl1 => ?_
    rw [if_neg (show ¬ l.length = 1 by omega)]
    refine g_ck (by omega) (g_if (fun h => g_some (by rw [if_pos h]; exact FEq.rfl)) fun h27 => ?_)
    rw [if_neg h27]
    refine g_if (fun h => ?_) fun h91 => ?_
    · rw [if_pos h]
      obtain ⟨v', e, hf⟩ := g42_eq hl hn (by omega)
      exact g_call e (g_some hf)
    rw [if_neg h91]
    refine g_if (fun h => ?_) fun h79 => ?_
    · rw [if_pos h]
      have : g43 l = some (lb l) := by
        refine g_eq ?_
        unfold g43 lb
        rw [e2]
        refine g_if (fun h => g_some (by rw [if_pos (show l.length = 2 by omega)]; rfl)) fun hl2 => ?_
        rw [if_neg (show ¬ l.length = 2 by omega)]
        refine g_ck (by omega) (g_if (fun h => g_some (by rw [if_pos (.inl h)]; rfl)) fun a => g_ck (by omega) (g_if (fun h => g_some (by rw [if_pos (.inr h)]; rfl)) fun b => g_ck (by omega) ?_))
        rw [if_neg (fun h : l.getD 2 0 < 64 ∨ 126 < l.getD 2 0 => h.elim a b)]
        exact g_call (lt_eq _).2 (g_some rfl)
      exact g_call this (g_some FEq.rfl)
    · rw [if_neg h79]
      refine g_ck (by omega) (g_call (plain_eq hd hdn (by rw [List.length_drop]; omega)).2 (g_if (fun h => g_i64 (by
        have : (pl (l.drop 1)).1 ≤ 4 := by
          unfold pl
          have := stp_pos hd
          unfold stp at this
          repeat' split
          all_goals first | (show (1 : Int) ≤ 4; decide) | (show (0 : Int) ≤ 4; decide) | skip
          rename_i hnx
          rw [if_neg hnx] at this
          exact this.2.2.1
        omega) (g_some (by unfold alt; rw [if_pos h]; exact FEq.rfl))) fun h => g_some (by unfold alt; rw [if_neg h]; exact FEq.rfl)))

/-! ### what is known of it: how many bytes; that more bytes change nothing; what waits -/
theorem nxGo_ext {X : List Int} : ∀ {k : Nat} {n lo hi r : Int} {t : List Int}, (nxGo n k lo hi r t).2.2 = false → nxGo n k lo hi r (t ++ X) = nxGo n k lo hi r t
  | 0, _, _, _, _, _, _ => rfl
  | _ + 1, _, _, _, _, [], h => by cases h
  | k + 1, n, lo, hi, r, b :: t, h => by
    simp only [List.cons_append, nxGo] at h ⊢
    split
    · rfl
    · rename_i hc
      rw [if_neg hc] at h
      exact nxGo_ext h
theorem nx_ext {l X : List Int} (h : (nx l).2.2 = false) : nx (l ++ X) = nx l := by
  cases l with
  | nil => cases h
  | cons c t =>
    simp only [List.cons_append, nx] at h ⊢
    split
    · rfl
    · rename_i hc
      rw [if_neg hc] at h
      exact nxGo_ext h
theorem getD_app {l X : List Int} {i : Nat} (h : i < l.length) : (l ++ X).getD i 0 = l.getD i 0 := by
  simp only [List.getD_eq_getElem?_getD, List.getElem?_append_left h]
theorem pl_ext {l X : List Int} (h1 : 1 ≤ l.length) (h : 0 < (pl l).1) : pl (l ++ X) = pl l := by
  unfold pl at h ⊢
  rw [getD_app (by omega)]
  split
  · rfl
  split
  · rfl
  split
  · rfl
  split
  · rfl
  rename_i h1 h2 h3 h4
  rw [if_neg h1, if_neg h2, if_neg h3, if_neg h4] at h
  cases hb : (nx l).2.2 with
  | true => rw [if_pos hb] at h; exact absurd h (by decide)
  | false => rw [nx_ext hb, hb]
theorem nx_pos {l : List Int} (hl : Byt l) (h1 : 1 ≤ l.length) (h : (nx l).2.2 = false) : 1 ≤ (nx l).2.1 ∧ (nx l).2.1 ≤ l.length := by
  have := stp_pos hl
  unfold stp at this
  rw [if_neg (by rw [h]; decide)] at this
  exact ⟨this.2.1, this.2.2.2 h1⟩
theorem pl_n {l : List Int} (hl : Byt l) (h1 : 1 ≤ l.length) : 0 ≤ (pl l).1 ∧ (pl l).1 ≤ l.length ∧ (pl l).pa = false := by
  unfold pl
  repeat' split
  all_goals first | exact ⟨by show (0 : Int) ≤ 1; decide, by show (1 : Int) ≤ _; omega, rfl⟩ | exact ⟨by show (0 : Int) ≤ 0; decide, by show (0 : Int) ≤ _; omega, rfl⟩ | skip
  rename_i hx
  have := nx_pos hl h1 (by simpa using hx)
  exact ⟨by show 0 ≤ (nx l).2.1; omega, this.2, rfl⟩
theorem sc_app {lo hi : Int} {l X : List Int} {i : Nat} (hi' : i ≤ l.length) (h : sc lo hi l i < l.length) : sc lo hi (l ++ X) i = sc lo hi l i := by
  unfold sc at h ⊢
  rw [List.drop_append_of_le_length hi']
  have : ((l.drop i).takeWhile fun c => decide (lo ≤ c) && decide (c ≤ hi)).length < (l.drop i).length := by rw [List.length_drop]; omega
  rw [List.takeWhile_append, if_neg (by omega)]
theorem sc_app_ge {lo hi : Int} {l X : List Int} {i : Nat} (hi' : i ≤ l.length) : sc lo hi l i ≤ sc lo hi (l ++ X) i := by
  unfold sc
  rw [List.drop_append_of_le_length hi', List.takeWhile_append]
  split
  · rename_i h
    rw [List.length_append]
    omega
  · exact Nat.le_refl _

end Go.Proofs.YtenjkphlbdhaiaaDoor

namespace Go.Proofs.YtenjkphlbdhaiaaDoor
open Go Go.Eng

/-! ### how many bytes -/
theorem brk_n {l : List Int} (h2 : 2 ≤ l.length) : 0 ≤ (brk l).1 ∧ (brk l).1 ≤ l.length := by
  have hm := sc_le (lo := 48) (hi := 63) h2
  have hI := sc_le (lo := 32) (hi := 47) (i := sc 48 63 l 2) hm.2
  unfold brk
  generalize sc 32 47 l (sc 48 63 l 2) = i at hI
  generalize sc 48 63 l 2 = m at hm hI
  unfold brkAt
  split
  · exact ⟨by show (0 : Int) ≤ 32; decide, by show (32 : Int) ≤ _; omega⟩
  split
  · exact ⟨by show (0 : Int) ≤ 0; decide, by show (0 : Int) ≤ _; omega⟩
  split
  · exact ⟨by show (0 : Int) ≤ (i : Int); omega, by show (i : Int) ≤ _; omega⟩
  split
  · exact ⟨by show (0 : Int) ≤ (i : Int) + 1; omega, by show (i : Int) + 1 ≤ _; omega⟩
  · exact ⟨by show (0 : Int) ≤ (i : Int) + 1; omega, by show (i : Int) + 1 ≤ _; omega⟩
theorem alt_n {f : Fd} {n : Int} (h : 0 ≤ f.1 ∧ f.1 ≤ n) : 0 ≤ (alt f).1 ∧ (alt f).1 ≤ n + 1 := by
  unfold alt
  split
  · exact ⟨by show 0 ≤ f.1 + 1; omega, by show f.1 + 1 ≤ n + 1; omega⟩
  · exact ⟨h.1, by omega⟩
theorem drop1 {l : List Int} (hl : Byt l) : Byt (l.drop 1) := fun c hc => hl c (List.mem_of_mem_drop hc)
theorem fs_n {l : List Int} (hl : Byt l) (h1 : 1 ≤ l.length) : 0 ≤ (fs l).1 ∧ (fs l).1 ≤ l.length := by
  unfold fs
  split
  · have := pl_n hl h1; exact ⟨this.1, this.2.1⟩
  split
  · exact ⟨by show (0 : Int) ≤ 0; decide, by show (0 : Int) ≤ _; omega⟩
  split
  · exact ⟨by show (0 : Int) ≤ 1; decide, by show (1 : Int) ≤ _; omega⟩
  split
  · exact brk_n (by omega)
  split
  · unfold lb
    split
    · exact ⟨by show (0 : Int) ≤ 0; decide, by show (0 : Int) ≤ _; omega⟩
    split
    · exact ⟨by show (0 : Int) ≤ 2; decide, by show (2 : Int) ≤ _; omega⟩
    · exact ⟨by show (0 : Int) ≤ 3; decide, by show (3 : Int) ≤ _; omega⟩
  · have h := pl_n (drop1 hl) (by rw [List.length_drop]; omega)
    rw [List.length_drop] at h
    have := alt_n ⟨h.1, h.2.1⟩
    exact ⟨this.1, by omega⟩
/-! ### more bytes change nothing -/
theorem take_app {l X : List Int} {a n : Nat} (h : a + n ≤ l.length) : ((l ++ X).drop a).take n = (l.drop a).take n := by
  rw [List.drop_append_of_le_length (by omega), List.take_append_of_le_length (by rw [List.length_drop]; omega)]
theorem brk_ext {l X : List Int} (h2 : 2 ≤ l.length) (h : 0 < (brk l).1) : brk (l ++ X) = brk l := by
  have hm := sc_le (lo := 48) (hi := 63) h2
  have hI := sc_le (lo := 32) (hi := 47) (i := sc 48 63 l 2) hm.2
  have hL : (l ++ X).length = l.length + X.length := List.length_append
  by_cases hi : sc 32 47 l (sc 48 63 l 2) < l.length
  · have e1 : sc 48 63 (l ++ X) 2 = sc 48 63 l 2 := sc_app h2 (by omega)
    have e2 : sc 32 47 (l ++ X) (sc 48 63 l 2) = sc 32 47 l (sc 48 63 l 2) := sc_app (by omega) hi
    unfold brk
    rw [e1, e2]
    unfold brkAt
    rw [getD_app hi, take_app (by omega)]
    split
    · rfl
    · rw [if_neg (show ¬ sc 32 47 l (sc 48 63 l 2) = (l ++ X).length by omega), if_neg (show ¬ sc 32 47 l (sc 48 63 l 2) = l.length by omega)]
  · -- so many bytes have come
    have h32 : 32 ≤ sc 32 47 l (sc 48 63 l 2) := by
      apply Decidable.byContradiction
      intro h32
      unfold brk brkAt at h
      rw [if_neg h32, if_pos (by omega)] at h
      exact absurd h (by decide)
    have hge : 32 ≤ sc 32 47 (l ++ X) (sc 48 63 (l ++ X) 2) := by
      have a1 := sc_app_ge (lo := 48) (hi := 63) (X := X) h2
      have a2 := (sc_le (lo := 48) (hi := 63) (l := l ++ X) (i := 2) (by omega)).2
      have a3 := sc_le (lo := 32) (hi := 47) (l := l ++ X) a2
      by_cases hmid : sc 48 63 l 2 = l.length
      · omega
      · have e1 : sc 48 63 (l ++ X) 2 = sc 48 63 l 2 := sc_app h2 (by omega)
        rw [e1]
        have := sc_app_ge (lo := 32) (hi := 47) (X := X) hm.2
        omega
    unfold brk brkAt
    rw [if_pos h32, if_pos hge]
theorem fs_ext {l X : List Int} (h1 : 1 ≤ l.length) (h : 0 < (fs l).1) : fs (l ++ X) = fs l := by
  have hL : (l ++ X).length = l.length + X.length := List.length_append
  unfold fs at h ⊢
  rw [getD_app (by omega)]
  split
  · rename_i h0; rw [if_pos h0] at h; exact pl_ext h1 h
  rename_i h0
  rw [if_neg h0] at h
  by_cases hl1 : l.length = 1
  · rw [if_pos hl1] at h; exact absurd h (by decide)
  rw [if_neg hl1] at h ⊢
  rw [if_neg (show ¬ (l ++ X).length = 1 by omega), getD_app (by omega)]
  split
  · rfl
  rename_i h27
  rw [if_neg h27] at h
  split
  · rename_i h91; rw [if_pos h91] at h; exact brk_ext (by omega) h
  rename_i h91
  rw [if_neg h91] at h
  split
  · rename_i h79
    rw [if_pos h79] at h
    unfold lb at h ⊢
    by_cases hl2 : l.length = 2
    · rw [if_pos hl2] at h; exact absurd h (by decide)
    rw [if_neg hl2, if_neg (show ¬ (l ++ X).length = 2 by omega), getD_app (by omega)]
  · rename_i h79
    rw [if_neg h79] at h
    rw [List.drop_append_of_le_length (by omega)]
    have hp : 0 < (pl (l.drop 1)).1 := by
      unfold alt at h
      split at h
      · assumption
      · exact h
    rw [pl_ext (by rw [List.length_drop]; omega) hp]
/-! ### what waits -/
theorem nxGo_wait : ∀ {k : Nat} {n lo hi r : Int} {t : List Int}, 128 ≤ lo → hi ≤ 191 → (nxGo n k lo hi r t).2.2 = true → t.length < k ∧ ∀ c ∈ t, 128 ≤ c ∧ c ≤ 191
  | 0, _, _, _, _, _, _, _, h => by cases h
  | _ + 1, _, _, _, _, [], _, _, _ => ⟨by simp, fun c hc => by cases hc⟩
  | k + 1, n, lo, hi, r, b :: t, hlo, hhi, h => by
    simp only [nxGo] at h
    split at h
    · cases h
    · rename_i hb
      obtain ⟨h1, h2⟩ := nxGo_wait (by omega) (by omega) h
      refine ⟨by simp; omega, fun c hc => ?_⟩
      rcases List.mem_cons.1 hc with rfl | hc
      · omega
      · exact h2 c hc
theorem sh_wait {c : Int} (h : ¬ shMany c = 0) : shMany c ≤ 4 ∧ (shMany c = 1 ∨ (194 ≤ c ∧ 128 ≤ shLow c ∧ shHigh c ≤ 191)) := by
  unfold shMany shLow shHigh at *
  repeat' split at h
  all_goals (repeat' split)
  all_goals omega
theorem nx_wait {l : List Int} (h : (nx l).2.2 = true) : l.length ≤ 3 ∧ ∀ c ∈ l, 128 ≤ c := by
  cases l with
  | nil => exact ⟨by simp, fun c hc => by cases hc⟩
  | cons c t =>
    simp only [nx] at h
    split at h
    · cases h
    · rename_i hc
      obtain ⟨h4, h1 | ⟨h1, h2, h3⟩⟩ := sh_wait hc
      · rw [h1] at h; cases h
      · obtain ⟨k1, k2⟩ := nxGo_wait h2 h3 h
        refine ⟨by simp; omega, fun x hx => ?_⟩
        rcases List.mem_cons.1 hx with rfl | hx
        · omega
        · exact (k2 x hx).1
theorem pl_wait {l : List Int} (hl : Byt l) (h1 : 1 ≤ l.length) (h : (pl l).1 = 0) : l.length ≤ 3 ∧ ∀ c ∈ l, 128 ≤ c := by
  unfold pl at h
  repeat' split at h
  all_goals first | exact absurd h (by show ¬ (1 : Int) = 0; decide) | skip
  · rename_i hx; exact nx_wait hx
  · rename_i hx
    have := nx_pos hl h1 (by simpa using hx)
    have h : (nx l).2.1 = 0 := h
    omega

end Go.Proofs.YtenjkphlbdhaiaaDoor

namespace Go.Proofs.YtenjkphlbdhaiaaDoor
open Go Go.Eng

theorem sc_mem {lo hi : Int} {l : List Int} : ∀ {d i : Nat}, d = l.length - i → ∀ {j : Nat}, i ≤ j → j < sc lo hi l i → lo ≤ l.getD j 0 ∧ l.getD j 0 ≤ hi
  | 0, i, hd, j, h1, h2 => by rw [sc_end (by omega)] at h2; omega
  | d + 1, i, hd, j, h1, h2 => by
    rw [sc_step (by omega)] at h2
    split at h2
    · rename_i hc
      by_cases e : j = i
      · subst e; exact hc
      · exact sc_mem (d := d) (by omega) (by omega) h2
    · omega
theorem brk_wait {l : List Int} (h2 : 2 ≤ l.length) (h : (brk l).1 = 0) : l.length < 32 ∧ sc 32 47 l (sc 48 63 l 2) = l.length ∧ ∀ j, 2 ≤ j → j < l.length → 32 ≤ l.getD j 0 ∧ l.getD j 0 ≤ 63 := by
  have hm := sc_le (lo := 48) (hi := 63) h2
  have hI := sc_le (lo := 32) (hi := 47) (i := sc 48 63 l 2) hm.2
  have hlen : ¬ 32 ≤ sc 32 47 l (sc 48 63 l 2) ∧ sc 32 47 l (sc 48 63 l 2) = l.length := by
    unfold brk at h
    generalize sc 32 47 l (sc 48 63 l 2) = i at hI h
    unfold brkAt at h
    split at h
    · exact absurd h (by show ¬ (32 : Int) = 0; decide)
    rename_i h32
    split at h
    · rename_i e; exact ⟨h32, e⟩
    split at h
    · have h : (i : Int) = 0 := h
      omega
    split at h
    · have h : (i : Int) + 1 = 0 := h
      omega
    · have h : (i : Int) + 1 = 0 := h
      omega
  refine ⟨by omega, hlen.2, fun j h1 h3 => ?_⟩
  by_cases hj : j < sc 48 63 l 2
  · have := sc_mem (lo := 48) (hi := 63) (l := l) rfl h1 hj
    omega
  · have := sc_mem (lo := 32) (hi := 47) (l := l) rfl (by omega : sc 48 63 l 2 ≤ j) (by omega)
    omega
theorem alt_0 {f : Fd} (h0 : 0 ≤ f.1) (h : (alt f).1 = 0) : f.1 = 0 := by
  unfold alt at h
  split at h
  · have h : f.1 + 1 = 0 := h
    omega
  · exact h
/-- what may wait -/
inductive W : List Int → Prop
  | hi (l : List Int) : 1 ≤ l.length → l.length ≤ 3 → (∀ c ∈ l, 128 ≤ c) → W l
  | esc : W [27]
  | br (l : List Int) : l.length < 32 → 2 ≤ l.length → l.getD 0 0 = 27 → l.getD 1 0 = 91 → sc 32 47 l (sc 48 63 l 2) = l.length → (∀ j, 2 ≤ j → j < l.length → 32 ≤ l.getD j 0 ∧ l.getD j 0 ≤ 63) → W l
  | oh : W [27, 79]
  | ehi (l : List Int) : 1 ≤ l.length → l.length ≤ 3 → (∀ c ∈ l, 128 ≤ c) → W (27 :: l)
theorem fs_wait {l : List Int} (hl : Byt l) (h1 : 1 ≤ l.length) (h : (fs l).1 = 0) : W l := by
  unfold fs at h
  split at h
  · obtain ⟨a, b⟩ := pl_wait hl h1 h; exact .hi l h1 a b
  rename_i h27
  have h27 : l.getD 0 0 = 27 := Decidable.not_not.1 h27
  split at h
  · rename_i e
    match l, e, h27 with
    | [a], _, h27 => have h27 : a = 27 := h27; subst h27; exact .esc
  split at h
  · exact absurd h (by show ¬ (1 : Int) = 0; decide)
  split at h
  · rename_i h91
    obtain ⟨a, b, c⟩ := brk_wait (by omega) h
    exact .br l a (by omega) h27 h91 b c
  split at h
  · rename_i h79
    unfold lb at h
    split at h
    · rename_i e
      match l, e, h27, h79 with
      | [a, b], _, h27, h79 => have h27 : a = 27 := h27; have h79 : b = 79 := h79; subst h27; subst h79; exact .oh
    split at h
    · exact absurd h (by show ¬ (2 : Int) = 0; decide)
    · exact absurd h (by show ¬ (3 : Int) = 0; decide)
  · match l, h27 with
    | [], h27 => exact absurd h1 (by simp)
    | a :: t, h27 =>
      have h27 : a = 27 := h27
      subst h27
      rename_i e1 _ _ _
      have ht : 1 ≤ t.length := by simp at e1; cases t; exact absurd rfl e1; simp
      have hbt : Byt t := fun c hc => hl c (List.mem_cons_of_mem _ hc)
      have h : (alt (pl t)).1 = 0 := h
      obtain ⟨a, b⟩ := pl_wait hbt ht (alt_0 (pl_n hbt ht).1 h)
      exact .ehi t ht a b
theorem W.len {l : List Int} (h : W l) : l.length < 32 := by
  cases h with
  | hi _ _ h _ => omega
  | esc => decide
  | br _ h => exact h
  | oh => decide
  | ehi l _ h _ => simp; omega
theorem W.no126 {l : List Int} (h : W l) : (126 : Int) ∉ l := by
  intro hm
  cases h with
  | hi _ _ _ h => exact absurd (h _ hm) (by decide)
  | esc => simp at hm
  | br _ h1 h2 h27 h91 _ h =>
    obtain ⟨i, hi, e⟩ := List.mem_iff_getElem.1 hm
    have e' : l.getD i 0 = 126 := by simp [List.getD_eq_getElem?_getD, hi, e]
    by_cases h0 : i = 0
    · subst h0; rw [h27] at e'; cases e'
    by_cases h1 : i = 1
    · subst h1; rw [h91] at e'; cases e'
    have := h i (by omega) hi
    omega
  | oh => simp at hm
  | ehi l _ _ h =>
    rcases List.mem_cons.1 hm with e | hm
    · cases e
    · exact absurd (h _ hm) (by decide)
/-- what is pasted begins behind six bytes, the sixth a tilde -/
theorem fs_pa {l : List Int} (hl : Byt l) (h1 : 1 ≤ l.length) (h : (fs l).pa = true) : (fs l).1 = 6 ∧ l.getD 5 0 = 126 ∧ 6 ≤ l.length ∧ (fs l).is = false := by
  unfold fs at h ⊢
  split at h
  · rw [(pl_n hl h1).2.2] at h; cases h
  rename_i h0
  rw [if_neg h0]
  split at h
  · cases h
  rename_i hl1
  rw [if_neg hl1]
  split at h
  · cases h
  rename_i h27
  rw [if_neg h27]
  split at h
  · rename_i h91
    rw [if_pos h91]
    have h2 : 2 ≤ l.length := by omega
    have hm := sc_le (lo := 48) (hi := 63) h2
    have hI := sc_le (lo := 32) (hi := 47) (i := sc 48 63 l 2) hm.2
    unfold brk at h ⊢
    generalize sc 32 47 l (sc 48 63 l 2) = i at hI h
    generalize sc 48 63 l 2 = m at hm hI h
    unfold brkAt at h ⊢
    split at h
    · cases h
    rename_i h32
    rw [if_neg h32]
    split at h
    · cases h
    rename_i hil
    rw [if_neg hil]
    split at h
    · cases h
    rename_i hc
    rw [if_neg hc]
    split at h
    · rename_i hp
      rw [if_pos hp]
      obtain ⟨_, h126, ht⟩ := hp
      have := congrArg List.length ht
      rw [List.length_take, List.length_drop] at this
      simp at this
      have hi5 : i = 5 := by omega
      subst hi5
      exact ⟨rfl, h126, by omega, rfl⟩
    · cases h
  rename_i h91
  rw [if_neg h91]
  split at h
  · unfold lb at h
    split at h
    · cases h
    split at h <;> cases h
  · have hp := (pl_n (drop1 hl) (l := l.drop 1) (by rw [List.length_drop]; omega)).2.2
    have : (alt (pl (l.drop 1))).pa = (pl (l.drop 1)).pa := by unfold alt; split <;> rfl
    rw [this, hp] at h
    cases h
/-! ### bytes from 128 on, and an ESC behind them -/
theorem nxGo_hi : ∀ {k : Nat} {n lo hi r : Int} {t : List Int}, 28 ≤ lo → (nxGo n k lo hi r (t ++ [27])).2.2 = false ∧ ((nxGo n k lo hi r (t ++ [27])).2.1 = 1 ∨ ((nxGo n k lo hi r (t ++ [27])).2.1 = n ∧ k ≤ t.length))
  | 0, _, _, _, _, t, _ => ⟨rfl, .inr ⟨rfl, Nat.zero_le _⟩⟩
  | k + 1, n, lo, hi, r, [], hlo => by
    have : nxGo n (k + 1) lo hi r ([] ++ [27]) = (65533, 1, false) := by
      simp only [List.nil_append, nxGo]
      rw [if_pos (.inl (by omega))]
    rw [this]
    exact ⟨rfl, .inl rfl⟩
  | k + 1, n, lo, hi, r, b :: t, hlo => by
    simp only [List.cons_append, nxGo]
    split
    · exact ⟨rfl, .inl rfl⟩
    · obtain ⟨h1, h2⟩ := nxGo_hi (k := k) (n := n) (lo := 128) (hi := 191) (r := r * 64 + b % 64) (t := t) (by omega)
      exact ⟨h1, h2.imp id fun h => ⟨h.1, by simp; omega⟩⟩
theorem nx_hi {u : List Int} (h1 : 1 ≤ u.length) (h : ∀ c ∈ u, 128 ≤ c) : (nx (u ++ [27])).2.2 = false ∧ (nx (u ++ [27])).2.1 ≤ u.length := by
  match u, h1 with
  | c :: t, _ =>
    simp only [List.cons_append, nx]
    split
    · exact ⟨rfl, by show (1 : Int) ≤ _; simp; omega⟩
    · rename_i hc
      have hc8 := h c List.mem_cons_self
      obtain ⟨h4, e1 | ⟨e1, e2, e3⟩⟩ := sh_wait hc
      · exfalso
        unfold shMany at e1
        repeat' split at e1
        all_goals omega
      · obtain ⟨k1, k2⟩ := nxGo_hi (k := (shMany c - 1).toNat) (n := shMany c) (lo := shLow c) (hi := shHigh c) (r := shBits c) (t := t) (by omega)
        refine ⟨k1, ?_⟩
        rcases k2 with k2 | ⟨k2, k3⟩
        · rw [k2]; simp; omega
        · rw [k2]; simp; omega

end Go.Proofs.YtenjkphlbdhaiaaDoor

namespace Go.Proofs.YtenjkphlbdhaiaaDoor
open Go Go.Eng

/-! ### the end of what is pasted -/
def E6 : List Int := [27, 91, 50, 48, 49, 126]
def endAt (B : List Int) : Option Nat := (List.range B.length).find? fun i => decide ((B.drop i).take 6 = E6)
theorem endAt_some {B : List Int} {k : Nat} : endAt B = some k ↔ (B.drop k).take 6 = E6 ∧ ∀ j, j < k → (B.drop j).take 6 ≠ E6 := by
  unfold endAt
  rw [List.find?_range_eq_some]
  constructor
  · rintro ⟨h1, h2, h3⟩
    exact ⟨by simpa using h1, fun j hj => by simpa using h3 j hj⟩
  · rintro ⟨h1, h2⟩
    refine ⟨by simpa using h1, ?_, fun j hj => by simpa using h2 j hj⟩
    rw [List.mem_range]
    have := congrArg List.length h1
    rw [List.length_take, List.length_drop] at this
    simp [E6] at this
    omega
theorem endAt_none {B : List Int} : endAt B = none ↔ ∀ j, (B.drop j).take 6 ≠ E6 := by
  unfold endAt
  rw [List.find?_range_eq_none]
  constructor
  · intro h j hj
    have hl := congrArg List.length hj
    rw [List.length_take, List.length_drop] at hl
    simp [E6] at hl
    have := h j (by omega)
    simp [hj] at this
  · intro h j _
    simpa using h j
theorem take6_len {B : List Int} {k : Nat} (h : (B.drop k).take 6 = E6) : k + 6 ≤ B.length := by
  have := congrArg List.length h
  rw [List.length_take, List.length_drop] at this
  simp [E6] at this
  omega
theorem endAt_ext {B X : List Int} {k : Nat} (h : endAt B = some k) : endAt (B ++ X) = some k := by
  obtain ⟨h1, h2⟩ := endAt_some.1 h
  have hl := take6_len h1
  refine endAt_some.2 ⟨by rw [take_app hl]; exact h1, fun j hj => ?_⟩
  rw [take_app (by omega)]
  exact h2 j hj

/-! ### the decoder, as the document has it -/
noncomputable def txt (l : List Int) : ByteArray := (g26 l).getD ⟨#[]⟩
noncomputable def pkey (l : List Int) : Ky := (16, txt l, 0, false, false, false)
/-- one step, if there is one -/
noncomputable def st1 (B : List Int) (pa : Bool) : Option (List Int × Bool × List Ky) :=
  if B = [] then none
  else if pa = true then (endAt B).map fun k => (B.drop (k + 6), false, [pkey (B.take (min k 65536))])
  else if (fs B).1 = 0 then none
  else some (B.drop (fs B).1.toNat, (fs B).pa, if (fs B).is = true then [(fs B).key] else [])
theorem st1_len {B : List Int} {pa : Bool} (hB : Byt B) {v} (h : st1 B pa = some v) : v.1.length < B.length ∧ Byt v.1 := by
  unfold st1 at h
  split at h
  · cases h
  rename_i hne
  have h1 : 1 ≤ B.length := by cases B; exact absurd rfl hne; simp
  split at h
  · obtain ⟨k, hk, rfl⟩ := Option.map_eq_some_iff.1 h
    have := take6_len (endAt_some.1 hk).1
    exact ⟨by rw [List.length_drop]; omega, drop_byt hB⟩
  split at h
  · cases h
  · cases h
    have := fs_n hB h1
    exact ⟨by rw [List.length_drop]; omega, drop_byt hB⟩
theorem st1_ext {B X : List Int} {pa : Bool} (hB : Byt B) {v} (h : st1 B pa = some v) : st1 (B ++ X) pa = some (v.1 ++ X, v.2) := by
  unfold st1 at h ⊢
  split at h
  · cases h
  rename_i hne
  have h1 : 1 ≤ B.length := by cases B; exact absurd rfl hne; simp
  rw [if_neg (by intro e; exact hne (List.append_eq_nil_iff.1 e).1)]
  split at h
  · rename_i hp
    rw [if_pos hp]
    obtain ⟨k, hk, rfl⟩ := Option.map_eq_some_iff.1 h
    have := take6_len (endAt_some.1 hk).1
    rw [endAt_ext hk, Option.map_some, List.drop_append_of_le_length (by omega), List.take_append_of_le_length (by omega)]
  rename_i hp
  rw [if_neg hp]
  split at h
  · cases h
  rename_i h0
  cases h
  have hn := fs_n hB h1
  rw [fs_ext h1 (by omega), if_neg h0, List.drop_append_of_le_length (by omega)]
inductive Run : List Int → Bool → List Int → Bool → List Ky → Prop
  | stop {B pa} : st1 B pa = none → Run B pa B pa []
  | step {B pa B1 pa1 ks B' pa' ks'} : st1 B pa = some (B1, pa1, ks) → Run B1 pa1 B' pa' ks' → Run B pa B' pa' (ks ++ ks')
theorem Run.det {B pa B1 pa1 ks1} (h1 : Run B pa B1 pa1 ks1) : ∀ {B2 pa2 ks2}, Run B pa B2 pa2 ks2 → B1 = B2 ∧ pa1 = pa2 ∧ ks1 = ks2 := by
  induction h1 with
  | stop h =>
    intro B2 pa2 ks2 h2
    cases h2 with
    | stop _ => exact ⟨rfl, rfl, rfl⟩
    | step h' _ => rw [h] at h'; cases h'
  | step h _ ih =>
    intro B2 pa2 ks2 h2
    cases h2 with
    | stop h' => rw [h] at h'; cases h'
    | step h' r =>
      rw [h] at h'
      cases h'
      obtain ⟨rfl, rfl, rfl⟩ := ih r
      exact ⟨rfl, rfl, rfl⟩
theorem Run.stops {B pa B1 pa1 ks1} (h : Run B pa B1 pa1 ks1) : st1 B1 pa1 = none := by
  induction h with
  | stop h => exact h
  | step _ _ ih => exact ih
theorem Run.byt {B pa B1 pa1 ks1} (h : Run B pa B1 pa1 ks1) (hB : Byt B) : Byt B1 ∧ B1.length ≤ B.length := by
  induction h with
  | stop h => exact ⟨hB, Nat.le_refl _⟩
  | step h _ ih =>
    have := st1_len hB h
    have h2 := ih this.2
    exact ⟨h2.1, by have := this.1; dsimp only at this; omega⟩
theorem run_ex : ∀ (n : Nat) (B : List Int) (pa : Bool), B.length ≤ n → Byt B → ∃ B' pa' ks, Run B pa B' pa' ks
  | n, B, pa, hn, hB => by
    cases h : st1 B pa with
    | none => exact ⟨B, pa, [], .stop h⟩
    | some v =>
      obtain ⟨B1, pa1, ks⟩ := v
      have hl := st1_len hB h
      match n with
      | 0 => exact absurd hl.1 (by omega)
      | n + 1 =>
        have h1 := hl.1
        dsimp only at h1
        obtain ⟨B', pa', ks', hr⟩ := run_ex n B1 pa1 (by omega) hl.2
        exact ⟨B', pa', _, .step h hr⟩
/-- bytes in two pieces -/
theorem run_app {X : List Int} {B pa B1 pa1 ks1} (h : Run B pa B1 pa1 ks1) : ∀ {B2 pa2 ks2}, Byt B → Run (B1 ++ X) pa1 B2 pa2 ks2 → Run (B ++ X) pa B2 pa2 (ks1 ++ ks2) := by
  induction h with
  | stop h => intro B2 pa2 ks2 _ h2; exact h2
  | step h _ ih =>
    intro B2 pa2 ks2 hB h2
    rw [List.append_assoc]
    exact .step (st1_ext hB h) (ih (st1_len hB h).2 h2)

end Go.Proofs.YtenjkphlbdhaiaaDoor

namespace Go.Proofs.YtenjkphlbdhaiaaDoor
open Go Go.Eng

/-! ### what is pasted, byte by byte -/
def e6 (j : Nat) : Int := E6.getD j 0
theorem e6_inj' : ∀ i, i < 6 → ∀ j, j < 6 → e6 i = e6 j → i = j := by decide
theorem e6_inj {i j : Nat} (hi : i < 6) (hj : j < 6) (h : e6 i = e6 j) : i = j := e6_inj' i hi j hj h
theorem e6_take : ∀ {j : Nat}, j < 6 → E6.take (j + 1) = E6.take j ++ [e6 j] := by decide
theorem suf_concat {X B : List Int} {a c : Int} (h : (X ++ [a]) <:+ (B ++ [c])) : a = c ∧ X <:+ B := by
  obtain ⟨t, ht⟩ := h
  rw [← List.append_assoc] at ht
  obtain ⟨h1, h2⟩ := List.append_inj' ht rfl
  exact ⟨by simpa using h2, t, h1⟩
theorem suf_e6 {B : List Int} {c : Int} {j : Nat} (hj : j < 6) (h : E6.take (j + 1) <:+ (B ++ [c])) : e6 j = c ∧ E6.take j <:+ B := by
  rw [e6_take hj] at h
  exact suf_concat h
structure PR (B : List Int) (m : Nat) (pasted : List Int) : Prop where
  m5 : m < 6
  C : ∃ C, B = C ++ E6.take m ∧ pasted = C.take 65542
  mx : ∀ j, j ≤ 6 → E6.take j <:+ B → j ≤ m
  no : endAt B = none
theorem PR.nil : PR [] 0 [] := ⟨by decide, ⟨[], rfl, rfl⟩, fun j hj h => by
  have := List.IsSuffix.length_le h
  rw [List.length_take] at this
  simp [E6] at this
  omega, endAt_none.2 (by intro j; simp [E6])⟩
theorem PR.no' {B : List Int} {m : Nat} {p : List Int} (h : PR B m p) {c : Int} (hc : m + 1 < 6 ∨ c ≠ e6 m) : endAt (B ++ [c]) = none := by
  refine endAt_none.2 fun j hj => ?_
  have hl := take6_len hj
  rw [List.length_append, List.length_singleton] at hl
  by_cases hb : j + 6 ≤ B.length
  · rw [take_app hb] at hj
    exact endAt_none.1 h.no j hj
  · have hs : E6.take (5 + 1) <:+ (B ++ [c]) := by
      refine ⟨(B ++ [c]).take j, ?_⟩
      have : (B ++ [c]).drop j = E6 := by
        rw [← hj, List.take_of_length_le (by rw [List.length_drop, List.length_append, List.length_singleton]; omega)]
      conv => rhs; rw [← List.take_append_drop j (B ++ [c]), this]
      rfl
    obtain ⟨h1, h2⟩ := suf_e6 (by decide) hs
    have := h.mx 5 (by decide) h2
    have hm : m = 5 := by have := h.m5; omega
    subst hm
    rcases hc with hc | hc
    · omega
    · exact hc h1.symm
theorem PR.last {B : List Int} {m : Nat} {p : List Int} (h : PR B m p) (hm : 1 ≤ m) {j : Nat} (hj : j < 6) (hs : E6.take (j + 1) <:+ B) : j + 1 = m := by
  obtain ⟨C, hB, _⟩ := h.C
  obtain ⟨k, rfl⟩ : ∃ k, m = k + 1 := ⟨m - 1, by omega⟩
  rw [e6_take (by have := h.m5; omega), ← List.append_assoc] at hB
  rw [hB] at hs
  have := (suf_e6 hj hs).1
  have := e6_inj hj (by have := h.m5; omega) this
  omega
theorem PR.on {B : List Int} {m : Nat} {p : List Int} (h : PR B m p) {c : Int} (hc : c = e6 m) (hm : m + 1 < 6) : PR (B ++ [c]) (m + 1) p := by
  refine ⟨hm, ?_, fun j hj hs => ?_, h.no' (.inl hm)⟩
  · obtain ⟨C, hB, hp⟩ := h.C
    exact ⟨C, by rw [hB, e6_take h.m5, hc, List.append_assoc], hp⟩
  · match j with
    | 0 => omega
    | j + 1 =>
      have := (suf_e6 (by omega) hs).1
      have := e6_inj (by omega) h.m5 (this.trans hc)
      omega
theorem PR.done {B : List Int} {p : List Int} (h : PR B 5 p) {c : Int} (hc : c = e6 5) : ∃ k, endAt (B ++ [c]) = some k ∧ (B ++ [c]).drop (k + 6) = [] ∧ (B ++ [c]).take (min k 65536) = p.take (min p.length 65536) := by
  obtain ⟨C, hB, hp⟩ := h.C
  have e : B ++ [c] = C ++ E6 := by rw [hB, hc, List.append_assoc]; rfl
  have hd : (B ++ [c]).drop C.length = E6 := by rw [e, List.drop_left]
  refine ⟨C.length, endAt_some.2 ⟨by rw [hd]; rfl, fun j hj he => ?_⟩, ?_, ?_⟩
  · have hBl : B.length = C.length + 5 := by rw [hB, List.length_append]; rfl
    rw [take_app (by omega)] at he
    exact endAt_none.1 h.no j he
  · rw [e]
    exact List.drop_eq_nil_of_le (by simp [E6])
  · rw [e, hp, List.take_append_of_le_length (by omega), List.take_take, List.length_take]
    by_cases h6 : C.length ≤ 65536
    · congr 1; omega
    · congr 1; omega
theorem take_app_take {C X : List Int} {N : Nat} : ((C.take N) ++ X).take N = (C ++ X).take N := by
  by_cases h : C.length ≤ N
  · rw [List.take_of_length_le h]
  · rw [List.take_append_of_le_length (by rw [List.length_take]; omega), List.take_append_of_le_length (by omega), List.take_take, Nat.min_self]
theorem PR.esc {B : List Int} {m : Nat} {p : List Int} (h : PR B m p) {c : Int} (hc : c ≠ e6 m) (h27 : c = 27) : PR (B ++ [c]) 1 ((p ++ E6.take m).take 65542) := by
  obtain ⟨C, hB, hp⟩ := h.C
  refine ⟨by decide, ⟨B, by rw [h27]; rfl, by rw [hp, take_app_take, ← hB]⟩, fun j hj hs => ?_, h.no' (.inr hc)⟩
  match j with
  | 0 => omega
  | j + 1 =>
    have := (suf_e6 (by omega) hs).1
    have := e6_inj (j := 0) (by omega) (by decide) (this.trans h27)
    omega
theorem PR.off {B : List Int} {m : Nat} {p : List Int} (h : PR B m p) {c : Int} (hc : c ≠ e6 m) (h27 : c ≠ 27) : PR (B ++ [c]) 0 ((((p ++ E6.take m).take 65542) ++ [c]).take 65542) := by
  obtain ⟨C, hB, hp⟩ := h.C
  refine ⟨by decide, ⟨B ++ [c], by simp, by rw [hp, take_app_take, List.append_assoc, take_app_take, ← List.append_assoc, ← hB]⟩, fun j hj hs => ?_, h.no' (.inr hc)⟩
  match j with
  | 0 => omega
  | j + 1 =>
    exfalso
    obtain ⟨h1, h2⟩ := suf_e6 (by omega) hs
    match j with
    | 0 => exact h27 h1.symm
    | j + 1 =>
      have h3 := h.mx _ (by omega) h2
      have h4 := h.last (by omega) (j := j) (by omega) h2
      rw [h4] at h1
      exact hc h1.symm
/-- a byte of what is pasted, as the document has it -/
theorem run_paste {B : List Int} {m : Nat} {p : List Int} (h : PR B m p) {c : Int} (hend : endAt (B ++ [c]) = none) : Run (B ++ [c]) true (B ++ [c]) true [] := by
  refine .stop ?_
  unfold st1
  rw [if_neg (by simp), if_pos rfl, hend]
  rfl
theorem run_pasted {B : List Int} {p : List Int} (h : PR B 5 p) {c : Int} (hc : c = e6 5) : Run (B ++ [c]) true [] false [pkey (p.take (min p.length 65536))] := by
  obtain ⟨k, h1, h2, h3⟩ := h.done hc
  have : st1 (B ++ [c]) true = some ([], false, [pkey (p.take (min p.length 65536))]) := by
    unfold st1
    rw [if_neg (by simp), if_pos rfl, h1, Option.map_some, h2, h3]
  refine Run.step (ks' := []) this (.stop ?_)
  unfold st1
  rw [if_pos rfl]

/-! ### strings -/
theorem bytes_extract {S : ByteArray} {n : Nat} : bytesOf (S.extract 0 n) = (bytesOf S).take n := by
  unfold bytesOf
  rw [← List.map_take]
  congr 1
  simp [ByteArray.extract, ByteArray.copySlice]
theorem keep_eq {p : List Int} {S : ByteArray} (hp : p.length ≤ 65542) : p ++ bytesOf (S.extract (0 : Int).toNat (gmax 0 (gmin (65542 - ((p.length : Nat) : Int)) (S.size : Int))).toNat) = (p ++ bytesOf S).take 65542 := by
  have hl := bytesOf_len S
  rw [show (0 : Int).toNat = 0 from rfl, bytes_extract, gmax_eq, gmin_eq]
  rw [List.take_append, List.take_of_length_le hp]
  congr 1
  by_cases h : (S.size : Int) ≤ 65542 - (p.length : Int)
  · rw [List.take_of_length_le (by omega), List.take_of_length_le (by omega)]
  · congr 1; omega

end Go.Proofs.YtenjkphlbdhaiaaDoor

namespace Go.Proofs.YtenjkphlbdhaiaaDoor
open Go Go.Eng

def Tail (h : List Int) : Prop := h = [] ∨ ∃ Q c, h = Q ++ [c] ∧ (126 : Int) ∉ Q
theorem Tail.drop {h : List Int} (ht : Tail h) (n : Nat) : Tail (h.drop n) := by
  rcases ht with rfl | ⟨Q, c, rfl, hq⟩
  · exact .inl (by simp)
  · by_cases hn : n ≤ Q.length
    · exact .inr ⟨Q.drop n, c, by rw [List.drop_append_of_le_length hn], fun h => hq (List.mem_of_mem_drop h)⟩
    · exact .inl (List.drop_eq_nil_of_le (by simp; omega))
theorem Tail.six {h : List Int} (ht : Tail h) (h6 : 6 ≤ h.length) (h5 : h.getD 5 0 = 126) : h.drop 6 = [] := by
  rcases ht with rfl | ⟨Q, c, rfl, hq⟩
  · rfl
  · by_cases hl : 5 < Q.length
    · exfalso
      apply hq
      rw [← h5, getD_app hl]
      exact getD_mem hl
    · exact List.drop_eq_nil_of_le (by simp; omega)
theorem nil_app {l : List Int} : ([] : List Int) ++ l = l := rfl
/-- keys that are typed -/
theorem typed_gives {β : Type} {h p : List Int} {m : Int} {K : List Int × Bool × List Int × Int × List Ky → Option β} {Φ : β → Prop} (hB : Byt h) (hn : h.length ≤ 1000) (ht : Tail h)
    (hk : ∀ B' pa' ks, Run h false B' pa' ks → ks.length ≤ h.length → (pa' = true → B' = []) → Gives (K (if pa' = true then ([], true, [], 0, ks) else (B', false, p, m, ks))) Φ) :
    Gives ((loopO (σ := List Int × Bool × List Int × Int × List (Int × ByteArray × Int × Bool × Bool × Bool)) (ρ := List Int × Bool × List Int × Int × List (Int × ByteArray × Int × Bool × Bool × Bool)) (fun s2358 =>
                              if 0 < ((s2358.1.length : Nat) : Int) then
                                (
                                  if ¬ (s2358.2.1 = true) then
                                    (
                                      (g32 s2358.1).bind fun v2419 =>
                                      if v2419.1 = 0 then
                                        some (.out (s2358.1, s2358.2.1, s2358.2.2.1, s2358.2.2.2.1, s2358.2.2.2.2))
                                      else
                                        (
                                          ck (0 ≤ v2419.1 ∧ v2419.1 ≤ ((s2358.1.length : Nat) : Int) ∧ ((s2358.1.length : Nat) : Int) ≤ ((s2358.1.length : Nat) : Int)) <|
                                          ck ((0 + (((s2358.1.length : Nat) : Int).toNat - v2419.1.toNat)) * 1 ≤ 140737488355328) <|
                                          jn (α := _) (β := List (Int × ByteArray × Int × Bool × Bool × Bool)) (fun k2437 =>
                                              if v2419.2.2.2.2.2.2.2.1 = true then
                                                (
                                                  ck ((s2358.2.2.2.2.length + 1) * 40 ≤ 140737488355328) <|
                                                  k2437 (s2358.2.2.2.2 ++ [(v2419.2.1, v2419.2.2.1, v2419.2.2.2.1, v2419.2.2.2.2.1, v2419.2.2.2.2.2.1, v2419.2.2.2.2.2.2.1)])
                                                )
                                              else
                                                k2437 s2358.2.2.2.2
                                          ) (fun v2436 =>
                                            if v2419.2.2.2.2.2.2.2.2 = true then
                                              some (.go ((([] : List Int) ++ ((s2358.1.drop v2419.1.toNat).take (((s2358.1.length : Nat) : Int).toNat - v2419.1.toNat))), true, [], 0, v2436))
                                            else
                                              some (.go ((([] : List Int) ++ ((s2358.1.drop v2419.1.toNat).take (((s2358.1.length : Nat) : Int).toNat - v2419.1.toNat))), s2358.2.1, s2358.2.2.1, s2358.2.2.2.1, v2436))
                                          )
                                        )
                                    )
                                  else
                                    some (.out (s2358.1, s2358.2.1, s2358.2.2.1, s2358.2.2.2.1, s2358.2.2.2.2))
                                )
                              else
                                some (.out (s2358.1, s2358.2.1, s2358.2.2.1, s2358.2.2.2.1, s2358.2.2.2.2))
                            ) (h, false, p, m, [])).bind fun o2416 =>
                            K (o2416.1, o2416.2.1, o2416.2.2.1, o2416.2.2.2.1, o2416.2.2.2.2)) Φ := by
  refine g_bind (Ω := fun o => ∃ B' pa' ks, Run h false B' pa' ks ∧ ks.length ≤ h.length ∧ (pa' = true → B' = []) ∧ o = (if pa' = true then ([], true, [], 0, ks) else (B', false, p, m, ks)))
    (g_loop (fun s : List Int × Bool × List Int × Int × List Ky => (∃ h' ks, s = (h', false, p, m, ks) ∧ (∀ {B' pa' ks'}, Run h' false B' pa' ks' → Run h false B' pa' (ks ++ ks')) ∧ Byt h' ∧ Tail h' ∧ ks.length + h'.length ≤ h.length) ∨ (∃ ks, s = ([], true, [], 0, ks) ∧ Run h false [] true ks ∧ ks.length ≤ h.length)) (fun s => s.1.length) ?_ (.inl ⟨h, [], rfl, fun r => r, hB, ht, by simp⟩)) ?_
  · rintro _ (⟨h', ks, rfl, hr, hb, ht', hl⟩ | ⟨ks, rfl, hr, hl⟩)
    · dsimp only
      refine g_if (fun h0 => g_if (fun _ => ?_) fun hx => absurd (by decide) hx) fun h0 => g_out ⟨h', false, ks, ?_, by omega, fun h => (by cases h), rfl⟩
      · have h1 : 1 ≤ h'.length := by omega
        have hne : h' ≠ [] := fun e => by rw [e] at h1; exact absurd h1 (by decide)
        obtain ⟨v, hv, f1, f2, f3, f4⟩ := (first_eq hb (by omega) h1).2
        have hn' := fs_n hb h1
        refine g_call hv (g_if (fun hz => g_out ⟨h', false, ks, ?_, by omega, fun h => (by cases h), rfl⟩) fun hz => ?_)
        · have := hr (.stop (B := h') (pa := false) (by unfold st1; rw [if_neg hne, if_neg (by decide), if_pos (by rw [f1]; exact hz)]))
          rwa [List.append_nil] at this
        · have e3 : (h'.drop v.1.toNat).take (((h'.length : Nat) : Int).toNat - v.1.toNat) = h'.drop v.1.toNat := List.take_of_length_le (by rw [List.length_drop]; omega)
          rw [e3, nil_app]
          have hst : st1 h' false = some (h'.drop v.1.toNat, (fs h').pa, if (fs h').is = true then [(fs h').key] else []) := by
            unfold st1
            rw [if_neg hne, if_neg (by decide), if_neg (by rw [f1]; exact hz), f1]
          refine g_ck (by omega) (g_ck (by omega) (g_jn (fun w => w = ks ++ (if (fs h').is = true then [(fs h').key] else [])) (fun k2 hk2 => g_if (fun hi => g_ck (by omega) (hk2 _ ?_)) fun hi => hk2 _ ?_) fun w hw => ?_))
          · have hi' : (fs h').is = true := f2.trans hi
            rw [if_pos hi', f4 hi']
            rfl
          · have hi' : ¬ (fs h').is = true := fun e => hi (f2.symm.trans e)
            rw [if_neg hi', List.append_nil]
          · have hlen : (if (fs h').is = true then [(fs h').key] else ([] : List Ky)).length ≤ 1 := by split <;> simp
            have hwl : w.length ≤ ks.length + 1 := by rw [hw, List.length_append]; omega
            have hdl : (h'.drop v.1.toNat).length + 1 ≤ h'.length := by rw [List.length_drop]; omega
            refine g_if (fun hp => ?_) fun hp => ?_
            · have hp' : (fs h').pa = true := f3.trans hp
              obtain ⟨p1, p2, p3, p4⟩ := fs_pa hb h1 hp'
              have hnil : h'.drop v.1.toNat = [] := by
                have : v.1.toNat = 6 := by rw [← f1, p1]; rfl
                rw [this]
                exact ht'.six p3 p2
              rw [hnil]
              refine g_go (.inr ⟨w, rfl, ?_, by omega⟩) (by show 0 < _; omega)
              rw [hnil, hp'] at hst
              have := hr (.step hst (.stop (by unfold st1; rw [if_pos rfl])))
              rw [List.append_nil] at this
              rw [hw]
              exact this
            · have hp' : (fs h').pa = false := (Bool.not_eq_true _).mp fun e => hp (f3.symm.trans e)
              rw [hp'] at hst
              refine g_go (.inl ⟨_, w, rfl, fun r => ?_, drop_byt hb, ht'.drop _, by omega⟩) (by dsimp only; omega)
              rw [hw, List.append_assoc]
              exact hr (.step hst r)
      · have hnil : h' = [] := List.eq_nil_of_length_eq_zero (by omega)
        have := hr (.stop (B := h') (pa := false) (by unfold st1; rw [if_pos hnil]))
        rwa [List.append_nil] at this
    · dsimp only
      exact g_if (fun h0 => absurd h0 (by simp)) fun _ => g_out ⟨[], true, ks, hr, hl, fun _ => rfl, rfl⟩
  · rintro _ ⟨B', pa', ks, hr, hl, hp, rfl⟩
    have := hk B' pa' ks hr hl hp
    cases pa' <;> exact this

end Go.Proofs.YtenjkphlbdhaiaaDoor

namespace Go.Proofs.YtenjkphlbdhaiaaDoor
open Go Go.Eng

/-- the program's state, against the document's -/
inductive Rl : List Int × Bool × List Int × Int → List Int → Bool → Prop
  | typed (B p : List Int) (m : Int) : st1 B false = none → Byt B → p.length ≤ 65542 → Rl (B, false, p, m) B false
  | pasted (B p : List Int) (m : Nat) : PR B m p → Byt B → Rl ([], true, p, (m : Int)) B true
theorem PR.len {B : List Int} {m : Nat} {p : List Int} (h : PR B m p) : p.length ≤ 65542 := by
  obtain ⟨C, _, hp⟩ := h.C
  rw [hp, List.length_take]
  omega
theorem PR.byt {B : List Int} {m : Nat} {p : List Int} (h : PR B m p) (hB : Byt B) : Byt p := by
  obtain ⟨C, hC, hp⟩ := h.C
  intro c hc
  rw [hp] at hc
  exact hB c (by rw [hC]; exact List.mem_append_left _ (List.mem_of_mem_take hc))
theorem typed_wait {B : List Int} (h : st1 B false = none) (hB : Byt B) : B.length < 32 ∧ (126 : Int) ∉ B := by
  by_cases hne : B = []
  · subst hne; exact ⟨by decide, by simp⟩
  · unfold st1 at h
    rw [if_neg hne, if_neg (by decide)] at h
    split at h
    · rename_i h0
      have := fs_wait hB (by cases B; exact absurd rfl hne; simp) h0
      exact ⟨this.len, this.no126⟩
    · cases h
theorem Rl.byt {st B pa} (h : Rl st B pa) : Byt B := by cases h <;> assumption
theorem Rl.stops {st B pa} (h : Rl st B pa) : st1 B pa = none := by
  cases h with
  | typed _ _ _ h _ _ => exact h
  | pasted _ _ m h hB =>
    unfold st1
    split
    · rfl
    · rw [if_pos rfl, h.no]; rfl
theorem litE : ∀ k, k < 6 → (((lit [27, 91, 50, 48, 49, 126]).data.toList[k]?.getD 0).toNat : Int) = e6 k := by decide
theorem litS : (lit [27, 91, 50, 48, 49, 126]).size = 6 := rfl
theorem litB : bytesOf (lit [27, 91, 50, 48, 49, 126]) = E6 := rfl
theorem size_ext {S : ByteArray} {a b : Nat} : (S.extract a b).size ≤ S.size := by rw [ByteArray.size_extract]; omega
theorem byt1' {c : Int} (h : 0 ≤ c ∧ c ≤ 255) : Byt [c] := fun x hx => by rw [List.mem_singleton.1 hx]; exact h
theorem byt_app {a b : List Int} (ha : Byt a) (hb : Byt b) : Byt (a ++ b) := fun c hc => (List.mem_append.1 hc).elim (ha c) (hb c)
theorem pkey_prog {p : List Int} (hp : Byt p) (hl : p.length ≤ 1000000) : ∃ s, g39 p = some s ∧ pkey p = (16, s, 0, false, false, false) := by
  obtain ⟨s, h1, h2⟩ := text_same hp hl
  refine ⟨s, h1, ?_⟩
  unfold pkey txt
  rw [h2]
  rfl
/-- Feed -/
theorem g9_gives {h p : List Int} {pa0 : Bool} {m : Int} {B : List Int} {b : List Int} (hr : Rl (h, pa0, p, m) B pa0) (hb : Byt b) (hn : b.length ≤ 1000000) :
    Gives (g9 (h, pa0, p, m, true) b) fun r => ∃ h' p' pa' m' B', r.2 = (h', pa', p', m', true) ∧ Rl (h', pa', p', m') B' pa' ∧ Run (B ++ b) pa0 B' pa' r.1 ∧ r.1.length ≤ 32 * b.length := by
  unfold g9
  refine g_if (fun hx => absurd rfl hx) fun _ => ?_
  refine g_jn (fun v => ∃ B', Rl (v.1, v.2.1, v.2.2.1, v.2.2.2.1) B' v.2.1 ∧ Run (B ++ b) pa0 B' v.2.1 v.2.2.2.2 ∧ v.2.2.2.2.length ≤ 32 * b.length) (fun k hk => ?_) ?_
  · refine g_bind (g_loop (R := fun v : List Int × Bool × List Int × Int × List Ky => ∃ B', Rl (v.1, v.2.1, v.2.2.1, v.2.2.2.1) B' v.2.1 ∧ Run (B ++ b) pa0 B' v.2.1 v.2.2.2.2 ∧ v.2.2.2.2.length ≤ 32 * b.length)
      (fun s : List Int × Bool × List Int × Int × List Ky × Int => 0 ≤ s.2.2.2.2.2 ∧ s.2.2.2.2.2 ≤ b.length ∧ (s.2.2.2.2.1.length : Int) ≤ 32 * s.2.2.2.2.2 ∧ ∃ Bi, Rl (s.1, s.2.1, s.2.2.1, s.2.2.2.1) Bi s.2.1 ∧ ∀ {B' pa' ks}, Run (Bi ++ b.drop s.2.2.2.2.2.toNat) s.2.1 B' pa' ks → Run (B ++ b) pa0 B' pa' (s.2.2.2.2.1 ++ ks))
      (fun s => ((b.length : Int) - s.2.2.2.2.2).toNat) ?_ ⟨Int.le_refl _, by dsimp only; omega, by dsimp only; simp, B, hr, fun r => r⟩) fun v hv => hk _ hv
    rintro ⟨h, pa, p, m, out, i⟩ ⟨h0, h1, h2, Bi, hri, hrun⟩
    dsimp only at h0 h1 h2 hri hrun ⊢
    refine g_if (fun hi => g_ck (by omega) ?_) fun hi => g_out ⟨Bi, hri, ?_⟩
    rotate_left
    · have := hrun (B' := Bi) (pa' := pa) (ks := []) (by rw [List.drop_eq_nil_of_le (by omega), List.append_nil]; exact .stop hri.stops)
      rw [List.append_nil] at this
      refine ⟨this, ?_⟩
      dsimp only
      omega
    have hc : 0 ≤ b.getD i.toNat 0 ∧ b.getD i.toNat 0 ≤ 255 := hb _ (getD_mem (by omega))
    rw [ns_drop h0 hi] at hrun
    generalize b.getD i.toNat 0 = c at hc hrun
    have hrun : ∀ {B1 pa1 ks B' pa' ks'}, Run (Bi ++ [c]) pa B1 pa1 ks → Run (B1 ++ b.drop (i + 1).toNat) pa1 B' pa' ks' → Run (B ++ b) pa0 B' pa' (out ++ ks ++ ks') := fun r1 r2 => by
      have := run_app r1 (byt_app hri.byt (byt1' hc)) r2
      rw [List.append_assoc] at this
      have := hrun this
      rwa [← List.append_assoc] at this
    have hB' : Byt (Bi ++ [c]) := byt_app hri.byt (byt1' hc)
    cases hri with
    | pasted _ _ m hP hBy =>
      refine g_if (fun _ => ?_) fun hx => absurd rfl hx
      rw [litS]
      have hm5 := hP.m5
      have hpl := hP.len
      rw [Int.toNat_natCast, litE m hm5]
      refine g_ck (by omega) (g_if (fun hce => g_i64 (by omega) (g_if (fun hlt => ?_) fun hge => ?_)) fun hce => ?_)
      · have hP' := hP.on hce (by omega)
        refine g_ck (by omega) (g_i64 (by omega) (g_go ⟨by dsimp only; omega, by dsimp only; omega, by dsimp only; rw [List.append_nil]; omega, Bi ++ [c], .pasted _ _ (m + 1) hP' hB', fun r2 => ?_⟩ (by dsimp only; omega)))
        exact hrun (run_paste hP hP'.no) r2
      · have hm : m = 5 := by omega
        subst hm
        have e1 : (p.drop (0 : Int).toNat).take ((gmin ((p.length : Nat) : Int) 65536).toNat - (0 : Int).toNat) = p.take (min p.length 65536) := by
          rw [gmin_eq]
          show (p.drop 0).take _ = _
          rw [List.drop_zero]
          congr 1
          show (min (p.length : Int) 65536).toNat - 0 = _
          omega
        rw [e1]
        obtain ⟨s, hs, hpk⟩ := pkey_prog (p := p.take (min p.length 65536)) (fun x hx => hP.byt hBy x (List.mem_of_mem_take hx)) (by rw [List.length_take]; omega)
        refine g_ck (by rw [gmin_eq]; omega) (g_call hs (g_ck (by omega) (g_i64 (by omega) (g_go ⟨by dsimp only; omega, by dsimp only; omega, by dsimp only; simp; omega, [], .typed _ _ _ (by unfold st1; rw [if_pos rfl]) (fun x hx => by cases hx) (Nat.zero_le _), fun r2 => ?_⟩ (by dsimp only; omega)))))
        have := hrun (run_pasted hP hce) r2
        rw [hpk] at this
        exact this
      · have es : bytesOf ((lit [27, 91, 50, 48, 49, 126]).extract (0 : Int).toNat m) = E6.take m := by rw [show (0 : Int).toNat = 0 from rfl, bytes_extract, litB]
        have esz : ((lit [27, 91, 50, 48, 49, 126]).extract (0 : Int).toNat m).size ≤ 6 := size_ext
        have ek := keep_eq (S := (lit [27, 91, 50, 48, 49, 126]).extract (0 : Int).toNat m) hpl
        rw [ek, es]
        generalize hS : (lit [27, 91, 50, 48, 49, 126]).extract (0 : Int).toNat m = S at esz
        have esz2 : (S.extract (0 : Int).toNat (gmax 0 (gmin (65542 - ((p.length : Nat) : Int)) (S.size : Int))).toNat).size ≤ S.size := size_ext
        have hp2 : ((p ++ E6.take m).take 65542).length ≤ 65542 := by rw [List.length_take]; omega
        refine g_ck (by omega) (g_i64 (by omega) (g_ck (by rw [gmax_eq, gmin_eq]; omega) (g_ck (by omega) (g_ck (by decide) (g_if (fun h27 => ?_) fun h27 => ?_)))))
        · have h27 : c = 27 := h27
          have hP' := hP.esc hce h27
          refine g_ck (by omega) (g_i64 (by omega) (g_go ⟨by dsimp only; omega, by dsimp only; omega, by dsimp only; rw [List.append_nil]; omega, Bi ++ [c], .pasted _ _ 1 hP' hB', fun r2 => hrun (run_paste hP hP'.no) r2⟩ (by dsimp only; omega)))
        · have h27 : c ≠ 27 := h27
          have hP' := hP.off hce h27
          have eb : bytesOf (strOf [c]) = [c] := bytes_str (byt1' hc)
          have ek2 := keep_eq (S := strOf [c]) hp2
          rw [ek2, eb]
          have sz1 : (strOf [c]).size = 1 := by rw [str_size]; rfl
          generalize hp' : (p ++ E6.take m).take 65542 = p' at hp2 hP'
          have esz3 : ((strOf [c]).extract (0 : Int).toNat (gmax 0 (gmin (65542 - ((p'.length : Nat) : Int)) ((strOf [c]).size : Int))).toNat).size ≤ (strOf [c]).size := size_ext
          refine g_ck (byt1' hc) (g_i64 (by omega) (g_ck (by rw [gmax_eq, gmin_eq]; omega) (g_ck (by omega) (g_ck (by omega) (g_i64 (by omega) (g_go ⟨by dsimp only; omega, by dsimp only; omega, by dsimp only; rw [List.append_nil]; omega, Bi ++ [c], .pasted _ _ 0 hP' hB', fun r2 => hrun (run_paste hP hP'.no) r2⟩ (by dsimp only; omega)))))))
    | typed _ _ _ hw hBy hpl =>
      obtain ⟨w1, w2⟩ := typed_wait hw hBy
      refine g_if (fun hx => by cases hx) fun _ => g_ck (by omega) ?_
      refine g_jn (fun v => ∃ B' ks pa', v = (if pa' = true then ([], true, [], 0, ks) else (B', false, p, m, ks)) ∧ Run (h ++ [c]) false B' pa' ks ∧ ks.length ≤ 32 ∧ (pa' = true → B' = [])) (fun k hk => typed_gives (K := k) hB' (by rw [List.length_append]; simp; omega) (.inr ⟨_, _, rfl, w2⟩) fun B' pa' ks r1 r2 r3 => hk _ ⟨B', ks, pa', rfl, r1, by rw [List.length_append] at r2; simp at r2; omega, r3⟩) ?_
      rintro _ ⟨B', ks, pa', rfl, r1, r2, r3⟩
      cases pa' with
      | true =>
        obtain rfl := r3 rfl
        rw [if_pos (show true = true from rfl)]
        dsimp only
        refine g_ck (by show (_ + ks.length) * 40 ≤ _; omega) (g_i64 (by omega) (g_go ⟨by dsimp only; omega, by dsimp only; omega, by show ((out ++ ks).length : Int) ≤ _; rw [List.length_append]; dsimp only; omega, [], .pasted _ _ 0 .nil (fun x hx => by cases hx), fun r' => hrun r1 r'⟩ (by dsimp only; omega)))
      | false =>
        rw [if_neg (show ¬ false = true by decide)]
        dsimp only
        refine g_ck (by show (_ + ks.length) * 40 ≤ _; omega) (g_i64 (by omega) (g_go ⟨by dsimp only; omega, by dsimp only; omega, by show ((out ++ ks).length : Int) ≤ _; rw [List.length_append]; dsimp only; omega, B', .typed _ _ _ r1.stops (r1.byt hB').1 hpl, fun r' => hrun r1 r'⟩ (by dsimp only; omega)))
  · rintro ⟨h', pa', p', m', out⟩ ⟨B', hr', hrun, hle⟩
    exact g_some ⟨h', p', pa', m', B', rfl, hr', hrun, hle⟩

end Go.Proofs.YtenjkphlbdhaiaaDoor

namespace Go.Proofs.YtenjkphlbdhaiaaDoor
open Go Go.Eng

theorem g10_same {A : List Ky} (hn : A.length ≤ 100000000) : g10 A A = some true := by
  refine g_eq ?_
  unfold g10
  refine g_if (fun h => absurd rfl h) fun _ => g_jn (fun _ => True) (fun k hk => g_bind (g_loop (R := fun o => o = .inr ()) (fun i : Int => 0 ≤ i ∧ i ≤ A.length) (fun i : Int => ((A.length : Int) - i).toNat) ?_ ⟨Int.le_refl _, by omega⟩) ?_) fun _ _ => g_some rfl
  · rintro i ⟨h0, h1⟩
    exact g_if (fun hi => g_ck (by omega) (g_ck (by omega) (g_if (fun h => absurd ⟨rfl, rfl, rfl, Iff.rfl, Iff.rfl, Iff.rfl, trivial⟩ h) fun _ => g_i64 (by omega) (g_go ⟨by omega, by omega⟩ (by omega))))) fun hi => g_out rfl
  · rintro _ rfl
    exact g_sm (fun r hr => by cases hr) (fun _ _ => hk () trivial)
theorem run_stop0 : Run [] false [] false [] := .stop (by unfold st1; rw [if_pos rfl])
theorem rl0 : Rl ([], false, [], 0) [] false := .typed [] [] 0 (by unfold st1; rw [if_pos rfl]) (fun x hx => by cases hx) (Nat.zero_le _)
/-- New, and Feed -/
theorem feed0 {b : List Int} (hb : Byt b) (hn : b.length ≤ 1000000) : Gives (g9 ([], false, [], 0, true) b) fun r => ∃ h' p' pa' m' B', r.2 = (h', pa', p', m', true) ∧ Rl (h', pa', p', m') B' pa' ∧ Run b false B' pa' r.1 ∧ r.1.length ≤ 32 * b.length := g9_gives rl0 hb hn

def right : Ky := (11, ⟨#[]⟩, 0, false, false, true)
theorem sq_right : sq [49, 59, 53] 67 = (right, true) := by
  have hp : Byt [49, 59, 53] := by intro c hc; simp at hc; omega
  obtain ⟨s, es, hs⟩ := g59_gives hp (by decide)
  have hs : s = ([1, 5], true) := hs
  have : g48 [49, 59, 53] 67 = some (right, true) := by
    unfold g48
    rw [es, hs]
    rfl
  unfold sq
  rw [this]; rfl
theorem fs_right : fs [27, 91, 49, 59, 53, 67, 27] = mkF 6 right true false := by
  unfold fs
  rw [if_neg (by decide), if_neg (by decide), if_neg (by decide), if_pos (by decide)]
  unfold brk
  rw [show sc 48 63 [27, 91, 49, 59, 53, 67, 27] 2 = 5 from rfl, show sc 32 47 [27, 91, 49, 59, 53, 67, 27] 5 = 5 from rfl]
  unfold brkAt
  rw [if_neg (by decide), if_neg (by decide), if_neg (by decide), if_neg (by decide)]
  show mkF _ (sq [49, 59, 53] 67).1 (sq [49, 59, 53] 67).2 false = _
  rw [sq_right]
  rfl
theorem fs_esc : (fs [27]).1 = 0 := by
  unfold fs
  rw [if_neg (by decide), if_pos (show ([27] : List Int).length = 1 from rfl)]
  rfl
theorem run_awake : Run [27, 91, 49, 59, 53, 67, 27] false [27] false [right] := by
  have h1 : st1 [27, 91, 49, 59, 53, 67, 27] false = some ([27], false, [right]) := by
    unfold st1
    rw [if_neg (by decide), if_neg (by decide), fs_right, if_neg (by decide)]
    rfl
  refine Run.step (ks' := []) h1 (.stop ?_)
  unfold st1
  rw [if_neg (by decide), if_neg (by decide), if_pos fs_esc]
theorem awake_true : g12 = some true := by
  refine g_eq ?_
  unfold g12
  refine g_bind (feed0 (b := [27, 91, 49, 59, 53, 67, 27]) (by intro c hc; simp at hc; omega) (by decide)) ?_
  rintro ⟨ks, st⟩ ⟨h', p', pa', m', B', e, hr, hrun, _⟩
  obtain ⟨rfl, rfl, rfl⟩ := run_awake.det hrun
  dsimp only at e
  subst e
  cases hr with
  | typed _ _ _ _ _ _ =>
    dsimp only
    have e15 : g15 ([27], false, p', m', true) = some ([(5, ⟨#[]⟩, 0, false, false, false)], ([], false, p', m', true)) := rfl
    refine g_call e15 (g_call (g10_same (by decide)) (g_if (fun _ => g_call (g10_same (by simp)) (g_if (fun _ => ?_) fun h => absurd rfl h)) fun h => absurd rfl h))
    have e11 : g11 ([], false, p', m', true) = some 0 := rfl
    refine g_call e11 (g_if (fun _ => g_ck (by decide) ?_) fun h => absurd rfl h)
    have e21 : g21 (11, ⟨#[]⟩, 0, decide (false = true), decide (false = true), decide (true = true)) = some (lit [99, 116, 108, 45, 114, 105, 103, 104, 116]) := rfl
    exact g_call e21 (g_some (decide_eq_true rfl))

end Go.Proofs.YtenjkphlbdhaiaaDoor

namespace Go.Proofs.YtenjkphlbdhaiaaDoor
open Go Go.Eng

/-- how many bytes wait -/
def wt (B : List Int) (pa : Bool) : Int := if pa = true then min (B.length : Int) 65541 else B.length
theorem waits_eq {h p : List Int} {pa : Bool} {m : Int} {B : List Int} (hr : Rl (h, pa, p, m) B pa) : g11 (h, pa, p, m, true) = some (wt B pa) := by
  refine g_eq ?_
  unfold g11 wt
  refine g_if (fun hx => absurd rfl hx) fun _ => ?_
  cases hr with
  | typed => exact g_if (fun hx => by cases hx) fun _ => g_some rfl
  | pasted _ _ m hP =>
    have hl := hP.len
    have hm := hP.m5
    obtain ⟨C, hC, hp⟩ := hP.C
    have hB : B.length = C.length + m := by rw [hC, List.length_append, List.length_take]; simp [E6]; omega
    have hpl : p.length = min 65542 C.length := by rw [hp, List.length_take]
    refine g_if (fun _ => g_i64 (by dsimp only; omega) (g_some ?_)) fun hx => absurd rfl hx
    rw [gmin_eq, if_pos rfl]
    dsimp only
    omega
theorem split_run {X : List Int} {B pa B1 pa1 ks1 B' pa' ks} {b : List Int} {got : List Ky} {pa0 : Bool} {n : Nat} (hB : Byt B) (hX : Byt X) (r1 : Run (B ++ X.take n) pa B1 pa1 ks1)
    (hrun : ∀ {B' pa' ks}, Run (B ++ X) pa B' pa' ks → Run b pa0 B' pa' (got ++ ks)) (r2 : Run (B1 ++ X.drop n) pa1 B' pa' ks) : Run b pa0 B' pa' ((got ++ ks1) ++ ks) := by
  have := run_app r1 (byt_app hB fun c hc => hX c (List.mem_of_mem_take hc)) r2
  rw [List.append_assoc, List.take_append_drop] at this
  have := hrun this
  rwa [← List.append_assoc] at this

end Go.Proofs.YtenjkphlbdhaiaaDoor

