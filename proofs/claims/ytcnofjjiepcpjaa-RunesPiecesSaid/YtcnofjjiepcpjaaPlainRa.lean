import Derived.Test.YtcnofjjiepcpjaaLiftR1
import Derived.Test.YtcnofjjiepcpjaaEngLd
set_option linter.unusedVariables false
namespace Go.Proofs.Ytcnofjjiepcpjaa
open Go Go.Eng

theorem keep8 : ∀ n : Int, 0 ≤ n → n < 2 ^ 8 → IntKind.u8.wrap n = n := fun n h0 h1 => by rw [IntKind.wrap_u8]; omega
theorem band31 {c : Int} (h0 : 0 ≤ c) (h1 : c ≤ 255) : bits .and .u8 c 31 = c % 32 := bits_mask .u8 8 (by decide) keep8 5 (by decide) c h0 (by omega)
theorem band15 {c : Int} (h0 : 0 ≤ c) (h1 : c ≤ 255) : bits .and .u8 c 15 = c % 16 := bits_mask .u8 8 (by decide) keep8 4 (by decide) c h0 (by omega)
theorem band7 {c : Int} (h0 : 0 ≤ c) (h1 : c ≤ 255) : bits .and .u8 c 7 = c % 8 := bits_mask .u8 8 (by decide) keep8 3 (by decide) c h0 (by omega)
theorem band63 {c : Int} (h0 : 0 ≤ c) (h1 : c ≤ 255) : bits .and .u8 c 63 = c % 64 := bits_mask .u8 8 (by decide) keep8 6 (by decide) c h0 (by omega)

def shMany (c : Int) : Int := if c < 128 then 1 else if c < 194 then 0 else if c < 224 then 2 else if c < 240 then 3 else if c ≤ 244 then 4 else 0
def shLow (c : Int) : Int := if c < 194 then 0 else if c = 224 then 160 else if c = 240 then 144 else if c ≤ 244 then 128 else 0
def shHigh (c : Int) : Int := if c < 194 then 0 else if c = 237 then 159 else if c = 244 then 143 else if c ≤ 244 then 191 else 0
def shBits (c : Int) : Int := if c < 128 then c else if c < 194 then 0 else if c < 224 then c % 32 else if c < 240 then c % 16 else if c ≤ 244 then c % 8 else 0

def nxGo (n : Int) : Nat → Int → Int → Int → List Int → Int × Int × Bool
  | 0, _, _, r, _ => (r, n, false)
  | _ + 1, _, _, _, [] => (0, 0, true)
  | k + 1, lo, hi, r, b :: t => if b < lo ∨ hi < b then (65533, 1, false) else nxGo n k 128 191 (r * 64 + b % 64) t
def nx : List Int → Int × Int × Bool
  | [] => (0, 0, true)
  | c :: t => if shMany c = 0 then (65533, 1, false) else nxGo (shMany c) (shMany c - 1).toNat (shLow c) (shHigh c) (shBits c) t
def Byt (l : List Int) : Prop := ∀ c ∈ l, 0 ≤ c ∧ c ≤ 255
def boundR (i r : Int) : Prop := 0 ≤ r ∧ ((i = 1 ∧ r < 128) ∨ (i = 2 ∧ r < 8192) ∨ (i = 3 ∧ r < 524288) ∨ (i = 4 ∧ r < 33554432))
def okN (l : List Int) (m : Int) (lo hi : Int) (i r : Int) : Prop := 1 ≤ i ∧ i ≤ m ∧ boundR i r ∧ nxGo m (m - i).toNat (if i = 1 then lo else 128) (if i = 1 then hi else 191) r (l.drop i.toNat) = nx l
theorem many_le (c : Int) : 0 ≤ shMany c ∧ shMany c ≤ 4 := by unfold shMany; repeat' split <;> omega
theorem bits_lt (c : Int) (h0 : 0 ≤ c) : 0 ≤ shBits c ∧ shBits c < 128 := by unfold shBits; repeat' split <;> omega
theorem drop_getD {l : List Int} {i : Nat} (h : i < l.length) : l.drop i = l.getD i 0 :: l.drop (i + 1) := by
  rw [List.drop_eq_getElem_cons h]; simp [h]
theorem next_start {c : Int} {t : List Int} (h0 : 0 ≤ c) (h : ¬ shMany c = 0) : okN (c :: t) (shMany c) (shLow c) (shHigh c) 1 (shBits c) := by
  have := many_le c
  have := bits_lt c h0
  refine ⟨by omega, by show 1 ≤ _; omega, ⟨by show 0 ≤ _; omega, .inl ⟨rfl, by show _ < _; omega⟩⟩, ?_⟩
  simp only [nx, if_neg h, if_true]
  rfl
theorem next_none {c : Int} {t : List Int} (h : shMany c = 0) : nx (c :: t) = (65533, 1, false) := by simp [nx, h]
theorem next_end {l : List Int} {m lo hi i r : Int} (h : okN l m lo hi i r) (hi : ¬ i < m) : nx l = (r, m, false) := by
  obtain ⟨h1, h2, h3, h4⟩ := h
  have e : (m - i).toNat = 0 := by omega
  rw [← h4, e]
  rfl
theorem next_short {l : List Int} {m lo hi i r : Int} (h : okN l m lo hi i r) (hi : i < m) (hl : (l.length : Int) ≤ i) : nx l = (0, 0, true) := by
  obtain ⟨h1, h2, h3, h4⟩ := h
  obtain ⟨k, e⟩ : ∃ k, (m - i).toNat = k + 1 := ⟨(m - i).toNat - 1, by omega⟩
  rw [← h4, e, List.drop_eq_nil_of_le (by omega)]
  rfl
theorem next_bad {l : List Int} {m lo hi i r : Int} (h : okN l m lo hi i r) (hi' : i < m) (hl : i < (l.length : Int)) (hb : l.getD i.toNat 0 < (if i = 1 then lo else 128) ∨ (if i = 1 then hi else 191) < l.getD i.toNat 0) : nx l = (65533, 1, false) := by
  obtain ⟨h1, h2, h3, h4⟩ := h
  obtain ⟨k, e⟩ : ∃ k, (m - i).toNat = k + 1 := ⟨(m - i).toNat - 1, by omega⟩
  rw [← h4, e, drop_getD (by omega)]
  simp only [nxGo, if_pos hb]
theorem next_more {l : List Int} (hl0 : Byt l) {m lo hi i r : Int} (hm : m ≤ 4) (h : okN l m lo hi i r) (hi' : i < m) (hl : i < (l.length : Int)) (hb : ¬ (l.getD i.toNat 0 < (if i = 1 then lo else 128) ∨ (if i = 1 then hi else 191) < l.getD i.toNat 0)) :
    okN l m lo hi (i + 1) (bits .or .i32 (IntKind.i32.wrap (r * 64)) (bits .and .u8 (l.getD i.toNat 0) 63)) ∧ (m - (i + 1)).toNat < (m - i).toNat := by
  obtain ⟨h1, h2, h3, h4⟩ := h
  have hb0 : 0 ≤ l.getD i.toNat 0 ∧ l.getD i.toNat 0 ≤ 255 := hl0 _ (by
    have : i.toNat < l.length := by omega
    simp [this])
  obtain ⟨h31, h32⟩ := h3
  have hr : r < 524288 := by omega
  have hw : IntKind.i32.wrap (r * 64) = r * 64 := by rw [IntKind.wrap_i32]; omega
  have he : bits .or .i32 (IntKind.i32.wrap (r * 64)) (bits .and .u8 (l.getD i.toNat 0) 63) = r * 64 + l.getD i.toNat 0 % 64 := by
    rw [band63 hb0.1 hb0.2, hw]
    exact bits_join .i32 31 (by decide) (fun n h0 h1 => by rw [IntKind.wrap_i32]; omega) 6 _ _ (by omega) (by omega) (by omega) (by omega) (by omega) (by omega)
  rw [he]
  obtain ⟨k, e⟩ : ∃ k, (m - i).toNat = k + 1 := ⟨(m - i).toNat - 1, by omega⟩
  refine ⟨⟨by show 1 ≤ i + 1; omega, by show i + 1 ≤ m; omega, ⟨by show 0 ≤ r * 64 + _; omega, ?_⟩, ?_⟩, by omega⟩
  · show (i + 1 = 1 ∧ _) ∨ (i + 1 = 2 ∧ r * 64 + _ < _) ∨ (i + 1 = 3 ∧ r * 64 + _ < _) ∨ (i + 1 = 4 ∧ r * 64 + _ < _)
    omega
  · rw [e, drop_getD (by omega)] at h4
    simp only [nxGo, if_neg hb] at h4
    have e1 : (m - (i + 1)).toNat = k := by omega
    have e2 : (i + 1).toNat = i.toNat + 1 := by omega
    have e3 : ¬ i + 1 = 1 := by omega
    simp only [e1, e2, if_neg e3]
    exact h4
theorem g57_eq {c : Int} (h0 : 0 ≤ c) (h1 : c ≤ 255) : g57 c = some (shMany c, shLow c, shHigh c, shBits c) := by
  refine g_eq ?_
  unfold g57
  have b31 := band31 h0 h1; have b15 := band15 h0 h1; have b7 := band7 h0 h1
  simp only [shMany, shLow, shHigh, shBits, b31, b15, b7]
  repeat' (first | with_reducible refine g_if (fun _ => ?_) (fun _ => ?_) | refine g_i32 (by omega) ?_)
  all_goals
    refine g_some ?_
    simp only [Prod.mk.injEq]
    refine ⟨?_, ?_, ?_, ?_⟩ <;> (repeat' split) <;> omega
theorem g15_eq {l : List Int} (hl : Byt l) (hn : l.length ≤ 1000000) : g15 l = some (nx l) := by
  refine g_eq ?_
  unfold g15
  rcases l with _ | ⟨c, t⟩
  · exact g_t (by simp) (g_some rfl)
  have hc := hl c (by simp)
  refine g_f (by simp only [List.length_cons]; omega) (g_ck (by simp only [List.length_cons]; omega) ?_)
  have e0 : (c :: t).getD (0 : Int).toNat 0 = c := rfl
  rw [e0]
  refine g_call (g57_eq hc.1 hc.2) ?_
  dsimp only
  refine g_if (fun h => g_some (next_none h).symm) fun h => ?_
  have hm := many_le c
  refine g_jo (g_bind (g_loop (R := fun o => (∃ v, o = .inl v ∧ v = nx (c :: t)) ∨ ∃ r, o = .inr r ∧ (r, shMany c, false) = nx (c :: t)) (fun s => okN (c :: t) (shMany c) (shLow c) (shHigh c) s.2 s.1) (fun s => (shMany c - s.2).toNat) ?_ (next_start hc.1 h)) ?_)
  · rintro ⟨r, i⟩ hs
    dsimp only at hs ⊢
    refine g_if (fun hi => g_if (fun hs2 => g_out (.inl ⟨_, rfl, (next_short hs hi hs2).symm⟩)) fun hs2 => ?_) fun hi => g_out (.inr ⟨_, rfl, (next_end hs hi).symm⟩)
    have hi1 : 1 ≤ i := hs.1
    have hbyt : 0 ≤ (c :: t).getD i.toNat 0 ∧ (c :: t).getD i.toNat 0 ≤ 255 := hl _ (by
      have : i.toNat < (c :: t).length := by omega
      simp only [List.getD_eq_getElem?_getD, List.getElem?_eq_getElem this, Option.getD_some]
      exact List.getElem_mem _)
    refine g_jn (fun v => v = (if i = 1 then shLow c else 128, if i = 1 then shHigh c else 191)) (fun k hk => g_if (fun e => hk _ (by rw [if_pos e, if_pos e])) fun e => hk _ (by rw [if_neg e, if_neg e])) ?_
    rintro _ rfl
    dsimp only
    refine g_ck (by omega) (g_if (fun hb => g_out (.inl ⟨_, rfl, (next_bad hs hi (by omega) (.inl hb)).symm⟩)) fun hb => g_ck (by omega) (g_if (fun hb' => g_out (.inl ⟨_, rfl, (next_bad hs hi (by omega) (.inr hb')).symm⟩)) fun hb' => ?_))
    refine g_ck (by omega) (g_i32 ?_ (g_i64 (by omega) ?_))
    · rw [band63 hbyt.1 hbyt.2]; omega
    · obtain ⟨n1, n2⟩ := next_more hl (by omega) hs hi (by omega) (fun hh => hh.elim hb hb')
      exact g_go n1 n2
  · intro o ho
    refine g_sm (fun v hv => ?_) fun r hr => ?_
    · rcases ho with ⟨v', e, h'⟩ | ⟨v', e, h'⟩ <;> rw [e] at hv <;> cases hv
      exact g_some h'
    · rcases ho with ⟨v', e, h'⟩ | ⟨v', e, h'⟩ <;> rw [e] at hr <;> cases hr
      exact g_some h'
end Go.Proofs.Ytcnofjjiepcpjaa
