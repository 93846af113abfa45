/-
  Texts that the law leans on. Nothing here is trusted.
-/
import Derived.Test.YtenjkphlbdhaiaaEU1
import Derived.Test.YtenjkphlbdhaiaaEngLd
import Derived.Test.YtenjkphlbdhaiaaEU2
import Derived.Test.YtenjkphlbdhaiaaEU5
set_option linter.unusedVariables false
set_option linter.unusedSimpArgs false
section
namespace Go.Proofs.Ytenjkphlbdhaiaa
open Go Go.Eng
theorem keep8 : ∀ n : Int, 0 ≤ n → n < 2 ^ 8 → IntKind.u8.wrap n = n := fun n h0 h1 => by rw [IntKind.wrap_u8]; omega
theorem band31 {c : Int} (h0 : 0 ≤ c) (h1 : c ≤ 255) : bits .and .u8 c 31 = c % 32 := bits_mask .u8 8 (by decide) keep8 5 (by decide) c h0 (by omega)
theorem band15 {c : Int} (h0 : 0 ≤ c) (h1 : c ≤ 255) : bits .and .u8 c 15 = c % 16 := bits_mask .u8 8 (by decide) keep8 4 (by decide) c h0 (by omega)
theorem band7 {c : Int} (h0 : 0 ≤ c) (h1 : c ≤ 255) : bits .and .u8 c 7 = c % 8 := bits_mask .u8 8 (by decide) keep8 3 (by decide) c h0 (by omega)
theorem band63 {c : Int} (h0 : 0 ≤ c) (h1 : c ≤ 255) : bits .and .u8 c 63 = c % 64 := bits_mask .u8 8 (by decide) keep8 6 (by decide) c h0 (by omega)
def shMany (c : Int) : Int := if c < 128 then 1 else if c < 194 then 0 else if c < 224 then 2 else if c < 240 then 3 else if c ≤ 244 then 4 else 0
def shLow (c : Int) : Int := if c < 194 then 0 else if c = 224 then 160 else if c = 240 then 144 else if c ≤ 244 then 128 else 0
def shHigh (c : Int) : Int := if c < 194 then 0 else if c = 237 then 159 else if c = 244 then 143 else if c ≤ 244 then 191 else 0
def shBits (c : Int) : Int := if c < 128 then c else if c < 194 then 0 else if c < 224 then c % 32 else if c < 240 then c % 16 else if c ≤ 244 then c % 8 else 0
def nxGo (n : Int) : Nat → Int → Int → Int → List Int → Int × Int × Bool
  | 0, _, _, r, _ => (r, n, false)
  | _ + 1, _, _, _, [] => (0, 0, true)
  | k + 1, lo, hi, r, b :: t => if b < lo ∨ hi < b then (65533, 1, false) else nxGo n k 128 191 (r * 64 + b % 64) t
def nx : List Int → Int × Int × Bool
  | [] => (0, 0, true)
  | c :: t => if shMany c = 0 then (65533, 1, false) else nxGo (shMany c) (shMany c - 1).toNat (shLow c) (shHigh c) (shBits c) t
def Byt (l : List Int) : Prop := ∀ c ∈ l, 0 ≤ c ∧ c ≤ 255
def boundR (i r : Int) : Prop := 0 ≤ r ∧ ((i = 1 ∧ r < 128) ∨ (i = 2 ∧ r < 8192) ∨ (i = 3 ∧ r < 524288) ∨ (i = 4 ∧ r < 33554432))
def okN (l : List Int) (m : Int) (lo hi : Int) (i r : Int) : Prop := 1 ≤ i ∧ i ≤ m ∧ boundR i r ∧ nxGo m (m - i).toNat (if i = 1 then lo else 128) (if i = 1 then hi else 191) r (l.drop i.toNat) = nx l
theorem many_le (c : Int) : 0 ≤ shMany c ∧ shMany c ≤ 4 := by unfold shMany; repeat' split <;> omega
theorem bits_lt (c : Int) (h0 : 0 ≤ c) : 0 ≤ shBits c ∧ shBits c < 128 := by unfold shBits; repeat' split <;> omega
theorem drop_getD {l : List Int} {i : Nat} (h : i < l.length) : l.drop i = l.getD i 0 :: l.drop (i + 1) := by
  rw [List.drop_eq_getElem_cons h]; simp [h]
theorem next_start {c : Int} {t : List Int} (h0 : 0 ≤ c) (h : ¬ shMany c = 0) : okN (c :: t) (shMany c) (shLow c) (shHigh c) 1 (shBits c) := by
  have := many_le c
  have := bits_lt c h0
  refine ⟨by omega, by show 1 ≤ _; omega, ⟨by show 0 ≤ _; omega, .inl ⟨rfl, by show _ < _; omega⟩⟩, ?_⟩
  simp only [nx, if_neg h, if_true]
  rfl
theorem next_none {c : Int} {t : List Int} (h : shMany c = 0) : nx (c :: t) = (65533, 1, false) := by simp [nx, h]
theorem next_end {l : List Int} {m lo hi i r : Int} (h : okN l m lo hi i r) (hi : ¬ i < m) : nx l = (r, m, false) := by
  obtain ⟨h1, h2, h3, h4⟩ := h
  have e : (m - i).toNat = 0 := by omega
  rw [← h4, e]
  rfl
theorem next_short {l : List Int} {m lo hi i r : Int} (h : okN l m lo hi i r) (hi : i < m) (hl : (l.length : Int) ≤ i) : nx l = (0, 0, true) := by
  obtain ⟨h1, h2, h3, h4⟩ := h
  obtain ⟨k, e⟩ : ∃ k, (m - i).toNat = k + 1 := ⟨(m - i).toNat - 1, by omega⟩
  rw [← h4, e, List.drop_eq_nil_of_le (by omega)]
  rfl
theorem next_bad {l : List Int} {m lo hi i r : Int} (h : okN l m lo hi i r) (hi' : i < m) (hl : i < (l.length : Int)) (hb : l.getD i.toNat 0 < (if i = 1 then lo else 128) ∨ (if i = 1 then hi else 191) < l.getD i.toNat 0) : nx l = (65533, 1, false) := by
  obtain ⟨h1, h2, h3, h4⟩ := h
  obtain ⟨k, e⟩ : ∃ k, (m - i).toNat = k + 1 := ⟨(m - i).toNat - 1, by omega⟩
  rw [← h4, e, drop_getD (by omega)]
  simp only [nxGo, if_pos hb]
theorem next_more {l : List Int} (hl0 : Byt l) {m lo hi i r : Int} (hm : m ≤ 4) (h : okN l m lo hi i r) (hi' : i < m) (hl : i < (l.length : Int)) (hb : ¬ (l.getD i.toNat 0 < (if i = 1 then lo else 128) ∨ (if i = 1 then hi else 191) < l.getD i.toNat 0)) :
    okN l m lo hi (i + 1) (bits .or .i32 (IntKind.i32.wrap (r * 64)) (bits .and .u8 (l.getD i.toNat 0) 63)) ∧ (m - (i + 1)).toNat < (m - i).toNat := by
  obtain ⟨h1, h2, h3, h4⟩ := h
  have hb0 : 0 ≤ l.getD i.toNat 0 ∧ l.getD i.toNat 0 ≤ 255 := hl0 _ (by
    have : i.toNat < l.length := by omega
    simp [this])
  obtain ⟨h31, h32⟩ := h3
  have hr : r < 524288 := by omega
  have hw : IntKind.i32.wrap (r * 64) = r * 64 := by rw [IntKind.wrap_i32]; omega
  have he : bits .or .i32 (IntKind.i32.wrap (r * 64)) (bits .and .u8 (l.getD i.toNat 0) 63) = r * 64 + l.getD i.toNat 0 % 64 := by
    rw [band63 hb0.1 hb0.2, hw]
    exact bits_join .i32 31 (by decide) (fun n h0 h1 => by rw [IntKind.wrap_i32]; omega) 6 _ _ (by omega) (by omega) (by omega) (by omega) (by omega) (by omega)
  rw [he]
  obtain ⟨k, e⟩ : ∃ k, (m - i).toNat = k + 1 := ⟨(m - i).toNat - 1, by omega⟩
  refine ⟨⟨by show 1 ≤ i + 1; omega, by show i + 1 ≤ m; omega, ⟨by show 0 ≤ r * 64 + _; omega, ?_⟩, ?_⟩, by omega⟩
  · show (i + 1 = 1 ∧ _) ∨ (i + 1 = 2 ∧ r * 64 + _ < _) ∨ (i + 1 = 3 ∧ r * 64 + _ < _) ∨ (i + 1 = 4 ∧ r * 64 + _ < _)
    omega
  · rw [e, drop_getD (by omega)] at h4
    simp only [nxGo, if_neg hb] at h4
    have e1 : (m - (i + 1)).toNat = k := by omega
    have e2 : (i + 1).toNat = i.toNat + 1 := by omega
    have e3 : ¬ i + 1 = 1 := by omega
    simp only [e1, e2, if_neg e3]
    exact h4
theorem g134_eq {c : Int} (h0 : 0 ≤ c) (h1 : c ≤ 255) : g134 c = some (shMany c, shLow c, shHigh c, shBits c) := by
  refine g_eq ?_
  unfold g134
  have b31 := band31 h0 h1; have b15 := band15 h0 h1; have b7 := band7 h0 h1
  simp only [shMany, shLow, shHigh, shBits, b31, b15, b7]
  repeat' (first | with_reducible refine g_if (fun _ => ?_) (fun _ => ?_) | refine g_i32 (by omega) ?_)
  all_goals
    refine g_some ?_
    simp only [Prod.mk.injEq]
    refine ⟨?_, ?_, ?_, ?_⟩ <;> (repeat' split) <;> omega
theorem g131_eq {l : List Int} (hl : Byt l) (hn : l.length ≤ 1000000) : g131 l = some (nx l) := by
  refine g_eq ?_
  unfold g131
  rcases l with _ | ⟨c, t⟩
  · exact g_t (by simp) (g_some rfl)
  have hc := hl c (by simp)
  refine g_f (by simp only [List.length_cons]; omega) (g_ck (by simp only [List.length_cons]; omega) ?_)
  have e0 : (c :: t).getD (0 : Int).toNat 0 = c := rfl
  rw [e0]
  refine g_call (g134_eq hc.1 hc.2) ?_
  dsimp only
  refine g_if (fun h => g_some (next_none h).symm) fun h => ?_
  have hm := many_le c
  refine g_jo (g_bind (g_loop (R := fun o => (∃ v, o = .inl v ∧ v = nx (c :: t)) ∨ ∃ r, o = .inr r ∧ (r, shMany c, false) = nx (c :: t)) (fun s => okN (c :: t) (shMany c) (shLow c) (shHigh c) s.2 s.1) (fun s => (shMany c - s.2).toNat) ?_ (next_start hc.1 h)) ?_)
  · rintro ⟨r, i⟩ hs
    dsimp only at hs ⊢
    refine g_if (fun hi => g_if (fun hs2 => g_out (.inl ⟨_, rfl, (next_short hs hi hs2).symm⟩)) fun hs2 => ?_) fun hi => g_out (.inr ⟨_, rfl, (next_end hs hi).symm⟩)
    have hi1 : 1 ≤ i := hs.1
    have hbyt : 0 ≤ (c :: t).getD i.toNat 0 ∧ (c :: t).getD i.toNat 0 ≤ 255 := hl _ (by
      have : i.toNat < (c :: t).length := by omega
      simp only [List.getD_eq_getElem?_getD, List.getElem?_eq_getElem this, Option.getD_some]
      exact List.getElem_mem _)
    refine g_jn (fun v => v = (if i = 1 then shLow c else 128, if i = 1 then shHigh c else 191)) (fun k hk => g_if (fun e => hk _ (by rw [if_pos e, if_pos e])) fun e => hk _ (by rw [if_neg e, if_neg e])) ?_
    rintro _ rfl
    dsimp only
    refine g_ck (by omega) (g_if (fun hb => g_out (.inl ⟨_, rfl, (next_bad hs hi (by omega) (.inl hb)).symm⟩)) fun hb => g_ck (by omega) (g_if (fun hb' => g_out (.inl ⟨_, rfl, (next_bad hs hi (by omega) (.inr hb')).symm⟩)) fun hb' => ?_))
    refine g_ck (by omega) (g_i32 ?_ (g_i64 (by omega) ?_))
    · rw [band63 hbyt.1 hbyt.2]; omega
    · obtain ⟨n1, n2⟩ := next_more hl (by omega) hs hi (by omega) (fun hh => hh.elim hb hb')
      exact g_go n1 n2
  · intro o ho
    refine g_sm (fun v hv => ?_) fun r hr => ?_
    · rcases ho with ⟨v', e, h'⟩ | ⟨v', e, h'⟩ <;> rw [e] at hv <;> cases hv
      exact g_some h'
    · rcases ho with ⟨v', e, h'⟩ | ⟨v', e, h'⟩ <;> rw [e] at hr <;> cases hr
      exact g_some h'
end Go.Proofs.Ytenjkphlbdhaiaa
namespace Go.Proofs.Ytenjkphlbdhaiaa
open Go Go.Eng
def tl (l : List Int) : Bool := l.tail.all fun c => decide (128 ≤ c) && decide (c ≤ 191)
def heads : List Int := [0, 0, 192, 224, 240]
def numF (r b : Int) : Int := r * 64 + b % 64
def numR (l : List Int) : Int := if l.length < 2 ∨ 4 < l.length then l.headD 0 else l.tail.foldl numF (l.headD 0 - heads.getD l.length 0)
def froms : List Int := [0, 0, 128, 2048, 65536]
def fillL (l : List Int) (k : Nat) (x : Int) : List Int := l ++ List.replicate k x
def bgN (l : List Int) : Nat := (shMany (l.headD 0)).toNat - l.length
def bg (l : List Int) : Prop := (l.length : Int) ≤ shMany (l.headD 0) ∧ tl l = true ∧ froms.getD (shMany (l.headD 0)).toNat 0 ≤ numR (fillL l (bgN l) 191) ∧ numR (fillL l (bgN l) 128) ≤ 1114111 ∧ (numR (fillL l (bgN l) 128) < 55296 ∨ 57343 < numR (fillL l (bgN l) 191))
instance (l : List Int) : Decidable (bg l) := by unfold bg; infer_instance
theorem sh_cases (c : Int) (h0 : 0 ≤ c) (h1 : c ≤ 255) : (c < 128 ∧ shMany c = 1) ∨ (((128 ≤ c ∧ c < 194) ∨ 245 ≤ c) ∧ shMany c = 0) ∨ (194 ≤ c ∧ c < 224 ∧ shMany c = 2) ∨ (224 ≤ c ∧ c < 240 ∧ shMany c = 3) ∨ (240 ≤ c ∧ c ≤ 244 ∧ shMany c = 4) := by
  unfold shMany
  repeat' split <;> omega
end Go.Proofs.Ytenjkphlbdhaiaa
namespace Go.Proofs.Ytenjkphlbdhaiaa
open Go Go.Eng
def isR (r : Int) : Prop := 0 ≤ r ∧ r ≤ 1114111 ∧ (r < 55296 ∨ 57343 < r)
instance (r : Int) : Decidable (isR r) := by unfold isR; infer_instance
theorem g128_eq (r : Int) : g128 r = some (decide (isR r)) := by
  refine g_eq ?_
  unfold g128
  refine g_if (fun a => g_if (fun b => g_if (fun c => g_some ?_) fun c => g_some ?_) fun b => g_some ?_) fun a => g_some ?_
  · rw [eq_comm, decide_eq_true_eq]; exact ⟨a, b, .inl c⟩
  · rw [decide_eq_decide]; exact ⟨fun x => ⟨a, b, .inr x⟩, fun x => x.2.2.resolve_left c⟩
  · rw [eq_comm, decide_eq_false_iff_not]; exact fun x => b x.2.1
  · rw [eq_comm, decide_eq_false_iff_not]; exact fun x => a x.1
def norm (r : Int) : Int := if isR r then r else 65533
theorem norm_r (r : Int) : isR (norm r) := by
  unfold norm
  split
  · assumption
  · exact ⟨by omega, by omega, .inr (by omega)⟩
def enc (v : Int) : List Int :=
  if v < 128 then [v] else if v < 2048 then [192 + v / 64, 128 + v % 64] else if v < 65536 then [224 + v / 4096, 128 + v / 64 % 64, 128 + v % 64] else [240 + v / 262144, 128 + v / 4096 % 64, 128 + v / 64 % 64, 128 + v % 64]
theorem bor8 (x y : Int) (i : Nat) (hx₀ : 0 ≤ x) (hx : x % 2 ^ i = 0) (hx₁ : x < 256) (hy₀ : 0 ≤ y) (hy : y < 2 ^ i) (hy₁ : y < 256) : bits .or .u8 x y = x + y := bits_join .u8 8 (by decide) keep8 i x y hx₀ hx hx₁ hy₀ hy hy₁
theorem wrap8 (n : Int) : IntKind.u8.wrap n = n % 256 := by rw [IntKind.wrap_u8]
theorem tailB (x : Int) : bits .or .u8 128 (bits .and .u8 (IntKind.u8.wrap x) 63) = 128 + x % 64 := by
  rw [wrap8, band63 (by omega) (by omega), bor8 128 _ 6 (by omega) (by omega) (by omega) (by omega) (by omega) (by omega)]
  omega
theorem g129_0 (v : Int) : g129 v 0 = some (128 + v % 64) := by
  refine g_eq ?_
  unfold g129
  refine g_ck (by decide) (g_some ?_)
  rw [tailB]
  simp
theorem g129_6 (v : Int) : g129 v 6 = some (128 + v / 64 % 64) := by
  refine g_eq ?_
  unfold g129
  refine g_ck (by decide) (g_some ?_)
  rw [tailB]
  rfl
theorem g129_12 (v : Int) : g129 v 12 = some (128 + v / 4096 % 64) := by
  refine g_eq ?_
  unfold g129
  refine g_ck (by decide) (g_some ?_)
  rw [tailB]
  rfl
theorem g119_eq (r : Int) : g119 r = some (enc (norm r)) := by
  refine g_eq ?_
  unfold g119
  refine g_jn (fun v => v = norm r) (fun k hk => g_call (g128_eq r) (g_if (fun h => hk _ (by unfold norm; rw [if_neg (by simpa using h)])) fun h => hk _ (by unfold norm; rw [if_pos (by simpa using h)]))) ?_
  rintro _ rfl
  obtain ⟨h0, h1, h2⟩ := norm_r r
  generalize norm r = v at *
  unfold enc
  have p6 : (2 : Int) ^ (6 : Int).toNat = 64 := rfl
  have p12 : (2 : Int) ^ (12 : Int).toNat = 4096 := rfl
  have p18 : (2 : Int) ^ (18 : Int).toNat = 262144 := rfl
  refine g_if (fun a => g_some ?_) fun a => g_if (fun b => g_call (g129_0 v) (g_some ?_)) fun b => g_if (fun c => g_call (g129_6 v) (g_call (g129_0 v) (g_some ?_))) fun c => g_call (g129_12 v) (g_call (g129_6 v) (g_call (g129_0 v) (g_some ?_)))
  · rw [if_pos a, wrap8]
    congr 1; omega
  · rw [if_neg a, if_pos b, wrap8, p6, bor8 192 _ 6 (by omega) (by omega) (by omega) (by omega) (by omega) (by omega)]
    congr 1; omega
  · rw [if_neg a, if_neg b, if_pos c, wrap8, p12, bor8 224 _ 4 (by omega) (by omega) (by omega) (by omega) (by omega) (by omega)]
    congr 1; omega
  · rw [if_neg a, if_neg b, if_neg c, wrap8, p18, bor8 240 _ 3 (by omega) (by omega) (by omega) (by omega) (by omega) (by omega)]
    congr 1; omega
theorem enc_byt {v : Int} (h : isR v) : Byt (enc v) := by
  obtain ⟨h0, h1, h2⟩ := h
  unfold enc
  intro c hc
  repeat' split at hc
  all_goals simp only [List.mem_cons, List.not_mem_nil, or_false] at hc; omega
theorem enc_len {v : Int} : 1 ≤ (enc v).length ∧ (enc v).length ≤ 4 := by
  unfold enc
  repeat' split
  all_goals simp
theorem nx_enc {v : Int} (h : isR v) (t : List Int) : nx (enc v ++ t) = (v, ((enc v).length : Int), false) := by
  obtain ⟨h0, h1, h2⟩ := h
  unfold enc
  split
  · rename_i a
    have e1 : shMany v = 1 := by simp only [shMany]; rw [if_pos a]
    have e2 : shBits v = v := by simp only [shBits]; rw [if_pos a]
    simp [nx, e1, e2, nxGo]
  split
  · rename_i a b
    have e1 : shMany (192 + v / 64) = 2 := by simp only [shMany]; repeat' split <;> omega
    have e2 : shBits (192 + v / 64) = v / 64 := by simp only [shBits]; repeat' split <;> omega
    have e3 : shLow (192 + v / 64) = 128 := by simp only [shLow]; repeat' split <;> omega
    have e4 : shHigh (192 + v / 64) = 191 := by simp only [shHigh]; repeat' split <;> omega
    simp only [nx, e1, e2, e3, e4, nxGo, List.cons_append, List.nil_append, show (2 - 1 : Int).toNat = 1 from rfl]
    rw [if_neg (by omega), if_neg (by omega)]
    simp
    omega
  split
  · rename_i a b c
    have e1 : shMany (224 + v / 4096) = 3 := by simp only [shMany]; repeat' split <;> omega
    have e2 : shBits (224 + v / 4096) = v / 4096 := by simp only [shBits]; repeat' split <;> omega
    have e3 : shLow (224 + v / 4096) ≤ 128 + v / 64 % 64 := by simp only [shLow]; repeat' split <;> omega
    have e4 : 128 + v / 64 % 64 ≤ shHigh (224 + v / 4096) := by simp only [shHigh]; repeat' split <;> omega
    simp only [nx, e1, e2, nxGo, List.cons_append, List.nil_append, show (3 - 1 : Int).toNat = 2 from rfl]
    rw [if_neg (by omega), if_neg (by omega), if_neg (by omega)]
    simp
    omega
  · rename_i a b c
    have e1 : shMany (240 + v / 262144) = 4 := by simp only [shMany]; repeat' split <;> omega
    have e2 : shBits (240 + v / 262144) = v / 262144 := by simp only [shBits]; repeat' split <;> omega
    have e3 : shLow (240 + v / 262144) ≤ 128 + v / 4096 % 64 := by simp only [shLow]; repeat' split <;> omega
    have e4 : 128 + v / 4096 % 64 ≤ shHigh (240 + v / 262144) := by simp only [shHigh]; repeat' split <;> omega
    simp only [nx, e1, e2, nxGo, List.cons_append, List.nil_append, show (4 - 1 : Int).toNat = 3 from rfl]
    rw [if_neg (by omega), if_neg (by omega), if_neg (by omega), if_neg (by omega)]
    simp
    omega
end Go.Proofs.Ytenjkphlbdhaiaa
namespace Go.Proofs.Ytenjkphlbdhaiaa
open Go Go.Eng
theorem drop_byt {l : List Int} (h : Byt l) {n : Nat} : Byt (l.drop n) := fun c hc => h c (List.mem_of_mem_drop hc)
theorem nx_inv {l : List Int} (hl : Byt l) {r n : Int} (h : nx l = (r, n, false)) : (r = 65533 ∧ n = 1 ∧ 1 ≤ l.length) ∨ (isR r ∧ l = enc r ++ l.drop n.toNat ∧ n = ((enc r).length : Int)) := by
  cases l with
  | nil => simp [nx] at h
  | cons c t =>
    have hc := hl c List.mem_cons_self
    rcases sh_cases c hc.1 hc.2 with ⟨a, e⟩ | ⟨a, e⟩ | ⟨a, a', e⟩ | ⟨a, a', e⟩ | ⟨a, a', e⟩
    · have e2 : shBits c = c := by simp only [shBits]; rw [if_pos a]
      simp [nx, e, e2, nxGo] at h
      obtain ⟨rfl, rfl⟩ := h
      right
      refine ⟨⟨by omega, by omega, .inl (by omega)⟩, ?_, ?_⟩
      · unfold enc; rw [if_pos a]; rfl
      · unfold enc; rw [if_pos a]; rfl
    · simp [nx, e] at h
      obtain ⟨rfl, rfl⟩ := h
      exact .inl ⟨rfl, rfl, by simp⟩
    · have e2 : shBits c = c % 32 := by simp only [shBits]; repeat' split <;> omega
      have e3 : shLow c = 128 := by simp only [shLow]; repeat' split <;> omega
      have e4 : shHigh c = 191 := by simp only [shHigh]; repeat' split <;> omega
      cases t with
      | nil => simp [nx, e, nxGo] at h
      | cons d t =>
        have hd := hl d (by simp)
        simp only [nx, e, e2, e3, e4, nxGo, show (2 - 1 : Int).toNat = 1 from rfl] at h
        rw [if_neg (by omega)] at h
        split at h
        · cases h; exact .inl ⟨rfl, rfl, by simp⟩
        · cases h
          right
          have q : enc (c % 32 * 64 + d % 64) = [c, d] := by
            unfold enc
            rw [if_neg (by omega), if_pos (by omega)]
            congr 1
            · omega
            · congr 1; omega
          exact ⟨⟨by omega, by omega, .inl (by omega)⟩, by rw [q]; rfl, by rw [q]; rfl⟩
    · have e2 : shBits c = c % 16 := by simp only [shBits]; repeat' split <;> omega
      have e3 : (c = 224 ∧ shLow c = 160) ∨ (c ≠ 224 ∧ shLow c = 128) := by simp only [shLow]; repeat' split <;> omega
      have e4 : (c = 237 ∧ shHigh c = 159) ∨ (c ≠ 237 ∧ shHigh c = 191) := by simp only [shHigh]; repeat' split <;> omega
      cases t with
      | nil => simp [nx, e, nxGo] at h
      | cons d t =>
        have hd := hl d (by simp)
        simp only [nx, e, e2, nxGo, show (3 - 1 : Int).toNat = 2 from rfl] at h
        rw [if_neg (by omega)] at h
        split at h
        · cases h; exact .inl ⟨rfl, rfl, by simp⟩
        · cases t with
          | nil => simp [nxGo] at h
          | cons f t =>
            have hf := hl f (by simp)
            simp only [nxGo] at h
            split at h
            · cases h; exact .inl ⟨rfl, rfl, by simp⟩
            · cases h
              right
              have q : enc ((c % 16 * 64 + d % 64) * 64 + f % 64) = [c, d, f] := by
                unfold enc
                rw [if_neg (by omega), if_neg (by omega), if_pos (by omega)]
                congr 1
                · omega
                · congr 1
                  · omega
                  · congr 1; omega
              exact ⟨⟨by omega, by omega, by omega⟩, by rw [q]; rfl, by rw [q]; rfl⟩
    · have e2 : shBits c = c % 8 := by simp only [shBits]; repeat' split <;> omega
      have e3 : (c = 240 ∧ shLow c = 144) ∨ (c ≠ 240 ∧ shLow c = 128) := by simp only [shLow]; repeat' split <;> omega
      have e4 : (c = 244 ∧ shHigh c = 143) ∨ (c ≠ 244 ∧ shHigh c = 191) := by simp only [shHigh]; repeat' split <;> omega
      cases t with
      | nil => simp [nx, e, nxGo] at h
      | cons d t =>
        have hd := hl d (by simp)
        simp only [nx, e, e2, nxGo, show (4 - 1 : Int).toNat = 3 from rfl] at h
        rw [if_neg (by omega)] at h
        split at h
        · cases h; exact .inl ⟨rfl, rfl, by simp⟩
        · cases t with
          | nil => simp [nxGo] at h
          | cons f t =>
            have hf := hl f (by simp)
            simp only [nxGo] at h
            split at h
            · cases h; exact .inl ⟨rfl, rfl, by simp⟩
            · cases t with
              | nil => simp [nxGo] at h
              | cons g t =>
                have hg := hl g (by simp)
                simp only [nxGo] at h
                split at h
                · cases h; exact .inl ⟨rfl, rfl, by simp⟩
                · cases h
                  right
                  have q : enc (((c % 8 * 64 + d % 64) * 64 + f % 64) * 64 + g % 64) = [c, d, f, g] := by
                    unfold enc
                    rw [if_neg (by omega), if_neg (by omega), if_neg (by omega)]
                    congr 1
                    · omega
                    · congr 1
                      · omega
                      · congr 1
                        · omega
                        · congr 1; omega
                  exact ⟨⟨by omega, by omega, by omega⟩, by rw [q]; rfl, by rw [q]; rfl⟩
def stp (l : List Int) : Int × Int := if (nx l).2.2 = true then (65533, 1) else ((nx l).1, (nx l).2.1)
theorem stp_pos {l : List Int} (hl : Byt l) : isR (stp l).1 ∧ 1 ≤ (stp l).2 ∧ (stp l).2 ≤ 4 ∧ (1 ≤ l.length → (stp l).2 ≤ l.length) := by
  have hb : isR 65533 := ⟨by omega, by omega, .inr (by omega)⟩
  unfold stp
  by_cases h : (nx l).2.2 = true
  · rw [if_pos h]; exact ⟨hb, by simp, by simp, fun h => by dsimp only; omega⟩
  · rw [if_neg h]
    have e : nx l = ((nx l).1, (nx l).2.1, false) := by
      have : (nx l).2.2 = false := by simpa using h
      rw [← this]
    rcases nx_inv hl e with ⟨h1, h2, h3⟩ | ⟨h1, h2, h3⟩
    · dsimp only
      rw [h1, h2]
      exact ⟨hb, by omega, by omega, fun h => by omega⟩
    · have := enc_len (v := (nx l).1)
      have hlen := congrArg List.length h2
      rw [List.length_append, List.length_drop] at hlen
      dsimp only
      exact ⟨h1, by omega, by omega, fun h => by omega⟩
def ps (l : List Int) : Nat → Nat
  | 0 => 0
  | k + 1 => ps l k + (stp (l.drop (ps l k))).2.toNat
def rn (l : List Int) (k : Nat) : Int := (stp (l.drop (ps l k))).1
def rs (l : List Int) (k : Nat) : List Int := (List.range k).map (rn l)
theorem rs_succ (l : List Int) (k : Nat) : rs l (k + 1) = rs l k ++ [rn l k] := by simp [rs, List.range_succ]
theorem rs_len (l : List Int) (k : Nat) : (rs l k).length = k := by simp [rs]
theorem rn_R {l : List Int} (hl : Byt l) (k : Nat) : isR (rn l k) := (stp_pos (drop_byt hl)).1
theorem ps_step {l : List Int} (hl : Byt l) (k : Nat) : ps l k < ps l (k + 1) ∧ ps l (k + 1) ≤ ps l k + 4 ∧ (ps l k < l.length → ps l (k + 1) ≤ l.length) := by
  have h := stp_pos (drop_byt hl (n := ps l k))
  rw [ps]
  refine ⟨by omega, by omega, fun hk => ?_⟩
  have := h.2.2.2 (by rw [List.length_drop]; omega)
  rw [List.length_drop] at this
  omega
theorem ps_lt {l : List Int} (hl : Byt l) : ∀ (j i : Nat), ps l i + j ≤ ps l (i + j)
  | 0, i => Nat.le_refl _
  | j + 1, i => by
    have := ps_lt hl j i
    have := (ps_step hl (i + j)).1
    rw [show i + (j + 1) = (i + j) + 1 by omega]
    omega
theorem ps_ge {l : List Int} (hl : Byt l) (k : Nat) : k ≤ ps l k := by have := ps_lt hl k 0; simp [ps] at this; omega
theorem ps_mono {l : List Int} (hl : Byt l) {i k : Nat} (h : i < k) : ps l i < ps l k := by have := ps_lt hl (k - i) i; rw [show i + (k - i) = k by omega] at this; omega
theorem ps_inj {l : List Int} (hl : Byt l) {i k : Nat} (h : ps l i = ps l k) : i = k := by
  have a : ¬ i < k := fun q => by have := ps_mono hl q; omega
  have b : ¬ k < i := fun q => by have := ps_mono hl q; omega
  omega
theorem bytes_str {l : List Int} (hl : Byt l) : bytesOf (strOf l) = l := by
  unfold bytesOf strOf
  simp only [List.map_map]
  conv => rhs; rw [← List.map_id l]
  refine List.map_congr_left fun c hc => ?_
  have := hl c hc
  simp only [Function.comp, UInt8.toNat_ofNat', id]
  omega
theorem str_size (l : List Int) : (strOf l).size = l.length := by simp [strOf, ByteArray.size]
end Go.Proofs.Ytenjkphlbdhaiaa
namespace Go.Proofs.Ytenjkphlbdhaiaa
open Go Go.Eng
def inP (l : List (Int × Int)) (r : Int) : Bool := l.any fun p => decide (p.1 ≤ r) && decide (r ≤ p.2)
def wiP : List (Int × Int) → Int → Bool
  | [], _ => false
  | p :: l, a => if a < p.1 then false else if a ≤ p.2 then true else wiP l a
def flat : List (Int × Int) → List Int
  | [] => []
  | p :: l => p.1 :: p.2 :: flat l
def asc : List (Int × Int) → Bool
  | p :: q :: l => decide (p.1 ≤ q.1) && asc (q :: l)
  | _ => true
theorem flat_len : ∀ l, (flat l).length = 2 * l.length
  | [] => rfl
  | _ :: l => by simp only [flat, List.length_cons, flat_len l]; omega
theorem flat_0 : ∀ (l : List (Int × Int)) (j : Nat), (flat l).getD (2 * j) 0 = (l.getD j (0, 0)).1
  | [], j => by simp [flat]
  | p :: l, 0 => rfl
  | p :: l, j + 1 => by
    have := flat_0 l j
    rw [show 2 * (j + 1) = 2 * j + 1 + 1 by omega]
    simpa [flat] using this
theorem flat_1 : ∀ (l : List (Int × Int)) (j : Nat), (flat l).getD (2 * j + 1) 0 = (l.getD j (0, 0)).2
  | [], j => by simp [flat]
  | p :: l, 0 => rfl
  | p :: l, j + 1 => by
    have := flat_1 l j
    rw [show 2 * (j + 1) + 1 = 2 * j + 1 + 1 + 1 by omega]
    simpa [flat] using this
theorem asc_tail {p : Int × Int} {l : List (Int × Int)} (h : asc (p :: l) = true) : asc l = true := by
  cases l with
  | nil => rfl
  | cons q l => simp only [asc, Bool.and_eq_true] at h; exact h.2
theorem asc_low {a : Int} : ∀ {l : List (Int × Int)} {p : Int × Int}, asc (p :: l) = true → a < p.1 → inP l a = false
  | [], _, _, _ => rfl
  | q :: l, p, h, ha => by
    have h1 : p.1 ≤ q.1 := by simp only [asc, Bool.and_eq_true, decide_eq_true_eq] at h; exact h.1
    have := asc_low (asc_tail h) (show a < q.1 by omega)
    show ((decide (q.1 ≤ a) && decide (a ≤ q.2)) || inP l a) = false
    rw [this, decide_eq_false (by omega)]
    rfl
theorem wi_in {a : Int} : ∀ {l : List (Int × Int)}, asc l = true → wiP l a = inP l a
  | [], _ => rfl
  | p :: l, h => by
    show (if a < p.1 then false else if a ≤ p.2 then true else wiP l a) = ((decide (p.1 ≤ a) && decide (a ≤ p.2)) || inP l a)
    split
    · rename_i h1
      rw [asc_low h h1, decide_eq_false (by omega)]; rfl
    · split
      · rw [decide_eq_true (by omega), decide_eq_true (by assumption)]; rfl
      · rename_i h1 h2
        rw [wi_in (asc_tail h), decide_eq_false h2, Bool.and_false, Bool.false_or]
theorem pdrop {l : List (Int × Int)} {j : Nat} (h : j < l.length) : l.drop j = l.getD j (0, 0) :: l.drop (j + 1) := by
  rw [List.drop_eq_getElem_cons h, List.getD_eq_getElem?_getD, List.getElem?_eq_getElem h]; rfl
theorem wi_loop {l : List (Int × Int)} {a0 : Int} (hn : l.length ≤ 100000) : Gives (loopO (σ := Int) (ρ := (Bool) ⊕ (Unit)) (fun s674 =>
          ck (inR .i64 (s674 + 1)) <|
          if (s674 + 1) < (((flat l).length : Nat) : Int) then
            (
              ck (0 ≤ s674 ∧ s674 < (((flat l).length : Nat) : Int)) <|
              ck (inR .i64 (s674 + 1)) <|
              ck (0 ≤ s674 + 1 ∧ s674 + 1 < (((flat l).length : Nat) : Int)) <|
              if a0 < ((flat l).getD s674.toNat 0) then
                some (.out (.inl (false)))
              else
                (
                  if a0 ≤ ((flat l).getD (s674 + 1).toNat 0) then
                    some (.out (.inl (true)))
                  else
                    (
                      ck (inR .i64 (s674 + 2)) <|
                      some (.go (s674 + 2))
                    )
                )
            )
          else
            some (.out (.inr (())))
        ) 0) (fun o => (o = .inl true ∧ wiP l a0 = true) ∨ ((o = .inl false ∨ o = .inr ()) ∧ wiP l a0 = false)) := by
  have hl := flat_len l
  refine g_loop (fun s : Int => ∃ j : Nat, s = 2 * (j : Int) ∧ j ≤ l.length ∧ wiP l a0 = wiP (l.drop j) a0) (fun s : Int => (2 * (l.length : Int) - s).toNat) ?_ ⟨0, rfl, Nat.zero_le _, rfl⟩
  rintro s ⟨j, rfl, hj, hw⟩
  refine g_i64 (by omega) (g_if (fun h => ?_) fun h => ?_)
  · have hlt : j < l.length := by omega
    have e0 : (2 * (j : Int)).toNat = 2 * j := by omega
    have e1 : (2 * (j : Int) + 1).toNat = 2 * j + 1 := by omega
    rw [e0, e1, flat_0, flat_1]
    rw [pdrop hlt] at hw
    simp only [wiP] at hw
    refine g_ck (by omega) (g_i64 (by omega) (g_ck (by omega) (g_if (fun h1 => g_out (.inr ⟨.inl rfl, by rw [hw, if_pos h1]⟩)) fun h1 => g_if (fun h2 => g_out (.inl ⟨rfl, by rw [hw, if_neg h1, if_pos h2]⟩)) fun h2 => g_i64 (by omega) (g_go ⟨j + 1, by show (2 * (j : Int) + 2) = _; omega, by omega, by rw [hw, if_neg h1, if_neg h2]⟩ ?_))))
    show (_ - (_ + 2) : Int).toNat < (_ - _ : Int).toNat
    omega
  · have : l.length ≤ j := by omega
    rw [List.drop_eq_nil_of_le this] at hw
    exact g_out (.inr ⟨.inr rfl, hw⟩)
def mkL : List (Int × Int) := [(768, 879), (1155, 1161), (1425, 1469), (1471, 1471), (1473, 1474), (1476, 1477), (1479, 1479), (1552, 1562), (1611, 1631), (1648, 1648), (1750, 1756), (1759, 1764), (1767, 1768), (1770, 1773), (3633, 3633), (3636, 3642), (3655, 3662), (6832, 6911), (7616, 7679), (8203, 8207), (8288, 8292), (8400, 8432), (12330, 12333), (12441, 12442), (65024, 65039), (65056, 65071), (65279, 65279), (917760, 917999)]
def wdL : List (Int × Int) := [(4352, 4447), (8986, 8987), (9001, 9002), (9193, 9196), (9200, 9200), (9203, 9203), (9725, 9726), (9748, 9749), (9800, 9811), (9855, 9855), (9875, 9875), (9889, 9889), (9898, 9899), (9917, 9918), (9924, 9925), (9934, 9934), (9940, 9940), (9962, 9962), (9970, 9971), (9973, 9973), (9978, 9978), (9981, 9981), (9989, 9989), (9994, 9995), (10024, 10024), (10060, 10060), (10062, 10062), (10067, 10069), (10071, 10071), (10133, 10135), (10160, 10160), (10175, 10175), (11035, 11036), (11088, 11088), (11093, 11093), (11904, 12350), (12353, 19903), (19968, 42191), (43360, 43391), (44032, 55203), (63744, 64255), (65040, 65049), (65072, 65135), (65281, 65376), (65504, 65510), (127744, 128591), (128640, 128767), (129280, 129535), (129648, 129791), (131072, 196605), (196608, 262141)]
set_option maxRecDepth 100000 in
theorem g132_eq : g132 = some (flat mkL) := rfl
set_option maxRecDepth 100000 in
theorem g127_eq : g127 = some (flat wdL) := rfl
theorem mk_asc : asc mkL = true := by kernel_rfl
theorem wd_asc : asc wdL = true := by kernel_rfl
theorem mk_len : mkL.length ≤ 1000 := by decide
theorem wd_len : wdL.length ≤ 1000 := by decide
def ctl (a : Int) : Prop := (0 ≤ a ∧ a ≤ 31) ∨ (127 ≤ a ∧ a ≤ 159)
instance (a : Int) : Decidable (ctl a) := by unfold ctl; infer_instance
def wof (a : Int) : Int := if ¬ isR a ∨ ctl a ∨ inP mkL a = true then 0 else if inP wdL a = true then 2 else 1
def isMk (a : Int) : Prop := wof a = 0 ∧ isR a ∧ ¬ ctl a
instance (a : Int) : Decidable (isMk a) := by unfold isMk; infer_instance
theorem ctl_go {a : Int} : Gives (if 0 ≤ a then (if a ≤ 31 then some true else (if 127 ≤ a then some (decide (a ≤ 159)) else some false)) else (if 127 ≤ a then some (decide (a ≤ 159)) else some false)) fun v => v = decide (ctl a) := by
  refine g_if (fun h1 => g_if (fun h2 => g_some ?_) fun h2 => g_if (fun h3 => g_some ?_) fun h3 => g_some ?_) fun h1 => g_if (fun h3 => g_some ?_) fun h3 => g_some ?_
  · rw [eq_comm, decide_eq_true_eq]; exact .inl ⟨h1, h2⟩
  · rw [decide_eq_decide]; unfold ctl; omega
  · rw [eq_comm, decide_eq_false_iff_not]; unfold ctl; omega
  · rw [decide_eq_decide]; unfold ctl; omega
  · rw [eq_comm, decide_eq_false_iff_not]; unfold ctl; omega
theorem g98_eq (a : Int) : g98 a = some (decide (ctl a)) := g_eq (by unfold g98; exact ctl_go)
theorem isr_go {a : Int} : Gives (if 0 ≤ a then (if a ≤ 1114111 then (if a < 55296 then some true else some (decide (57343 < a))) else some false) else some false) fun v => v = decide (isR a) := by
  refine g_if (fun a => g_if (fun b => g_if (fun c => g_some ?_) fun c => g_some ?_) fun b => g_some ?_) fun a => g_some ?_
  · rw [eq_comm, decide_eq_true_eq]; exact ⟨a, b, .inl c⟩
  · rw [decide_eq_decide]; exact ⟨fun x => ⟨a, b, .inr x⟩, fun x => x.2.2.resolve_left c⟩
  · rw [eq_comm, decide_eq_false_iff_not]; exact fun x => b x.2.1
  · rw [eq_comm, decide_eq_false_iff_not]; exact fun x => a x.1
theorem g114_eq (a : Int) : g114 a = some (decide (isR a)) := g_eq (by unfold g114; exact isr_go)
theorem g115_eq (a : Int) : g115 a = some (inP mkL a) := by
  refine g_eq ?_
  unfold g115
  rw [g132_eq, Option.bind_some]
  rw [← wi_in mk_asc]
  refine g_jo (g_bind (wi_loop (l := mkL) (a0 := a) (by have := mk_len; omega)) ?_)
  intro o ho
  refine g_sm (fun v hv => ?_) fun r hr => ?_
  · rcases ho with ⟨e, h⟩ | ⟨e | e, h⟩ <;> rw [e] at hv <;> cases hv
    · exact g_some h.symm
    · exact g_some h.symm
  · rcases ho with ⟨e, h⟩ | ⟨e | e, h⟩ <;> rw [e] at hr <;> cases hr
    exact g_some h.symm
theorem g96_eq (a : Int) : g96 a = some (wof a) := by
  refine g_eq ?_
  unfold g96
  simp only [g114_eq, g98_eq, g115_eq, g127_eq, Option.bind_some]
  refine g_jn (fun v => v = decide (¬ isR a ∨ ctl a ∨ inP mkL a = true)) (fun k hk => ?_) ?_
  · refine g_if (fun h => hk _ ?_) fun h => g_if (fun h2 => hk _ ?_) fun h2 => hk _ ?_
    · simp at h; simp [h]
    · simp at h2; simp [h2]
    · simp at h h2; simp [h, h2]
  · rintro _ rfl
    unfold wof
    refine g_if (fun h => g_some ?_) fun h => ?_
    · rw [if_pos (by simpa using h)]
    · rw [if_neg (by simpa using h), ← wi_in wd_asc]
      refine g_jo (g_bind (wi_loop (l := wdL) (a0 := a) (by have := wd_len; omega)) ?_)
      intro o ho
      refine g_sm (fun v hv => ?_) fun r hr => ?_
      · rcases ho with ⟨e, h⟩ | ⟨e | e, h⟩ <;> rw [e] at hv <;> cases hv
        · exact g_if (fun _ => g_some (by rw [h]; rfl)) fun h' => absurd rfl h'
        · exact g_if (fun h' => by cases h') fun _ => g_some (by rw [h]; rfl)
      · rcases ho with ⟨e, h⟩ | ⟨e | e, h⟩ <;> rw [e] at hr <;> cases hr
        exact g_some (by rw [h]; rfl)
theorem g118_eq (a : Int) : g118 a = some (decide (isMk a)) := by
  refine g_eq ?_
  unfold g118 isMk
  rw [g96_eq, Option.bind_some, g98_eq, Option.bind_some]
  refine g_if (fun h => g_some (by simp [h])) fun h => g_if (fun h2 => g_some (by simp at h2; simp [h2])) fun h2 => ?_
  simp at h h2
  have := isr_go (a := a)
  obtain ⟨v, hv, e⟩ := this
  exact ⟨v, hv, by rw [e]; simp [h, h2]⟩
theorem g120_eq (a : Int) : g120 a = some (decide (0 < wof a)) := by
  unfold g120
  rw [g96_eq, Option.bind_some]
end Go.Proofs.Ytenjkphlbdhaiaa
namespace Go.Proofs.Ytenjkphlbdhaiaa
open Go Go.Eng
theorem stp_enc {v : Int} (h : isR v) (t : List Int) : stp (enc v ++ t) = (v, ((enc v).length : Int)) := by
  unfold stp
  rw [nx_enc h t]
  rfl
def encs (R : List Int) : List Int := R.flatMap enc
theorem encs_cons (r : Int) (R : List Int) : encs (r :: R) = enc r ++ encs R := rfl
theorem encs_app (R T : List Int) : encs (R ++ T) = encs R ++ encs T := by simp [encs]
theorem encs_byt {R : List Int} (h : ∀ r ∈ R, isR r) : Byt (encs R) := fun c hc => by
  obtain ⟨r, hr, hc⟩ := List.mem_flatMap.1 hc
  exact enc_byt (h r hr) c hc
theorem ps_encs {R : List Int} (h : ∀ r ∈ R, isR r) : ∀ k, k ≤ R.length → ps (encs R) k = (encs (R.take k)).length
  | 0, _ => by simp [ps, encs]
  | k + 1, hk => by
    have ih := ps_encs h k (by omega)
    have e : encs R = encs (R.take k) ++ encs (R.drop k) := by rw [← encs_app, List.take_append_drop]
    have hd : (encs R).drop (ps (encs R) k) = encs (R.drop k) := by
      rw [ih]
      conv => lhs; rw [e]
      exact List.drop_left
    have hlt : k < R.length := by omega
    have hd2 : R.drop k = R[k] :: R.drop (k + 1) := List.drop_eq_getElem_cons hlt
    have hR : isR R[k] := h _ (List.getElem_mem _)
    show ps (encs R) k + (stp ((encs R).drop (ps (encs R) k))).2.toNat = _
    rw [hd, hd2, encs_cons, stp_enc hR, ih, List.take_add_one, encs_app, List.length_append, List.getElem?_eq_getElem hlt]
    simp [encs]
theorem rs_encs {R : List Int} (h : ∀ r ∈ R, isR r) : ps (encs R) R.length = (encs R).length ∧ rs (encs R) R.length = R := by
  refine ⟨by rw [ps_encs h _ (Nat.le_refl _), List.take_length], ?_⟩
  refine List.ext_getElem (by rw [rs_len]) fun k h1 h2 => ?_
  have hd : (encs R).drop (ps (encs R) k) = encs (R.drop k) := by
    have e : encs R = encs (R.take k) ++ encs (R.drop k) := by rw [← encs_app, List.take_append_drop]
    rw [ps_encs h k (by omega)]
    conv => lhs; rw [e]
    exact List.drop_left
  have hd2 : R.drop k = R[k] :: R.drop (k + 1) := List.drop_eq_getElem_cons h2
  simp only [rs, List.getElem_map, List.getElem_range]
  show (stp ((encs R).drop (ps (encs R) k))).1 = _
  rw [hd, hd2, encs_cons, stp_enc (h _ (List.getElem_mem _))]
def cstep (out : List (List Int)) (r : Int) : List (List Int) :=
  if 0 < wof r then out ++ [enc r]
  else if isMk r ∧ out ≠ [] ∧ (out.getLastD []).length + (enc r).length ≤ 64 then out.dropLast ++ [out.getLastD [] ++ enc r]
  else out
def cuts (R : List Int) : List (List Int) := R.foldl cstep []
def Cl (c : List Int) (R : List Int) : Prop := c = encs R ∧ (∀ r ∈ R, isR r) ∧ c.length ≤ 64 ∧ ∃ b M, R = b :: M ∧ 0 < wof b ∧ ∀ m ∈ M, isMk m
theorem cl_marks {out : List (List Int)} : ∀ {M : List Int} {c : List Int}, (∀ m ∈ M, isMk m) → (c ++ encs M).length ≤ 64 → M.foldl cstep (out ++ [c]) = out ++ [c ++ encs M]
  | [], c, _, _ => by simp [encs]
  | m :: M, c, h, hl => by
    have hm := h m (.head _)
    rw [encs_cons, ← List.append_assoc] at hl ⊢
    have h1 : cstep (out ++ [c]) m = out ++ [c ++ enc m] := by
      unfold cstep
      have h64 : ((out ++ [c]).getLastD []).length + (enc m).length ≤ 64 := by
        rw [List.length_append, List.length_append] at hl
        simp only [List.getLastD_concat]
        omega
      rw [if_neg (by rw [hm.1]; omega), if_pos ⟨hm, by simp, h64⟩]
      simp
    rw [List.foldl_cons, h1]
    exact cl_marks (fun x hx => h x (.tail _ hx)) hl
theorem cl_fold {out : List (List Int)} {c R : List Int} (h : Cl c R) : R.foldl cstep out = out ++ [c] := by
  obtain ⟨rfl, _, hl, b, M, rfl, hb, hM⟩ := h
  rw [List.foldl_cons]
  have h1 : cstep out b = out ++ [enc b] := by unfold cstep; rw [if_pos hb]
  rw [h1, encs_cons]
  exact cl_marks hM hl
theorem cl_cuts {c R : List Int} (h : Cl c R) : cuts R = [c] := cl_fold h
def AllCl (out : List (List Int)) : Prop := ∀ c ∈ out, ∃ R, Cl c R
theorem enc_len4 {v : Int} : 1 ≤ (enc v).length ∧ (enc v).length ≤ 4 := enc_len
theorem cstep_cl {out : List (List Int)} {r : Int} (h : AllCl out) (hr : isR r) : AllCl (cstep out r) := by
  have hl := @enc_len r
  unfold cstep
  split
  · rename_i hw
    intro c hc
    rcases List.mem_append.1 hc with hc | hc
    · exact h c hc
    · rw [List.mem_singleton.1 hc]
      exact ⟨[r], by simp [encs], fun x hx => by rw [List.mem_singleton.1 hx]; exact hr, by omega, r, [], rfl, hw, fun m hm => by cases hm⟩
  · split
    · rename_i hm
      obtain ⟨hm, hne, hs⟩ := hm
      intro c hc
      rcases List.mem_append.1 hc with hc | hc
      · exact h c (List.dropLast_subset _ hc)
      · rw [List.mem_singleton.1 hc]
        have hlast : out.getLastD [] ∈ out := by
          rw [List.getLastD_eq_getLast?, List.getLast?_eq_some_getLast hne]
          exact List.getLast_mem hne
        obtain ⟨R, h1, h2, h3, b, M, h4, h5, h6⟩ := h _ hlast
        refine ⟨R ++ [r], ?_, fun x hx => ?_, by rw [List.length_append]; exact hs, b, M ++ [r], by rw [h4]; rfl, h5, fun m hm' => ?_⟩
        · rw [encs_app, ← h1]; simp [encs]
        · rcases List.mem_append.1 hx with hx | hx
          · exact h2 x hx
          · rw [List.mem_singleton.1 hx]; exact hr
        · rcases List.mem_append.1 hm' with hx | hx
          · exact h6 m hx
          · rw [List.mem_singleton.1 hx]; exact hm
    · exact h
theorem cuts_cl' : ∀ {R : List Int} {out : List (List Int)}, AllCl out → (∀ r ∈ R, isR r) → AllCl (R.foldl cstep out)
  | [], _, h, _ => h
  | r :: R, _, h, hR => cuts_cl' (R := R) (cstep_cl h (hR r (.head _))) fun x hx => hR x (.tail _ hx)
theorem cuts_cl {R : List Int} (hR : ∀ r ∈ R, isR r) : AllCl (cuts R) := cuts_cl' (fun c hc => by cases hc) hR
theorem cstep_len (out : List (List Int)) (r : Int) : (cstep out r).length ≤ out.length + 1 := by
  unfold cstep
  split
  · simp
  · split
    · rename_i h
      obtain ⟨_, hne, _⟩ := h
      have : 0 < out.length := List.length_pos_iff.2 hne
      rw [List.length_append, List.length_dropLast, List.length_singleton]
      omega
    · omega
theorem cuts_len' : ∀ (R : List Int) (out : List (List Int)), (R.foldl cstep out).length ≤ out.length + R.length
  | [], out => by simp
  | r :: R, out => by
    have h1 := cstep_len out r
    have h2 := cuts_len' R (cstep out r)
    rw [List.foldl_cons, List.length_cons]
    omega
theorem cuts_len (R : List Int) : (cuts R).length ≤ R.length := by have := cuts_len' R []; simpa [cuts] using this
end Go.Proofs.Ytenjkphlbdhaiaa
namespace Go.Proofs.Ytenjkphlbdhaiaa
open Go Go.Eng
theorem drop_all {l : List Int} {k : Nat} : (l.drop k).take (l.length - k) = l.drop k := List.take_of_length_le (by rw [List.length_drop]; omega)
theorem stp_more {l : List Int} (h : (nx l).2.2 = true) : stp l = (65533, 1) := by unfold stp; rw [if_pos h]
theorem stp_else {l : List Int} (h : ¬ (nx l).2.2 = true) : stp l = ((nx l).1, (nx l).2.1) := by unfold stp; rw [if_neg h]
theorem ps_more {l : List Int} {k : Nat} (h : (nx (l.drop (ps l k))).2.2 = true) : rn l k = 65533 ∧ (ps l k : Int) + 1 = (ps l (k + 1) : Nat) := by
  unfold rn; rw [ps, stp_more h]; exact ⟨rfl, by simp⟩
theorem ps_else {l : List Int} (hl : Byt l) {k : Nat} (h : ¬ (nx (l.drop (ps l k))).2.2 = true) : rn l k = (nx (l.drop (ps l k))).1 ∧ (ps l k : Int) + (nx (l.drop (ps l k))).2.1 = (ps l (k + 1) : Nat) := by
  have p := stp_pos (drop_byt hl (n := ps l k))
  unfold rn; rw [ps]
  rw [stp_else h] at p ⊢
  exact ⟨rfl, by dsimp only at p ⊢; omega⟩
theorem norm_of {v : Int} (h : isR v) : norm v = v := by unfold norm; rw [if_pos h]
theorem str_app (a b : List Int) : strOf (a ++ b) = strOf a ++ strOf b := by
  apply ByteArray.ext
  simp [strOf, ByteArray.data_append]
def strs (out : List (List Int)) : List ByteArray := out.map strOf
theorem strs_app (a b : List (List Int)) : strs (a ++ b) = strs a ++ strs b := by simp [strs]
theorem strs_len (a : List (List Int)) : (strs a).length = a.length := by simp [strs]
theorem last_le {out : List (List Int)} (h : AllCl out) : (out.getLastD []).length ≤ 64 := by
  by_cases hne : out = []
  · subst hne; simp
  · have hlast : out.getLastD [] ∈ out := by
      rw [List.getLastD_eq_getLast?, List.getLast?_eq_some_getLast hne]
      exact List.getLast_mem hne
    obtain ⟨R, _, _, h3, _⟩ := h _ hlast
    exact h3
theorem rs_R {l : List Int} (hl : Byt l) {N : Nat} : ∀ r ∈ rs l N, isR r := fun r hr => by
  obtain ⟨k, _, rfl⟩ := List.mem_map.1 hr
  exact rn_R hl k
end Go.Proofs.Ytenjkphlbdhaiaa
namespace Go.Proofs.Ytenjkphlbdhaiaa
open Go Go.Eng
theorem ex_N {l : List Int} (hl : Byt l) : ∃ N, ps l N = l.length := by
  have : ∀ (d k : Nat), l.length - ps l k ≤ d → ps l k ≤ l.length → ∃ N, ps l N = l.length := by
    intro d
    induction d with
    | zero => exact fun k h1 h2 => ⟨k, by omega⟩
    | succ d ih =>
      intro k h1 h2
      by_cases e : ps l k = l.length
      · exact ⟨k, e⟩
      · have s := ps_step hl k
        exact ih (k + 1) (by omega) (s.2.2 (by omega))
  exact this l.length 0 (by simp [ps]) (by simp [ps])
def bst (out : List (List Int)) : List ByteArray × List Int × Bool := if out = [] then ([], [], false) else (strs out.dropLast, out.getLastD [], true)
theorem bst_nil : bst [] = ([], [], false) := rfl
theorem bst_some {out : List (List Int)} (h : out ≠ []) : bst out = (strs out.dropLast, out.getLastD [], true) := by unfold bst; rw [if_neg h]
theorem last_byt {out : List (List Int)} (h : AllCl out) : Byt (out.getLastD []) := by
  by_cases hne : out = []
  · subst hne; intro c hc; simp at hc
  · have hlast : out.getLastD [] ∈ out := by
      rw [List.getLastD_eq_getLast?, List.getLast?_eq_some_getLast hne]
      exact List.getLast_mem hne
    obtain ⟨R, h1, h2, _⟩ := h _ hlast
    rw [h1]
    exact encs_byt h2
theorem strs_end {out : List (List Int)} (h : out ≠ []) : strs out.dropLast ++ [strOf (out.getLastD [])] = strs out := by
  obtain ⟨b, y, rfl⟩ : ∃ b x, out = b ++ [x] := ⟨out.dropLast, out.getLast h, (List.dropLast_concat_getLast h).symm⟩
  rw [List.getLastD_concat, List.dropLast_concat, strs_app]
  rfl
theorem g100_eq {out : List (List Int)} (h : AllCl out) (hn : out.length ≤ 200000) : g100 (bst out) = some (strs out, [], false) := by
  refine g_eq ?_
  unfold g100
  by_cases hne : out = []
  · subst hne
    rw [bst_nil]
    exact g_if (fun h => by cases h) fun _ => g_ck (by simp) (g_some rfl)
  · rw [bst_some hne]
    refine g_if (fun _ => g_ck (last_byt h) (g_ck ?_ (g_ck ?_ (g_some ?_)))) fun h => absurd rfl h
    · rw [strs_len, List.length_dropLast]; omega
    · dsimp only; omega
    · dsimp only; rw [strs_end hne]; rfl
theorem g99_eq {out : List (List Int)} {r : Int} (h : AllCl out) (hr : isR r) (hn : out.length ≤ 100000) : g99 (bst out) r = some (bst (cstep out r)) := by
  refine g_eq ?_
  unfold g99
  have hel := @enc_len r
  refine g_call (g120_eq _) (g_if (fun hw => ?_) fun hw => ?_)
  · have hw : 0 < wof r := by simpa using hw
    refine g_call (g100_eq h (by omega)) (g_call (g119_eq _) ?_)
    rw [norm_of hr]
    have hs : cstep out r = out ++ [enc r] := by unfold cstep; rw [if_pos hw]
    refine g_ck (by simp; omega) (g_some ?_)
    rw [hs, bst_some (by simp), List.dropLast_concat, List.getLastD_concat]
    rfl
  · have hw : ¬ 0 < wof r := by simpa using hw
    by_cases hne : out = []
    · subst hne
      have hs : cstep [] r = [] := by unfold cstep; rw [if_neg hw, if_neg (fun h => h.2.1 rfl)]
      rw [hs]
      exact g_if (fun _ => g_some rfl) fun h => absurd (by rw [bst_nil]; exact Bool.false_ne_true) h
    · rw [bst_some hne]
      have hll := last_le h
      refine g_if (fun h => absurd rfl h) fun _ => g_call (g118_eq _) (g_if (fun hm => g_some ?_) fun hm => g_call (g119_eq _) ?_)
      · have hm : ¬ isMk r := by simpa using hm
        have hs : cstep out r = out := by unfold cstep; rw [if_neg hw, if_neg (fun h => hm h.1)]
        rw [hs, bst_some hne]
      · have hm : isMk r := by simpa using hm
        rw [norm_of hr]
        dsimp only
        refine g_i64 (by omega) (g_if (fun hs => g_ck (by omega) (g_some ?_)) fun hs => g_some ?_)
        · have hs : cstep out r = out.dropLast ++ [out.getLastD [] ++ enc r] := by unfold cstep; rw [if_neg hw, if_pos ⟨hm, hne, by omega⟩]
          rw [hs, bst_some (by simp), List.dropLast_concat, List.getLastD_concat]
        · have hs : cstep out r = out := by unfold cstep; rw [if_neg hw, if_neg (fun h => hs (by have := h.2.2; omega))]
          rw [hs, bst_some hne]
theorem cstep_ctl {out : List (List Int)} {r : Int} (h : ctl r) : cstep out r = out := by
  have h0 : wof r = 0 := by unfold wof; rw [if_pos (.inr (.inl h))]
  unfold cstep
  rw [if_neg (by rw [h0]; omega), if_neg (fun h' => h'.1.2.2 h)]
theorem cuts_rs {l : List Int} (k : Nat) : cuts (rs l (k + 1)) = cstep (cuts (rs l k)) (rn l k) := by
  unfold cuts
  rw [rs_succ, List.foldl_append]
  rfl
theorem g67_eq {l : List Int} (hl : Byt l) (hn : l.length ≤ 50000) {N : Nat} (hN : ps l N = l.length) : g67 (strOf l) = some (strs (cuts (rs l N))) := by
  refine g_eq ?_
  unfold g67
  rw [bytes_str hl]
  refine g_jo (g_ck (by rw [str_size]; omega) (g_bind (Ω := fun o => o = bst (cuts (rs l N))) (g_loop (fun s : List ByteArray × List Int × Bool × Int => ∃ k : Nat, (s.1, s.2.1, s.2.2.1) = bst (cuts (rs l k)) ∧ s.2.2.2 = (ps l k : Int) ∧ ps l k ≤ l.length) (fun s => ((l.length : Int) - s.2.2.2).toNat) ?_ ⟨0, rfl, rfl, Nat.zero_le _⟩) ?_))
  · rintro ⟨b1, b2, b3, i⟩ ⟨k, hb, hi, hk⟩
    dsimp only at hb hi ⊢
    subst hi
    have st := ps_step hl k
    have kl := ps_ge hl k
    have hcl := cuts_cl (rs_R hl (N := k))
    have hol : (cuts (rs l k)).length ≤ k := by have := cuts_len (rs l k); rwa [rs_len] at this
    have hrn := rn_R hl k
    refine g_if (fun hlt => g_ck (by omega) ?_) fun hge => g_out (by rw [hb, ps_inj hl (i := k) (k := N) (by omega)])
    simp only [Int.toNat_natCast, drop_all]
    rw [hb]
    have hdone : ctl (rn l k) → (b1, b2, b3) = bst (cuts (rs l (k + 1))) := fun hc => by rw [cuts_rs, cstep_ctl hc]; exact hb
    have hadd : g99 (bst (cuts (rs l k))) (rn l k) = some (bst (cuts (rs l (k + 1)))) := by rw [cuts_rs]; exact g99_eq hcl hrn (by omega)
    refine g_call (g131_eq (drop_byt hl) (by rw [List.length_drop]; omega)) (g_if (fun h => ?_) fun h => ?_)
    · obtain ⟨r1, r2⟩ := ps_more h
      rw [r1] at hdone hadd
      refine g_call (g98_eq _) (g_if (fun hc => ?_) fun hc => ?_)
      · refine g_i64 (by omega) (g_go ⟨k + 1, hdone (by simpa using hc), by dsimp only; omega, by omega⟩ (by dsimp only; omega))
      · exact g_call hadd (g_i64 (by omega) (g_go ⟨k + 1, rfl, by dsimp only; omega, by omega⟩ (by dsimp only; omega)))
    · obtain ⟨r1, r2⟩ := ps_else hl h
      rw [← r1]
      refine g_call (g98_eq _) (g_if (fun hc => ?_) fun hc => ?_)
      · exact g_i64 (by omega) (g_go ⟨k + 1, hdone (by simpa using hc), by dsimp only; omega, by omega⟩ (by dsimp only; omega))
      · exact g_call hadd (g_i64 (by omega) (g_go ⟨k + 1, rfl, by dsimp only; omega, by omega⟩ (by dsimp only; omega)))
  · rintro _ rfl
    have hcl := cuts_cl (rs_R hl (N := N))
    have hol : (cuts (rs l N)).length ≤ N := by have := cuts_len (rs l N); rwa [rs_len] at this
    have kl := ps_ge hl N
    exact g_call (g100_eq hcl (by omega)) (g_some rfl)
theorem g56_cl {c R : List Int} (h : Cl c R) : g56 (strOf c) = some true := by
  refine g_eq ?_
  unfold g56
  have hc := h
  obtain ⟨rfl, hR, hl, _⟩ := h
  have hb := encs_byt hR
  obtain ⟨h1, h2⟩ := rs_encs hR
  refine g_call (g67_eq hb (by omega) h1) ?_
  rw [h2, cl_cuts hc]
  refine g_if (fun _ => g_ck (by simp [strs]) (g_some ?_)) fun h => absurd (by simp [strs]) h
  simp [strs]
end Go.Proofs.Ytenjkphlbdhaiaa
namespace Go.Proofs.Ytenjkphlbdhaiaa
open Go Go.Eng
abbrev Bf := Int × List ByteArray × Int × Int
structure Gp (b : Bf) (m : Int) (X G Y : List ByteArray) : Prop where
  e : b = (m, X ++ (G ++ Y), (X.length : Int), ((X.length + G.length : Nat) : Int))
  p0 : 0 < m
  p1 : m ≤ 4096
  pn : X.length + G.length + Y.length ≤ 1000000
variable {b : Bf} {m : Int} {X G Y : List ByteArray}
theorem g47_gp (h : Gp b m X G Y) : g47 b = some true := by
  rw [h.e]; unfold g47; have := h.p0; simp; omega
theorem g48_gp (h : Gp b m X G Y) : g48 b = some ((X.length + Y.length : Nat) : Int) := by
  have hn := h.pn
  rw [h.e]
  refine g_eq ?_
  unfold g48
  dsimp only
  refine g_i64 (by omega) (g_i64 (by simp only [List.length_append]; omega) (g_some ?_))
  simp only [List.length_append]
  omega
def tgt (a : Int) (s : Nat) : Nat := (max 0 (min a (s : Int))).toNat
theorem tgt_le (a : Int) (s : Nat) : tgt a s ≤ s := by unfold tgt; omega
theorem tgt_eq (a : Int) (s : Nat) : ((tgt a s : Nat) : Int) = max 0 (min a (s : Int)) := by unfold tgt; omega
theorem g49_gp (h : Gp b m X G Y) (a : Int) : g49 b a = some (tgt a (X.length + Y.length) : Int) := by
  unfold g49
  rw [g48_gp h, Option.bind_some, tgt_eq, gmax_eq, gmin_eq]
theorem cpy_line {z : ByteArray} (X Y : List ByteArray) : cpy (cpy (List.replicate (X.length + Y.length) z) 0 X X.length) X.length Y Y.length = X ++ Y := by
  unfold cpy
  simp
theorem g11_gp (h : Gp b m X G Y) : g11 b = some (X ++ Y) := by
  have hn := h.pn
  refine g_eq ?_
  unfold g11
  rw [g47_gp h, g48_gp h]
  simp only [Option.bind_some]
  refine g_if (fun h => absurd trivial h) fun _ => ?_
  rw [h.e]
  dsimp only
  have e1 : ((((X.length + Y.length : Nat) : Int)).toNat) = X.length + Y.length := Int.toNat_natCast _
  have e2 : (((X.length + G.length : Nat) : Int)).toNat = X.length + G.length := Int.toNat_natCast _
  have e3 : ((X ++ (G ++ Y)).drop ((0 : Int).toNat)).take (((X.length : Nat) : Int).toNat - (0 : Int).toNat) = X := by simp
  have e4 : ((X ++ (G ++ Y)).drop (X.length + G.length)).take ((((X ++ (G ++ Y)).length : Nat) : Int).toNat - (X.length + G.length)) = Y := by
    rw [← List.append_assoc, ← List.length_append, List.drop_left]
    exact List.take_of_length_le (by simp; omega)
  rw [e3, e1, e2, e4]
  have e5 : min X.length (X.length + Y.length) = X.length := by omega
  rw [e5]
  have e6 : ((X.length : Nat) : Int).toNat = X.length := Int.toNat_natCast _
  rw [e6, e1]
  have e7 : min Y.length (X.length + Y.length - X.length) = Y.length := by omega
  rw [e7, cpy_line]
  refine g_ck (by omega) (g_ck (by simp only [List.length_append]; omega) (g_ck (by omega) (g_ck (by simp only [List.length_append]; omega) (g_some rfl))))
theorem g13_gp (h : Gp b m X G Y) : g13 b = some (X.length : Int) := by
  unfold g13
  rw [g47_gp h]
  rw [h.e]
  rfl
theorem g20_gp (h : Gp b m X G Y) : g20 b = some ((X.length + Y.length : Nat) : Int) := by
  unfold g20
  rw [g47_gp h, g48_gp h]
  rfl
theorem g18_gp (h : Gp b m X G Y) : g18 b = some (m - ((X.length + Y.length : Nat) : Int)) := by
  have hn := h.pn
  have h1 := h.p0
  have h2 := h.p1
  refine g_eq ?_
  unfold g18
  rw [g47_gp h, g48_gp h]
  simp only [Option.bind_some]
  refine g_if (fun h => absurd trivial h) fun _ => ?_
  rw [h.e]
  exact g_i64 (by omega) (g_some rfl)
theorem eta_b (b : Bf) : (b.1, b.2.1, b.2.2.1, b.2.2.2) = b := rfl
theorem g12_gp (h : Gp b m X G Y) (a : Int) : ∃ b' G', g12 b a = some ((tgt a (X.length + Y.length) : Int), b') ∧ Gp b' m ((X ++ Y).take (tgt a (X.length + Y.length))) G' ((X ++ Y).drop (tgt a (X.length + Y.length))) ∧ G'.length = G.length := by
  have hn := h.pn
  have ht := tgt_le a (X.length + Y.length)
  have h48 := g49_gp h a
  generalize tgt a (X.length + Y.length) = t at ht h48 ⊢
  have main : Gives (g12 b a) (fun v => ∃ b' G', v = ((t : Int), b') ∧ Gp b' m ((X ++ Y).take t) G' ((X ++ Y).drop t) ∧ G'.length = G.length) := by
    unfold g12
    rw [eta_b, g47_gp h, h48]
    simp only [Option.bind_some]
    refine g_if (fun h => absurd trivial h) fun _ => ?_
    rw [h.e]
    dsimp only
    have e0 : ((t : Nat) : Int).toNat = t := Int.toNat_natCast _
    have eX : ((X.length : Nat) : Int).toNat = X.length := Int.toNat_natCast _
    have eG : ((X.length + G.length : Nat) : Int).toNat = X.length + G.length := Int.toNat_natCast _
    refine g_if (fun hlt => ?_) fun hge => ?_
    · have hlt : t < X.length := by omega
      have e1 : (((X.length + G.length : Nat) : Int) - ((X.length : Int) - (t : Int))).toNat = G.length + t := by omega
      have e2 : ((X ++ (G ++ Y)).drop t).take (X.length - t) = X.drop t := by
        rw [List.drop_append_of_le_length (by omega), List.take_append_of_le_length (by simp)]
        exact List.take_of_length_le (by simp)
      rw [e0, eX, eG, e1, e2]
      have e3 : min (X.length - t) (X.length + G.length - (G.length + t)) = X.length - t := by omega
      rw [e3]
      refine g_i64 (by omega) (g_i64 (by omega) (g_ck (by simp only [List.length_append]; omega) (g_ck (by simp only [List.length_append]; omega) (g_i64 (by omega) (g_some ?_)))))
      refine ⟨_, ((X ++ (G ++ Y)).take (G.length + t)).drop t, rfl, ⟨?_, h.p0, h.p1, ?_⟩, ?_⟩
      · have f1 : (X ++ Y).take t = X.take t := List.take_append_of_le_length (by omega)
        have f2 : (X ++ Y).drop t = X.drop t ++ Y := List.drop_append_of_le_length (by omega)
        have f3 : cpy (X ++ (G ++ Y)) (G.length + t) (X.drop t) (X.length - t) = X.take t ++ (((X ++ (G ++ Y)).take (G.length + t)).drop t ++ (X.drop t ++ Y)) := by
          unfold cpy
          have g1 : (X.drop t).take (X.length - t) = X.drop t := List.take_of_length_le (by simp)
          have g2 : (X ++ (G ++ Y)).drop (G.length + t + (X.length - t)) = Y := by
            rw [show G.length + t + (X.length - t) = (X ++ G).length by simp; omega, ← List.append_assoc, List.drop_left]
          have g3 : (X ++ (G ++ Y)).take (G.length + t) = X.take t ++ ((X ++ (G ++ Y)).take (G.length + t)).drop t := by
            conv => lhs; rw [← List.take_append_drop t ((X ++ (G ++ Y)).take (G.length + t))]
            rw [List.take_take, show min t (G.length + t) = t by omega, List.take_append_of_le_length (by omega)]
          rw [g1, g2]
          conv => lhs; rw [g3]
          simp [List.append_assoc]
        rw [f1, f2, f3]
        simp only [List.length_take, List.length_drop, List.length_append]
        refine congrArg (fun z => (m, _, z)) ?_
        refine Prod.ext ?_ ?_ <;> dsimp only <;> omega
      · simp only [List.length_take, List.length_drop, List.length_append]; omega
      · simp only [List.length_take, List.length_drop, List.length_append]; omega
    · have hge : X.length ≤ t := by omega
      have e1 : (((X.length + G.length : Nat) : Int) + ((t : Int) - (X.length : Int))).toNat = G.length + t := by omega
      have e2 : ((X ++ (G ++ Y)).drop (X.length + G.length)).take (G.length + t - (X.length + G.length)) = Y.take (t - X.length) := by
        rw [← List.append_assoc, ← List.length_append, List.drop_left, List.length_append, show G.length + t - (X.length + G.length) = t - X.length by omega]
      have eL : (((X ++ (G ++ Y)).length : Nat) : Int).toNat = X.length + (G.length + Y.length) := by rw [Int.toNat_natCast]; simp only [List.length_append]
      rw [eX, eG, e1, e2, eL]
      have e3 : min (G.length + t - (X.length + G.length)) (X.length + (G.length + Y.length) - X.length) = t - X.length := by omega
      rw [e3]
      refine g_i64 (by omega) (g_ck (by simp only [List.length_append]; omega) (g_i64 (by omega) (g_ck (by simp only [List.length_append]; omega) (g_i64 (by omega) (g_some ?_)))))
      refine ⟨_, ((G ++ Y).drop (t - X.length)).take G.length, rfl, ⟨?_, h.p0, h.p1, ?_⟩, ?_⟩
      · have f1 : (X ++ Y).take t = X ++ Y.take (t - X.length) := by rw [List.take_append]; rw [List.take_of_length_le (by omega)]
        have f2 : (X ++ Y).drop t = Y.drop (t - X.length) := by rw [List.drop_append]; rw [List.drop_eq_nil_of_le (by omega)]; rfl
        have f3 : cpy (X ++ (G ++ Y)) X.length (Y.take (t - X.length)) (t - X.length) = (X ++ Y.take (t - X.length)) ++ (((G ++ Y).drop (t - X.length)).take G.length ++ Y.drop (t - X.length)) := by
          unfold cpy
          have g1 : (Y.take (t - X.length)).take (t - X.length) = Y.take (t - X.length) := List.take_of_length_le (by simp; omega)
          have g2 : (X ++ (G ++ Y)).drop (X.length + (t - X.length)) = (G ++ Y).drop (t - X.length) := by rw [List.drop_append]; simp
          have g3 : (G ++ Y).drop (t - X.length) = ((G ++ Y).drop (t - X.length)).take G.length ++ Y.drop (t - X.length) := by
            conv => lhs; rw [← List.take_append_drop G.length ((G ++ Y).drop (t - X.length))]
            rw [List.drop_drop, show t - X.length + G.length = G.length + (t - X.length) by omega, ← List.drop_drop, List.drop_left]
          rw [g1, g2, List.take_left]
          conv => lhs; rw [g3]
        rw [f1, f2, f3]
        simp only [List.length_take, List.length_drop, List.length_append]
        refine congrArg (fun z => (m, _, z)) ?_
        refine Prod.ext ?_ ?_ <;> dsimp only <;> omega
      · simp only [List.length_take, List.length_drop, List.length_append]; omega
      · simp only [List.length_take, List.length_drop, List.length_append]; omega
  obtain ⟨v, hv, b', G', rfl, h1, h2⟩ := main
  exact ⟨b', G', hv, h1, h2⟩
theorem g57_gp (h : Gp b m X G Y) (n : Nat) (hb : 2 * (X.length + G.length + Y.length) + n + 8 ≤ 1000000) : ∃ b' G', g57 b n = some b' ∧ Gp b' m X G' Y ∧ n ≤ G'.length ∧ G'.length ≤ 2 * G.length + X.length + Y.length + n + 8 := by
  have hn := h.pn
  have h48 := g48_gp h
  have main : Gives (g57 b n) (fun v => ∃ G', Gp v m X G' Y ∧ n ≤ G'.length ∧ G'.length ≤ 2 * G.length + X.length + Y.length + n + 8) := by
    unfold g57
    rw [eta_b, h48]
    simp only [Option.bind_some]
    rw [h.e]
    dsimp only
    refine g_i64 (by omega) (g_if (fun hle => g_some ⟨G, ⟨rfl, h.p0, h.p1, hn⟩, by omega, by omega⟩) fun hgt => ?_)
    have eX : ((X.length : Nat) : Int).toNat = X.length := Int.toNat_natCast _
    have eG : ((X.length + G.length : Nat) : Int).toNat = X.length + G.length := Int.toNat_natCast _
    have hL : (X ++ (G ++ Y)).length = X.length + (G.length + Y.length) := by simp only [List.length_append]
    rw [hL]
    have eL : (((X.length + (G.length + Y.length) : Nat) : Int)).toNat = X.length + (G.length + Y.length) := Int.toNat_natCast _
    have eM : ((((X.length + (G.length + Y.length) : Nat) : Int)) + (((n : Int) + ((X.length + Y.length : Nat) : Int)) + 8)).toNat = (X.length + (G.length + Y.length)) + (n + (X.length + Y.length) + 8) := by omega
    have eH : (((X.length + G.length : Nat) : Int) + (((n : Int) + ((X.length + Y.length : Nat) : Int)) + 8)).toNat = X.length + G.length + (n + (X.length + Y.length) + 8) := by omega
    rw [eX, eG, eL, eM, eH]
    have e3 : ((X ++ (G ++ Y)).drop ((0 : Int).toNat)).take (X.length - (0 : Int).toNat) = X := by simp
    have e4 : ((X ++ (G ++ Y)).drop (X.length + G.length)).take (X.length + (G.length + Y.length) - (X.length + G.length)) = Y := by
      have : (X ++ (G ++ Y)).drop (X.length + G.length) = Y := by rw [← List.append_assoc, show X.length + G.length = (X ++ G).length by simp, List.drop_left]
      rw [this]
      exact List.take_of_length_le (by omega)
    rw [e3, e4]
    have e5 : min (X.length - (0 : Int).toNat) (X.length + (G.length + Y.length) + (n + (X.length + Y.length) + 8)) = X.length := by simp; omega
    have e6 : min (X.length + (G.length + Y.length) - (X.length + G.length)) ((((X.length + (G.length + Y.length) + (n + (X.length + Y.length) + 8) : Nat) : Int)).toNat - (X.length + G.length + (n + (X.length + Y.length) + 8))) = Y.length := by omega
    rw [e5, e6]
    refine g_i64 (by omega) (g_i64 (by omega) (g_i64 (by omega) (g_ck (by omega) (g_ck (by omega) (g_i64 (by omega) (g_ck (by omega) (g_ck (by omega) (g_i64 (by omega) (g_some ?_)))))))))
    generalize hk : n + (X.length + Y.length) + 8 = k
    refine ⟨List.replicate (G.length + k) ⟨#[]⟩, ⟨?_, h.p0, h.p1, by simp; omega⟩, by simp; omega, by simp; omega⟩
    have f : cpy (cpy (List.replicate (X.length + (G.length + Y.length) + k) (⟨#[]⟩ : ByteArray)) 0 X X.length) (X.length + G.length + k) Y Y.length = X ++ (List.replicate (G.length + k) ⟨#[]⟩ ++ Y) := by
      unfold cpy
      have g1 : List.take (X.length + G.length + k) (List.take 0 (List.replicate (X.length + (G.length + Y.length) + k) (⟨#[]⟩ : ByteArray)) ++ List.take X.length X ++ List.drop (0 + X.length) (List.replicate (X.length + (G.length + Y.length) + k) ⟨#[]⟩)) = X ++ List.replicate (G.length + k) ⟨#[]⟩ := by
        simp only [List.take_zero, List.nil_append, List.take_length, Nat.zero_add, List.drop_replicate]
        rw [List.take_append, List.take_of_length_le (by omega), List.take_replicate]
        congr 2
        omega
      have g2 : List.drop (X.length + G.length + k + Y.length) (List.take 0 (List.replicate (X.length + (G.length + Y.length) + k) (⟨#[]⟩ : ByteArray)) ++ List.take X.length X ++ List.drop (0 + X.length) (List.replicate (X.length + (G.length + Y.length) + k) ⟨#[]⟩)) = [] := List.drop_eq_nil_of_le (by simp; omega)
      rw [g1, g2, List.take_length, List.append_nil, List.append_assoc]
    rw [f]
    simp only [List.length_replicate]
    refine Prod.ext rfl (Prod.ext rfl (Prod.ext rfl ?_))
    dsimp only
    omega
  obtain ⟨v, hv, G', h1⟩ := main
  exact ⟨v, G', hv, h1⟩
theorem gp_new {m : Int} (h0 : 0 < m) (h1 : m ≤ 4096) : Gp (m, [], 0, 0) m [] [] [] := ⟨rfl, h0, h1, by simp⟩
end Go.Proofs.Ytenjkphlbdhaiaa
namespace Go.Proofs.Ytenjkphlbdhaiaa
open Go Go.Eng
variable {b : Bf} {m : Int} {X G Y : List ByteArray}
theorem str_bytes (s : ByteArray) : strOf (bytesOf s) = s := by
  apply ByteArray.ext
  unfold strOf bytesOf
  apply Array.ext'
  simp only [List.map_map]
  conv => rhs; rw [← List.map_id s.data.toList]
  refine List.map_congr_left fun c _ => ?_
  simp
theorem bytes_byt (s : ByteArray) : Byt (bytesOf s) := fun c hc => by
  obtain ⟨x, _, rfl⟩ := List.mem_map.1 hc
  have := x.toNat_lt
  omega
theorem g54_eq {a : List Int} {s : List Int} (hs : Byt s) (hn : a.length + s.length ≤ 1000000) : g54 a (strOf s) = some ((s.length : Int), a ++ s) := by
  refine g_eq ?_
  unfold g54 g92
  simp only [Option.bind_some]
  rw [str_size, bytes_str hs]
  exact g_ck (by omega) (g_some rfl)
theorem g55_eq {a : List Int} (ha : Byt a) : g55 a = some (strOf a) := by
  refine g_eq ?_
  unfold g55
  exact g_ck ha (g_some rfl)
theorem flen64 : ∀ {cs : List (List Int)}, (∀ c ∈ cs, c.length ≤ 64) → cs.flatten.length ≤ 64 * cs.length
  | [], _ => by simp
  | c :: cs, h => by
    have h1 := h c (.head _)
    have h2 := flen64 (cs := cs) fun x hx => h x (.tail _ hx)
    rw [List.flatten_cons, List.length_append, List.length_cons]
    omega
theorem strs_get {cs : List (List Int)} {i : Nat} (h : i < cs.length) : (strs cs).getD i default = strOf cs[i] := by
  simp [strs, List.getD_eq_getElem?_getD, List.getElem?_eq_getElem h]
theorem g16_gp (h : Gp b m X G Y) {cs : List (List Int)} (hc : X ++ Y = strs cs) (hb : ∀ c ∈ cs, Byt c ∧ c.length ≤ 64) (hn : cs.length ≤ 5000) : g16 b = some (strOf cs.flatten) := by
  refine g_eq ?_
  unfold g16
  rw [g11_gp h, hc]
  simp only [Option.bind_some]
  have hfl : ∀ k, (cs.take k).flatten.length ≤ 64 * k := fun k => by
    have := flen64 (cs := cs.take k) fun c hc => (hb c (List.mem_of_mem_take hc)).2
    rw [List.length_take] at this
    omega
  refine g_jo (g_bind (Ω := fun o => o = cs.flatten) (g_loop (fun s : List Int × Int => ∃ k : Nat, s = ((cs.take k).flatten, (k : Int)) ∧ k ≤ cs.length) (fun s => ((cs.length : Int) - s.2).toNat) ?_ ⟨0, rfl, Nat.zero_le _⟩) ?_)
  · rintro _ ⟨k, rfl, hk⟩
    dsimp only
    rw [strs_len]
    refine g_if (fun hlt => g_ck (by omega) ?_) fun hge => g_out (by rw [List.take_of_length_le (by omega)])
    have hkl : k < cs.length := by omega
    have hbk := hb cs[k] (List.getElem_mem _)
    have := hfl k
    rw [Int.toNat_natCast, strs_get hkl]
    refine g_call (g54_eq hbk.1 (by omega)) (g_i64 (by omega) (g_go ⟨k + 1, ?_, by omega⟩ (by dsimp only; omega)))
    have e : (cs.take k).flatten ++ cs[k] = (cs.take (k + 1)).flatten := by rw [List.take_add_one, List.getElem?_eq_getElem hkl, List.flatten_append]; simp only [Option.toList_some, List.flatten_cons, List.flatten_nil, List.append_nil]
    rw [e, Int.natCast_add]
    rfl
  · rintro _ rfl
    refine g_call (g55_eq fun c hc => ?_) (g_some rfl)
    obtain ⟨x, hx, hc⟩ := List.mem_flatten.1 hc
    exact (hb x hx).1 c hc
theorem allcl_byt {cs : List (List Int)} (h : AllCl cs) : ∀ c ∈ cs, Byt c ∧ c.length ≤ 64 := fun c hc => by
  obtain ⟨R, h1, h2, h3, _⟩ := h c hc
  exact ⟨by rw [h1]; exact encs_byt h2, h3⟩
theorem gp_more (h : Gp b m X G Y) {n : Nat} (hn : n ≤ Y.length) : Gp (b.1, b.2.1, b.2.2.1, b.2.2.2 + (n : Int)) m X (G ++ Y.take n) (Y.drop n) := by
  have hp := h.pn
  refine ⟨?_, h.p0, h.p1, by simp; omega⟩
  rw [h.e]
  dsimp only
  rw [List.append_assoc, List.take_append_drop]
  refine Prod.ext rfl (Prod.ext rfl (Prod.ext rfl ?_))
  simp
  omega
end Go.Proofs.Ytenjkphlbdhaiaa
namespace Go.Proofs.Ytenjkphlbdhaiaa
open Go Go.Eng
variable {b : Bf} {m : Int} {X G Y : List ByteArray}
theorem del_gives {β : Type} {K : Int × List ByteArray × Int × Int × List ByteArray → Option β} {Φ : β → Prop} (h : Gp b m X G Y) (a2 a3 : Int) {f t : Nat} (hf : tgt a2 (X.length + Y.length) = f) (ht : tgt a3 (X.length + Y.length) = t)
    (hk0 : t ≤ f → Gives (K (b.1, b.2.1, b.2.2.1, b.2.2.2, [])) Φ)
    (hk : ∀ b' G' X' Y', f < t → Gp b' m X' G' Y' → X' ++ Y' = (X ++ Y).take f ++ (X ++ Y).drop t → X'.length + G'.length + Y'.length = X.length + G.length + Y.length →
      X'.length = (if t ≤ X.length then X.length - (t - f) else if X.length < f then X.length else f) → Gives (K (b'.1, b'.2.1, b'.2.2.1, b'.2.2.2, ((X ++ Y).drop f).take (t - f))) Φ) :
    Gives ((g47 b).bind fun v106 =>
            if ¬ (v106 = true) then
              K (b.1, b.2.1, b.2.2.1, b.2.2.2, ([] : List ByteArray))
            else
              (
                (g49 b a2).bind fun v109 =>
                (g49 b a3).bind fun v111 =>
                if v111 ≤ v109 then
                  K (b.1, b.2.1, b.2.2.1, b.2.2.2, ([] : List ByteArray))
                else
                  (
                    (g11 b).bind fun v114 =>
                    ck (0 ≤ v109 ∧ v109 ≤ v111 ∧ v111 ≤ v111 ∧ v111 ≤ ((v114.length : Nat) : Int)) <|
                    (g12 b v109).bind fun v119 =>
                    ck (inR .i64 (v111 - v109)) <|
                    ck (inR .i64 (v119.2.2.2.2 + (v111 - v109))) <|
                    if v111 ≤ b.2.2.1 then
                      (
                        ck (inR .i64 (v111 - v109)) <|
                        ck (inR .i64 (b.2.2.1 - (v111 - v109))) <|
                        (g12 (v119.2.1, v119.2.2.1, v119.2.2.2.1, v119.2.2.2.2 + (v111 - v109)) (b.2.2.1 - (v111 - v109))).bind fun v126 =>
                        K (v126.2.1, v126.2.2.1, v126.2.2.2.1, v126.2.2.2.2, ((v114.drop v109.toNat).take (v111.toNat - v109.toNat)))
                      )
                    else
                      (
                        if b.2.2.1 < v109 then
                          (
                            (g12 (v119.2.1, v119.2.2.1, v119.2.2.2.1, v119.2.2.2.2 + (v111 - v109)) b.2.2.1).bind fun v141 =>
                            K (v141.2.1, v141.2.2.1, v141.2.2.2.1, v141.2.2.2.2, ((v114.drop v109.toNat).take (v111.toNat - v109.toNat)))
                          )
                        else
                          K (v119.2.1, v119.2.2.1, v119.2.2.2.1, v119.2.2.2.2 + (v111 - v109), ((v114.drop v109.toNat).take (v111.toNat - v109.toNat)))
                      )
                  )
              )) Φ := by
  have hn := h.pn
  have hfl := tgt_le a2 (X.length + Y.length)
  have htl := tgt_le a3 (X.length + Y.length)
  rw [hf] at hfl
  rw [ht] at htl
  have hlo : b.2.2.1 = (X.length : Int) := by rw [h.e]
  refine g_call (g47_gp h) (g_if (fun h => absurd rfl h) fun _ => g_call (g49_gp h a2) (g_call (g49_gp h a3) ?_))
  rw [hf, ht]
  refine g_if (fun hle => hk0 (by omega)) fun hlt => ?_
  have hlt : f < t := by omega
  have hll : (X ++ Y).length = X.length + Y.length := List.length_append
  refine g_call (g11_gp h) (g_ck (by omega) ?_)
  obtain ⟨b1, G1, e1, h1, l1⟩ := g12_gp h (f : Int)
  have hff : tgt (f : Int) (X.length + Y.length) = f := by unfold tgt; omega
  rw [hff] at e1 h1
  have hd : ((X ++ Y).drop f).length = X.length + Y.length - f := by rw [List.length_drop, hll]
  have h2 := gp_more h1 (n := t - f) (by rw [hd]; omega)
  have ed : ((X ++ Y).drop f).drop (t - f) = (X ++ Y).drop t := by rw [List.drop_drop]; congr 1; omega
  rw [ed] at h2
  have ei : ((t : Int) - (f : Int)) = ((t - f : Nat) : Int) := by omega
  have etl : ((X ++ Y).take f).length = f := by rw [List.length_take, hll]; omega
  have edl : ((X ++ Y).drop t).length = X.length + Y.length - t := by rw [List.length_drop, hll]
  have eG2 : (G1 ++ ((X ++ Y).drop f).take (t - f)).length = G.length + (t - f) := by rw [List.length_append, List.length_take, hd, l1]; omega
  have hNl : ((X ++ Y).take f ++ (X ++ Y).drop t).length = X.length + Y.length - (t - f) := by rw [List.length_append, etl, edl]; omega
  have hhi : b1.2.2.2 = ((f + G.length : Nat) : Int) := by rw [h1.e]; dsimp only; rw [etl, l1]
  refine g_call e1 ?_
  dsimp only
  rw [hlo, ei, Int.toNat_natCast, Int.toNat_natCast]
  refine g_i64 (by omega) (g_i64 (by omega) (g_if (fun c1 => g_i64 (by omega) (g_i64 (by omega) ?_)) fun c1 => g_if (fun c2 => ?_) fun c2 => ?_))
  · obtain ⟨b3, G3, e3, h3, l3⟩ := g12_gp h2 ((X.length : Int) - ((t - f : Nat) : Int))
    refine g_call e3 (hk b3 G3 _ _ hlt h3 (List.take_append_drop _ _) ?_ ?_)
    · rw [l3, eG2]; generalize tgt _ _ = τ; rw [List.length_take, List.length_drop, hNl]; omega
    · rw [if_pos (by omega), List.length_take, hNl, etl, edl]
      unfold tgt
      omega
  · obtain ⟨b3, G3, e3, h3, l3⟩ := g12_gp h2 (X.length : Int)
    refine g_call e3 (hk b3 G3 _ _ hlt h3 (List.take_append_drop _ _) ?_ ?_)
    · rw [l3, eG2]; generalize tgt _ _ = τ; rw [List.length_take, List.length_drop, hNl]; omega
    · rw [if_neg (by omega), if_pos (by omega), List.length_take, hNl, etl, edl]
      unfold tgt
      omega
  · refine hk _ _ _ _ hlt h2 rfl ?_ ?_
    · rw [eG2, etl, edl]; omega
    · rw [if_neg (by omega), if_neg (by omega), etl]
end Go.Proofs.Ytenjkphlbdhaiaa
namespace Go.Proofs.Ytenjkphlbdhaiaa
open Go Go.Eng
end Go.Proofs.Ytenjkphlbdhaiaa
namespace Go.Proofs.Ytenjkphlbdhaiaa
open Go Go.Eng
end Go.Proofs.Ytenjkphlbdhaiaa
end
section
namespace Go.Proofs.Ytenjkphlbdhaiaa
open Go Go.Eng
variable {b : Bf} {m : Int} {X G Y : List ByteArray}
theorem g19_gp (h : Gp b m X G Y) (a2 a3 : Int) {f t : Nat} (hf : tgt a2 (X.length + Y.length) = f) (ht : tgt a3 (X.length + Y.length) = t) :
    ∃ b' G' X' Y' o, g19 b a2 a3 = some (o, b') ∧ Gp b' m X' G' Y' ∧ X'.length + G'.length + Y'.length = X.length + G.length + Y.length ∧
      ((t ≤ f ∧ o = [] ∧ X' = X ∧ Y' = Y) ∨ (f < t ∧ o = ((X ++ Y).drop f).take (t - f) ∧ X' ++ Y' = (X ++ Y).take f ++ (X ++ Y).drop t ∧ X'.length = (if t ≤ X.length then X.length - (t - f) else if X.length < f then X.length else f))) := by
  have main : Gives (g19 b a2 a3) fun r => ∃ G' X' Y', Gp r.2 m X' G' Y' ∧ X'.length + G'.length + Y'.length = X.length + G.length + Y.length ∧
      ((t ≤ f ∧ r.1 = [] ∧ X' = X ∧ Y' = Y) ∨ (f < t ∧ r.1 = ((X ++ Y).drop f).take (t - f) ∧ X' ++ Y' = (X ++ Y).take f ++ (X ++ Y).drop t ∧ X'.length = (if t ≤ X.length then X.length - (t - f) else if X.length < f then X.length else f))) := by
    unfold g19
    exact del_gives (K := fun p => some (p.2.2.2.2, (p.1, p.2.1, p.2.2.1, p.2.2.2.1))) h a2 a3 hf ht (fun hle => g_some ⟨G, X, Y, h, rfl, .inl ⟨hle, rfl, rfl, rfl⟩⟩) fun b' G' X' Y' hlt h' e1 e2 e3 => g_some ⟨G', X', Y', h', e2, .inr ⟨hlt, rfl, e1, e3⟩⟩
  obtain ⟨⟨o, b'⟩, hv, G', X', Y', h1, h2, h3⟩ := main
  exact ⟨b', G', X', Y', o, hv, h1, h2, h3⟩
theorem g59_gp' (h : Gp b m X G Y) {k : Nat} (hk : k < X.length + Y.length) : g59 b k = some ((X ++ Y).getD k default) := by
  have hn := h.pn
  refine g_eq ?_
  unfold g59 g62
  rw [h.e]
  dsimp only
  by_cases hx : k < X.length
  · rw [if_pos (by omega), Option.bind_some]
    refine g_ck (by simp only [List.length_append]; omega) (g_some ?_)
    rw [Int.toNat_natCast]
    simp only [List.getD_eq_getElem?_getD, List.getElem?_append_left hx]
  · rw [if_neg (by omega)]
    refine g_bind (Ω := fun v => v = (k : Int) + ((X.length + G.length : Nat) : Int) - (X.length : Int)) (g_i64 (by omega) (g_i64 (by omega) (g_some rfl))) ?_
    rintro _ rfl
    refine g_ck (by simp only [List.length_append]; omega) (g_some ?_)
    have e : ((k : Int) + ((X.length + G.length : Nat) : Int) - (X.length : Int)).toNat = k + G.length := by omega
    rw [e]
    simp only [List.getD_eq_getElem?_getD]
    rw [List.getElem?_append_right (by omega), List.getElem?_append_right (by omega), List.getElem?_append_right (by omega)]
    congr 2
    omega
theorem g24_gp (h : Gp b m X G Y) (a : Int) : g24 b a = some (if 0 ≤ a ∧ a < ((X.length + Y.length : Nat) : Int) then ((X ++ Y).getD a.toNat default, true) else (lit [], false)) := by
  refine g_eq ?_
  unfold g24
  refine g_call (g47_gp h) (g_if (fun hc => absurd rfl hc) fun _ => g_if (fun h0 => g_some (by rw [if_neg (by omega)])) fun h0 => g_call (g48_gp h) (g_if (fun h1 => g_some (by rw [if_neg (by omega)])) fun h1 => ?_))
  obtain ⟨k, rfl⟩ : ∃ k : Nat, a = (k : Int) := ⟨a.toNat, by omega⟩
  exact g_call (g59_gp' h (by omega)) (g_some (by rw [if_pos (by omega), Int.toNat_natCast]))
theorem set_mid {α : Type} {X G Y : List α} {k : Nat} {c : α} (hk : k < X.length) : (X ++ (G ++ Y)).set k c = X.set k c ++ (G ++ Y) := List.set_append_left _ _ hk
theorem g28_gp (h : Gp b m X G Y) {k : Nat} (hk : k < X.length) {c : ByteArray} (hc : g56 c = some true) : ∃ b', g28 b k c = some (0, b') ∧ Gp b' m (X.set k c) G Y := by
  have hn := h.pn
  have main : Gives (g28 b k c) fun r => r.1 = 0 ∧ Gp r.2 m (X.set k c) G Y := by
    unfold g28
    refine g_call (g47_gp h) (g_if (fun hc => absurd rfl hc) fun _ => g_if (fun h0 => absurd h0 (by omega)) fun _ => g_call (g48_gp h) (g_if (fun h1 => absurd h1 (by omega)) fun _ => g_call hc (g_if (fun hc => absurd rfl hc) fun _ => ?_)))
    refine g_bind (Ω := fun v => v = (k : Int)) ?_ ?_
    · unfold g62
      refine g_if (fun _ => g_some rfl) fun hc => absurd ?_ hc
      rw [h.e]; dsimp only; omega
    rintro _ rfl
    refine g_ck (by rw [h.e]; simp only [List.length_append]; omega) (g_some ⟨rfl, ?_, h.p0, h.p1, by simpa using hn⟩)
    rw [h.e]
    dsimp only
    rw [Int.toNat_natCast, set_mid hk, List.length_set]
  obtain ⟨⟨o, b'⟩, hv, h1, h2⟩ := main
  dsimp only at h1 h2
  subst h1
  exact ⟨b', hv, h2⟩
theorem g57_gp' (h : Gp b m X G Y) (n : Nat) (hb : 2 * (X.length + G.length + Y.length) + n + 8 ≤ 1000000) : ∃ b' G', g57 b n = some b' ∧ Gp b' m X G' Y ∧ n ≤ G'.length ∧ ((n ≤ G.length ∧ G'.length = G.length) ∨ (G.length < n ∧ G'.length ≤ G.length + X.length + Y.length + n + 8)) := by
  obtain ⟨b', G', h1, h2, h3, h4⟩ := g57_gp h n hb
  by_cases hle : n ≤ G.length
  · refine ⟨b, G, ?_, h, hle, .inl ⟨hle, rfl⟩⟩
    refine g_eq ?_
    unfold g57
    refine g_i64 ?_ (g_if (fun _ => g_some rfl) fun hc => absurd ?_ hc)
    · rw [h.e]; have := h.pn; dsimp only; omega
    · rw [h.e]; dsimp only; omega
  · refine ⟨b', G', h1, h2, h3, .inr ⟨by omega, ?_⟩⟩
    have hn := h.pn
    have h48 := g48_gp h
    have main : Gives (g57 b n) (fun v => (v.2.1.length : Int) = ((X.length + G.length + Y.length + (n + (X.length + Y.length) + 8) : Nat) : Int)) := by
      unfold g57
      rw [eta_b, h48]
      simp only [Option.bind_some]
      rw [h.e]
      dsimp only
      refine g_i64 (by omega) (g_if (fun hle => absurd hle (by omega)) fun hgt => ?_)
      have hL : (X ++ (G ++ Y)).length = X.length + (G.length + Y.length) := by simp only [List.length_append]
      rw [hL]
      refine g_i64 (by omega) (g_i64 (by omega) (g_i64 (by omega) (g_ck (by omega) (g_ck (by omega) (g_i64 (by omega) (g_ck (by omega) (g_ck (by omega) (g_i64 (by omega) (g_some ?_)))))))))
      dsimp only
      unfold cpy
      simp only [List.length_append, List.length_take, List.length_drop, List.length_replicate]
      omega
    obtain ⟨v, hv, hl⟩ := main
    rw [h1] at hv
    cases hv
    rw [h2.e] at hl
    simp only [List.length_append] at hl
    omega
theorem g21_gp' (h : Gp b m X G Y) {A : List ByteArray} (hA : ∀ c ∈ A, g56 c = some true) (hroom : ((X.length + Y.length + A.length : Nat) : Int) ≤ m) (hm : m ≤ 300) (hb : X.length + G.length + Y.length ≤ 700) :
    ∃ b' G', g21 b A = some (0, b') ∧ Gp b' m (X ++ A) G' Y ∧ (X ++ A).length + G'.length + Y.length ≤ 700 := by
  have hn := h.pn
  have hp := h.p0
  have hp1 := h.p1
  have h48 := g48_gp h
  obtain ⟨b1, G1, h57, hg1, hle, hle2⟩ := g57_gp' h A.length (by omega)
  have main : Gives (g21 b A) (fun v => ∃ b' G', v = (0, b') ∧ Gp b' m (X ++ A) G' Y ∧ G'.length = G1.length - A.length) := by
    unfold g21
    rw [eta_b, g47_gp h, h48, h57]
    simp only [Option.bind_some]
    refine g_if (fun h => absurd trivial h) fun _ => ?_
    refine g_jn (fun _ => True) (fun k hk => g_bind (g_loop (R := fun o => o = .inr ()) (fun i : Int => 0 ≤ i ∧ i ≤ A.length) (fun i : Int => ((A.length : Int) - i).toNat) ?_ ⟨Int.le_refl _, by omega⟩) ?_) ?_
    · rintro i ⟨h0, h1⟩
      refine g_if (fun hi => g_ck (by omega) (g_call (hA _ (getD_mem (by omega))) (g_if (fun h => absurd rfl h) fun _ => g_i64 (by omega) (g_go ⟨by omega, by omega⟩ (by omega))))) fun hi => g_out rfl
    · rintro _ rfl
      exact g_sm (fun v hv => by cases hv) fun r hr => hk () trivial
    · rintro _ _
      rw [h.e]
      dsimp only
      refine g_i64 (by omega) (g_if (fun hlt => by omega) fun _ => ?_)
      rw [hg1.e]
      dsimp only
      have eX : ((X.length : Nat) : Int).toNat = X.length := Int.toNat_natCast _
      have eG : ((X.length + G1.length : Nat) : Int).toNat = X.length + G1.length := Int.toNat_natCast _
      have hg1n := hg1.pn
      rw [eX, eG, show min A.length (X.length + G1.length - X.length) = A.length by omega]
      refine g_ck (by simp only [List.length_append]; omega) (g_i64 (by omega) (g_some ⟨_, G1.drop A.length, rfl, ⟨?_, hp, hp1, by simp only [List.length_append, List.length_drop]; omega⟩, List.length_drop⟩))
      have f : cpy (X ++ (G1 ++ Y)) X.length A A.length = (X ++ A) ++ (G1.drop A.length ++ Y) := by
        unfold cpy
        rw [List.take_left, List.take_length, List.drop_append, List.drop_eq_nil_of_le (by omega), List.nil_append, show X.length + A.length - X.length = A.length by omega, List.drop_append_of_le_length (by omega)]
      rw [f]
      simp only [List.length_append, List.length_drop]
      refine congrArg (fun z => (m, _, z)) ?_
      refine Prod.ext ?_ ?_ <;> dsimp only <;> omega
  obtain ⟨v, hv, b', G', rfl, h1, h2⟩ := main
  exact ⟨b', G', hv, h1, by simp only [List.length_append]; omega⟩
def IsC (c : ByteArray) : Prop := ∃ x R, Cl x R ∧ c = strOf x
theorem isC_is {c : ByteArray} (h : IsC c) : g56 c = some true := by
  obtain ⟨x, R, hc, rfl⟩ := h
  exact g56_cl hc
theorem isC_list : ∀ {l : List ByteArray}, (∀ c ∈ l, IsC c) → ∃ cs, AllCl cs ∧ l = strs cs
  | [], _ => ⟨[], (fun c hc => by cases hc), rfl⟩
  | c :: l, h => by
    obtain ⟨x, R, hx, rfl⟩ := h c (.head _)
    obtain ⟨cs, h1, rfl⟩ := isC_list fun c hc => h c (.tail _ hc)
    exact ⟨x :: cs, fun y hy => by rcases List.mem_cons.1 hy with rfl | hy; exact ⟨R, hx⟩; exact h1 y hy, rfl⟩
theorem isC_strs {cs : List (List Int)} (h : AllCl cs) : ∀ c ∈ strs cs, IsC c := fun c hc => by
  obtain ⟨x, hx, rfl⟩ := List.mem_map.1 hc
  obtain ⟨R, hR⟩ := h x hx
  exact ⟨x, R, hR, rfl⟩
theorem isC_size {c : ByteArray} (h : IsC c) : 0 < c.size := by
  obtain ⟨x, R, ⟨rfl, _, _, v, M, rfl, _⟩, rfl⟩ := h
  rw [str_size, encs_cons, List.length_append]
  have := @enc_len4 v
  omega
theorem isC_at {l : List ByteArray} (h : ∀ c ∈ l, IsC c) {k : Nat} (hk : k < l.length) : IsC (l.getD k default) := h _ (getD_mem (by omega))
theorem g97_isC {s : ByteArray} (h : IsC s) (r : Int) : Gives (g97 s r) fun v => IsC v.1 := by
  obtain ⟨x, R, hx, rfl⟩ := h
  have hx' := hx
  obtain ⟨h1, h2, h3, v, M, h4, h5, h6⟩ := hx'
  unfold g97
  refine g_call (g118_eq r) (g_if (fun _ => g_some ⟨x, R, hx, rfl⟩) fun hm => ?_)
  have hm : isMk r := by simpa using hm
  have hr : isR r := hm.2.1
  have hel := @enc_len4 r
  refine g_call (g56_cl hx) (g_if (fun hc => absurd rfl hc) fun _ => g_call (g119_eq r) ?_)
  rw [norm_of hr]
  refine g_ck (enc_byt hr) (g_ck ?_ (g_if (fun _ => g_some ⟨x, R, hx, rfl⟩) fun hs => g_some ?_))
  · rw [str_size, str_size]; omega
  · rw [← str_app, str_size, List.length_append] at hs
    refine ⟨x ++ enc r, R ++ [r], ⟨?_, fun y hy => ?_, by rw [List.length_append]; omega, v, M ++ [r], by rw [h4]; rfl, h5, fun y hy => ?_⟩, (str_app _ _).symm⟩
    · rw [encs_app, ← h1]; simp [encs]
    · rcases List.mem_append.1 hy with hy | hy
      · exact h2 y hy
      · rw [List.mem_singleton.1 hy]; exact hr
    · rcases List.mem_append.1 hy with hy | hy
      · exact h6 y hy
      · rw [List.mem_singleton.1 hy]; exact hm
end Go.Proofs.Ytenjkphlbdhaiaa
end
section
namespace Go.Proofs.Ytenjkphlbdhaiaa
open Go Go.Eng
abbrev Ed := Bf × List (List ByteArray) × List (List ByteArray × Int) × Bool × Bool × Int × Int
structure EI (M : Int) (n : Nat) (e : Ed) (X Y : List ByteArray) : Prop where
  gp : ∃ G, Gp e.1 M X G Y ∧ X.length + G.length + Y.length ≤ 700
  m3 : M ≤ 300
  sz : ((X.length + Y.length : Nat) : Int) ≤ M
  cl : ∀ c ∈ X ++ Y, IsC c
  kl : e.2.1.length ≤ 16
  ks : ∀ k ∈ e.2.1, k.length ≤ n ∧ ∀ c ∈ k, IsC c
  bl : e.2.2.1.length ≤ 64
  bs : ∀ p ∈ e.2.2.1, ((p.1.length : Nat) : Int) ≤ M ∧ ∀ c ∈ p.1, IsC c
  ya : e.2.2.2.2.1 = true → 0 ≤ e.2.2.2.2.2.1 ∧ e.2.2.2.2.2.1 ≤ (X.length : Int) ∧ 0 ≤ e.2.2.2.2.2.2 ∧ e.2.2.2.2.2.2 ≤ 16
variable {M : Int} {n : Nat} {e : Ed} {X Y : List ByteArray} {b : Bf} {K : List (List ByteArray)} {B : List (List ByteArray × Int)} {kd yk : Bool} {fr wh : Int}
theorem EI.rest (h : EI M n (b, K, B, kd, yk, fr, wh) X Y) {kd' : Bool} {fr' wh' : Int} : EI M n (b, K, B, kd', false, fr', wh') X Y := ⟨h.gp, h.m3, h.sz, h.cl, h.kl, h.ks, h.bl, h.bs, fun h => by cases h⟩
theorem EI.more (h : EI M n e X Y) {n' : Nat} (hn : n ≤ n') : EI M n' e X Y := ⟨h.gp, h.m3, h.sz, h.cl, h.kl, fun k hk => ⟨Nat.le_trans (h.ks k hk).1 hn, (h.ks k hk).2⟩, h.bl, h.bs, h.ya⟩
theorem tk_mid {l r : List ByteArray} {f : Nat} (h : f ≤ l.length) : (l.take f ++ r).take f = l.take f := by
  rw [List.take_append_of_le_length (by rw [List.length_take]; omega), List.take_take, Nat.min_self]
theorem dr_mid {l r : List ByteArray} {f : Nat} (h : f ≤ l.length) : (l.take f ++ r).drop f = r := by
  have e : (l.take f).length = f := by rw [List.length_take]; omega
  conv => lhs; rw [← e]
  rw [e]
  rw [List.drop_append_of_le_length (by omega), List.drop_eq_nil_of_le (by omega)]
  rfl
theorem tgt_in {f s : Nat} (h : f ≤ s) : tgt (f : Int) s = f := by unfold tgt; omega
theorem g69_ei (h : EI M n (b, K, B, kd, yk, fr, wh) X Y) : ∃ B', g69 (b, K, B, kd, yk, fr, wh) = some (b, K, B', kd, yk, fr, wh) ∧ EI M n (b, K, B', kd, yk, fr, wh) X Y := by
  obtain ⟨G, hG, hT⟩ := h.gp
  have hbl := h.bl
  have hbs := h.bs
  dsimp only at hG hbl hbs
  have key : ∀ p ∈ B ++ [(X ++ Y, (X.length : Int))], ((p.1.length : Nat) : Int) ≤ M ∧ ∀ c ∈ p.1, IsC c := fun p hp => by
    rcases List.mem_append.1 hp with hp | hp
    · exact hbs p hp
    · rw [List.mem_singleton.1 hp]
      exact ⟨by have := h.sz; rw [List.length_append]; exact this, h.cl⟩
  have hL : (B ++ [(X ++ Y, (X.length : Int))]).length = B.length + 1 := by simp
  have main : Gives (g69 (b, K, B, kd, yk, fr, wh)) fun r => ∃ B', r = (b, K, B', kd, yk, fr, wh) ∧ B'.length ≤ 64 ∧ ∀ p ∈ B', p ∈ B ++ [(X ++ Y, (X.length : Int))] := by
    unfold g69
    refine g_call (g11_gp hG) (g_call (g13_gp hG) (g_ck (by dsimp only; omega) ?_))
    dsimp only
    rw [hL]
    refine g_if (fun h64 => g_ck (by omega) ?_) fun h64 => g_some ⟨_, rfl, by rw [hL]; omega, fun p hp => hp⟩
    have hl2 : ((B ++ [(X ++ Y, (X.length : Int))]).drop (1 : Int).toNat |>.take (((B.length + 1 : Nat) : Int).toNat - (1 : Int).toNat)).length ≤ 64 := by
      rw [List.length_take, List.length_drop, hL]
      have : (1 : Int).toNat = 1 := rfl
      omega
    refine g_call (b := ((B ++ [(X ++ Y, (X.length : Int))]).drop (1 : Int).toNat |>.take (((B.length + 1 : Nat) : Int).toNat - (1 : Int).toNat))) ?_ (g_some ⟨_, rfl, hl2, fun p hp => List.mem_of_mem_drop (List.mem_of_mem_take hp)⟩)
    unfold cl ck
    rw [if_pos (by omega)]
  obtain ⟨r, hr, B', rfl, h1, h2⟩ := main
  exact ⟨B', hr, ⟨G, hG, hT⟩, h.m3, h.sz, h.cl, h.kl, h.ks, h1, fun p hp => key p (h2 p hp), h.ya⟩
theorem g73_ei (h : EI M n (b, K, B, kd, yk, fr, wh) X Y) (a t : Int) : Gives (g73 (b, K, B, kd, yk, fr, wh) a t) fun r => ∃ b' B' X' Y', r.2 = (b', K, B', false, false, fr, wh) ∧ EI M n r.2 X' Y' ∧
    ((r.1 = false ∧ X' = X ∧ Y' = Y) ∨ (r.1 = true ∧ ∃ i j : Nat, a = i ∧ t = j ∧ i < j ∧ j ≤ X.length + Y.length ∧ X' = (X ++ Y).take i ∧ Y' = (X ++ Y).drop j)) := by
  obtain ⟨G, hG, hT⟩ := h.gp
  dsimp only at hG
  have no : Gives (some (false, (b, K, B, false, false, fr, wh))) fun r : Bool × Ed => ∃ b' B' X' Y', r.2 = (b', K, B', false, false, fr, wh) ∧ EI M n r.2 X' Y' ∧
    ((r.1 = false ∧ X' = X ∧ Y' = Y) ∨ (r.1 = true ∧ ∃ i j : Nat, a = i ∧ t = j ∧ i < j ∧ j ≤ X.length + Y.length ∧ X' = (X ++ Y).take i ∧ Y' = (X ++ Y).drop j)) := g_some ⟨b, B, X, Y, rfl, h.rest, .inl ⟨rfl, rfl, rfl⟩⟩
  unfold g73
  refine g_if (fun _ => no) fun h0 => g_call (g20_gp hG) (g_if (fun _ => no) fun h1 => g_if (fun _ => no) fun h2 => ?_)
  obtain ⟨i, rfl⟩ : ∃ i : Nat, a = (i : Int) := ⟨a.toNat, by omega⟩
  obtain ⟨j, rfl⟩ : ∃ j : Nat, t = (j : Int) := ⟨t.toNat, by omega⟩
  have hij : i < j := by omega
  have hjl : j ≤ X.length + Y.length := by omega
  have hll : (X ++ Y).length = X.length + Y.length := List.length_append
  obtain ⟨B', e1, h1⟩ := g69_ei (h.rest (kd' := false) (fr' := fr) (wh' := wh))
  refine g_call e1 ?_
  obtain ⟨b1, G1, X1, Y1, o, e2, hG1, hT1, hc⟩ := g19_gp hG (i : Int) (j : Int) (tgt_in (by omega)) (tgt_in hjl)
  refine g_call e2 ?_
  obtain ⟨b2, G2, e3, hG2, hl2⟩ := g12_gp hG1 (i : Int)
  rcases hc with ⟨hc, _⟩ | ⟨_, rfl, hxy, hxl⟩
  · omega
  have hlen : X1.length + Y1.length = X.length + Y.length - (j - i) := by rw [← List.length_append, hxy, List.length_append, List.length_take, List.length_drop, hll]; omega
  rw [tgt_in (by omega), hxy, tk_mid (by omega), dr_mid (by omega)] at hG2
  refine g_call e3 (g_some ⟨b2, B', _, _, rfl, ?_, .inr ⟨rfl, i, j, rfl, rfl, hij, hjl, rfl, rfl⟩⟩)
  refine ⟨⟨G2, hG2, ?_⟩, h.m3, ?_, fun c hc => ?_, h.kl, h.ks, h1.bl, h1.bs, fun h => by cases h⟩
  · rw [List.length_take, List.length_drop, hll]; omega
  · have := h.sz
    rw [List.length_take, List.length_drop, hll]; omega
  · rcases List.mem_append.1 hc with hc | hc
    · exact h.cl c (List.mem_of_mem_take hc)
    · exact h.cl c (List.mem_of_mem_drop hc)
theorem g74_ei (h : EI M n (b, K, B, kd, yk, fr, wh) X Y) (hn : n ≤ 1000000) (a t : Int) (ah : Bool) : Gives (g74 (b, K, B, kd, yk, fr, wh) a t ah) fun r => ∃ X' Y', EI M (n + 300) r.2 X' Y' ∧
    ((r.1 = false ∧ X' = X ∧ Y' = Y) ∨ (r.1 = true ∧ ∃ i j : Nat, i < j ∧ j ≤ X.length + Y.length ∧ X' = (X ++ Y).take i ∧ Y' = (X ++ Y).drop j ∧ (K = [] → r.2.2.1 = [((X ++ Y).drop i).take (j - i)]))) := by
  obtain ⟨G, hG, hT⟩ := h.gp
  dsimp only at hG
  have hkl := h.kl
  have hks := h.ks
  dsimp only at hkl hks
  have hll : (X ++ Y).length = X.length + Y.length := List.length_append
  unfold g74
  refine g_jn (fun v => v = true → K ≠ []) (fun k hk => ?_) fun v hv => ?_
  · refine g_if (fun _ => hk _ fun h0 => ?_) fun _ => hk _ fun h0 => by cases h0
    have : 0 < K.length := by simpa using h0
    exact List.length_pos_iff.1 this
  refine g_call (g11_gp hG) (g_bind (g73_ei h a t) ?_)
  rintro ⟨ok, r⟩ ⟨b', B', X', Y', rfl, hE, hc⟩
  dsimp only at hE hc ⊢
  rcases hc with ⟨rfl, rfl, rfl⟩ | ⟨rfl, i, j, rfl, rfl, hij, hjl, rfl, rfl⟩
  · exact g_t (by decide) (g_some ⟨_, _, hE.more (by omega), .inl ⟨rfl, rfl, rfl⟩⟩)
  refine g_f (by decide) (g_ck (by omega) ?_)
  have ei : ((i : Int)).toNat = i := Int.toNat_natCast i
  have ej : ((j : Int)).toNat = j := Int.toNat_natCast j
  rw [ei, ej]
  generalize hg : ((X ++ Y).drop i).take (j - i) = gone
  have hgl : gone.length = j - i := by rw [← hg, List.length_take, List.length_drop]; omega
  have hgc : ∀ c ∈ gone, IsC c := fun c hc => by rw [← hg] at hc; exact h.cl c (List.mem_of_mem_drop (List.mem_of_mem_take hc))
  have hs := h.sz
  have hm := h.m3
  have fin : ∀ K' : List (List ByteArray), K'.length ≤ 16 → (∀ k ∈ K', k.length ≤ n + 300 ∧ ∀ c ∈ k, IsC c) → (K = [] → K' = [gone]) → Gives (some (true, (b', K', B', true, false, fr, wh))) fun r : Bool × Ed => ∃ X' Y', EI M (n + 300) r.2 X' Y' ∧
    ((r.1 = false ∧ X' = X ∧ Y' = Y) ∨ (r.1 = true ∧ ∃ i j : Nat, i < j ∧ j ≤ X.length + Y.length ∧ X' = (X ++ Y).take i ∧ Y' = (X ++ Y).drop j ∧ (K = [] → r.2.2.1 = [((X ++ Y).drop i).take (j - i)]))) := fun K' h1 h2 h3 =>
      g_some ⟨_, _, ⟨hE.gp, hE.m3, hE.sz, hE.cl, h1, h2, hE.bl, hE.bs, fun h => by cases h⟩, .inr ⟨rfl, i, j, hij, hjl, rfl, rfl, fun h => by rw [hg]; exact h3 h⟩⟩
  refine g_call (b := gone) ?_ ?_
  · unfold g103 ck
    rw [if_pos (by omega)]
    rfl
  have h0 : (0 : Int).toNat = 0 := rfl
  refine g_jn (fun w => w = true → v = true) (fun k hk => g_if (fun hv => hk _ fun _ => hv) fun _ => hk _ fun h => by cases h) fun w hw => ?_
  have hK0 : v = true → ∃ k0 K1, K = k0 :: K1 := fun hv' => by
    have := hv hv'
    cases K with
    | nil => exact absurd rfl this
    | cons k0 K1 => exact ⟨k0, K1, rfl⟩
  refine g_if (fun hw' => ?_) fun hw' => g_if (fun hv' => ?_) fun hv' => ?_
  · obtain ⟨k0, K1, rfl⟩ := hK0 (hw hw')
    have k0s := hks k0 (.head _)
    have hk0 : (List.getD (k0 :: K1) (0 : Int).toNat default) = k0 := rfl
    have hs0 : (List.set (k0 :: K1) (0 : Int).toNat (gone ++ k0)) = (gone ++ k0) :: K1 := rfl
    rw [hk0, hs0]
    refine g_ck (by simp only [List.length_cons]; omega) (g_ck (by omega) (g_ck (by simp only [List.length_cons]; omega) (fin _ (by simpa using hkl) (fun k hk => ?_) fun h => by cases h)))
    rcases List.mem_cons.1 hk with rfl | hk
    · refine ⟨by rw [List.length_append]; omega, fun c hc => ?_⟩
      rcases List.mem_append.1 hc with hc | hc
      · exact hgc c hc
      · exact k0s.2 c hc
    · have := hks k (.tail _ hk)
      exact ⟨by omega, this.2⟩
  · obtain ⟨k0, K1, rfl⟩ := hK0 hv'
    have k0s := hks k0 (.head _)
    have hk0 : (List.getD (k0 :: K1) (0 : Int).toNat default) = k0 := rfl
    have hs0 : (List.set (k0 :: K1) (0 : Int).toNat (k0 ++ gone)) = (k0 ++ gone) :: K1 := rfl
    rw [hk0, hs0]
    refine g_ck (by simp only [List.length_cons]; omega) (g_call (b := k0) ?_ (g_ck (by omega) (g_ck (by simp only [List.length_cons]; omega) (fin _ (by simpa using hkl) (fun k hk => ?_) fun h => by cases h))))
    · unfold g103 ck
      rw [if_pos (by omega)]
      rfl
    rcases List.mem_cons.1 hk with rfl | hk
    · refine ⟨by rw [List.length_append]; omega, fun c hc => ?_⟩
      rcases List.mem_append.1 hc with hc | hc
      · exact k0s.2 c hc
      · exact hgc c hc
    · have := hks k (.tail _ hk)
      exact ⟨by omega, this.2⟩
  · have hall : ∀ k ∈ gone :: K, k.length ≤ n + 300 ∧ ∀ c ∈ k, IsC c := fun k hk => by
      rcases List.mem_cons.1 hk with rfl | hk
      · exact ⟨by omega, hgc⟩
      · have := hks k hk
        exact ⟨by omega, this.2⟩
    have hcons : ([gone] : List (List ByteArray)) ++ K = gone :: K := rfl
    rw [hcons]
    refine g_ck (by omega) (g_if (fun h16 => g_ck (by simp only [List.length_cons] at h16 ⊢; omega) (fin _ (by rw [List.length_take]; exact Nat.min_le_left _ _) (fun k hk => hall k (List.mem_of_mem_take hk)) ?_)) fun h16 => fin _ (by omega) hall fun h => by rw [h])
    rintro rfl
    rfl
end Go.Proofs.Ytenjkphlbdhaiaa
end
section
namespace Go.Proofs.Ytenjkphlbdhaiaa
open Go Go.Eng
variable {M : Int} {n : Nat} {e : Ed} {X Y : List ByteArray} {b : Bf} {K : List (List ByteArray)} {B : List (List ByteArray × Int)} {kd yk : Bool} {fr wh : Int}
theorem EI.turn (h : EI M n (b, K, B, kd, yk, fr, wh) X Y) {b' : Bf} {G' X' Y' : List ByteArray} {kd' : Bool} {fr' wh' : Int} (hG : Gp b' M X' G' Y') (hT : X'.length + G'.length + Y'.length ≤ 700) (hs : ((X'.length + Y'.length : Nat) : Int) ≤ M) (hc : ∀ c ∈ X' ++ Y', IsC c) : EI M n (b', K, B, kd', false, fr', wh') X' Y' :=
  ⟨⟨G', hG, hT⟩, h.m3, hs, hc, h.kl, h.ks, h.bl, h.bs, fun h => by cases h⟩
theorem g75_ei (h : EI M n (b, K, B, kd, yk, fr, wh) X Y) {w f : Nat} (hw : w ≤ 1000) (hf : f ≤ X.length) : Gives (g75 (b, K, B, kd, yk, fr, wh) w f) fun r => ∃ X' Y', EI M n r.2 X' Y' ∧ r.2.2.1 = K ∧
    ((r.1 = false ∧ X' = X ∧ Y' = Y ∧ (K.length ≤ w ∨ M - ((X.length + Y.length : Nat) : Int) + X.length - f < ((K.getD w default).length : Int))) ∨ (r.1 = true ∧ X' = X.take f ++ K.getD w default ∧ Y' = Y)) := by
  obtain ⟨G, hG, hT⟩ := h.gp
  dsimp only at hG
  have hkl := h.kl
  have hks := h.ks
  dsimp only at hkl hks
  have hs := h.sz
  have hm := h.m3
  have hll : (X ++ Y).length = X.length + Y.length := List.length_append
  unfold g75
  refine g_call (g13_gp hG) (g_if (fun h1 => g_some ⟨X, Y, h.rest, rfl, .inl ⟨rfl, rfl, rfl, .inl (by dsimp only at h1; omega)⟩⟩) fun h1 => ?_)
  dsimp only at h1 ⊢
  have hwl : w < K.length := by omega
  have hk := hks _ (getD_mem (l := K) hwl)
  rw [Int.toNat_natCast]
  refine g_ck (by omega) (g_call (g18_gp hG) (g_i64 (by omega) (g_i64 (by omega) (g_if (fun h2 => g_some ⟨X, Y, h.rest, rfl, .inl ⟨rfl, rfl, rfl, .inr (by omega)⟩⟩) fun h2 => ?_))))
  obtain ⟨B', e1, hE1⟩ := g69_ei (h.rest (kd' := false) (fr' := fr) (wh' := wh))
  refine g_call e1 ?_
  obtain ⟨b1, G1, X1, Y1, o, e2, hG1, hT1, hc⟩ := g19_gp hG (f : Int) (X.length : Int) (tgt_in (by omega)) (tgt_in (by omega))
  refine g_call e2 ?_
  have hxy : X1 ++ Y1 = X.take f ++ Y := by
    rcases hc with ⟨hc, _, rfl, rfl⟩ | ⟨_, _, hc, _⟩
    · rw [List.take_of_length_le hc]
    · rw [hc, List.take_append_of_le_length hf, List.drop_left]
  have hlen : X1.length + Y1.length = f + Y.length := by rw [← List.length_append, hxy, List.length_append, List.length_take]; omega
  obtain ⟨b2, G2, e3, hG2, hl2⟩ := g12_gp hG1 (f : Int)
  rw [tgt_in (by omega), hxy, tk_mid hf, dr_mid hf] at hG2
  refine g_call e3 (g_ck (by dsimp only; omega) ?_)
  dsimp only
  have hxf : (X.take f).length = f := by rw [List.length_take]; omega
  obtain ⟨b3, G3, e4, hG3, hT3⟩ := g21_gp' hG2 (A := K.getD w default) (fun c hc => isC_is (hk.2 c hc)) (by rw [hxf]; omega) hm (by rw [hxf]; omega)
  refine g_call e4 (g_some ⟨_, _, ⟨⟨G3, hG3, hT3⟩, hm, by rw [List.length_append, hxf]; omega, fun c hc => ?_, hkl, hks, hE1.bl, hE1.bs, fun _ => ⟨by dsimp only; omega, by dsimp only; rw [List.length_append, hxf]; omega, by dsimp only; omega, by dsimp only; omega⟩⟩, rfl, .inr ⟨rfl, rfl, rfl⟩⟩)
  rcases List.mem_append.1 hc with hc | hc
  · rcases List.mem_append.1 hc with hc | hc
    · exact h.cl c (List.mem_append.2 (.inl (List.mem_of_mem_take hc)))
    · exact hk.2 c hc
  · exact h.cl c (List.mem_append.2 (.inr hc))
theorem g80_ei (h : EI M n (b, K, B, kd, yk, fr, wh) X Y) {l : List ByteArray} (hl : ((l.length : Nat) : Int) ≤ M) (hc : ∀ c ∈ l, IsC c) (a : Int) : ∃ b' G' X' Y', g80 (b, K, B, kd, yk, fr, wh) l a = some (b', K, B, kd, yk, fr, wh) ∧ Gp b' M X' G' Y' ∧ X'.length + G'.length + Y'.length ≤ 700 ∧ X' ++ Y' = l := by
  obtain ⟨G, hG, hT⟩ := h.gp
  dsimp only at hG
  have hs := h.sz
  have hm := h.m3
  have hll : (X ++ Y).length = X.length + Y.length := List.length_append
  have main : Gives (g80 (b, K, B, kd, yk, fr, wh) l a) fun r => ∃ b' G' X' Y', r = (b', K, B, kd, yk, fr, wh) ∧ Gp b' M X' G' Y' ∧ X'.length + G'.length + Y'.length ≤ 700 ∧ X' ++ Y' = l := by
    unfold g80
    refine g_call (g20_gp hG) ?_
    obtain ⟨b1, G1, X1, Y1, o, e2, hG1, hT1, hc1⟩ := g19_gp hG (0 : Int) ((X.length + Y.length : Nat) : Int) (f := 0) (t := X.length + Y.length) (tgt_in (Nat.zero_le _)) (tgt_in (Nat.le_refl _))
    refine g_call e2 ?_
    have hxy : X1 ++ Y1 = [] := by
      rcases hc1 with ⟨h0, _, rfl, rfl⟩ | ⟨_, _, h0, _⟩
      · exact List.eq_nil_of_length_eq_zero (by omega)
      · rw [h0, List.take_zero, List.nil_append]
        exact List.drop_eq_nil_of_le (by omega)
    obtain ⟨rfl, rfl⟩ := List.append_eq_nil_iff.1 hxy
    simp only [List.length_nil] at hT1
    obtain ⟨b3, G3, e4, hG3, hT3⟩ := g21_gp' hG1 (A := l) (fun c h => isC_is (hc c h)) (by simp only [List.length_nil]; omega) hm (by simp only [List.length_nil]; omega)
    refine g_call e4 ?_
    rw [List.nil_append] at hG3 hT3
    obtain ⟨b4, G4, e5, hG4, hl4⟩ := g12_gp hG3 a
    refine g_call e5 (g_some ⟨b4, G4, _, _, rfl, hG4, ?_, ?_⟩)
    · rw [List.append_nil, List.length_take, List.length_drop]
      simp only [List.length_nil] at hT3 ⊢
      omega
    · rw [List.take_append_drop, List.append_nil]
  obtain ⟨r, hr, b', G', X', Y', rfl, h1, h2, h3⟩ := main
  exact ⟨b', G', X', Y', hr, h1, h2, h3⟩
theorem g77_ei (h : EI M n (b, K, B, kd, yk, fr, wh) X Y) : Gives (g77 (b, K, B, kd, yk, fr, wh)) fun r => ∃ X' Y', EI M n r.2 X' Y' ∧
    ((r.1 = false ∧ X' = X ∧ Y' = Y ∧ B = []) ∨ (r.1 = true ∧ B ≠ [] ∧ X' ++ Y' = (B.getD (B.length - 1) default).1 ∧ r.2.2.2.1 = B.take (B.length - 1))) := by
  have hbl := h.bl
  have hbs := h.bs
  dsimp only at hbl hbs
  unfold g77
  dsimp only
  refine g_if (fun h0 => g_some ⟨X, Y, h.rest, .inl ⟨rfl, rfl, rfl, List.eq_nil_of_length_eq_zero (by omega)⟩⟩) fun h0 => ?_
  have hne : B ≠ [] := fun e => by subst e; exact h0 rfl
  have hpos : 0 < B.length := List.length_pos_iff.2 hne
  have e1 : (((B.length : Nat) : Int) - 1).toNat = B.length - 1 := by omega
  have e2 : (((B.length : Nat) : Int) - 1).toNat - (0 : Int).toNat = B.length - 1 := by rw [e1]; rfl
  rw [e2, e1]
  have hlast := hbs _ (getD_mem (l := B) (i := B.length - 1) (by omega))
  have h' : EI M n (b, K, B.take (B.length - 1), false, false, fr, wh) X Y := ⟨h.gp, h.m3, h.sz, h.cl, h.kl, h.ks, by show (B.take _).length ≤ 64; rw [List.length_take]; omega, fun p hp => hbs p (List.mem_of_mem_take hp), fun h => by cases h⟩
  obtain ⟨b', G', X', Y', e3, hG', hT', hxy⟩ := g80_ei h' (l := (B.getD (B.length - 1) default).1) hlast.1 hlast.2 (B.getD (B.length - 1) default).2
  refine g_i64 (by omega) (g_ck (by omega) (g_i64 (by omega) (g_ck (by omega) (g_call e3 (g_some ⟨X', Y', h'.turn hG' hT' ?_ ?_, .inr ⟨rfl, hne, hxy, rfl⟩⟩)))))
  · rw [← List.length_append, hxy]; exact hlast.1
  · rw [hxy]; exact hlast.2
theorem g70_ei (h : EI M n (b, K, B, kd, yk, fr, wh) X Y) (a : Int) : Gives (g70 (b, K, B, kd, yk, fr, wh) a) fun r => ∃ X' Y', EI M n r.2 X' Y' ∧ r.2.2.1 = K ∧ r.2.2.2.1 = B ∧ (r.1 = false → X' = X ∧ Y' = Y) := by
  obtain ⟨G, hG, hT⟩ := h.gp
  dsimp only at hG
  have hll : (X ++ Y).length = X.length + Y.length := List.length_append
  have ht := tgt_le a (X.length + Y.length)
  unfold g70
  refine g_call (g13_gp hG) ?_
  obtain ⟨b1, G1, e1, hG1, hl1⟩ := g12_gp hG a
  refine g_call e1 (g_some ⟨_, _, h.turn hG1 ?_ ?_ ?_, rfl, rfl, fun hf => ?_⟩)
  · rw [List.length_take, List.length_drop, hll]; omega
  · have := h.sz
    rw [List.length_take, List.length_drop, hll]; omega
  · rw [List.take_append_drop]; exact h.cl
  · have hf : tgt a (X.length + Y.length) = X.length := by
      dsimp only at hf
      rw [decide_eq_false_iff_not, Decidable.not_not] at hf
      omega
    rw [hf, List.take_left, List.drop_left]
    exact ⟨rfl, rfl⟩
theorem g78_ei (h : EI M n (b, K, B, kd, yk, fr, wh) X Y) : Gives (g78 (b, K, B, kd, yk, fr, wh)) fun r => ∃ X' Y', EI M n r.2 X' Y' ∧ (r.1 = false → X' = X ∧ Y' = Y) := by
  obtain ⟨G, hG, hT⟩ := h.gp
  dsimp only at hG
  have hs := h.sz
  have hm := h.m3
  have hll : (X ++ Y).length = X.length + Y.length := List.length_append
  unfold g78
  refine g_call (g13_gp hG) (g_call (g20_gp hG) (g_if (fun _ => g_some ⟨X, Y, h.rest, fun _ => ⟨rfl, rfl⟩⟩) fun h0 => g_if (fun _ => g_some ⟨X, Y, h.rest, fun _ => ⟨rfl, rfl⟩⟩) fun h1 => g_i64 (by omega) ?_))
  obtain ⟨B', e1, hE1⟩ := g69_ei (h.rest (kd' := false) (fr' := fr) (wh' := wh))
  refine g_call e1 ?_
  obtain ⟨p, hp, hp2, hpe⟩ : ∃ p : Nat, gmin (X.length : Int) (((X.length + Y.length : Nat) : Int) - 1) = ((p + 1 : Nat) : Int) ∧ p + 2 ≤ X.length + Y.length ∧ p + 1 ≤ X.length := ⟨(min (X.length : Int) (((X.length + Y.length : Nat) : Int) - 1)).toNat - 1, by rw [gmin_eq]; omega, by omega, by omega⟩
  rw [hp]
  have q1 : ((p + 1 : Nat) : Int) - 1 = (p : Int) := by omega
  have q2 : ((p + 1 : Nat) : Int) + 1 = ((p + 2 : Nat) : Int) := by omega
  rw [q1, q2]
  obtain ⟨b1, G1, X1, Y1, o, e2, hG1, hT1, hc⟩ := g19_gp hG (p : Int) ((p + 2 : Nat) : Int) (tgt_in (by omega)) (tgt_in hp2)
  rcases hc with ⟨hc, _⟩ | ⟨_, rfl, hxy, _⟩
  · omega
  have hlen : X1.length + Y1.length = X.length + Y.length - 2 := by rw [← List.length_append, hxy, List.length_append, List.length_take, List.length_drop, hll]; omega
  obtain ⟨b2, G2, e3, hG2, hl2⟩ := g12_gp hG1 (p : Int)
  rw [tgt_in (by omega), hxy, tk_mid (by omega), dr_mid (by omega)] at hG2
  refine g_i64 (by omega) (g_i64 (by omega) (g_call e2 (g_i64 (by omega) (g_call e3 ?_))))
  have hol : (((X ++ Y).drop p).take (p + 2 - p)).length = 2 := by rw [List.length_take, List.length_drop, hll]; omega
  have hoc : ∀ c ∈ ((X ++ Y).drop p).take (p + 2 - p), IsC c := fun c hc => h.cl c (List.mem_of_mem_drop (List.mem_of_mem_take hc))
  generalize ((X ++ Y).drop p).take (p + 2 - p) = o at hol hoc
  dsimp only
  have hAc : ∀ c ∈ [o.getD (1 : Int).toNat default, o.getD (0 : Int).toNat default], IsC c := fun c hc => by
    rcases List.mem_cons.1 hc with rfl | hc
    · exact isC_at hoc (by rw [hol]; decide)
    · rw [List.mem_singleton.1 hc]
      exact isC_at hoc (by rw [hol]; decide)
  have x1 : ((X ++ Y).take p).length = p := by rw [List.length_take]; omega
  have x2 : ((X ++ Y).drop (p + 2)).length = X.length + Y.length - (p + 2) := by rw [List.length_drop, hll]
  obtain ⟨b3, G3, e4, hG3, hT3⟩ := g21_gp' hG2 (A := [o.getD (1 : Int).toNat default, o.getD (0 : Int).toNat default]) (fun c hc => isC_is (hAc c hc)) (by simp only [List.length_cons, List.length_nil]; omega) hm (by omega)
  refine g_ck (by omega) (g_ck (by omega) (g_call e4 (g_some ⟨_, _, hE1.turn hG3 hT3 ?_ fun c hc => ?_, fun h => by cases h⟩)))
  · rw [List.length_append, x1, x2]
    simp only [List.length_cons, List.length_nil]
    omega
  · rcases List.mem_append.1 hc with hc | hc
    · rcases List.mem_append.1 hc with hc | hc
      · exact h.cl c (List.mem_of_mem_take hc)
      · exact hAc c hc
    · exact h.cl c (List.mem_of_mem_drop hc)
theorem g76_ei (h : EI M n (b, K, B, kd, yk, fr, wh) X Y) : Gives (g76 (b, K, B, kd, yk, fr, wh)) fun r => ∃ X' Y', EI M n r.2 X' Y' ∧ (r.1 = false → X' = X ∧ Y' = Y) := by
  have hkl := h.kl
  have hya := h.ya
  dsimp only at hkl hya
  unfold g76
  dsimp only
  refine g_if (fun _ => g_some ⟨X, Y, h.rest, fun _ => ⟨rfl, rfl⟩⟩) fun hy => g_if (fun _ => g_some ⟨X, Y, h.rest, fun _ => ⟨rfl, rfl⟩⟩) fun h2 => ?_
  have hy := hya (Decidable.not_not.1 hy)
  obtain ⟨w, hw, hwl⟩ : ∃ w : Nat, Int.tmod (wh + 1) ((K.length : Nat) : Int) = (w : Int) ∧ w ≤ 1000 := by
    have h1 := Int.tmod_nonneg ((K.length : Nat) : Int) (show 0 ≤ wh + 1 by omega)
    have h3 := Int.tmod_lt_of_pos (wh + 1) (show 0 < ((K.length : Nat) : Int) by omega)
    exact ⟨(Int.tmod (wh + 1) ((K.length : Nat) : Int)).toNat, by omega, by omega⟩
  obtain ⟨f, hf⟩ : ∃ f : Nat, fr = (f : Int) := ⟨fr.toNat, by omega⟩
  rw [hw, hf]
  rw [hf] at h hy
  refine g_i64 (by omega) (g_ck (by omega) (g_bind (g75_ei h hwl (by omega)) ?_))
  rintro ⟨ok, r⟩ ⟨X', Y', hE, _, hc⟩
  refine g_some ⟨X', Y', hE, fun hok => ?_⟩
  rcases hc with ⟨_, h1, h2, _⟩ | ⟨h1, _⟩
  · exact ⟨h1, h2⟩
  · dsimp only at hok h1
    rw [h1] at hok
    cases hok
theorem g102_ei (h : EI M n (b, K, B, kd, yk, fr, wh) X Y) (a : Int) : ∃ v, g102 (b, K, B, kd, yk, fr, wh) a = some (v, (b, K, B, kd, yk, fr, wh)) := by
  obtain ⟨G, hG, hT⟩ := h.gp
  dsimp only at hG
  have hll : (X ++ Y).length = X.length + Y.length := List.length_append
  have main : Gives (g102 (b, K, B, kd, yk, fr, wh) a) fun r => ∃ v, r = (v, (b, K, B, kd, yk, fr, wh)) := by
    have fin : ∀ v, Gives (some (v, (b, K, B, kd, yk, fr, wh))) fun r : Bool × Ed => ∃ v, r = (v, (b, K, B, kd, yk, fr, wh)) := fun v => g_some ⟨v, rfl⟩
    unfold g102
    refine g_call (g24_gp hG a) ?_
    by_cases ha : 0 ≤ a ∧ a < ((X.length + Y.length : Nat) : Int)
    · rw [if_pos ha]
      have hs := isC_size (isC_at h.cl (k := a.toNat) (by omega))
      dsimp only
      generalize (X ++ Y).getD a.toNat default = c at hs
      generalize ((c.data.toList[(0 : Int).toNat]?.getD 0).toNat : Int) = v
      refine g_f (by decide) (g_ck (by omega) (g_if (fun _ => g_if (fun _ => fin _) fun _ => fin _) fun _ => g_jn (fun _ => True) (fun k hk => g_if (fun _ => hk _ trivial) fun _ => hk _ trivial) fun v2 _ => ?_))
      exact g_if (fun _ => g_if (fun _ => fin _) fun _ => fin _) fun _ => g_if (fun _ => g_if (fun _ => g_if (fun _ => fin _) fun _ => fin _) fun _ => g_if (fun _ => g_if (fun _ => fin _) fun _ => fin _) fun _ => fin _) fun _ => g_if (fun _ => g_if (fun _ => fin _) fun _ => fin _) fun _ => fin _
    · rw [if_neg ha]
      exact g_t (by decide) (fin _)
  obtain ⟨r, hr, v, rfl⟩ := main
  exact ⟨v, hr⟩
abbrev Es := List (List ByteArray) × List (List ByteArray × Int) × Bool × Bool × Int × Int × Int × List ByteArray × Int × Int × Int
theorem g71_ei (h : EI M n (b, K, B, kd, yk, fr, wh) X Y) : Gives (g71 (b, K, B, kd, yk, fr, wh)) fun r => r.2 = (b, K, B, kd, yk, fr, wh) ∧ 0 ≤ r.1 ∧ r.1 ≤ X.length := by
  obtain ⟨G, hG, hT⟩ := h.gp
  dsimp only at hG
  unfold g71
  refine g_call (g13_gp hG) ?_
  dsimp only
  refine g_jn (fun v : Es => ∃ i : Int, v = (K, B, kd, yk, fr, wh, b.1, b.2.1, b.2.2.1, b.2.2.2, i) ∧ 0 ≤ i ∧ i ≤ X.length) (fun k hk => g_bind (g_loop (R := fun v : Es => ∃ i : Int, v = (K, B, kd, yk, fr, wh, b.1, b.2.1, b.2.2.1, b.2.2.2, i) ∧ 0 ≤ i ∧ i ≤ X.length) (fun v : Es => ∃ i : Int, v = (K, B, kd, yk, fr, wh, b.1, b.2.1, b.2.2.1, b.2.2.2, i) ∧ 0 ≤ i ∧ i ≤ X.length) (fun v : Es => v.2.2.2.2.2.2.2.2.2.2.toNat) ?_ ⟨_, rfl, by omega, Int.le_refl _⟩) ?_) ?_
  · rintro _ ⟨i, rfl, h0, h1⟩
    dsimp only
    refine g_if (fun hi => g_i64 (by omega) ?_) fun _ => g_out ⟨i, rfl, h0, h1⟩
    obtain ⟨v, hv⟩ := g102_ei h (i - 1)
    exact g_call hv (g_if (fun _ => g_i64 (by omega) (g_go ⟨i - 1, rfl, by omega, by omega⟩ (by dsimp only; omega))) fun _ => g_out ⟨i, rfl, h0, h1⟩)
  · rintro _ ⟨i, rfl, h0, h1⟩
    exact hk _ ⟨i, rfl, h0, h1⟩
  · rintro _ ⟨i, rfl, h0, h1⟩
    dsimp only
    refine g_jn (fun v : Es => ∃ i : Int, v = (K, B, kd, yk, fr, wh, b.1, b.2.1, b.2.2.1, b.2.2.2, i) ∧ 0 ≤ i ∧ i ≤ X.length) (fun k hk => g_bind (g_loop (R := fun v : Es => ∃ i : Int, v = (K, B, kd, yk, fr, wh, b.1, b.2.1, b.2.2.1, b.2.2.2, i) ∧ 0 ≤ i ∧ i ≤ X.length) (fun v : Es => ∃ i : Int, v = (K, B, kd, yk, fr, wh, b.1, b.2.1, b.2.2.1, b.2.2.2, i) ∧ 0 ≤ i ∧ i ≤ X.length) (fun v : Es => v.2.2.2.2.2.2.2.2.2.2.toNat) ?_ ⟨i, rfl, h0, h1⟩) ?_) ?_
    · rintro _ ⟨i, rfl, h0, h1⟩
      dsimp only
      refine g_if (fun hi => g_i64 (by omega) ?_) fun _ => g_out ⟨i, rfl, h0, h1⟩
      obtain ⟨v, hv⟩ := g102_ei h (i - 1)
      exact g_call hv (g_if (fun _ => g_i64 (by omega) (g_go ⟨i - 1, rfl, by omega, by omega⟩ (by dsimp only; omega))) fun _ => g_out ⟨i, rfl, h0, h1⟩)
    · rintro _ ⟨i, rfl, h0, h1⟩
      exact hk _ ⟨i, rfl, h0, h1⟩
    · rintro _ ⟨i, rfl, h0, h1⟩
      exact g_some ⟨rfl, h0, h1⟩
theorem g72_ei (h : EI M n (b, K, B, kd, yk, fr, wh) X Y) : Gives (g72 (b, K, B, kd, yk, fr, wh)) fun r => r.2 = (b, K, B, kd, yk, fr, wh) ∧ 0 ≤ r.1 ∧ r.1 ≤ ((X.length + Y.length : Nat) : Int) := by
  obtain ⟨G, hG, hT⟩ := h.gp
  dsimp only at hG
  unfold g72
  refine g_call (g13_gp hG) (g_call (g20_gp hG) ?_)
  dsimp only
  refine g_jn (fun v : Es => ∃ i : Int, v = (K, B, kd, yk, fr, wh, b.1, b.2.1, b.2.2.1, b.2.2.2, i) ∧ 0 ≤ i ∧ i ≤ ((X.length + Y.length : Nat) : Int)) (fun k hk => g_bind (g_loop (R := fun v : Es => ∃ i : Int, v = (K, B, kd, yk, fr, wh, b.1, b.2.1, b.2.2.1, b.2.2.2, i) ∧ 0 ≤ i ∧ i ≤ ((X.length + Y.length : Nat) : Int)) (fun v : Es => ∃ i : Int, v = (K, B, kd, yk, fr, wh, b.1, b.2.1, b.2.2.1, b.2.2.2, i) ∧ 0 ≤ i ∧ i ≤ ((X.length + Y.length : Nat) : Int)) (fun v : Es => (((X.length + Y.length : Nat) : Int) - v.2.2.2.2.2.2.2.2.2.2).toNat) ?_ ⟨_, rfl, by omega, by omega⟩) ?_) ?_
  · rintro _ ⟨i, rfl, h0, h1⟩
    dsimp only
    refine g_if (fun hi => ?_) fun _ => g_out ⟨i, rfl, h0, h1⟩
    obtain ⟨v, hv⟩ := g102_ei h i
    exact g_call hv (g_if (fun _ => g_i64 (by omega) (g_go ⟨i + 1, rfl, by omega, by omega⟩ (by dsimp only; omega))) fun _ => g_out ⟨i, rfl, h0, h1⟩)
  · rintro _ ⟨i, rfl, h0, h1⟩
    exact hk _ ⟨i, rfl, h0, h1⟩
  · rintro _ ⟨i, rfl, h0, h1⟩
    dsimp only
    refine g_jn (fun v : Es => ∃ i : Int, v = (K, B, kd, yk, fr, wh, b.1, b.2.1, b.2.2.1, b.2.2.2, i) ∧ 0 ≤ i ∧ i ≤ ((X.length + Y.length : Nat) : Int)) (fun k hk => g_bind (g_loop (R := fun v : Es => ∃ i : Int, v = (K, B, kd, yk, fr, wh, b.1, b.2.1, b.2.2.1, b.2.2.2, i) ∧ 0 ≤ i ∧ i ≤ ((X.length + Y.length : Nat) : Int)) (fun v : Es => ∃ i : Int, v = (K, B, kd, yk, fr, wh, b.1, b.2.1, b.2.2.1, b.2.2.2, i) ∧ 0 ≤ i ∧ i ≤ ((X.length + Y.length : Nat) : Int)) (fun v : Es => (((X.length + Y.length : Nat) : Int) - v.2.2.2.2.2.2.2.2.2.2).toNat) ?_ ⟨i, rfl, h0, h1⟩) ?_) ?_
    · rintro _ ⟨i, rfl, h0, h1⟩
      dsimp only
      refine g_if (fun hi => ?_) fun _ => g_out ⟨i, rfl, h0, h1⟩
      obtain ⟨v, hv⟩ := g102_ei h i
      exact g_call hv (g_if (fun _ => g_i64 (by omega) (g_go ⟨i + 1, rfl, by omega, by omega⟩ (by dsimp only; omega))) fun _ => g_out ⟨i, rfl, h0, h1⟩)
    · rintro _ ⟨i, rfl, h0, h1⟩
      exact hk _ ⟨i, rfl, h0, h1⟩
    · rintro _ ⟨i, rfl, h0, h1⟩
      exact g_some ⟨rfl, h0, h1⟩
end Go.Proofs.Ytenjkphlbdhaiaa
end
section
namespace Go.Proofs.Ytenjkphlbdhaiaa
open Go Go.Eng
variable {M : Int} {n : Nat} {e : Ed} {X Y : List ByteArray} {b : Bf} {K : List (List ByteArray)} {B : List (List ByteArray × Int)} {kd yk : Bool} {fr wh : Int}
theorem join_flat : ∀ l : List (List UInt8), Lib.join l [] = l.flatten
  | [] => rfl
  | x :: r => by
    rw [Lib.join_cons, List.flatten_cons]
    unfold Lib.joinTail
    congr 2
    conv => rhs; rw [← List.map_id r]
    exact List.map_congr_left fun _ _ => rfl
theorem strs_data (cs : List (List Int)) : ((strs cs).map (·.data.toList)) = cs.map fun l => l.map fun n => UInt8.ofNat n.toNat := by
  unfold strs strOf
  rw [List.map_map]
  refine List.map_congr_left fun l _ => ?_
  simp
theorem g81_strs {cs : List (List Int)} (h : AllCl cs) (hn : cs.length ≤ 1000000) : g81 (strs cs) (lit []) = some (strOf cs.flatten) := by
  have hl := flen64 (cs := cs) fun c hc => (allcl_byt h c hc).2
  have e1 : Lib.join ((strs cs).map (·.data.toList)) (lit []).data.toList = cs.flatten.map fun n => UInt8.ofNat n.toNat := by
    show Lib.join _ [] = _
    rw [join_flat, strs_data, List.map_flatten]
  unfold g81
  rw [e1]
  unfold ck
  rw [if_pos (by rw [strs_len]; omega), if_pos (by rw [List.length_map]; omega)]
  rfl
theorem g67_any (s : ByteArray) (hn : s.size ≤ 50000) : ∃ cs, g67 s = some (strs cs) ∧ AllCl cs ∧ cs.length ≤ s.size := by
  have hb := bytes_byt s
  have hl := bytesOf_len s
  obtain ⟨N, hN⟩ := ex_N hb
  have := g67_eq hb (by omega) hN
  rw [str_bytes] at this
  refine ⟨_, this, cuts_cl (rs_R hb), ?_⟩
  have h1 := cuts_len (rs (bytesOf s) N)
  rw [rs_len] at h1
  have h2 := ps_ge hb N
  omega
theorem g68_any {s : ByteArray} (hs : s.size ≤ 500) : ∃ t cs, g68 s = some t ∧ g67 t = some (strs cs) ∧ AllCl cs ∧ cs.length ≤ 100000 := by
  have hb := bytes_byt s
  have hl := bytesOf_len s
  have h1 : (strOf ((bytesOf s).map fl1)).size ≤ 500 := by rw [str_size, List.length_map]; omega
  obtain ⟨cs, e1, h2, h3⟩ := g67_any (strOf ((bytesOf s).map fl1)) (by omega)
  have e2 := g81_strs h2 (by omega)
  have h4 := flen64 (cs := cs) fun c hc => (allcl_byt h2 c hc).2
  obtain ⟨cs2, e3, h5, h6⟩ := g67_any (strOf cs.flatten) (by rw [str_size]; omega)
  refine ⟨_, cs2, ?_, e3, h5, by rw [str_size] at h6; omega⟩
  unfold g68 ck
  rw [if_pos (by omega)]
  unfold g101
  rw [e1, Option.bind_some, e2]
  rfl
theorem g79_any {A C : List ByteArray} (hA : A.length ≤ 1000000) : Gives (g79 A C) fun _ => True := by
  unfold g79
  refine g_jo (g_bind (g_loop (R := fun _ => True) (fun s : Bool × Int => 0 ≤ s.2 ∧ s.2 ≤ A.length ∧ ((s.1 = true) → A.length = C.length)) (fun s => ((A.length : Int) - s.2).toNat) ?_ ⟨Int.le_refl _, by omega, fun h => ?_⟩) fun _ _ => g_some trivial)
  · rintro ⟨v, i⟩ ⟨h0, h1, h2⟩
    dsimp only at h0 h1 h2 ⊢
    refine g_if (fun hi => g_ck (by omega) (g_if (fun _ => g_out trivial) fun hv => ?_)) fun _ => g_out trivial
    have := h2 (Decidable.not_not.1 hv)
    exact g_ck (by omega) (g_i64 (by omega) (g_go ⟨by omega, by omega, fun _ => this⟩ (by dsimp only; omega)))
  · have h := of_decide_eq_true h
    omega
theorem g32_ei (h : EI M n (b, K, B, kd, yk, fr, wh) X Y) {s : ByteArray} (hz : s.size ≤ 500) : Gives (g32 (b, K, B, kd, yk, fr, wh) s) fun r => ∃ X' Y', EI M n r.2 X' Y' ∧ r.2.2.1 = K ∧ (r.1 = false → X' = X ∧ Y' = Y) := by
  obtain ⟨G, hG, hT⟩ := h.gp
  dsimp only at hG
  have hs := h.sz
  have hm := h.m3
  have hll : (X ++ Y).length = X.length + Y.length := List.length_append
  unfold g32
  refine g_jn (fun v => (v.1 = lit [] ∧ v.2 = lit []) ∨ (0 < X.length ∧ IsC v.2)) (fun k hk => ?_) ?_
  · refine g_call (g13_gp hG) (g_i64 (by omega) (g_call (g24_gp hG _) ?_))
    by_cases hx : X.length = 0
    · rw [if_neg (show ¬ (0 ≤ (X.length : Int) - 1 ∧ (X.length : Int) - 1 < ((X.length + Y.length : Nat) : Int)) by omega)]
      exact g_t (by decide) (hk _ (.inl ⟨rfl, rfl⟩))
    have hx : 0 < X.length := by omega
    rw [if_pos (show 0 ≤ (X.length : Int) - 1 ∧ (X.length : Int) - 1 < ((X.length + Y.length : Nat) : Int) by omega)]
    refine g_f (not_not_intro rfl) ?_
    have hwas := isC_at h.cl (k := ((X.length : Int) - 1).toNat) (by omega)
    dsimp only
    generalize (X ++ Y).getD ((X.length : Int) - 1).toNat default = was at hwas
    refine g_jn IsC (fun k2 hk2 => g_ck (by omega) ?_) fun v hv => hk _ (.inr ⟨hx, hv⟩)
    have hb := bytes_byt s
    have hbl := bytesOf_len s
    generalize bytesOf s = l at hb hbl
    refine g_bind (g_loop (R := fun o : ByteArray ⊕ ByteArray => ∃ v, (o = .inl v ∨ o = .inr v) ∧ IsC v) (fun t : ByteArray × Int => IsC t.1 ∧ ∃ k : Nat, t.2 = (ps l k : Int) ∧ ps l k ≤ l.length) (fun t => ((l.length : Int) - t.2).toNat) ?_ ⟨hwas, 0, rfl, Nat.zero_le _⟩) ?_
    · rintro ⟨now, i⟩ ⟨hc, k, hi, hkl⟩
      dsimp only at hi hc ⊢
      subst hi
      have st := ps_step hb k
      refine g_if (fun hlt => g_ck (by omega) ?_) fun hge => g_out ⟨now, .inr rfl, hc⟩
      simp only [Int.toNat_natCast, drop_all]
      refine g_call (g131_eq (drop_byt hb) (by rw [List.length_drop]; omega)) (g_if (fun h1 => ?_) fun h1 => ?_)
      · obtain ⟨r1, r2⟩ := ps_more h1
        refine g_call (g96_eq _) (g_if (fun _ => g_out ⟨now, .inl rfl, hc⟩) fun _ => g_bind (g97_isC hc _) fun v hv => ?_)
        exact g_i64 (by omega) (g_go ⟨hv, k + 1, by dsimp only; omega, by omega⟩ (by dsimp only; omega))
      · obtain ⟨r1, r2⟩ := ps_else hb h1
        refine g_call (g96_eq _) (g_if (fun _ => g_out ⟨now, .inl rfl, hc⟩) fun _ => g_bind (g97_isC hc _) fun v hv => ?_)
        exact g_i64 (by omega) (g_go ⟨hv, k + 1, by dsimp only; omega, by omega⟩ (by dsimp only; omega))
    · rintro o ⟨v, rfl | rfl, hv⟩
      · exact g_sm (fun w hw => by cases hw; exact hk2 _ hv) fun w hw => by cases hw
      · exact g_sm (fun w hw => by cases hw) fun w hw => by cases hw; exact hk2 _ hv
  rintro ⟨was, now⟩ hwn
  dsimp only at hwn ⊢
  obtain ⟨t, cs, e1, e2, hcs, hcl⟩ := g68_any hz
  refine g_call e1 (g_call e2 ?_)
  have no : Gives (some (false, (b, K, B, false, false, fr, wh))) fun r : Bool × Ed => ∃ X' Y', EI M n r.2 X' Y' ∧ r.2.2.1 = K ∧ (r.1 = false → X' = X ∧ Y' = Y) := g_some ⟨X, Y, h.rest, rfl, fun _ => ⟨rfl, rfl⟩⟩
  have hsl := strs_len cs
  have hsc := isC_strs hcs
  generalize strs cs = A at hsl hsc
  refine g_jn (fun _ => ((X.length + Y.length + A.length : Nat) : Int) ≤ M) (fun k hk => g_call (g18_gp hG) (g_if (fun _ => no) fun hroom => ?_)) fun _ hroom => ?_
  · have hroom : ((X.length + Y.length + A.length : Nat) : Int) ≤ M := by omega
    exact g_if (fun _ => g_if (fun _ => no) fun _ => hk _ hroom) fun _ => hk _ hroom
  obtain ⟨B', e3, hE⟩ := g69_ei (h.rest (kd' := false) (fr' := fr) (wh' := wh))
  refine g_call e3 (g_if (fun hne => ?_) fun _ => ?_)
  · obtain ⟨hx, hnow⟩ : 0 < X.length ∧ IsC now := by
      rcases hwn with ⟨rfl, rfl⟩ | h
      · exact absurd rfl hne
      · exact h
    refine g_call (g13_gp hG) (g_i64 (by omega) ?_)
    have ex : (X.length : Int) - 1 = ((X.length - 1 : Nat) : Int) := by omega
    rw [ex]
    obtain ⟨b1, e4, hG1⟩ := g28_gp hG (k := X.length - 1) (by omega) (isC_is hnow)
    refine g_call e4 ?_
    obtain ⟨b3, G3, e5, hG3, hT3⟩ := g21_gp' hG1 (A := A) (fun c hc => isC_is (hsc c hc)) (by rw [List.length_set]; exact hroom) hm (by rw [List.length_set]; omega)
    refine g_call e5 (g_some ⟨_, _, hE.turn hG3 hT3 ?_ fun c hc => ?_, rfl, fun h => by cases h⟩)
    · rw [List.length_append, List.length_set]; omega
    · rcases List.mem_append.1 hc with hc | hc
      · rcases List.mem_append.1 hc with hc | hc
        · rcases List.mem_or_eq_of_mem_set hc with hc | rfl
          · exact h.cl c (List.mem_append.2 (.inl hc))
          · exact hnow
        · exact hsc c hc
      · exact h.cl c (List.mem_append.2 (.inr hc))
  · obtain ⟨b3, G3, e5, hG3, hT3⟩ := g21_gp' hG (A := A) (fun c hc => isC_is (hsc c hc)) hroom hm (by omega)
    refine g_call e5 (g_some ⟨_, _, hE.turn hG3 hT3 ?_ fun c hc => ?_, rfl, fun h => by cases h⟩)
    · rw [List.length_append]; omega
    · rcases List.mem_append.1 hc with hc | hc
      · rcases List.mem_append.1 hc with hc | hc
        · exact h.cl c (List.mem_append.2 (.inl hc))
        · exact hsc c hc
      · exact h.cl c (List.mem_append.2 (.inr hc))
theorem g39_ei (h : EI M n (b, K, B, kd, yk, fr, wh) X Y) {s : ByteArray} (hz : s.size ≤ 500) : Gives (g39 (b, K, B, kd, yk, fr, wh) s) fun r => ∃ X' Y', EI M n r.2 X' Y' ∧ (r.1 = false → X' = X ∧ Y' = Y) := by
  obtain ⟨G, hG, hT⟩ := h.gp
  dsimp only at hG
  have hs := h.sz
  have hm := h.m3
  unfold g39
  obtain ⟨t, cs, e1, e2, hcs, hcl⟩ := g68_any hz
  have hsl := strs_len cs
  have hsc := isC_strs hcs
  refine g_call e1 (g_call e2 (g_jn (fun v => ((v.length : Nat) : Int) ≤ M ∧ ∀ c ∈ v, IsC c) (fun k hk => g_call (g20_gp hG) (g_call (g18_gp hG) (g_i64 (by omega) (g_if (fun hlt => g_ck (by omega) (hk _ ⟨?_, fun c hc => hsc c (List.mem_of_mem_drop (List.mem_of_mem_take hc))⟩)) fun hge => hk _ ⟨by omega, hsc⟩)))) ?_))
  · rw [List.length_take]
    have : (0 : Int).toNat = 0 := rfl
    omega
  rintro A ⟨hA, hAc⟩
  refine g_call (g11_gp hG) (g_bind (g79_any (by omega)) fun v _ => g_if (fun _ => g_some ⟨X, Y, h.rest, fun _ => ⟨rfl, rfl⟩⟩) fun _ => ?_)
  obtain ⟨B', e3, hE⟩ := g69_ei (h.rest (kd' := false) (fr' := fr) (wh' := wh))
  refine g_call e3 ?_
  obtain ⟨b', G', X', Y', e4, hG', hT', hxy⟩ := g80_ei hE hA hAc ((A.length : Nat) : Int)
  refine g_call e4 (g_some ⟨X', Y', hE.turn hG' hT' ?_ ?_, fun h => by cases h⟩)
  · rw [← List.length_append, hxy]; exact hA
  · rw [hxy]; exact hAc
theorem g34_ei (h : EI M n (b, K, B, kd, yk, fr, wh) X Y) (hn : n ≤ 1000000) (a : Int) : Gives (g34 (b, K, B, kd, yk, fr, wh) a) fun r => ∃ X' Y', EI M (n + 300) r.2 X' Y' ∧ (r.1 = false → X' = X ∧ Y' = Y) := by
  obtain ⟨G, hG, hT⟩ := h.gp
  dsimp only at hG
  have hs := h.sz
  have hm := h.m3
  have st : ∀ {x : Int}, Gives (g70 (b, K, B, kd, yk, fr, wh) x) fun v => Gives (some v) fun r : Bool × Ed => ∃ X' Y', EI M (n + 300) r.2 X' Y' ∧ (r.1 = false → X' = X ∧ Y' = Y) := fun {x} => g_mono (g70_ei h x) fun v ⟨X', Y', h1, _, _, h2⟩ => g_some ⟨X', Y', h1.more (by omega), h2⟩
  have er : ∀ {x y : Int}, Gives (g73 (b, K, B, kd, yk, fr, wh) x y) fun v => Gives (some v) fun r : Bool × Ed => ∃ X' Y', EI M (n + 300) r.2 X' Y' ∧ (r.1 = false → X' = X ∧ Y' = Y) := fun {x y} => g_mono (g73_ei h x y) fun v ⟨_, _, X', Y', _, h1, h2⟩ => g_some ⟨X', Y', h1.more (by omega), fun hf => by
    rcases h2 with ⟨_, h2⟩ | ⟨h2, _⟩
    · exact h2
    · rw [h2] at hf; cases hf⟩
  have ki : ∀ {x y : Int} {z : Bool}, Gives (g74 (b, K, B, kd, yk, fr, wh) x y z) fun v => Gives (some v) fun r : Bool × Ed => ∃ X' Y', EI M (n + 300) r.2 X' Y' ∧ (r.1 = false → X' = X ∧ Y' = Y) := fun {x y z} => g_mono (g74_ei h hn x y z) fun v ⟨X', Y', h1, h2⟩ => g_some ⟨X', Y', h1, fun hf => by
    rcases h2 with ⟨_, h2⟩ | ⟨h2, _⟩
    · exact h2
    · rw [h2] at hf; cases hf⟩
  unfold g34
  refine g_call (g13_gp hG) (g_call (g20_gp hG) ?_)
  refine g_if (fun _ => g_i64 (by omega) (g_bind st fun v hv => hv)) fun _ => ?_
  refine g_if (fun _ => g_i64 (by omega) (g_bind st fun v hv => hv)) fun _ => ?_
  refine g_if (fun _ => g_bind (g71_ei h) ?_) fun _ => ?_
  · rintro ⟨i, e'⟩ ⟨rfl, _⟩
    exact g_bind st fun v hv => hv
  refine g_if (fun _ => g_bind (g72_ei h) ?_) fun _ => ?_
  · rintro ⟨i, e'⟩ ⟨rfl, _⟩
    exact g_bind st fun v hv => hv
  refine g_if (fun _ => g_bind st fun v hv => hv) fun _ => ?_
  refine g_if (fun _ => g_bind st fun v hv => hv) fun _ => ?_
  refine g_if (fun _ => g_i64 (by omega) (g_bind er fun v hv => hv)) fun _ => ?_
  refine g_if (fun _ => g_i64 (by omega) (g_bind er fun v hv => hv)) fun _ => ?_
  refine g_if (fun _ => g_bind ki fun v hv => hv) fun _ => ?_
  refine g_if (fun _ => g_bind ki fun v hv => hv) fun _ => ?_
  refine g_if (fun _ => g_bind (g72_ei h) ?_) fun _ => ?_
  · rintro ⟨i, e'⟩ ⟨rfl, _⟩
    exact g_bind ki fun v hv => hv
  refine g_if (fun _ => g_bind (g71_ei h) ?_) fun _ => ?_
  · rintro ⟨i, e'⟩ ⟨rfl, _⟩
    exact g_bind ki fun v hv => hv
  refine g_if (fun _ => g_bind (g75_ei h (w := 0) (f := X.length) (by decide) (Nat.le_refl _)) ?_) fun _ => ?_
  · rintro v ⟨X', Y', h1, _, h2⟩
    refine g_some ⟨X', Y', h1.more (by omega), fun hf => ?_⟩
    rcases h2 with ⟨_, h2, h3, _⟩ | ⟨h2, _⟩
    · exact ⟨h2, h3⟩
    · dsimp only at hf; rw [h2] at hf; cases hf
  refine g_if (fun _ => g_bind (g76_ei h) ?_) fun _ => ?_
  · rintro v ⟨X', Y', h1, h2⟩
    exact g_some ⟨X', Y', h1.more (by omega), h2⟩
  refine g_if (fun _ => g_bind (g77_ei h) ?_) fun _ => ?_
  · rintro v ⟨X', Y', h1, h2⟩
    refine g_some ⟨X', Y', h1.more (by omega), fun hf => ?_⟩
    rcases h2 with ⟨_, h2, h3, _⟩ | ⟨h2, _⟩
    · exact ⟨h2, h3⟩
    · dsimp only at hf; rw [h2] at hf; cases hf
  refine g_if (fun _ => g_bind (g78_ei h) ?_) fun _ => ?_
  · rintro v ⟨X', Y', h1, h2⟩
    exact g_some ⟨X', Y', h1.more (by omega), h2⟩
  refine g_if (fun _ => g_bind er fun v hv => hv) fun _ => ?_
  exact g_some ⟨X, Y, h.rest.more (by omega), fun _ => ⟨rfl, rfl⟩⟩
end Go.Proofs.Ytenjkphlbdhaiaa
end
section
namespace Go.Proofs.Ytenjkphlbdhaiaa
open Go Go.Eng
variable {M : Int} {n : Nat} {e : Ed} {X Y : List ByteArray} {b : Bf} {K : List (List ByteArray)} {B : List (List ByteArray × Int)} {kd yk : Bool} {fr wh : Int}
theorem ei_new (h0 : 0 < M) (h1 : M ≤ 300) : EI M 0 ((M, [], 0, 0), [], [], false, false, 0, 0) [] [] :=
  ⟨⟨[], gp_new h0 (by omega), by decide⟩, h1, by simp only [List.length_nil]; omega, (fun c hc => by simp at hc), Nat.zero_le _, (fun k hk => by cases hk), Nat.zero_le _, (fun p hp => by cases hp), fun h => by cases h⟩
theorem g33_cut (s : ByteArray) : ∃ t, g33 s = some t ∧ t.size ≤ 200 := by
  have main : Gives (g33 s) fun t => t.size ≤ 200 := by
    unfold g33
    refine g_ck ?_ (g_some ?_)
    · rw [gmin_eq]; omega
    · rw [ByteArray.size_extract, gmin_eq]
      have : (0 : Int).toNat = 0 := rfl
      omega
  exact main
theorem g34_undo (h : EI M n (b, K, B, kd, yk, fr, wh) X Y) : Gives (g34 (b, K, B, kd, yk, fr, wh) 15) fun r => ∃ X' Y', EI M n r.2 X' Y' ∧
    ((r.1 = false ∧ X' = X ∧ Y' = Y ∧ B = []) ∨ (r.1 = true ∧ B ≠ [] ∧ X' ++ Y' = (B.getD (B.length - 1) default).1 ∧ r.2.2.2.1 = B.take (B.length - 1))) := by
  obtain ⟨G, hG, hT⟩ := h.gp
  dsimp only at hG
  unfold g34
  refine g_call (g13_gp hG) (g_call (g20_gp hG) ?_)
  iterate 14 refine g_f (by decide) ?_
  refine g_t rfl (g_bind (g77_ei h) ?_)
  exact fun v hv => g_some hv
end Go.Proofs.Ytenjkphlbdhaiaa
end
section
namespace Go.Proofs.Ytenjkphlbdhaiaa
open Go Go.Eng
variable {M : Int} {n : Nat} {e : Ed} {X Y : List ByteArray} {b : Bf} {K : List (List ByteArray)} {B : List (List ByteArray × Int)} {kd yk : Bool} {fr wh : Int}
abbrev Ef := Int × List ByteArray × Int × Int × List (List ByteArray) × List (List ByteArray × Int) × Bool × Bool × Int × Int
abbrev Ei := Int × List ByteArray × Int × Int × List (List ByteArray) × List (List ByteArray × Int) × Bool × Bool × Int × Int × Int
theorem text_ei (h : EI M n (b, K, B, kd, yk, fr, wh) X Y) {cs : List (List Int)} (hc : AllCl cs) (hxy : X ++ Y = strs cs) : g16 b = some (strOf cs.flatten) := by
  obtain ⟨G, hG, hT⟩ := h.gp
  dsimp only at hG
  have h1 := h.sz
  have h2 := h.m3
  have h3 := strs_len cs
  rw [← hxy, List.length_append] at h3
  exact g16_gp hG hxy (allcl_byt hc) (by omega)
theorem cur_ei (h : EI M n (b, K, B, kd, yk, fr, wh) X Y) : g13 b = some (X.length : Int) := by
  obtain ⟨G, hG, hT⟩ := h.gp
  exact g13_gp hG
theorem getD_take0 {l : List (List ByteArray × Int)} {k i : Nat} (h : i < k) : (l.take k).getD i default = l.getD i default := by
  simp only [List.getD_eq_getElem?_getD, List.getElem?_take_of_lt h]
theorem g8_gives {a0 : List (Int × ByteArray × Int)} : Gives (g8 a0) fun r => r = true := by
  unfold g8
  refine g_call awakeE (g_f (by decide) ?_)
  refine g_jn (fun v : Ef => ∃ b K B kd yk fr wh X Y n, v = (b.1, b.2.1, b.2.2.1, b.2.2.2, K, B, kd, yk, fr, wh) ∧ EI 50 n (b, K, B, kd, yk, fr, wh) X Y ∧ n ≤ 300 * 60) (fun k hk => ?_) ?_
  · refine g_bind (g_loop (R := fun o : Ef ⊕ Ef => ∃ b K B kd yk fr wh X Y n, o = .inr (b.1, b.2.1, b.2.2.1, b.2.2.2, K, B, kd, yk, fr, wh) ∧ EI 50 n (b, K, B, kd, yk, fr, wh) X Y ∧ n ≤ 300 * 60)
      (fun v : Ei => ∃ b K B kd yk fr wh X Y n i, v = (b.1, b.2.1, b.2.2.1, b.2.2.2, K, B, kd, yk, fr, wh, i) ∧ EI 50 n (b, K, B, kd, yk, fr, wh) X Y ∧ 0 ≤ i ∧ i ≤ 60 ∧ (n : Int) ≤ 300 * i) (fun v => (60 - v.2.2.2.2.2.2.2.2.2.2).toNat) ?_ ⟨(50, [], 0, 0), [], [], false, false, 0, 0, [], [], 0, 0, rfl, ei_new (by decide) (by decide), by decide, by decide, by decide⟩) ?_
    · rintro _ ⟨b, K, B, kd, yk, fr, wh, X, Y, n, i, rfl, hE, h0, h60, hn⟩
      dsimp only
      have out : Gives (some (St1.out (σ := Ei) (Sum.inr (b.1, b.2.1, b.2.2.1, b.2.2.2, K, B, kd, yk, fr, wh) : Ef ⊕ Ef))) (rnd (fun v : Ei => ∃ b K B kd yk fr wh X Y n i, v = (b.1, b.2.1, b.2.2.1, b.2.2.2, K, B, kd, yk, fr, wh, i) ∧ EI 50 n (b, K, B, kd, yk, fr, wh) X Y ∧ 0 ≤ i ∧ i ≤ 60 ∧ (n : Int) ≤ 300 * i) (fun v => (60 - v.2.2.2.2.2.2.2.2.2.2).toNat) ((60 - i).toNat) (fun o : Ef ⊕ Ef => ∃ b K B kd yk fr wh X Y n, o = .inr (b.1, b.2.1, b.2.2.1, b.2.2.2, K, B, kd, yk, fr, wh) ∧ EI 50 n (b, K, B, kd, yk, fr, wh) X Y ∧ n ≤ 300 * 60)) := g_out ⟨b, K, B, kd, yk, fr, wh, X, Y, n, rfl, hE, by omega⟩
      refine g_if (fun hi => g_if (fun h6 => ?_) fun _ => out) fun _ => out
      obtain ⟨cs, hcs, hxy⟩ := isC_list hE.cl
      refine g_call (text_ei hE hcs hxy) (g_call (cur_ei hE) ?_)
      refine g_jn (fun v : Int × List ByteArray × Int × Int × List (List ByteArray) × List (List ByteArray × Int) × Bool × Bool × Int × Int × Bool => ∃ ok b K B kd yk fr wh X' Y' n', v = (b.1, b.2.1, b.2.2.1, b.2.2.2, K, B, kd, yk, fr, wh, ok) ∧ EI 50 n' (b, K, B, kd, yk, fr, wh) X' Y' ∧ n' ≤ n + 300 ∧ (ok = false → X' = X ∧ Y' = Y)) (fun k hk => g_ck (by omega) (g_jn (fun _ => True) (fun k2 hk2 => g_if (fun _ => hk2 _ trivial) fun _ => hk2 _ trivial) fun v _ => ?_)) ?_
      · generalize List.getD a0 i.toNat default = op
        refine g_if (fun _ => ?_) fun _ => g_if (fun _ => ?_) fun _ => ?_
        · obtain ⟨s, e1, hs⟩ := g33_cut op.2.1
          refine g_call e1 (g_bind (g32_ei hE (by omega)) ?_)
          rintro ⟨ok, b', K', B', kd', yk', fr', wh'⟩ ⟨X', Y', h1, _, h2⟩
          exact hk _ ⟨ok, b', K', B', kd', yk', fr', wh', X', Y', n, rfl, h1, by omega, h2⟩
        · obtain ⟨s, e1, hs⟩ := g33_cut op.2.1
          refine g_call e1 (g_bind (g39_ei hE (by omega)) ?_)
          rintro ⟨ok, b', K', B', kd', yk', fr', wh'⟩ ⟨X', Y', h1, h2⟩
          exact hk _ ⟨ok, b', K', B', kd', yk', fr', wh', X', Y', n, rfl, h1, by omega, h2⟩
        · refine g_bind (g34_ei hE (by omega) _) ?_
          rintro ⟨ok, b', K', B', kd', yk', fr', wh'⟩ ⟨X', Y', h1, h2⟩
          exact hk _ ⟨ok, b', K', B', kd', yk', fr', wh', X', Y', n + 300, rfl, h1, by omega, h2⟩
      · rintro _ ⟨ok, b', K', B', kd', yk', fr', wh', X', Y', n', rfl, hE', hn', hf⟩
        dsimp only
        have go : Gives (ck (inR .i64 (i + 1)) (some (St1.go (ρ := Ef ⊕ Ef) ((b'.1, b'.2.1, b'.2.2.1, b'.2.2.2, K', B', kd', yk', fr', wh', i + 1) : Ei)))) (rnd (fun v : Ei => ∃ b K B kd yk fr wh X Y n i, v = (b.1, b.2.1, b.2.2.1, b.2.2.2, K, B, kd, yk, fr, wh, i) ∧ EI 50 n (b, K, B, kd, yk, fr, wh) X Y ∧ 0 ≤ i ∧ i ≤ 60 ∧ (n : Int) ≤ 300 * i) (fun v => (60 - v.2.2.2.2.2.2.2.2.2.2).toNat) ((60 - i).toNat) (fun o : Ef ⊕ Ef => ∃ b K B kd yk fr wh X Y n, o = .inr (b.1, b.2.1, b.2.2.1, b.2.2.2, K, B, kd, yk, fr, wh) ∧ EI 50 n (b, K, B, kd, yk, fr, wh) X Y ∧ n ≤ 300 * 60)) := g_i64 (by omega) (g_go ⟨b', K', B', kd', yk', fr', wh', X', Y', n', i + 1, rfl, hE', by omega, by omega, by omega⟩ (by dsimp only; omega))
        refine g_if (fun hok => ?_) fun _ => go
        have hok : ok = false := by simpa using hok
        obtain ⟨rfl, rfl⟩ := hf hok
        exact g_call (text_ei hE' hcs hxy) (g_f (not_not_intro rfl) (g_call (cur_ei hE') (g_f (not_not_intro rfl) go)))
    · rintro _ ⟨b, K, B, kd, yk, fr, wh, X, Y, n, rfl, hE, hn⟩
      exact g_sm (fun v hv => by cases hv) fun r hr => by cases hr; exact hk _ ⟨b, K, B, kd, yk, fr, wh, X, Y, n, rfl, hE, hn⟩
  · rintro _ ⟨b, K, B, kd, yk, fr, wh, X, Y, n, rfl, hE, hn⟩
    dsimp only
    have hbl := hE.bl
    have hbs := hE.bs
    dsimp only at hbl hbs
    refine g_jn (fun v => B ≠ [] → ∃ cs, AllCl cs ∧ (B.getD 0 default).1 = strs cs ∧ v = strOf cs.flatten) (fun k hk => g_i64 (by omega) (g_if (fun h => hk _ fun hne => ?_) fun h0 => g_if (fun h => absurd h (by omega)) fun _ => g_i64 (by omega) (g_i64 (by omega) (g_ck (by omega) ?_)))) fun first hfirst => ?_
    · have := List.length_pos_iff.2 hne
      omega
    · have e0 : (((B.length : Nat) : Int) - 1 - (((B.length : Nat) : Int) - 1)).toNat = 0 := by omega
      rw [e0]
      have hb0 := hbs _ (getD_mem (l := B) (i := 0) (by omega))
      obtain ⟨cs, hcs, hl⟩ := isC_list hb0.2
      have hl2 := strs_len cs
      rw [← hl] at hl2
      rw [hl]
      exact g_call (g81_strs hcs (by omega)) (hk _ fun _ => ⟨cs, hcs, hl, rfl⟩)
    refine g_jn (fun v : Ef => ∃ b K kd yk fr wh X Y, v = (b.1, b.2.1, b.2.2.1, b.2.2.2, K, [], kd, yk, fr, wh) ∧ EI 50 n (b, K, [], kd, yk, fr, wh) X Y ∧ (B ≠ [] → X ++ Y = (B.getD 0 default).1)) (fun k hk => ?_) ?_
    · refine g_bind (g_loop (R := fun o : Ef ⊕ Ef => ∃ b K kd yk fr wh X Y, o = .inr (b.1, b.2.1, b.2.2.1, b.2.2.2, K, [], kd, yk, fr, wh) ∧ EI 50 n (b, K, [], kd, yk, fr, wh) X Y ∧ (B ≠ [] → X ++ Y = (B.getD 0 default).1))
        (fun v : Ei => ∃ b K B' kd yk fr wh X Y, ∃ i : Nat, v = (b.1, b.2.1, b.2.2.1, b.2.2.2, K, B', kd, yk, fr, wh, (i : Int)) ∧ EI 50 n (b, K, B', kd, yk, fr, wh) X Y ∧ i ≤ B.length ∧ B' = B.take (B.length - i) ∧ (0 < i → X ++ Y = (B.getD (B.length - i) default).1)) (fun v => (((B.length : Nat) : Int) - v.2.2.2.2.2.2.2.2.2.2).toNat) ?_ ⟨b, K, B, kd, yk, fr, wh, X, Y, 0, rfl, hE, Nat.zero_le _, by simp, fun h => absurd h (by decide)⟩) ?_
      · rintro _ ⟨b, K, B', kd, yk, fr, wh, X, Y, i, rfl, hE, hi, hB', hx⟩
        dsimp only
        refine g_if (fun hlt => g_bind (g34_undo hE) ?_) fun hge => ?_
        · rintro ⟨ok, b2, K2, B2, kd2, yk2, fr2, wh2⟩ ⟨X2, Y2, hE2, hc⟩
          have hl : B'.length = B.length - i := by rw [hB', List.length_take]; omega
          dsimp only at hc ⊢
          rcases hc with ⟨_, _, _, h4⟩ | ⟨rfl, _, h5, h6⟩
          · rw [h4, List.length_nil] at hl; omega
          · refine g_f (by decide) (g_i64 (by omega) (g_go ⟨b2, K2, B2, kd2, yk2, fr2, wh2, X2, Y2, i + 1, by rw [Int.natCast_add]; rfl, hE2, by omega, ?_, fun _ => ?_⟩ (by dsimp only; omega)))
            · rw [h6, hl, hB', List.take_take]
              congr 1
              omega
            · rw [h5, hl, hB', getD_take0 (by omega)]
              congr 1
        · have hn0 : B.length - i = 0 := by omega
          rw [hn0, List.take_zero] at hB'
          subst hB'
          refine g_out ⟨b, K, kd, yk, fr, wh, X, Y, rfl, hE, fun hne => ?_⟩
          have := List.length_pos_iff.2 hne
          have := hx (by omega)
          rwa [hn0] at this
      · rintro _ ⟨b, K, kd, yk, fr, wh, X, Y, rfl, hE, hx⟩
        exact g_sm (fun v hv => by cases hv) fun r hr => by cases hr; exact hk _ ⟨b, K, kd, yk, fr, wh, X, Y, rfl, hE, hx⟩
    · rintro _ ⟨b, K, kd, yk, fr, wh, X, Y, rfl, hE, hx⟩
      dsimp only
      have fin : Gives ((g34 (b, K, [], kd, yk, fr, wh) 15).bind fun v => some (decide (¬ (v.1 = true)))) fun r => r = true := g_bind (g34_undo hE) fun v ⟨X', Y', _, hc⟩ => g_some (by
        rcases hc with ⟨h, _⟩ | ⟨_, h, _⟩
        · rw [h]; rfl
        · exact absurd rfl h)
      refine g_if (fun _ => fin) fun h0 => ?_
      have hne : B ≠ [] := fun e => by subst e; exact h0 rfl
      obtain ⟨cs, hcs, h1, rfl⟩ := hfirst hne
      exact g_call (text_ei hE hcs ((hx hne).trans h1)) (g_t rfl fin)
theorem editorUndoes_law {a0 : List (Int × ByteArray × Int)} {P : Int × ByteArray × Int → Prop} (_ : ∀ a ∈ a0, P a) : Gives (g8 a0) fun b => b = true := g8_gives
end Go.Proofs.Ytenjkphlbdhaiaa
end
