import Derived.Test.YtcnofjjiepcpjaaPlainRb
set_option linter.unusedVariables false
namespace Go.Proofs.Ytcnofjjiepcpjaa
open Go Go.Eng

def isR (r : Int) : Prop := 0 ≤ r ∧ r ≤ 1114111 ∧ (r < 55296 ∨ 57343 < r)
instance (r : Int) : Decidable (isR r) := by unfold isR; infer_instance
theorem g61_eq (r : Int) : g61 r = some (decide (isR r)) := by
  refine g_eq ?_
  unfold g61
  refine g_if (fun a => g_if (fun b => g_if (fun c => g_some ?_) fun c => g_some ?_) fun b => g_some ?_) fun a => g_some ?_
  · rw [eq_comm, decide_eq_true_eq]; exact ⟨a, b, .inl c⟩
  · rw [decide_eq_decide]; exact ⟨fun x => ⟨a, b, .inr x⟩, fun x => x.2.2.resolve_left c⟩
  · rw [eq_comm, decide_eq_false_iff_not]; exact fun x => b x.2.1
  · rw [eq_comm, decide_eq_false_iff_not]; exact fun x => a x.1
theorem g19_eq (r : Int) : g19 r = some (decide (isR r)) := g61_eq r
def norm (r : Int) : Int := if isR r then r else 65533
theorem norm_r (r : Int) : isR (norm r) := by
  unfold norm
  split
  · assumption
  · exact ⟨by omega, by omega, .inr (by omega)⟩
def enc (v : Int) : List Int :=
  if v < 128 then [v] else if v < 2048 then [192 + v / 64, 128 + v % 64] else if v < 65536 then [224 + v / 4096, 128 + v / 64 % 64, 128 + v % 64] else [240 + v / 262144, 128 + v / 4096 % 64, 128 + v / 64 % 64, 128 + v % 64]
theorem bor8 (x y : Int) (i : Nat) (hx₀ : 0 ≤ x) (hx : x % 2 ^ i = 0) (hx₁ : x < 256) (hy₀ : 0 ≤ y) (hy : y < 2 ^ i) (hy₁ : y < 256) : bits .or .u8 x y = x + y := bits_join .u8 8 (by decide) keep8 i x y hx₀ hx hx₁ hy₀ hy hy₁
theorem wrap8 (n : Int) : IntKind.u8.wrap n = n % 256 := by rw [IntKind.wrap_u8]
theorem tailB (x : Int) : bits .or .u8 128 (bits .and .u8 (IntKind.u8.wrap x) 63) = 128 + x % 64 := by
  rw [wrap8, band63 (by omega) (by omega), bor8 128 _ 6 (by omega) (by omega) (by omega) (by omega) (by omega) (by omega)]
  omega
theorem g62_0 (v : Int) : g62 v 0 = some (128 + v % 64) := by
  refine g_eq ?_
  unfold g62
  refine g_ck (by decide) (g_some ?_)
  rw [tailB]
  simp
theorem g62_6 (v : Int) : g62 v 6 = some (128 + v / 64 % 64) := by
  refine g_eq ?_
  unfold g62
  refine g_ck (by decide) (g_some ?_)
  rw [tailB]
  rfl
theorem g62_12 (v : Int) : g62 v 12 = some (128 + v / 4096 % 64) := by
  refine g_eq ?_
  unfold g62
  refine g_ck (by decide) (g_some ?_)
  rw [tailB]
  rfl
theorem g17_eq (r : Int) : g17 r = some (enc (norm r)) := by
  refine g_eq ?_
  unfold g17
  refine g_jn (fun v => v = norm r) (fun k hk => g_call (g61_eq r) (g_if (fun h => hk _ (by unfold norm; rw [if_neg (by simpa using h)])) fun h => hk _ (by unfold norm; rw [if_pos (by simpa using h)]))) ?_
  rintro _ rfl
  obtain ⟨h0, h1, h2⟩ := norm_r r
  generalize norm r = v at *
  unfold enc
  have p6 : (2 : Int) ^ (6 : Int).toNat = 64 := rfl
  have p12 : (2 : Int) ^ (12 : Int).toNat = 4096 := rfl
  have p18 : (2 : Int) ^ (18 : Int).toNat = 262144 := rfl
  refine g_if (fun a => g_some ?_) fun a => g_if (fun b => g_call (g62_0 v) (g_some ?_)) fun b => g_if (fun c => g_call (g62_6 v) (g_call (g62_0 v) (g_some ?_))) fun c => g_call (g62_12 v) (g_call (g62_6 v) (g_call (g62_0 v) (g_some ?_)))
  · rw [if_pos a, wrap8]
    congr 1; omega
  · rw [if_neg a, if_pos b, wrap8, p6, bor8 192 _ 6 (by omega) (by omega) (by omega) (by omega) (by omega) (by omega)]
    congr 1; omega
  · rw [if_neg a, if_neg b, if_pos c, wrap8, p12, bor8 224 _ 4 (by omega) (by omega) (by omega) (by omega) (by omega) (by omega)]
    congr 1; omega
  · rw [if_neg a, if_neg b, if_neg c, wrap8, p18, bor8 240 _ 3 (by omega) (by omega) (by omega) (by omega) (by omega) (by omega)]
    congr 1; omega
theorem g63_eq {v : Int} (h : 0 ≤ v) : g63 v = some (128 + v % 64) := by
  refine g_eq ?_
  unfold g63
  rw [Int.tmod_eq_emod_of_nonneg h]
  refine g_i32 (by omega) (g_some ?_)
  rw [wrap8]
  omega
theorem g18_eq (r : Int) : g18 r = some (enc (norm r)) := by
  refine g_eq ?_
  unfold g18
  refine g_jn (fun v => v = norm r) (fun k hk => g_call (g19_eq r) (g_if (fun h => hk _ (by unfold norm; rw [if_neg (by simpa using h)])) fun h => hk _ (by unfold norm; rw [if_pos (by simpa using h)]))) ?_
  rintro _ rfl
  obtain ⟨h0, h1, h2⟩ := norm_r r
  generalize norm r = v at *
  unfold enc
  rw [Int.tdiv_eq_ediv_of_nonneg h0, Int.tdiv_eq_ediv_of_nonneg h0, Int.tdiv_eq_ediv_of_nonneg h0]
  refine g_if (fun a => g_some ?_) fun a => g_if (fun b => g_i32 (by omega) (g_i32 (by omega) (g_call (g63_eq h0) (g_some ?_)))) fun b => g_if (fun c => g_i32 (by omega) (g_i32 (by omega) (g_i32 (by omega) (g_call (g63_eq (by omega)) (g_call (g63_eq h0) (g_some ?_)))))) fun c => g_i32 (by omega) (g_i32 (by omega) (g_i32 (by omega) (g_call (g63_eq (by omega)) (g_i32 (by omega) (g_call (g63_eq (by omega)) (g_call (g63_eq h0) (g_some ?_)))))))
  · rw [if_pos a, wrap8]
    congr 1; omega
  · rw [if_neg a, if_pos b, wrap8]
    congr 1; omega
  · rw [if_neg a, if_neg b, if_pos c, wrap8]
    congr 1; omega
  · rw [if_neg a, if_neg b, if_neg c, wrap8]
    congr 1; omega
theorem enc_byt {v : Int} (h : isR v) : Byt (enc v) := by
  obtain ⟨h0, h1, h2⟩ := h
  unfold enc
  intro c hc
  repeat' split at hc
  all_goals simp only [List.mem_cons, List.not_mem_nil, or_false] at hc; omega
theorem enc_len {v : Int} : 1 ≤ (enc v).length ∧ (enc v).length ≤ 4 := by
  unfold enc
  repeat' split
  all_goals simp
theorem nx_enc {v : Int} (h : isR v) (t : List Int) : nx (enc v ++ t) = (v, ((enc v).length : Int), false) := by
  obtain ⟨h0, h1, h2⟩ := h
  unfold enc
  split
  · rename_i a
    have e1 : shMany v = 1 := by simp only [shMany]; rw [if_pos a]
    have e2 : shBits v = v := by simp only [shBits]; rw [if_pos a]
    simp [nx, e1, e2, nxGo]
  split
  · rename_i a b
    have e1 : shMany (192 + v / 64) = 2 := by simp only [shMany]; repeat' split <;> omega
    have e2 : shBits (192 + v / 64) = v / 64 := by simp only [shBits]; repeat' split <;> omega
    have e3 : shLow (192 + v / 64) = 128 := by simp only [shLow]; repeat' split <;> omega
    have e4 : shHigh (192 + v / 64) = 191 := by simp only [shHigh]; repeat' split <;> omega
    simp only [nx, e1, e2, e3, e4, nxGo, List.cons_append, List.nil_append, show (2 - 1 : Int).toNat = 1 from rfl]
    rw [if_neg (by omega), if_neg (by omega)]
    simp
    omega
  split
  · rename_i a b c
    have e1 : shMany (224 + v / 4096) = 3 := by simp only [shMany]; repeat' split <;> omega
    have e2 : shBits (224 + v / 4096) = v / 4096 := by simp only [shBits]; repeat' split <;> omega
    have e3 : shLow (224 + v / 4096) ≤ 128 + v / 64 % 64 := by simp only [shLow]; repeat' split <;> omega
    have e4 : 128 + v / 64 % 64 ≤ shHigh (224 + v / 4096) := by simp only [shHigh]; repeat' split <;> omega
    simp only [nx, e1, e2, nxGo, List.cons_append, List.nil_append, show (3 - 1 : Int).toNat = 2 from rfl]
    rw [if_neg (by omega), if_neg (by omega), if_neg (by omega)]
    simp
    omega
  · rename_i a b c
    have e1 : shMany (240 + v / 262144) = 4 := by simp only [shMany]; repeat' split <;> omega
    have e2 : shBits (240 + v / 262144) = v / 262144 := by simp only [shBits]; repeat' split <;> omega
    have e3 : shLow (240 + v / 262144) ≤ 128 + v / 4096 % 64 := by simp only [shLow]; repeat' split <;> omega
    have e4 : 128 + v / 4096 % 64 ≤ shHigh (240 + v / 262144) := by simp only [shHigh]; repeat' split <;> omega
    simp only [nx, e1, e2, nxGo, List.cons_append, List.nil_append, show (4 - 1 : Int).toNat = 3 from rfl]
    rw [if_neg (by omega), if_neg (by omega), if_neg (by omega), if_neg (by omega)]
    simp
    omega
theorem g20_true : g20 = some true := e20_le 100 true (by kernel_rfl)
theorem g3_gives {l : List Int} {r : Int} (hl : Byt l) : Gives (g3 l r) fun b => b = true := by
  unfold g3
  have hg : 0 ≤ gmin ((l.length : Nat) : Int) 400 ∧ gmin ((l.length : Nat) : Int) 400 ≤ l.length ∧ gmin ((l.length : Nat) : Int) 400 ≤ 400 := by rw [gmin_eq]; omega
  generalize hm : gmin ((l.length : Nat) : Int) 400 = m at *
  have hd : (l.drop (0 : Int).toNat).take (m.toNat - (0 : Int).toNat) = l.take m.toNat := rfl
  rw [hd]
  have hb : Byt (l.take m.toNat) := take_byt hl
  have hn : (l.take m.toNat).length ≤ 400 := by rw [List.length_take]; omega
  have hN := norm_r r
  have hE := enc_len (v := norm r)
  refine g_ck (by omega) (g_call (g15_eq hb (by omega)) (g_call (g16_eq hb (by omega)) (g_call (g17_eq r) (g_ck (by omega) (g_ck ?_ ?_)))))
  · have : (0 : Int).toNat = 0 := rfl
    omega
  have hx := nx_enc hN (l.take m.toNat)
  refine g_call (g15_eq (l := ([] ++ enc (norm r)) ++ l.take m.toNat) ?_ ?_) ?_
  · intro c hc
    rcases List.mem_append.1 hc with hc | hc
    · exact enc_byt hN c (by simpa using hc)
    · exact hb c hc
  · simp only [List.length_append, List.nil_append]; omega
  rw [List.nil_append, hx]
  refine g_f (by simp) (g_f (by simp) (g_f (by simp) (g_ck (enc_byt hN) (g_call (g18_eq r) (g_ck (enc_byt hN) (g_f (by simp) (g_f (by simp) (g_f (by simp) ?_))))))))
  dsimp only
  have fin : ∀ {f : Bool → Option Bool}, (∀ b, f b = some b) → Gives (g20.bind f) fun b => b = true := fun hf => g_call g20_true (by rw [hf]; exact g_some rfl)
  refine g_if (fun _ => fin fun _ => rfl) fun a => g_call (g19_eq r) ?_
  have hnr : ¬ isR r := fun h => a (by unfold norm; rw [if_pos h])
  refine g_t (by simpa using hnr) (g_t (by unfold norm; rw [if_neg hnr]) (fin fun _ => rfl))
theorem next_gives {l : List Int} {r : Int} (hl : ∀ a ∈ l, (fun a : Int => inR .u8 a) a) (hr : inR .i32 r) : Gives (g3 l r) fun b => b = true := g3_gives hl
end Go.Proofs.Ytcnofjjiepcpjaa
