import Derived.Test.YtcnofjjiepcpjaaPlainRc
set_option linter.unusedVariables false
namespace Go.Proofs.Ytcnofjjiepcpjaa
open Go Go.Eng

theorem drop_byt {l : List Int} (h : Byt l) {n : Nat} : Byt (l.drop n) := fun c hc => h c (List.mem_of_mem_drop hc)
theorem nx_inv {l : List Int} (hl : Byt l) {r n : Int} (h : nx l = (r, n, false)) : (r = 65533 ∧ n = 1 ∧ 1 ≤ l.length) ∨ (isR r ∧ l = enc r ++ l.drop n.toNat ∧ n = ((enc r).length : Int)) := by
  cases l with
  | nil => simp [nx] at h
  | cons c t =>
    have hc := hl c List.mem_cons_self
    rcases sh_cases c hc.1 hc.2 with ⟨a, e⟩ | ⟨a, e⟩ | ⟨a, a', e⟩ | ⟨a, a', e⟩ | ⟨a, a', e⟩
    · have e2 : shBits c = c := by simp only [shBits]; rw [if_pos a]
      simp [nx, e, e2, nxGo] at h
      obtain ⟨rfl, rfl⟩ := h
      right
      refine ⟨⟨by omega, by omega, .inl (by omega)⟩, ?_, ?_⟩
      · unfold enc; rw [if_pos a]; rfl
      · unfold enc; rw [if_pos a]; rfl
    · simp [nx, e] at h
      obtain ⟨rfl, rfl⟩ := h
      exact .inl ⟨rfl, rfl, by simp⟩
    · have e2 : shBits c = c % 32 := by simp only [shBits]; repeat' split <;> omega
      have e3 : shLow c = 128 := by simp only [shLow]; repeat' split <;> omega
      have e4 : shHigh c = 191 := by simp only [shHigh]; repeat' split <;> omega
      cases t with
      | nil => simp [nx, e, nxGo] at h
      | cons d t =>
        have hd := hl d (by simp)
        simp only [nx, e, e2, e3, e4, nxGo, show (2 - 1 : Int).toNat = 1 from rfl] at h
        rw [if_neg (by omega)] at h
        split at h
        · cases h; exact .inl ⟨rfl, rfl, by simp⟩
        · cases h
          right
          have q : enc (c % 32 * 64 + d % 64) = [c, d] := by
            unfold enc
            rw [if_neg (by omega), if_pos (by omega)]
            congr 1
            · omega
            · congr 1; omega
          exact ⟨⟨by omega, by omega, .inl (by omega)⟩, by rw [q]; rfl, by rw [q]; rfl⟩
    · have e2 : shBits c = c % 16 := by simp only [shBits]; repeat' split <;> omega
      have e3 : (c = 224 ∧ shLow c = 160) ∨ (c ≠ 224 ∧ shLow c = 128) := by simp only [shLow]; repeat' split <;> omega
      have e4 : (c = 237 ∧ shHigh c = 159) ∨ (c ≠ 237 ∧ shHigh c = 191) := by simp only [shHigh]; repeat' split <;> omega
      cases t with
      | nil => simp [nx, e, nxGo] at h
      | cons d t =>
        have hd := hl d (by simp)
        simp only [nx, e, e2, nxGo, show (3 - 1 : Int).toNat = 2 from rfl] at h
        rw [if_neg (by omega)] at h
        split at h
        · cases h; exact .inl ⟨rfl, rfl, by simp⟩
        · cases t with
          | nil => simp [nxGo] at h
          | cons f t =>
            have hf := hl f (by simp)
            simp only [nxGo] at h
            split at h
            · cases h; exact .inl ⟨rfl, rfl, by simp⟩
            · cases h
              right
              have q : enc ((c % 16 * 64 + d % 64) * 64 + f % 64) = [c, d, f] := by
                unfold enc
                rw [if_neg (by omega), if_neg (by omega), if_pos (by omega)]
                congr 1
                · omega
                · congr 1
                  · omega
                  · congr 1; omega
              exact ⟨⟨by omega, by omega, by omega⟩, by rw [q]; rfl, by rw [q]; rfl⟩
    · have e2 : shBits c = c % 8 := by simp only [shBits]; repeat' split <;> omega
      have e3 : (c = 240 ∧ shLow c = 144) ∨ (c ≠ 240 ∧ shLow c = 128) := by simp only [shLow]; repeat' split <;> omega
      have e4 : (c = 244 ∧ shHigh c = 143) ∨ (c ≠ 244 ∧ shHigh c = 191) := by simp only [shHigh]; repeat' split <;> omega
      cases t with
      | nil => simp [nx, e, nxGo] at h
      | cons d t =>
        have hd := hl d (by simp)
        simp only [nx, e, e2, nxGo, show (4 - 1 : Int).toNat = 3 from rfl] at h
        rw [if_neg (by omega)] at h
        split at h
        · cases h; exact .inl ⟨rfl, rfl, by simp⟩
        · cases t with
          | nil => simp [nxGo] at h
          | cons f t =>
            have hf := hl f (by simp)
            simp only [nxGo] at h
            split at h
            · cases h; exact .inl ⟨rfl, rfl, by simp⟩
            · cases t with
              | nil => simp [nxGo] at h
              | cons g t =>
                have hg := hl g (by simp)
                simp only [nxGo] at h
                split at h
                · cases h; exact .inl ⟨rfl, rfl, by simp⟩
                · cases h
                  right
                  have q : enc (((c % 8 * 64 + d % 64) * 64 + f % 64) * 64 + g % 64) = [c, d, f, g] := by
                    unfold enc
                    rw [if_neg (by omega), if_neg (by omega), if_neg (by omega)]
                    congr 1
                    · omega
                    · congr 1
                      · omega
                      · congr 1
                        · omega
                        · congr 1; omega
                  exact ⟨⟨by omega, by omega, by omega⟩, by rw [q]; rfl, by rw [q]; rfl⟩
/-- what stands first, and how many bytes it takes -/
def stp (l : List Int) : Int × Int := if (nx l).2.2 = true then (65533, 1) else ((nx l).1, (nx l).2.1)
theorem stp_pos {l : List Int} (hl : Byt l) : isR (stp l).1 ∧ 1 ≤ (stp l).2 ∧ (stp l).2 ≤ 4 ∧ (1 ≤ l.length → (stp l).2 ≤ l.length) := by
  have hb : isR 65533 := ⟨by omega, by omega, .inr (by omega)⟩
  unfold stp
  by_cases h : (nx l).2.2 = true
  · rw [if_pos h]; exact ⟨hb, by simp, by simp, fun h => by dsimp only; omega⟩
  · rw [if_neg h]
    have e : nx l = ((nx l).1, (nx l).2.1, false) := by
      have : (nx l).2.2 = false := by simpa using h
      rw [← this]
    rcases nx_inv hl e with ⟨h1, h2, h3⟩ | ⟨h1, h2, h3⟩
    · dsimp only
      rw [h1, h2]
      exact ⟨hb, by omega, by omega, fun h => by omega⟩
    · have := enc_len (v := (nx l).1)
      have hlen := congrArg List.length h2
      rw [List.length_append, List.length_drop] at hlen
      dsimp only
      exact ⟨h1, by omega, by omega, fun h => by omega⟩
theorem stp_nil {l : List Int} (h : l = []) : (stp l) = (65533, 1) := by subst h; rfl
theorem stp_good {l : List Int} (hl : Byt l) : l = enc (stp l).1 ++ l.drop (stp l).2.toNat ↔ ((nx l).2.2 = false ∧ ((nx l).1 ≠ 65533 ∨ (nx l).2.1 = 3)) := by
  constructor
  · intro h
    have hp := stp_pos hl
    have h' := nx_enc hp.1 (l.drop (stp l).2.toNat)
    rw [← h] at h'
    refine ⟨by rw [h'], ?_⟩
    rw [h']
    by_cases q : (stp l).1 = 65533
    · right; rw [q]; rfl
    · left; exact q
  · rintro ⟨h1, h2⟩
    have e : nx l = ((nx l).1, (nx l).2.1, false) := by rw [← h1]
    have e' : stp l = ((nx l).1, (nx l).2.1) := by unfold stp; rw [if_neg (by simp [h1])]
    rw [e']
    rcases nx_inv hl e with ⟨h3, h4, h5⟩ | ⟨h3, h4, h5⟩
    · omega
    · exact h4
/-- the places, the runes, the text -/
def ps (l : List Int) : Nat → Nat
  | 0 => 0
  | k + 1 => ps l k + (stp (l.drop (ps l k))).2.toNat
def rn (l : List Int) (k : Nat) : Int := (stp (l.drop (ps l k))).1
def rs (l : List Int) (k : Nat) : List Int := (List.range k).map (rn l)
def pp (l : List Int) (k : Nat) : List Int := (List.range k).map fun i => (ps l i : Int)
def tx (l : List Int) (k : Nat) : List Int := (List.range k).flatMap fun i => enc (rn l i)
theorem rs_succ (l : List Int) (k : Nat) : rs l (k + 1) = rs l k ++ [rn l k] := by simp [rs, List.range_succ]
theorem pp_succ (l : List Int) (k : Nat) : pp l (k + 1) = pp l k ++ [(ps l k : Int)] := by simp [pp, List.range_succ]
theorem tx_succ (l : List Int) (k : Nat) : tx l (k + 1) = tx l k ++ enc (rn l k) := by simp [tx, List.range_succ]
theorem rs_len (l : List Int) (k : Nat) : (rs l k).length = k := by simp [rs]
theorem pp_len (l : List Int) (k : Nat) : (pp l k).length = k := by simp [pp]
theorem rn_R {l : List Int} (hl : Byt l) (k : Nat) : isR (rn l k) := (stp_pos (drop_byt hl)).1
theorem tx_len {l : List Int} : ∀ k, (tx l k).length ≤ 4 * k
  | 0 => by simp [tx]
  | k + 1 => by
    have := tx_len (l := l) k
    have := enc_len (v := rn l k)
    rw [tx_succ, List.length_append]; omega
theorem tx_byt {l : List Int} (hl : Byt l) : ∀ k, Byt (tx l k)
  | 0 => fun c hc => by simp [tx] at hc
  | k + 1 => fun c hc => by
    rw [tx_succ] at hc
    rcases List.mem_append.1 hc with h | h
    · exact tx_byt hl k c h
    · exact enc_byt (rn_R hl k) c h
theorem ps_step {l : List Int} (hl : Byt l) (k : Nat) : ps l k < ps l (k + 1) ∧ ps l (k + 1) ≤ ps l k + 4 ∧ (ps l k < l.length → ps l (k + 1) ≤ l.length) := by
  have h := stp_pos (drop_byt hl (n := ps l k))
  rw [ps]
  refine ⟨by omega, by omega, fun hk => ?_⟩
  have := h.2.2.2 (by rw [List.length_drop]; omega)
  rw [List.length_drop] at this
  omega
theorem ps_lt {l : List Int} (hl : Byt l) : ∀ (j i : Nat), ps l i + j ≤ ps l (i + j)
  | 0, i => Nat.le_refl _
  | j + 1, i => by
    have := ps_lt hl j i
    have := (ps_step hl (i + j)).1
    rw [show i + (j + 1) = (i + j) + 1 by omega]
    omega
theorem ps_ge {l : List Int} (hl : Byt l) (k : Nat) : k ≤ ps l k := by have := ps_lt hl k 0; simp [ps] at this; omega
theorem ps_mono {l : List Int} (hl : Byt l) {i k : Nat} (h : i < k) : ps l i < ps l k := by have := ps_lt hl (k - i) i; rw [show i + (k - i) = k by omega] at this; omega
theorem ps_lt_iff {l : List Int} (hl : Byt l) {i k : Nat} : ps l i < ps l k ↔ i < k := by
  refine ⟨fun h => ?_, ps_mono hl⟩
  by_cases q : i < k
  · exact q
  · by_cases e : i = k
    · subst e; omega
    · have := ps_mono hl (show k < i by omega); omega
theorem ps_inj {l : List Int} (hl : Byt l) {i k : Nat} (h : ps l i = ps l k) : i = k := by
  have a : ¬ i < k := fun q => by have := ps_mono hl q; omega
  have b : ¬ k < i := fun q => by have := ps_mono hl q; omega
  omega
def goodAt (l : List Int) (i : Nat) : Prop := l.drop (ps l i) = enc (rn l i) ++ l.drop (ps l (i + 1))
theorem goodAt_iff {l : List Int} (hl : Byt l) (i : Nat) : goodAt l i ↔ ((nx (l.drop (ps l i))).2.2 = false ∧ ((nx (l.drop (ps l i))).1 ≠ 65533 ∨ (nx (l.drop (ps l i))).2.1 = 3)) := by
  rw [← stp_good (drop_byt hl)]
  unfold goodAt rn
  rw [ps, List.drop_drop]
theorem tx_split (l : List Int) {i : Nat} : ∀ {N : Nat}, i < N → ∃ R, tx l N = tx l i ++ (enc (rn l i) ++ R)
  | 0, h => by omega
  | N + 1, h => by
    by_cases e : i = N
    · subst e; exact ⟨[], by rw [tx_succ, List.append_nil]⟩
    · obtain ⟨R, hR⟩ := tx_split l (i := i) (N := N) (by omega)
      exact ⟨R ++ enc (rn l N), by rw [tx_succ, hR]; simp only [List.append_assoc]⟩
theorem tx_pre {l : List Int} : ∀ k, (∀ i, i < k → goodAt l i) → l = tx l k ++ l.drop (ps l k)
  | 0, _ => by simp [tx, ps]
  | k + 1, h => by
    have ih := tx_pre k fun i hi => h i (by omega)
    have g := h k (by omega)
    rw [tx_succ, List.append_assoc, ← g]
    exact ih
theorem tx_good {l : List Int} (hl : Byt l) {N : Nat} (hN : ps l N = l.length) : tx l N = l ↔ ∀ i, i < N → goodAt l i := by
  constructor
  · intro h i
    induction i using Nat.strongRecOn with
    | _ i ih =>
      intro hi
      have p := tx_pre i fun j hj => ih j hj (by omega)
      obtain ⟨R, hR⟩ := tx_split l hi
      have e : l.drop (ps l i) = enc (rn l i) ++ R := by
        have q : tx l i ++ l.drop (ps l i) = tx l i ++ (enc (rn l i) ++ R) := by rw [← p, ← hR, h]
        exact List.append_cancel_left q
      have hx := nx_enc (rn_R hl i) R
      rw [← e] at hx
      have hs : (stp (l.drop (ps l i))).2 = ((enc (rn l i)).length : Int) := by
        have e2 : stp (l.drop (ps l i)) = ((nx (l.drop (ps l i))).1, (nx (l.drop (ps l i))).2.1) := by
          unfold stp
          rw [if_neg (by rw [hx]; simp)]
        rw [e2, hx]
      unfold goodAt
      rw [ps, hs, ← List.drop_drop, e, Int.toNat_natCast, List.drop_left]
  · intro h
    have p := tx_pre N h
    rw [hN, List.drop_length, List.append_nil] at p
    exact p.symm
/-- bytes as a string, and back -/
theorem bytes_str {l : List Int} (hl : Byt l) : bytesOf (strOf l) = l := by
  unfold bytesOf strOf
  simp only [List.map_map]
  conv => rhs; rw [← List.map_id l]
  refine List.map_congr_left fun c hc => ?_
  have := hl c hc
  simp only [Function.comp, UInt8.toNat_ofNat', id]
  omega
theorem str_size (l : List Int) : (strOf l).size = l.length := by simp [strOf, ByteArray.size]
theorem str_eq {a b : List Int} (ha : Byt a) (hb : Byt b) : (strOf a).data.toList = (strOf b).data.toList ↔ a = b := by
  constructor
  · intro h
    have e : bytesOf (strOf a) = bytesOf (strOf b) := by unfold bytesOf; rw [h]
    rwa [bytes_str ha, bytes_str hb] at e
  · rintro rfl; rfl
end Go.Proofs.Ytcnofjjiepcpjaa
