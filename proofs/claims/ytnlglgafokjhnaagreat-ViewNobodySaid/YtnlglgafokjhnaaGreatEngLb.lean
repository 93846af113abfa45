/-
  Texts that the law leans on. Nothing here is trusted.
-/
import Derived.Test.YtnlglgafokjhnaaGreatEngY
import Derived.KernelRfl
set_option linter.unusedVariables false
set_option linter.unusedSimpArgs false
namespace Go.Eng
open Go Go.RowKit
def Gives {α : Type} (x : Option α) (Φ : α → Prop) : Prop := ∃ a, x = some a ∧ Φ a
def ck (p : Prop) [Decidable p] {α : Type} (e : Option α) : Option α := if p then e else none
def jn {α β : Type} (A : (β → Option α) → Option α) (k : β → Option α) : Option α := A k
def sm {α β γ : Type} (o : α ⊕ β) (f : α → γ) (g : β → γ) : γ := match o with | .inl a => f a | .inr b => g b
inductive St1 (σ ρ : Type) where
  | go (s : σ)
  | out (r : ρ)
def iter {σ ρ : Type} (step : σ → Option (St1 σ ρ)) : Nat → σ → Option ρ
  | 0, _ => none
  | n + 1, s => match step s with
    | none => none
    | some (.go s') => iter step n s'
    | some (.out r) => some r
open Classical in
noncomputable def loopO {σ ρ : Type} (step : σ → Option (St1 σ ρ)) (s : σ) : Option ρ :=
  if h : ∃ r, ∃ n, iter step n s = some r then some (Classical.choose h) else none
section
variable {σ ρ α β : Type} {step : σ → Option (St1 σ ρ)} {s : σ}
theorem iter_more : ∀ {n : Nat} {s : σ} {r : ρ} (m : Nat), iter step n s = some r → iter step (n + m) s = some r
  | 0, _, _, _, h => by simp [iter] at h
  | n + 1, s, r, m, h => by
    rw [Nat.add_right_comm]
    simp only [iter] at h ⊢
    split at h
    · cases h
    · exact iter_more m h
    · exact h
theorem iter_one {n m : Nat} {r r' : ρ} (h : iter step n s = some r) (h' : iter step m s = some r') : r = r' := by
  have h1 := iter_more m h
  have h2 := iter_more n h'
  rw [Nat.add_comm] at h2
  rw [h1] at h2
  exact Option.some.inj h2
theorem loopO_iff {r : ρ} : loopO step s = some r ↔ ∃ n, iter step n s = some r := by
  unfold loopO
  constructor
  · intro h
    split at h
    · rename_i hex
      have := Classical.choose_spec hex
      cases h
      exact this
    · cases h
  · rintro ⟨n, hn⟩
    have hex : ∃ r, ∃ n, iter step n s = some r := ⟨r, n, hn⟩
    rw [dif_pos hex]
    obtain ⟨m, hm⟩ := Classical.choose_spec hex
    rw [iter_one hm hn]
theorem loopO_eq : loopO step s = match step s with
    | none => none
    | some (.go s') => loopO step s'
    | some (.out r) => some r := by
  apply Option.ext
  intro r
  rw [loopO_iff]
  split
  · rename_i e
    constructor
    · rintro ⟨n, hn⟩
      cases n with
      | zero => simp [iter] at hn
      | succ n => simp [iter, e] at hn
    · intro h; cases h
  · rename_i s' e
    rw [loopO_iff]
    constructor
    · rintro ⟨n, hn⟩
      cases n with
      | zero => simp [iter] at hn
      | succ n => exact ⟨n, by simpa [iter, e] using hn⟩
    · rintro ⟨n, hn⟩
      exact ⟨n + 1, by simpa [iter, e] using hn⟩
  · rename_i r' e
    constructor
    · rintro ⟨n, hn⟩
      cases n with
      | zero => simp [iter] at hn
      | succ n => simpa [iter, e] using hn
    · intro h
      exact ⟨1, by simpa [iter, e] using h⟩
theorem loopO_go {s' : σ} (h : step s = some (.go s')) : loopO step s = loopO step s' := by rw [loopO_eq, h]
theorem loopO_out {r : ρ} (h : step s = some (.out r)) : loopO step s = some r := by rw [loopO_eq, h]
theorem loopO_rel {Q : σ → Prop} {R : ρ → Prop} (μ : σ → Nat) (h : ∀ s, Q s → (∃ r, step s = some (.out r) ∧ R r) ∨ ∃ s', step s = some (.go s') ∧ Q s' ∧ μ s' < μ s) : ∀ s, Q s → ∃ r, loopO step s = some r ∧ R r := by
  have : ∀ n, ∀ s, Q s → μ s = n → ∃ r, loopO step s = some r ∧ R r := by
    intro n
    induction n using Nat.strongRecOn with
    | _ n ih =>
      intro s hs hn
      rcases h s hs with ⟨r, h1, h2⟩ | ⟨s', h1, h2, h3⟩
      · exact ⟨r, loopO_out h1, h2⟩
      · rw [loopO_go h1]; exact ih _ (by omega) s' h2 rfl
  exact fun s hs => this _ s hs rfl
def IG (step : σ → Option (St1 σ ρ)) (Φ : ρ → Prop) : Nat → σ → Prop
  | 0, _ => False
  | n + 1, s => Gives (step s) fun x => match x with | .go s' => IG step Φ n s' | .out r => Φ r
def stp (step : σ → Option (St1 σ ρ)) (Φ : ρ → Prop) (n : Nat) (x : St1 σ ρ) : Prop :=
  match x with
  | .go s' => IG step Φ n s'
  | .out r => Φ r
theorem IG_of {Φ : ρ → Prop} : ∀ {n : Nat} {s : σ} {r : ρ}, iter step n s = some r → Φ r → IG step Φ n s
  | 0, _, _, h, _ => by simp [iter] at h
  | n + 1, s, r, h, hr => by
    simp only [iter] at h
    split at h
    · cases h
    · rename_i s' e; exact ⟨_, e, IG_of h hr⟩
    · rename_i r' e; cases h; exact ⟨_, e, hr⟩
theorem IG_succ {Φ : ρ → Prop} {m : Nat} {s : σ} (h : IG step Φ m s) : ∃ n, m = n + 1 ∧ Gives (step s) (stp step Φ n) := by
  cases m with
  | zero => exact h.elim
  | succ n => exact ⟨n, rfl, h⟩
theorem loop_st {Φ : ρ → Prop} (H : Gives (loopO step s) Φ) : ∃ n, IG step Φ n s := by
  obtain ⟨r, h, hr⟩ := H
  obtain ⟨n, hn⟩ := loopO_iff.1 h
  exact ⟨n, IG_of hn hr⟩
theorem some_st {a : α} {Φ : α → Prop} (H : Gives (some a) Φ) : Φ a := by
  obtain ⟨b, h, hb⟩ := H
  cases h
  exact hb
theorem fin_st {a r : α} (H : Gives (some a) fun b => b = r) : a = r := some_st (Φ := fun b => b = r) H
theorem bind_st {x : Option β} {f : β → Option α} {Φ : α → Prop} (H : Gives (x.bind f) Φ) : Gives x fun a => Gives (f a) Φ := by
  obtain ⟨b, h, hb⟩ := H
  cases x with
  | none => cases h
  | some a => exact ⟨a, rfl, b, h, hb⟩
theorem call_st {x : Option β} {f : β → Option α} {Φ : α → Prop} (H : Gives (x.bind f) Φ) : ∃ a, x = some a ∧ Gives (f a) Φ := bind_st H
theorem ck_st {p : Prop} {_ : Decidable p} {e : Option α} {Φ : α → Prop} (H : Gives (ck p e) Φ) : p ∧ Gives e Φ := by
  unfold ck at H
  by_cases h : p
  · rw [if_pos h] at H; exact ⟨h, H⟩
  · rw [if_neg h] at H; obtain ⟨_, h, _⟩ := H; cases h
theorem ob_ck {p : Prop} {_ : Decidable p} {e : Option α} {Φ : α → Prop} {G : Prop} (H : Gives (ck p e) Φ) (k : p → Gives e Φ → G) : Ob p ∧ G := ⟨⟨(ck_st H).1⟩, k (ck_st H).1 (ck_st H).2⟩
theorem if_st {p : Prop} {_ : Decidable p} {a b : Option α} {Φ : α → Prop} {G1 G2 : Prop} (H : Gives (if p then a else b) Φ) (k1 : p → Gives a Φ → G1) (k2 : ¬ p → Gives b Φ → G2) : (p → G1) ∧ (¬ p → G2) := by
  refine ⟨fun h => k1 h ?_, fun h => k2 h ?_⟩
  · rwa [if_pos h] at H
  · rwa [if_neg h] at H
theorem loop_fam {Φ : ρ → Prop} (H : Gives (loopO step s) Φ) (keep : List Nat) (nils : List (Nat × Nat × Nat × Nat)) (fr : Nat → σ → Fr) (L : Nat → σ → LL) (keys : Nat) {n0 nk : Nat} {q : PH} {fr0 : Fr} {L0 : LL} {body : Nat → PH → Fr → LL → Ke → Prop} {K : Ke}
    (h : ∀ n, IG step Φ n s → loopK { ι := Nat × σ, keep := keep, nils := nils, fr := fun b i => fr b i.2, L := fun b i => L b i.2, keys := keys, ok := fun i => IG step Φ i.1 i.2, μ := fun i => i.1 } n0 nk q fr0 L0 body K) : ∃ I : Inv, loopK I n0 nk q fr0 L0 body K := by
  obtain ⟨n, hn⟩ := loop_st H
  exact ⟨_, h n hn⟩
theorem cut_fam {A : (β → Option α) → Option α} {k : β → Option α} {Φ : α → Prop} (H : Gives (jn A k) Φ) (base : Nat) (keep : List Nat) (nils : List (Nat × Nat × Nat × Nat)) (fr : β → Fr) (L : β → LL) (rest : LL) (keys : Nat) {n0 : Nat} {q : PH} {fr0 : Fr} {va : Ke → Prop} {vb : Nat → PH → Fr → LL → Prop} {K : Ke}
    (h : Gives (A k) Φ → cutK { ι := β, base := base, keep := keep, nils := nils, fr := fr, L := L, rest := rest, keys := keys, ok := fun _ j => Gives (k j) Φ } n0 q fr0 va vb K) : ∃ I : Cut, cutK I n0 q fr0 va vb K := ⟨_, h H⟩
end
def gmin (a b : Int) : Int := if b < a then b else a
def gmax (a b : Int) : Int := if b > a then b else a
theorem gmin_eq (a b : Int) : gmin a b = min a b := by unfold gmin; split <;> omega
def ei (k : IntKind) (l : List Int) : List Value := l.map (Value.int k)
def eb (l : List Bool) : List Value := l.map Value.bool
def es (l : List ByteArray) : List Value := l.map Value.string
def ec {α : Type} (c : α → List Value) (l : List α) : List Value := l.flatMap c
def bS (b : Bool) : SV := .b (b = true) (instDecidableEqBool b true)
instance inR_dec (k : IntKind) (n : Int) : Decidable (inR k n) := by cases k <;> (unfold inR; infer_instance)
theorem es_len {l : List ByteArray} : (es l).length = l.length := by simp [es]
theorem ec_len {α : Type} {c : α → List Value} {sz : Nat} (hc : ∀ a, (c a).length = sz) : ∀ {l : List α}, (ec c l).length = l.length * sz
  | [] => by simp [ec]
  | x :: r => by
    have := ec_len hc (l := r)
    simp only [ec] at this
    simp only [ec, List.flatMap_cons, List.length_append, List.length_cons, this, hc, Nat.succ_mul]
    omega
theorem es0 {l : List ByteArray} (h : (es l).length = 0) : l.length = 0 := es_len.symm.trans h
theorem ec0 {α : Type} {c : α → List Value} {sz : Nat} (hc : ∀ a, (c a).length = sz) (hs : 0 < sz) {l : List α} (h : (ec c l).length = 0) : l.length = 0 := by
  rw [ec_len hc] at h
  rcases Nat.mul_eq_zero.1 h with h | h
  · exact h
  · omega
theorem ec_get {α : Type} [Inhabited α] {c : α → List Value} {sz : Nat} (hc : ∀ a, (c a).length = sz) : ∀ {l : List α} {i o : Nat}, i < l.length → o < sz → (ec c l)[i * sz + o]? = (c (l.getD i default))[o]?
  | [], i, o, h, _ => by simp at h
  | x :: r, 0, o, h, ho => by
    simp only [ec, List.flatMap_cons, Nat.zero_mul, Nat.zero_add]
    rw [List.getElem?_append_left (by rw [hc]; exact ho)]
    rfl
  | x :: r, i + 1, o, h, ho => by
    have := ec_get hc (l := r) (i := i) (o := o) (by simpa using h) ho
    simp only [ec] at this
    simp only [ec, List.flatMap_cons]
    rw [List.getElem?_append_right (by rw [hc, Nat.succ_mul]; omega), hc]
    have e : (i + 1) * sz + o - sz = i * sz + o := by rw [Nat.succ_mul]; omega
    rw [e, this]
    rfl
theorem es_get {l : List ByteArray} {i : Nat} (h : i < l.length) : (es l)[i]? = some (.string (l.getD i default)) := by simp [es, h]
theorem es_one {l : List ByteArray} : ∀ y ∈ es l, y.oneCell' = true := by simp [es, Value.oneCell']
theorem ec_one {α : Type} {c : α → List Value} (hc : ∀ a, ∀ y ∈ c a, y.oneCell' = true) {l : List α} : ∀ y ∈ ec c l, y.oneCell' = true := by
  intro y hy
  simp only [ec, List.mem_flatMap] at hy
  obtain ⟨a, _, h⟩ := hy
  exact hc a y h
theorem ld_int {g : Option Value} {k : IntKind} {e : Int} {G : Int → Prop} (hv : g = some (.int k e)) (h : G e) : Ob (∃ x, g = some (.int k x)) ∧ ∀ x, g = some (.int k x) → G x :=
  ⟨⟨e, hv⟩, fun x hx => by rw [hv] at hx; cases hx; exact h⟩
theorem ld_bool {g : Option Value} {e : Bool} {G : Bool → Prop} (hv : g = some (.bool e)) (h : G e) : Ob (∃ x, g = some (.bool x)) ∧ ∀ x, g = some (.bool x) → G x :=
  ⟨⟨e, hv⟩, fun x hx => by rw [hv] at hx; cases hx; exact h⟩
theorem ld_str {g : Option Value} {e : ByteArray} {G : ByteArray → Prop} (hv : g = some (.string e)) (h : G e) : Ob (∃ x, g = some (.string x)) ∧ ∀ x, g = some (.string x) → G x :=
  ⟨⟨e, hv⟩, fun x hx => by rw [hv] at hx; cases hx; exact h⟩
theorem ld_flt {g : Option Value} {k : FloatKind} {e : Nat} {G : Nat → Prop} (hv : g = some (.float k e)) (h : G e) : Ob (∃ x, g = some (.float k x)) ∧ ∀ x, g = some (.float k x) → G x :=
  ⟨⟨e, hv⟩, fun x hx => by rw [hv] at hx; cases hx; exact h⟩
theorem rd_get {q : PH} {A : Option Addr} {xs : List Value} {j : Nat} {v : Value} (hR : Reads q A xs) (h : xs[j]? = some v) : rd q A j = some v := (hR j (List.getElem?_eq_some_iff.1 h).1).trans h
theorem tn {i : Int} {n : Nat} (h : 0 ≤ i ∧ i < (n : Int)) : i.toNat < n := by omega
theorem ob_ix {α : Type} {Φ : α → Prop} {q : PH} {A : Option Addr} {xs : List Value} {n : Nat} {i : Int} {e : Option α} {G : Prop} (hR : Reads q A xs) (hl : xs.length = 0 → n = 0) (H : Gives (ck (0 ≤ i ∧ i < (n : Int)) e) Φ) (k : (0 ≤ i ∧ i < (n : Int)) → Gives e Φ → G) :
    Ob (0 ≤ i ∧ i < (n : Int) ∧ A ≠ none) ∧ G := by
  obtain ⟨h, H⟩ := ck_st H
  refine ⟨⟨h.1, h.2, rd_nn hR ?_⟩, k h H⟩
  cases hx : xs.length with
  | zero => have := hl hx; omega
  | succ _ => omega
theorem ob_sl {α : Type} {Φ : α → Prop} {n c : Nat} {l h : Int} {e : Option α} {G : Prop} (hc : n ≤ c) (H : Gives (ck (0 ≤ l ∧ l ≤ h ∧ h ≤ (n : Int)) e) Φ) (k : (0 ≤ l ∧ l ≤ h ∧ h ≤ (n : Int)) → Gives e Φ → G) :
    Ob (0 ≤ l ∧ l ≤ h ∧ h ≤ (c : Int)) ∧ G := by
  obtain ⟨h1, H⟩ := ck_st H
  exact ⟨⟨h1.1, h1.2.1, by omega⟩, k h1 H⟩
theorem ob_app {α : Type} {Φ : α → Prop} {n m byt : Nat} {ys : List Value} {e : Option α} {G : Prop} (hb : 1 ≤ byt) (hy : ∀ y ∈ ys, y.oneCell' = true) (H : Gives (ck ((n + m) * byt ≤ 140737488355328) e) Φ) (k : (n + m) * byt ≤ 140737488355328 → Gives e Φ → G) :
    Ob (n + m ≤ 9223372036854775807 ∧ (n + m) * byt ≤ 140737488355328 ∧ ∀ y ∈ ys, y.oneCell' = true) ∧ G := by
  obtain ⟨h1, H⟩ := ck_st H
  have : (n + m) * 1 ≤ (n + m) * byt := Nat.mul_le_mul_left _ hb
  exact ⟨⟨by omega, h1, hy⟩, k h1 H⟩
theorem sl_ei {q : PH} {A : Option Addr} {k : IntKind} {xs : List Int} {n c : Nat} {l h : Int} (hR : Reads q A (ei k xs)) (hl : xs.length = n) (hc : n ≤ c) (h1 : 0 ≤ l ∧ l ≤ h ∧ h ≤ (n : Int)) :
    Reads q (if c = l.toNat then A else A.map (·.add l.toNat)) (ei k ((xs.drop l.toNat).take (h.toNat - l.toNat))) ∧ ((xs.drop l.toNat).take (h.toNat - l.toNat)).length = h.toNat - l.toNat ∧ h.toNat - l.toNat ≤ c - l.toNat := by
  refine ⟨?_, by simp; omega, by omega⟩
  have e : ei k ((xs.drop l.toNat).take (h.toNat - l.toNat)) = ((ei k xs).drop l.toNat).take (h.toNat - l.toNat) := by simp [ei, List.map_take, List.map_drop]
  rw [e]
  exact hR.cut (by omega)
theorem ec_drop {α : Type} {c : α → List Value} {sz : Nat} (hc : ∀ a, (c a).length = sz) : ∀ {l : List α} {n : Nat}, (ec c l).drop (n * sz) = ec c (l.drop n)
  | l, 0 => by simp
  | [], n + 1 => by simp [ec]
  | x :: r, n + 1 => by
    have := ec_drop hc (l := r) (n := n)
    simp only [ec] at this
    simp only [ec, List.flatMap_cons, List.drop_succ_cons, ← this]
    rw [List.drop_append, hc, List.drop_eq_nil_of_le (by rw [hc, Nat.succ_mul]; omega)]
    have e : (n + 1) * sz - sz = n * sz := by rw [Nat.succ_mul]; omega
    rw [e]
    simp
theorem ec_take {α : Type} {c : α → List Value} {sz : Nat} (hc : ∀ a, (c a).length = sz) : ∀ {l : List α} {n : Nat}, (ec c l).take (n * sz) = ec c (l.take n)
  | l, 0 => by simp [ec]
  | [], n + 1 => by simp [ec]
  | x :: r, n + 1 => by
    have := ec_take hc (l := r) (n := n)
    simp only [ec] at this
    simp only [ec, List.flatMap_cons, List.take_succ_cons, ← this]
    rw [List.take_append, hc, List.take_of_length_le (by rw [hc, Nat.succ_mul]; omega)]
    have e : (n + 1) * sz - sz = n * sz := by rw [Nat.succ_mul]; omega
    rw [e]
def inL (l : List (Nat × Nat)) (f id : Nat) : Bool :=
  match l with
  | [] => false
  | (a, b) :: r => match Nat.beq a f, Nat.beq b id with | true, true => true | _, _ => inL r f id
def isBytes (l : List Int) : Prop := ∀ c ∈ l, 0 ≤ c ∧ c ≤ 255
instance isBytes_dec (l : List Int) : Decidable (isBytes l) := by unfold isBytes; infer_instance
theorem ld_sl {g : Option Value} {A : Option Addr} {n c : Nat} {G : Option Addr → Nat → Nat → Prop} (hv : g = some (.slice A n c)) (h : G A n c) : Ob (∃ A n c, g = some (.slice A n c)) ∧ ∀ A n c, g = some (.slice A n c) → G A n c :=
  ⟨⟨A, n, c, hv⟩, fun A' n' c' hx => by rw [hv] at hx; cases hx; exact h⟩
theorem getD_mem {α : Type} [Inhabited α] {l : List α} {i : Nat} (h : i < l.length) : l.getD i default ∈ l := by
  rw [List.getD_eq_getElem?_getD, List.getElem?_eq_getElem h]
  exact List.getElem_mem h
theorem rds_mem {q : PH} : ∀ {l : List (Option Addr × List Value)}, RdsOk q l → ∀ {x : Option Addr × List Value}, x ∈ l → Reads q x.1 x.2
  | _ :: _, h, _, .head _ => h.1
  | _ :: _, h, _, .tail _ hx => rds_mem h.2 hx
theorem es_vw {xs : List ByteArray} {lo m : Nat} : vwC (es xs) lo 1 m = es ((xs.drop lo).take m) := by simp only [vwC, es, Nat.mul_one, List.map_take, List.map_drop]
theorem es_app {xs ys : List ByteArray} : es (xs ++ ys) = es xs ++ es ys := by simp only [es, List.map_append]
theorem ec_app {α : Type} {c : α → List Value} {xs ys : List α} : ec c (xs ++ ys) = ec c xs ++ ec c ys := by simp only [ec, List.flatMap_append]
end Go.Eng
