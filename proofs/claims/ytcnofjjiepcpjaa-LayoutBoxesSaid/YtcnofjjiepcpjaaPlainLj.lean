import Derived.Test.YtcnofjjiepcpjaaPlainLi
import Derived.Test.YtcnofjjiepcpjaaLiftL4
set_option linter.unusedVariables false
namespace Go.Proofs.Ytcnofjjiepcpjaa
open Go Go.Eng

/-- those that stay, by number -/
def kp (on : List Bool) (n : Nat) : List Nat := (List.range n).filter fun i => st on i
theorem kp_succ (on : List Bool) (n : Nat) : kp on (n + 1) = kp on n ++ if st on n = true then [n] else [] := by
  unfold kp
  rw [List.range_succ, List.filter_append]
  congr 1
  rw [List.filter_cons, List.filter_nil]
theorem kp_len (on : List Bool) (n : Nat) : (kp on n).length ≤ n := by
  have := List.length_filter_le (fun i => st on i) (List.range n)
  simpa [kp] using this
theorem kp_mem {on : List Bool} {n i : Nat} : i ∈ kp on n ↔ i < n ∧ st on i = true := by simp [kp]
theorem kp_lt (on : List Bool) (n : Nat) : (kp on n).Pairwise (· < ·) := List.Pairwise.filter _ List.pairwise_lt_range
noncomputable def zA (room gap : Int) (l : List Pt) : Nat → Int := gz (lay l (sty gap l room) (room - nd gap l (sty gap l room))).1
noncomputable def pA (room gap : Int) (l : List Pt) : Nat → Int := gz (plc room gap 0 l).1
noncomputable def kA (room gap : Int) (l : List Pt) : List Nat := if chk room gap l = 0 then kp (sty gap l room) l.length else []
theorem kA_len {room gap : Int} {l : List Pt} : (kA room gap l).length ≤ l.length := by
  unfold kA; split
  · exact kp_len _ _
  · exact Nat.zero_le _
theorem kA_lt (room gap : Int) (l : List Pt) : (kA room gap l).Pairwise (· < ·) := by
  unfold kA; split
  · exact kp_lt _ _
  · exact List.Pairwise.nil
theorem ax {room gap : Int} {l : List Pt} : (∀ i ∈ kA room gap l, 0 ≤ pA room gap l i ∧ 0 ≤ zA room gap l i ∧ pA room gap l i + zA room gap l i ≤ room ∧ room ≤ 500) ∧
    ∀ i ∈ kA room gap l, ∀ j ∈ kA room gap l, i < j → pA room gap l i + zA room gap l i ≤ pA room gap l j := by
  unfold kA
  by_cases h : ¬ chk room gap l = 0
  · rw [if_neg h]; exact ⟨fun i hi => (by cases hi), fun i hi => (by cases hi)⟩
  have h : chk room gap l = 0 := by omega
  rw [if_pos h]
  unfold pA zA plc
  rw [if_pos h, if_pos (by omega)]
  obtain ⟨c1, c2, c3⟩ := chk_ok h
  have d : Dat gap l := ⟨by omega, c2, c3⟩
  have nr := sty_nd (gap := gap) (l := l) (room := room) (by omega)
  have ho : (sty gap l room).length = l.length := sty_len
  generalize sty gap l room = on at nr ho ⊢
  have z := (lay_all (on := on) (left := room - nd gap l on) d (by omega)).1
  obtain ⟨o1, o2, o3⟩ := lay_over d (by omega) nr
  generalize lay l on (room - nd gap l on) = T at z o1 o2 o3 ⊢
  obtain ⟨sz, ov⟩ := T
  dsimp only at z o1 o2 o3 ⊢
  have e0 : at0 0 ov = 0 := by unfold at0; rw [if_neg (by omega), if_neg (by omega)]
  rw [e0]
  have g := d.g
  have at' : ∀ k, k ≤ l.length → 0 ≤ AT on sz gap 0 k ∧ AT on sz gap 0 k ≤ 500 + 509 * k := fun k hk => AT_in d z (by omega) k hk
  have pg : ∀ i, i < l.length → st on i = true → gz (PL on sz gap 0 l.length) i = AT on sz gap 0 i := fun i hi h => by
    have := PL_get on sz gap 0 l.length i hi
    rw [if_pos h] at this
    exact this
  have fit : ∀ i, i < l.length → st on i = true → AT on sz gap 0 i + gz sz i ≤ room := fun i hi h => by
    have e := AT_eq on sz gap 0 i
    have t1 := TN_mono d z (l.length - (i + 1)) (i + 1) (by omega)
    have t2 := CN_mono on (l.length - (i + 1)) (i + 1)
    rw [show i + 1 + (l.length - (i + 1)) = l.length by omega] at t1 t2
    have e1 : TN on sz (i + 1) = TN on sz i + gz sz i := by rw [TN, if_pos h]
    have e2 : CN on (i + 1) = CN on i + 1 := by rw [CN, if_pos h]
    have c := CN_in on i
    have m1 : gap * CN on i ≤ gap * max 0 (CN on l.length - 1) := Int.mul_le_mul_of_nonneg_left (by omega) g.1
    omega
  refine ⟨fun i hi => ?_, fun i hi j hj hij => ?_⟩
  · obtain ⟨h1, h2⟩ := kp_mem.1 hi
    rw [pg i h1 h2]
    have a1 := at' i (by omega)
    have a2 := fit i h1 h2
    have zi := z.in d h1
    exact ⟨a1.1, zi.1, a2, c1.2.1⟩
  · obtain ⟨h1, h2⟩ := kp_mem.1 hi
    obtain ⟨h3, h4⟩ := kp_mem.1 hj
    rw [pg i h1 h2, pg j h3 h4, AT_eq, AT_eq]
    have t1 := TN_mono d z (j - (i + 1)) (i + 1) (by omega)
    have t2 := CN_mono on (j - (i + 1)) (i + 1)
    rw [show i + 1 + (j - (i + 1)) = j by omega] at t1 t2
    have e1 : TN on sz (i + 1) = TN on sz i + gz sz i := by rw [TN, if_pos h2]
    have e2 : CN on (i + 1) = CN on i + 1 := by rw [CN, if_pos h2]
    have m1 : gap * CN on i ≤ gap * CN on j := Int.mul_le_mul_of_nonneg_left (by omega) g.1
    omega
/-- the boxes of a band of parts -/
def rowB (P Z C W : Nat → Int) (K : List Nat) (i : Nat) : List Pt := K.map fun k => (P i, C k, Z i, W k)
def bxs (P Z C W : Nat → Int) (I K : List Nat) : List Pt := I.flatMap (rowB P Z C W K)
theorem rowB_len (P Z C W : Nat → Int) (K : List Nat) (i : Nat) : (rowB P Z C W K i).length = K.length := by simp [rowB]
theorem bxs_len (P Z C W : Nat → Int) (K : List Nat) : ∀ I : List Nat, (bxs P Z C W I K).length = I.length * K.length
  | [] => by simp [bxs]
  | a :: r => by
    have := bxs_len P Z C W K r
    simp only [bxs, List.flatMap_cons, List.length_append, rowB_len, List.length_cons] at this ⊢
    rw [this, Nat.succ_mul, Nat.add_comm]
theorem bxs_app (P Z C W : Nat → Int) (I J K : List Nat) : bxs P Z C W (I ++ J) K = bxs P Z C W I K ++ bxs P Z C W J K := by simp [bxs]
theorem bxs_mem {P Z C W : Nat → Int} {I K : List Nat} {b : Pt} : b ∈ bxs P Z C W I K ↔ ∃ i ∈ I, ∃ k ∈ K, (P i, C k, Z i, W k) = b := by simp [bxs, rowB]
def apart (a b : Pt) : Prop := a.1 + a.2.2.1 ≤ b.1 ∨ a.2.1 + a.2.2.2 ≤ b.2.1
theorem bxs_apart {P Z C W : Nat → Int} {I K : List Nat} (hI : I.Pairwise (· < ·)) (hK : K.Pairwise (· < ·)) (h1 : ∀ i ∈ I, ∀ j ∈ I, i < j → P i + Z i ≤ P j) (h2 : ∀ i ∈ K, ∀ j ∈ K, i < j → C i + W i ≤ C j) :
    (bxs P Z C W I K).Pairwise apart := by
  unfold bxs
  rw [List.pairwise_flatMap]
  refine ⟨fun i hi => ?_, ?_⟩
  · unfold rowB
    rw [List.pairwise_map]
    exact List.Pairwise.imp_of_mem (fun ha hb hab => .inr (h2 _ ha _ hb hab)) hK
  · refine List.Pairwise.imp_of_mem (fun {a b} ha hb hab x hx y hy => ?_) hI
    simp only [rowB, List.mem_map] at hx hy
    obtain ⟨_, _, rfl⟩ := hx
    obtain ⟨_, _, rfl⟩ := hy
    exact .inl (h1 _ ha _ hb hab)
noncomputable def boxes (w h gap : Int) (rows cols : List Pt) : List Pt := bxs (pA h 0 rows) (zA h 0 rows) (pA w gap cols) (zA w gap cols) (kA h 0 rows) (kA w gap cols)
end Go.Proofs.Ytcnofjjiepcpjaa
