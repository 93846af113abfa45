import Derived.Test.YtcnofjjiepcpjaaPlainRg
import Derived.Test.YtcnofjjiepcpjaaLiftR3
set_option linter.unusedVariables false
namespace Go.Proofs.Ytcnofjjiepcpjaa
open Go Go.Eng

theorem g30_gives {b : List Int} (hb : Byt b) (hl : b.length ≤ 2000) : Gives (g30 b) fun v => ∃ a : Nat, cutAt b a ∧ v = (b.take a, b.drop a) := by
  unfold g30
  refine g_jn (fun v => ∃ a : Nat, cutAt b a ∧ v = a) (fun k hk => g_i64 (by omega) ?_) ?_
  · exact cut_loop (out := fun s => s) (fin := (b.length : Int)) (K1 := fun s => some (.out s)) rfl hb hl g15_eq (fun a h c => rfl) (fun a h c => hk _ ⟨a, c, rfl⟩) fun c => hk _ ⟨b.length, c, rfl⟩
  · rintro _ ⟨a, c, rfl⟩
    have le := c.le
    have z : (0 : Int).toNat = 0 := rfl
    refine g_ck (by omega) (g_ck ?_ (g_ck (by omega) (g_ck ?_ (g_some ⟨a, c, ?_⟩))))
    · simp only [List.length_take, List.length_drop]; omega
    · simp only [List.length_take, List.length_drop]; omega
    · simp only [Int.toNat_natCast, drop_all]
      rfl
theorem pieces_gives {L : List ((Option Addr × Nat) × List Int)} (hL : ∀ q ∈ L, Byt q.2) : Gives (g6 L) fun r => r = true := by
  unfold g6
  let Fin : List Int × List Int × ByteArray → Prop := fun v => ∃ T, v.2.2 = strOf T ∧ Byt v.1 ∧ Byt v.2.1 ∧ Byt T ∧ v.1.length ≤ 600 ∧ ∀ x s, Byt x → TT (v.2.1 ++ x) s → TT (v.1 ++ x) (T ++ s)
  refine g_jn Fin (fun k hk => ?_) fun v hv => ?_
  · refine g_bind (Ω := fun o : Unit ⊕ (List Int × List Int × ByteArray) => ∃ v, o = .inr v ∧ Fin v)
      (g_loop (fun s : List Int × List Int × ByteArray × Int => ∃ (i : Nat) (T : List Int), s.2.2.2 = i ∧ i ≤ L.length ∧ i ≤ 20 ∧ s.2.2.1 = strOf T ∧ Byt s.1 ∧ Byt s.2.1 ∧ Byt T ∧ s.1.length ≤ 30 * i ∧ s.2.1.length ≤ 3 ∧ T.length ≤ 200 * i ∧
        ∀ x s', Byt x → TT (s.2.1 ++ x) s' → TT (s.1 ++ x) (T ++ s')) (fun s => ((L.length : Int) - s.2.2.2).toNat) ?_ ?_) ?_
    · rintro ⟨all, left, text, _⟩ ⟨i, T, rfl, hi, h20, rfl, ha, hl, hT, la, ll, lT, inv⟩
      dsimp only at ha hl la ll inv ⊢
      have out : Fin (all, left, strOf T) := ⟨T, rfl, ha, hl, hT, by dsimp only; omega, inv⟩
      refine g_if (fun hlt => g_if (fun h21 => ?_) fun h21 => g_out ⟨_, rfl, out⟩) fun hge => g_out ⟨_, rfl, out⟩
      have hlt : i < L.length := by omega
      simp only [Int.toNat_natCast]
      have hp := hL (L.getD i default) (getD_mem hlt)
      generalize (L.getD i default).2 = pc at hp ⊢
      have hg : 0 ≤ gmin ((pc.length : Nat) : Int) 30 ∧ gmin ((pc.length : Nat) : Int) 30 ≤ pc.length ∧ gmin ((pc.length : Nat) : Int) 30 ≤ 30 := by rw [gmin_eq]; omega
      generalize gmin ((pc.length : Nat) : Int) 30 = m at hg ⊢
      have hd : (pc.drop (0 : Int).toNat).take (m.toNat - (0 : Int).toNat) = pc.take m.toNat := rfl
      rw [hd]
      have hpb : Byt (pc.take m.toNat) := take_byt hp
      have hpl : (pc.take m.toNat).length ≤ 30 := by rw [List.length_take]; omega
      generalize pc.take m.toNat = p at hpb hpl ⊢
      refine g_ck (by omega) (g_ck (by omega) (g_ck (by omega) (g_ck (by omega) (g_ck (by omega) (g_ck (by simp only [List.nil_append]; omega) ?_)))))
      simp only [List.nil_append]
      have hb : Byt (left ++ p) := fun c hc => by
        rcases List.mem_append.1 hc with h | h
        · exact hl c h
        · exact hpb c h
      have lb : (left ++ p).length ≤ 33 := by rw [List.length_append]; omega
      refine g_jn (fun v => ∃ a, cutAt (left ++ p) a ∧ v = (left ++ p, (left ++ p).take a, (left ++ p).drop a)) (fun k2 hk2 => g_bind (g30_gives hb (by omega)) fun v hv => ?_) ?_
      · obtain ⟨a, c, rfl⟩ := hv
        exact hk2 _ ⟨a, c, rfl⟩
      rintro _ ⟨a, c, rfl⟩
      dsimp only
      have inv' : ∀ x s', Byt x → TT ((left ++ p) ++ x) s' → TT ((all ++ p) ++ x) (T ++ s') := fun x s' hx h => by
        have := inv (p ++ x) s' (fun c hc => by
          rcases List.mem_append.1 hc with h | h
          · exact hpb c h
          · exact hx c h) (by rwa [← List.append_assoc])
        rwa [← List.append_assoc] at this
      generalize left ++ p = b at hb lb c inv' ⊢
      have hwb : Byt (b.take a) := take_byt hb
      have hrb : Byt (b.drop a) := drop_byt hb
      have lr := cut_len c
      have lw : (b.take a).length ≤ 33 := by rw [List.length_take]; omega
      refine g_jn (fun v => ∃ a, cutAt b a ∧ v = (b.take a, b.drop a)) (fun k3 hk3 => ?_) ?_
      · refine g_jn (fun _ => cutAt b b.length) (fun k4 hk4 => g_i64 (by omega) ?_) fun _ c => hk3 _ ⟨b.length, c, by rw [List.take_length, List.drop_length]⟩
        refine cut_loop (out := fun s => Sum.inl ((b.drop (0 : Int).toNat).take (s.toNat - (0 : Int).toNat), (b.drop s.toNat).take (((b.length : Nat) : Int).toNat - s.toNat))) (fin := Sum.inr ()) rfl hb (by omega) g16_eq (fun a h c => ?_) (fun a h c => ?_) fun c => ?_
        · rw [ck_y (by omega), ck_y (by omega)]
          rfl
        · refine g_sm (fun w e => ?_) fun w e => by cases e
          cases e
          refine hk3 _ ⟨a, c, ?_⟩
          simp only [Int.toNat_natCast, drop_all]
          rfl
        · exact g_sm (fun w e => by cases e) fun w e => hk4 _ c
      rintro _ ⟨a', c', rfl⟩
      obtain rfl := cutAt_uniq c c'
      dsimp only
      obtain ⟨N, hN⟩ := ex_N hwb
      have kN := ps_ge hwb N
      have tl := tx_len (l := b.take a) N
      have tb := tx_byt hwb N
      refine g_ck hwb (g_ck hwb (g_f (by simp) (g_ck hrb (g_ck hrb (g_f (by simp) (g_f (by omega) (g_bind (text_gives hwb (by omega) hN) fun t ht => ?_)))))))
      subst ht
      rw [str_size, str_size]
      refine g_ck (by omega) (g_ck (by omega) (g_i64 (by omega) (g_go ⟨i + 1, T ++ tx (b.take a) N, by simp, by omega, by omega, (str_app _ _).symm, ?_, hrb, ?_, ?_, lr, ?_, fun x s' hx h => ?_⟩ (by dsimp only; omega))))
      · intro c hc
        rcases List.mem_append.1 hc with h | h
        · exact ha c h
        · exact hpb c h
      · intro c hc
        rcases List.mem_append.1 hc with h | h
        · exact hT c h
        · exact tb c h
      · dsimp only; rw [List.length_append]; omega
      · rw [List.length_append]; omega
      · dsimp only at h ⊢
        rw [List.append_assoc T]
        exact inv' x _ hx (cut_TT hb hx c ⟨N, hN, rfl⟩ h)
    · exact ⟨0, [], rfl, Nat.zero_le _, by omega, rfl, fun c hc => (by cases hc), fun c hc => (by cases hc), fun c hc => (by cases hc), by simp, by simp, by simp, fun x s' hx h => h⟩
    · rintro _ ⟨v, rfl, hv⟩
      exact g_sm (fun w e => by cases e) fun w e => by cases e; exact hk _ hv
  · obtain ⟨T, e, ha, hl, hT, la, inv⟩ := hv
    refine g_if (fun h => g_call g20_true (g_some rfl)) fun h => ?_
    have hz : v.2.1 = [] := List.eq_nil_of_length_eq_zero (by omega)
    obtain ⟨N, hN⟩ := ex_N ha
    have h1 := inv [] [] (fun c hc => by cases hc) (by rw [hz]; exact ⟨0, rfl, rfl⟩)
    rw [List.append_nil, List.append_nil] at h1
    have h2 := TT_uniq ha h1 ⟨N, hN, rfl⟩
    refine g_bind (text_gives ha (by omega) hN) fun t ht => g_t ?_ (g_call g20_true (g_some rfl))
    rw [e, ht, h2]
where ck_y {p : Prop} {_ : Decidable p} {α : Type} {e : Option α} (h : p) : ck p e = e := by unfold ck; rw [if_pos h]
theorem pieces_law {L : List ((Option Addr × Nat) × List Int)} (hL : ∀ q ∈ L, ∀ c ∈ q.2, inR .u8 c) : Gives (g6 L) fun r => r = true := pieces_gives hL
end Go.Proofs.Ytcnofjjiepcpjaa
