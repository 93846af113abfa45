/-
  Texts that the law leans on. Nothing here is trusted.
-/
import Derived.Test.YtenjkphlbdhaiaaGreatBldZA
set_option linter.unusedVariables false
set_option linter.unusedSimpArgs false
namespace Go.Proofs.YtenjkphlbdhaiaaGreat
open Go Go.Eng Go.RowKit
noncomputable def g57 (a0 : List Int) : Option (List Int) := some a0
noncomputable def k57 : Eng.CS := { f := 57, calm := false, more := 3, ι := (List Int) × List Int, ok := fun i => g57 i.1 = some i.2, rds := fun _ => [], args := fun i => [.w (.lp 0 0)], res := fun i => .tup [], L' := fun i => [(0, .cells 82 [.lq 0, .own 2]), (2, .arr 5 1 i.2.length (ei .u8 i.2))], rn := [], keys := 2, L := fun i => [(0, .cells 82 [.lq 0, .own 1]), (1, .arr 5 1 i.1.length (ei .u8 i.1))] }
theorem bld_cells {S : Pl} {w : World} {n : Nat} {xs : List Value} (h0 : chunk 0 S 0 (.cells 82 [.lq 0, .own 1]) w) :
    ∃ p, w.heap[(S 0).b]? = some (.cells #[p, .slice (S 1).A (S 1).n (S 1).c] 82 (0, 0)) ∧ (p = .pointer none ∨ p = .pointer (some ⟨(S 0).b, 0, none⟩)) := by
  obtain ⟨_, vs, hh, hok⟩ := h0
  match vs, hok with
  | [p, u], hok =>
    obtain ⟨h1, h2, _⟩ := hok
    have h2 : u = .slice (S 1).A (S 1).n (S 1).c := h2
    subst h2
    exact ⟨p, hh, h1⟩
theorem k57_ok : CSOk Tryz.prog k57 := by
  refine CSOk.plain (fun args w => ?_) ?_
  · have hname' : ¬ Tryz.f57.name = "runtime.NumGoroutine" := by simpa using nm57
    obtain ⟨c, hc⟩ := Option.isSome_iff_exists.1 (show Tryz.f57.body.isSome = true from rfl)
    have hP := Tryz.func57
    simp [callFunc, k57, hP, hname', hc]
  · rintro w q S ⟨a0, r⟩ vs hok _ hm hargs
    have hr : r = a0 := by
      have : g57 a0 = some r := hok
      unfold g57 at this
      cases this; rfl
    subst hr
    match vs, hargs with
    | [v], hargs =>
    have hv : v = .pointer (some ⟨(S 0).b, 0, none⟩) := hargs.1
    subst hv
    obtain ⟨p, hh, hp⟩ := bld_cells (n := 0) (xs := []) (hm.ch 0 _ rfl)
    have fin : ∀ w', Mem (frameW q w S (k57.L (r, r))) q S [(0, .cells 82 [.lp 0 0, .own 1]), (1, .arr 5 1 r.length (ei .u8 r))] w' →
        ∃ v S', Ending.returned (.tuple #[]) = .returned v ∧ okv S' (k57.res (r, r)) v ∧ (∀ k, k < k57.keys → S' k = S k) ∧ Mem (frameW q w S (k57.L (r, r))) q S' (k57.L' (r, r)) w' := fun w' hm' => by
      obtain ⟨S', _, h2, h3⟩ := resM_fin (s := k57) (i := (r, r)) (fr := []) (tf := []) (vs := []) (nk := 3) hm' (fun t => by simp [get_n, okv]) (by
        rw [← R.nilF_eq, ← R.mFr_eq, ← R.mLL_eq]
        exact ⟨⟨rfl, rfl⟩, trivial⟩)
      exact ⟨_, S', rfl, ⟨[], rfl, trivial⟩, h2, h3⟩
    rcases hp with rfl | rfl
    · refine (cc_fresh (S 0).b w ?_ ?_ ?_).mono ?_
      · rw [Lib.cell_of_heap hh]; rfl
      · simp [World.shape?, hh]
      · exact Lib.frozen_of_heap hh 0
      · rintro e w' ⟨rfl, rfl⟩
        refine fin _ ?_
        have hset : w.setCell ⟨(S 0).b, 0, none⟩ (.pointer (some ⟨(S 0).b, 0, none⟩)) = w.setRow (S 0).b #[.pointer (some ⟨(S 0).b, 0, none⟩), .slice (S 1).A (S 1).n (S 1).c] := setCell_eq_setRow w _ 0 _ _ _ _ hh
        rw [hset]
        refine hm.turn (k := 0) (lb' := .cells 82 [.lp 0 0, .own 1]) rfl rfl ⟨rfl, rfl, rfl, by simp, fun k _ hk => setRow_other w _ k _ (fun e => hk (by rw [e]))⟩ ?_ rfl
        exact ⟨Nat.zero_le _, [_, _], setRow_heap w _ _ _ _ _ hh, rfl, rfl, trivial⟩
    · refine (cc_used (S 0).b w ?_).mono ?_
      · rw [Lib.cell_of_heap hh]; rfl
      · rintro e w' ⟨rfl, rfl⟩
        refine fin _ ?_
        exact hm.relabel (k := 0) (lb' := .cells 82 [.lp 0 0, .own 1]) rfl ⟨Nat.zero_le _, [_, _], hh, rfl, rfl, trivial⟩ rfl
noncomputable def g45 (a0 : List Int) : Option ByteArray := ck (isBytes a0) <| some ⟨(a0.map fun n => UInt8.ofNat n.toNat).toArray⟩
noncomputable def k45 : Eng.CS := { f := 45, calm := false, more := 2, ι := (List Int) × ByteArray, ok := fun i => g45 i.1 = some i.2, rds := fun _ => [], args := fun i => [.w (.lp 0 0)], res := fun i => .v (.string i.2), L' := fun i => [], rn := [], keys := 2, L := fun i => [(0, .cells 82 [.lq 0, .own 1]), (1, .arr 5 1 i.1.length (ei .u8 i.1))] }
theorem k45_ok : CSOk Tryz.prog k45 := by
  refine CSOk.plain (fun args w => ?_) ?_
  · have hname' : ¬ Tryz.f45.name = "runtime.NumGoroutine" := by simpa using nm45
    obtain ⟨c, hc⟩ := Option.isSome_iff_exists.1 (show Tryz.f45.body.isSome = true from rfl)
    have hP := Tryz.func45
    simp [callFunc, k45, hP, hname', hc]
  · rintro w q S ⟨a0, r⟩ vs hok _ hm hargs
    have hr : isBytes a0 ∧ r = ⟨(a0.map fun n => UInt8.ofNat n.toNat).toArray⟩ := by
      have : g45 a0 = some r := hok
      unfold g45 ck at this
      split at this
      · rename_i h; cases this; exact ⟨h, rfl⟩
      · cases this
    obtain ⟨hb, rfl⟩ := hr
    match vs, hargs with
    | [v], hargs =>
    have hv : v = .pointer (some ⟨(S 0).b, 0, none⟩) := hargs.1
    subst hv
    obtain ⟨p, hh, hp⟩ := bld_cells (n := 0) (xs := []) (hm.ch 0 _ rfl)
    obtain ⟨hown, hn, _, _, hA⟩ : w.ownsRow 0 5 1 (.slice (S 1).A (S 1).n (S 1).c) a0.length (ei .u8 a0) ∧ (S 1).n = a0.length ∧ 0 < 1 ∧ (∀ x ∈ ei .u8 a0, x.oneCell' = true) ∧ ((S 1).A = none ∨ (S 1).A = some ⟨(S 1).b, 0, none⟩) := hm.ch 1 _ rfl
    rw [hn] at hh hown
    have e0 : ∀ {w'}, Mem (frameW q w S (k45.L (a0, ⟨(a0.map fun n => UInt8.ofNat n.toNat).toArray⟩))) q S [(0, .cells 82 [.lq 0, .own 1])] w' → Mem (frameW q w S (k45.L (a0, ⟨(a0.map fun n => UInt8.ofNat n.toNat).toArray⟩))) q S [] w' := fun h => h.rem 0
    rcases hown.2 with ⟨hv, h0⟩ | ⟨g, cap, cur, hv, _, hg, hnc, hcm, hcs, htake⟩
    · injection hv with e1 e2 e3
      have ha : a0 = [] := List.eq_nil_of_length_eq_zero e2
      subst ha
      rw [e1, e3] at hh
      refine (str_nil (S 0).b p w hh).mono ?_
      rintro e w' ⟨rfl, hgr⟩
      exact ⟨_, S, rfl, rfl, fun _ _ => rfl, e0 ((hm.below ((Below.refl _ w).grown hgr (Nat.le_refl _) (fun k e => by cases e))).rem 1)⟩
    · injection hv with e1 e2 e3
      rw [e1, e3] at hh
      have done : ∀ e w', (e = Ending.returned (.string ⟨(a0.map fun n => UInt8.ofNat n.toNat).toArray⟩) ∧ w.grownBy w' (some g)) → ∃ v S', e = .returned v ∧ okv S' (k45.res (a0, ⟨(a0.map fun n => UInt8.ofNat n.toNat).toArray⟩)) v ∧ (∀ k, k < k45.keys → S' k = S k) ∧ Mem (frameW q w S (k45.L (a0, ⟨(a0.map fun n => UInt8.ofNat n.toNat).toArray⟩))) q S' (k45.L' (a0, ⟨(a0.map fun n => UInt8.ofNat n.toNat).toArray⟩)) w' := by
        rintro e w' ⟨rfl, hgr⟩
        exact ⟨_, S, rfl, rfl, fun _ _ => rfl, e0 (hm.lose (k := 1) rfl (by simp [blk, e1]) hgr)⟩
      by_cases h0 : a0 = []
      · subst h0
        by_cases hc : cap = 0
        · subst hc
          exact (str_noroom (S 0).b g p cur w hh hg).mono done
        · exact (str_room (S 0).b g cap p w hc hh).mono done
      · have hl : (a0.map fun n => UInt8.ofNat n.toNat).length = a0.length := by simp
        refine (str_some (S 0).b g cap p cur (a0.map fun n => UInt8.ofNat n.toNat) w (by simpa using h0) (by rw [hl]; exact hh) hg (by rw [hl]; exact hnc) hcm (by simpa using hcs) fun j x hx => ?_).mono done
        have hcell := hown.cells (g := g) (by rw [e1]; rfl) j (.int .u8 x.toNat) (by
          rw [bv_bytes hb, List.getElem?_map, hx]
          rfl)
        exact hcell
end Go.Proofs.YtenjkphlbdhaiaaGreat
