/-
  Functions of the program, lifted: each with its walk. Printed by lift.py.
  Nothing here is trusted.
-/
import Derived.Test.YtenjkphlbdhaiaaLiftG3
import Derived.Test.YtenjkphlbdhaiaaLiftS1
set_option linter.unusedVariables false
set_option linter.unusedSimpArgs false
namespace Go.Proofs.Ytenjkphlbdhaiaa
open Go Go.Eng

theorem mo1_LiftA {p q : Prop} (k : q) (h : p := by first | exact rfl | exact Iff.rfl | exact ⟨rfl, rfl⟩ | exact decide_eq_true_iff | (constructor <;> first | exact rfl | (simp only [ei, eb, es, ec, c135, gmin, gmax, List.map_append, List.flatMap_append, List.nil_append, List.append_nil, List.append_assoc]; done) | omega | (simp only [List.nil_append, List.length_append, List.length_cons, List.length_nil]; omega) | (simp [ei, eb, es, ec, c135, gmin, gmax]; done)) | exact rfl | (simp only [ei, eb, es, ec, c135, gmin, gmax, List.map_append, List.flatMap_append, List.nil_append, List.append_nil, List.append_assoc]; done) | omega | (simp only [List.nil_append, List.length_append, List.length_cons, List.length_nil]; omega) | (simp [ei, eb, es, ec, c135, gmin, gmax]; done) | simp [ei, eb, es, ec, c135, gmin, gmax]) : Ob p ∧ q := ⟨⟨h⟩, k⟩
theorem mf1_LiftA {p q : Prop} (k : q) (h : p := by first | (rw [← hfin] <;> first | exact rfl | exact Iff.rfl | exact ⟨rfl, rfl⟩ | exact decide_eq_true_iff | (constructor <;> first | exact rfl | (simp only [ei, eb, es, ec, c135, gmin, gmax, List.map_append, List.flatMap_append, List.nil_append, List.append_nil, List.append_assoc]; done) | omega | (simp only [List.nil_append, List.length_append, List.length_cons, List.length_nil]; omega) | (simp [ei, eb, es, ec, c135, gmin, gmax]; done)) | exact rfl | (simp only [ei, eb, es, ec, c135, gmin, gmax, List.map_append, List.flatMap_append, List.nil_append, List.append_nil, List.append_assoc]; done) | omega | (simp only [List.nil_append, List.length_append, List.length_cons, List.length_nil]; omega) | (simp [ei, eb, es, ec, c135, gmin, gmax]; done) | simp [ei, eb, es, ec, c135, gmin, gmax]) | first | exact rfl | exact Iff.rfl | exact ⟨rfl, rfl⟩ | exact decide_eq_true_iff | (constructor <;> first | exact rfl | (simp only [ei, eb, es, ec, c135, gmin, gmax, List.map_append, List.flatMap_append, List.nil_append, List.append_nil, List.append_assoc]; done) | omega | (simp only [List.nil_append, List.length_append, List.length_cons, List.length_nil]; omega) | (simp [ei, eb, es, ec, c135, gmin, gmax]; done)) | exact rfl | (simp only [ei, eb, es, ec, c135, gmin, gmax, List.map_append, List.flatMap_append, List.nil_append, List.append_nil, List.append_assoc]; done) | omega | (simp only [List.nil_append, List.length_append, List.length_cons, List.length_nil]; omega) | (simp [ei, eb, es, ec, c135, gmin, gmax]; done) | simp [ei, eb, es, ec, c135, gmin, gmax]) : Ob p ∧ q := ⟨⟨h⟩, k⟩
/-- placard/placardlaw12.awake -/
noncomputable def g17  : Option (Bool) :=
  (g21 (3, [], 0, 0) ([(lit [97]), (lit [98])])).bind fun v1 =>
  (g12 (v1.2.1, v1.2.2.1, v1.2.2.2.1, v1.2.2.2.2) 1).bind fun v3 =>
  (g21 (v3.2.1, v3.2.2.1, v3.2.2.2.1, v3.2.2.2.2) ([(lit [99])])).bind fun v5 =>
  (g21 (v5.2.1, v5.2.2.1, v5.2.2.2.1, v5.2.2.2.2) ([(lit [100])])).bind fun v7 =>
  (g16 (v7.2.1, v7.2.2.1, v7.2.2.2.1, v7.2.2.2.2)).bind fun v9 =>
  jn (α := _) (β := Int × List ByteArray × Int × Int × List ByteArray) (fun k87 =>
      (g47 (v7.2.1, v7.2.2.1, v7.2.2.2.1, v7.2.2.2.2)).bind fun v88 =>
      if ¬ (v88 = true) then
        k87 (v7.2.1, v7.2.2.1, v7.2.2.2.1, v7.2.2.2.2, ([] : List ByteArray))
      else
        (
          (g49 (v7.2.1, v7.2.2.1, v7.2.2.2.1, v7.2.2.2.2) 0).bind fun v91 =>
          (g49 (v7.2.1, v7.2.2.1, v7.2.2.2.1, v7.2.2.2.2) 2).bind fun v93 =>
          if v93 ≤ v91 then
            k87 (v7.2.1, v7.2.2.1, v7.2.2.2.1, v7.2.2.2.2, ([] : List ByteArray))
          else
            (
              (g11 (v7.2.1, v7.2.2.1, v7.2.2.2.1, v7.2.2.2.2)).bind fun v96 =>
              ck (0 ≤ v91 ∧ v91 ≤ v93 ∧ v93 ≤ v93 ∧ v93 ≤ ((v96.length : Nat) : Int)) <|
              (g12 (v7.2.1, v7.2.2.1, v7.2.2.2.1, v7.2.2.2.2) v91).bind fun v101 =>
              ck (inR .i64 (v93 - v91)) <|
              ck (inR .i64 (v101.2.2.2.2 + (v93 - v91))) <|
              if v93 ≤ v7.2.2.2.1 then
                (
                  ck (inR .i64 (v93 - v91)) <|
                  ck (inR .i64 (v7.2.2.2.1 - (v93 - v91))) <|
                  (g12 (v101.2.1, v101.2.2.1, v101.2.2.2.1, v101.2.2.2.2 + (v93 - v91)) (v7.2.2.2.1 - (v93 - v91))).bind fun v108 =>
                  k87 (v108.2.1, v108.2.2.1, v108.2.2.2.1, v108.2.2.2.2, ((v96.drop v91.toNat).take (v93.toNat - v91.toNat)))
                )
              else
                (
                  if v7.2.2.2.1 < v91 then
                    (
                      (g12 (v101.2.1, v101.2.2.1, v101.2.2.2.1, v101.2.2.2.2 + (v93 - v91)) v7.2.2.2.1).bind fun v123 =>
                      k87 (v123.2.1, v123.2.2.1, v123.2.2.2.1, v123.2.2.2.2, ((v96.drop v91.toNat).take (v93.toNat - v91.toNat)))
                    )
                  else
                    k87 (v101.2.1, v101.2.2.1, v101.2.2.2.1, v101.2.2.2.2 + (v93 - v91), ((v96.drop v91.toNat).take (v93.toNat - v91.toNat)))
                )
            )
        )
  ) (fun v86 =>
    if v1.1 = 0 then
      (
        if v3.1 = 1 then
          (
            if v5.1 = 0 then
              (
                if v7.1 = 3 then
                  (
                    if v9.data.toList = (lit [97, 99, 98]).data.toList then
                      (
                        if ((v86.2.2.2.2.length : Nat) : Int) = 2 then
                          (
                            ck (0 ≤ (1 : Int) ∧ 1 < ((v86.2.2.2.2.length : Nat) : Int)) <|
                            if (v86.2.2.2.2.getD (1 : Int).toNat default).data.toList = (lit [99]).data.toList then
                              (
                                (g13 (v86.1, v86.2.1, v86.2.2.1, v86.2.2.2.1)).bind fun v161 =>
                                if v161 = 0 then
                                  (
                                    (g16 (v86.1, v86.2.1, v86.2.2.1, v86.2.2.2.1)).bind fun v164 =>
                                    some (decide (v164.data.toList = (lit [98]).data.toList))
                                  )
                                else
                                  some false
                              )
                            else
                              some false
                          )
                        else
                          some false
                      )
                    else
                      some false
                  )
                else
                  some false
              )
            else
              some false
          )
        else
          some false
      )
    else
      some false
  )
noncomputable def k17 : Eng.CS := { f := 17, calm := true, more := 0, ι := Bool, ok := fun i => g17  = some i, rds := fun _ => [], args := fun i => [], res := fun i => bS i }
set_option maxRecDepth 8000 in
set_option maxHeartbeats 4000000 in
theorem k17_ok : CalmOk Try.prog k17 := by
  refine R.calmspec Try.func17 nm17 rfl ?_
  rintro r hok q _ args hargs
  match args, hargs with
  | [], hargs =>
  refine ⟨envC [k11, k12, k13, k16, k21, k47, k49] false [(17, 10)], 6, envC_ok (css_cons ⟨fun h => (by cases h), fun _ => k11_ok⟩ (css_cons ⟨fun h => (by cases h), fun _ => k12_ok⟩ (css_cons ⟨fun _ => k13_ok, fun h => (by cases h)⟩ (css_cons ⟨fun _ => k16_ok, fun h => (by cases h)⟩ (css_cons ⟨fun h => (by cases h), fun _ => k21_ok⟩ (css_cons ⟨fun _ => k47_ok, fun h => (by cases h)⟩ (css_cons ⟨fun _ => k49_ok, fun h => (by cases h)⟩ (css_nil)))))))), rfl, (by intro x hx; cases hx), ?_⟩
  have H : Gives (g17 ) (fun a => a = r) := ⟨r, hok, rfl⟩
  unfold g17 at H
  clear hok
  refine And.intro (fun h => absurd h (by decide)) (fun _ => ?_)
  refine And.intro (fun h => absurd h (by decide)) (fun _ => ?_)
  refine And.intro (fun h => absurd h (by decide)) (fun _ => ?_)
  obtain ⟨v1, hv2, H⟩ := call_st H
  refine ⟨((3, [], 0, 0), [(lit [97]), (lit [98])], v1), ⟨hv2⟩, ⟨trivial⟩, ?_⟩
  refine And.intro ⟨rfl⟩ ?_
  refine And.intro ⟨by first | rfl | (simp; done), by first | rfl | (simp [ei, eb, es, ec, c135]; done) | (simp only [ei, eb, es, ec, c135, List.map_append, List.nil_append, List.append_assoc]; rfl)⟩ ?_
  refine mo1_LiftA ?_
  refine mo1_LiftA ?_
  refine mo1_LiftA ?_
  refine mo1_LiftA ?_
  obtain ⟨v3, hv4, H⟩ := call_st H
  refine ⟨((v1.2.1, v1.2.2.1, v1.2.2.2.1, v1.2.2.2.2), 1, v3), ⟨hv4⟩, ⟨trivial⟩, ?_⟩
  refine And.intro ⟨rfl⟩ ?_
  refine And.intro ⟨rfl⟩ ?_
  refine mo1_LiftA ?_
  refine mo1_LiftA ?_
  refine mo1_LiftA ?_
  refine mo1_LiftA ?_
  obtain ⟨v5, hv6, H⟩ := call_st H
  refine ⟨((v3.2.1, v3.2.2.1, v3.2.2.2.1, v3.2.2.2.2), [(lit [99])], v5), ⟨hv6⟩, ⟨trivial⟩, ?_⟩
  refine And.intro ⟨rfl⟩ ?_
  refine And.intro ⟨by first | rfl | (simp; done), by first | rfl | (simp [ei, eb, es, ec, c135]; done) | (simp only [ei, eb, es, ec, c135, List.map_append, List.nil_append, List.append_assoc]; rfl)⟩ ?_
  refine mo1_LiftA ?_
  refine mo1_LiftA ?_
  refine mo1_LiftA ?_
  refine mo1_LiftA ?_
  obtain ⟨v7, hv8, H⟩ := call_st H
  refine ⟨((v5.2.1, v5.2.2.1, v5.2.2.2.1, v5.2.2.2.2), [(lit [100])], v7), ⟨hv8⟩, ⟨trivial⟩, ?_⟩
  refine And.intro ⟨rfl⟩ ?_
  refine And.intro ⟨by first | rfl | (simp; done), by first | rfl | (simp [ei, eb, es, ec, c135]; done) | (simp only [ei, eb, es, ec, c135, List.map_append, List.nil_append, List.append_assoc]; rfl)⟩ ?_
  refine mo1_LiftA ?_
  refine mo1_LiftA ?_
  refine mo1_LiftA ?_
  refine mo1_LiftA ?_
  obtain ⟨v9, hv10, H⟩ := call_st H
  refine ⟨((v7.2.1, v7.2.2.1, v7.2.2.2.1, v7.2.2.2.2), v9), ⟨hv10⟩, ⟨trivial⟩, ?_⟩
  refine mo1_LiftA ?_
  refine mo1_LiftA ?_
  refine mo1_LiftA ?_
  refine mo1_LiftA ?_
  refine R.cut_famXG H 122 [1, 3, 4, 5, 6, 7] [] [(8, 0)] (fun (v86 : Int × List ByteArray × Int × Int × List ByteArray) (g : (Option Addr × Nat)) => [(8, .v (.slice ((g.1)) (v86.2.2.2.2.length) ((g.2))))]) (fun (v86 : Int × List ByteArray × Int × Int × List ByteArray) (g : (Option Addr × Nat)) => [(17, .cells 43 [.v (.int .i64 (v86.1)), .own 122, .v (.int .i64 (v86.2.2.1)), .v (.int .i64 (v86.2.2.2.1))]), (122, .arr 9 1 (v86.2.1.length) (es (v86.2.1)))]) [(27, .arr 9 1 (2) (es ([(lit [97]), (lit [98])]))), (41, .arr 9 1 (1) (es ([(lit [99])]))), (48, .arr 9 1 (1) (es ([(lit [100])])))] 1 (fun q (v86 : Int × List ByteArray × Int × Int × List ByteArray) (g : (Option Addr × Nat)) => Reads q g.1 (es v86.2.2.2.2) ∧ v86.2.2.2.2.length ≤ g.2) (fun H => ?_)
  refine And.intro ?_ ?_
  · obtain ⟨v88, hv89, H⟩ := call_st H
    refine ⟨((v7.2.1, v7.2.2.1, v7.2.2.2.1, v7.2.2.2.2), v88), ⟨hv89⟩, ⟨trivial⟩, ?_⟩
    refine mo1_LiftA ?_
    refine mo1_LiftA ?_
    refine mo1_LiftA ?_
    refine mo1_LiftA ?_
    refine if_st H (fun h90 H => ?_) (fun h90 H => ?_)
    · refine ⟨((v7.2.1, v7.2.2.1, v7.2.2.2.1, v7.2.2.2.2, ([] : List ByteArray)), (none, 0)), ⟨H, Reads.nil, Nat.le_refl _⟩, ⟨fun _ _ _ h => h⟩, ?_⟩
      repeat refine mo1_LiftA ?_
      first | exact trivial | exact rfl
    · obtain ⟨v91, hv92, H⟩ := call_st H
      refine ⟨((v7.2.1, v7.2.2.1, v7.2.2.2.1, v7.2.2.2.2), 0, v91), ⟨hv92⟩, ⟨trivial⟩, ?_⟩
      refine mo1_LiftA ?_
      refine mo1_LiftA ?_
      refine mo1_LiftA ?_
      refine mo1_LiftA ?_
      refine And.intro ⟨rfl⟩ ?_
      obtain ⟨v93, hv94, H⟩ := call_st H
      refine ⟨((v7.2.1, v7.2.2.1, v7.2.2.2.1, v7.2.2.2.2), 2, v93), ⟨hv94⟩, ⟨trivial⟩, ?_⟩
      refine mo1_LiftA ?_
      refine mo1_LiftA ?_
      refine mo1_LiftA ?_
      refine mo1_LiftA ?_
      refine And.intro ⟨rfl⟩ ?_
      refine if_st H (fun h95 H => ?_) (fun h95 H => ?_)
      · refine ⟨((v7.2.1, v7.2.2.1, v7.2.2.2.1, v7.2.2.2.2, ([] : List ByteArray)), (none, 0)), ⟨H, Reads.nil, Nat.le_refl _⟩, ⟨fun _ _ _ h => h⟩, ?_⟩
        repeat refine mo1_LiftA ?_
        first | exact trivial | exact rfl
      · obtain ⟨v96, hv97, H⟩ := call_st H
        refine ⟨((v7.2.1, v7.2.2.1, v7.2.2.2.1, v7.2.2.2.2), v96), ⟨hv97⟩, ⟨trivial⟩, ?_⟩
        refine mo1_LiftA ?_
        refine mo1_LiftA ?_
        refine mo1_LiftA ?_
        refine mo1_LiftA ?_
        refine ob_ck H fun h98 H => ?_
        try dsimp only at h98
        intro n99 hn100
        subst hn100
        obtain ⟨v101, hv102, H⟩ := call_st H
        refine ⟨((v7.2.1, v7.2.2.1, v7.2.2.2.1, v7.2.2.2.2), v91, v101), ⟨hv102⟩, ⟨trivial⟩, ?_⟩
        refine And.intro ⟨rfl⟩ ?_
        refine And.intro ⟨rfl⟩ ?_
        refine mo1_LiftA ?_
        refine mo1_LiftA ?_
        refine mo1_LiftA ?_
        refine mo1_LiftA ?_
        refine ob_ck H fun h103 H => ?_
        refine ob_ck H fun h104 H => ?_
        refine if_st H (fun h105 H => ?_) (fun h105 H => ?_)
        · refine ob_ck H fun h106 H => ?_
          refine ob_ck H fun h107 H => ?_
          obtain ⟨v108, hv109, H⟩ := call_st H
          refine ⟨((v101.2.1, v101.2.2.1, v101.2.2.2.1, v101.2.2.2.2 + (v93 - v91)), v7.2.2.2.1 - (v93 - v91), v108), ⟨hv109⟩, ⟨trivial⟩, ?_⟩
          refine And.intro ⟨rfl⟩ ?_
          refine And.intro ⟨rfl⟩ ?_
          refine mo1_LiftA ?_
          refine mo1_LiftA ?_
          refine mo1_LiftA ?_
          refine mo1_LiftA ?_
          refine And.intro ⟨by first | omega | (dsimp only; omega)⟩ ?_
          intro q110 A111 c112 A116 c117 n120 hq113 hc118 hR119 hn121 hc114 hR115
          obtain rfl : n120 = ((v96.drop v91.toNat).take (v93.toNat - v91.toNat)).length := hn121.trans (len_vw (by first | omega | (dsimp only; omega) | (dsimp only at *; omega))).symm
          rw [es_vw] at hR115
          refine ⟨((v108.2.1, v108.2.2.1, v108.2.2.2.1, v108.2.2.2.2, ((v96.drop v91.toNat).take (v93.toNat - v91.toNat))), (A111, c112)), ⟨H, hR115, hc114⟩, ⟨fun _ _ _ h => (hq113 _ _ _ h)⟩, ?_⟩
          repeat refine mo1_LiftA ?_
          first | exact trivial | exact rfl
        · refine if_st H (fun h122 H => ?_) (fun h122 H => ?_)
          · obtain ⟨v123, hv124, H⟩ := call_st H
            refine ⟨((v101.2.1, v101.2.2.1, v101.2.2.2.1, v101.2.2.2.2 + (v93 - v91)), v7.2.2.2.1, v123), ⟨hv124⟩, ⟨trivial⟩, ?_⟩
            refine And.intro ⟨rfl⟩ ?_
            refine And.intro ⟨rfl⟩ ?_
            refine mo1_LiftA ?_
            refine mo1_LiftA ?_
            refine mo1_LiftA ?_
            refine mo1_LiftA ?_
            refine And.intro ⟨by first | omega | (dsimp only; omega)⟩ ?_
            intro q125 A126 c127 A131 c132 n135 hq128 hc133 hR134 hn136 hc129 hR130
            obtain rfl : n135 = ((v96.drop v91.toNat).take (v93.toNat - v91.toNat)).length := hn136.trans (len_vw (by first | omega | (dsimp only; omega) | (dsimp only at *; omega))).symm
            rw [es_vw] at hR130
            refine ⟨((v123.2.1, v123.2.2.1, v123.2.2.2.1, v123.2.2.2.2, ((v96.drop v91.toNat).take (v93.toNat - v91.toNat))), (A126, c127)), ⟨H, hR130, hc129⟩, ⟨fun _ _ _ h => (hq128 _ _ _ h)⟩, ?_⟩
            repeat refine mo1_LiftA ?_
            first | exact trivial | exact rfl
          · refine And.intro ⟨by first | omega | (dsimp only; omega)⟩ ?_
            intro q137 A138 c139 A143 c144 n147 hq140 hc145 hR146 hn148 hc141 hR142
            obtain rfl : n147 = ((v96.drop v91.toNat).take (v93.toNat - v91.toNat)).length := hn148.trans (len_vw (by first | omega | (dsimp only; omega) | (dsimp only at *; omega))).symm
            rw [es_vw] at hR142
            refine ⟨((v101.2.1, v101.2.2.1, v101.2.2.2.1, v101.2.2.2.2 + (v93 - v91), ((v96.drop v91.toNat).take (v93.toNat - v91.toNat))), (A138, c139)), ⟨H, hR142, hc141⟩, ⟨fun _ _ _ h => (hq140 _ _ _ h)⟩, ?_⟩
            repeat refine mo1_LiftA ?_
            first | exact trivial | exact rfl
  · rintro q85 hq84 ⟨v86, ⟨A149, c150⟩⟩ ⟨H, hR151, hc152⟩
    dsimp only at H hR151 hc152
    refine if_st H (fun h153 H => ?_) (fun h153 H => ?_)
    · refine if_st H (fun h154 H => ?_) (fun h154 H => ?_)
      · refine if_st H (fun h155 H => ?_) (fun h155 H => ?_)
        · refine if_st H (fun h156 H => ?_) (fun h156 H => ?_)
          · refine if_st H (fun h157 H => ?_) (fun h157 H => ?_)
            · refine if_st H (fun h158 H => ?_) (fun h158 H => ?_)
              · refine ob_ix hR151 (fun h => es0 h) H fun h159 H => ?_
                refine ld_str (e := v86.2.2.2.2.getD (1 : Int).toNat default) (rd_get hR151 (es_get (l := v86.2.2.2.2) (tn h159))) ?_
                refine if_st H (fun h160 H => ?_) (fun h160 H => ?_)
                · obtain ⟨v161, hv162, H⟩ := call_st H
                  refine ⟨((v86.1, v86.2.1, v86.2.2.1, v86.2.2.2.1), v161), ⟨hv162⟩, ⟨trivial⟩, ?_⟩
                  refine mo1_LiftA ?_
                  refine mo1_LiftA ?_
                  refine mo1_LiftA ?_
                  refine mo1_LiftA ?_
                  refine if_st H (fun h163 H => ?_) (fun h163 H => ?_)
                  · obtain ⟨v164, hv165, H⟩ := call_st H
                    refine ⟨((v86.1, v86.2.1, v86.2.2.1, v86.2.2.2.1), v164), ⟨hv165⟩, ⟨trivial⟩, ?_⟩
                    refine mo1_LiftA ?_
                    refine mo1_LiftA ?_
                    refine mo1_LiftA ?_
                    refine mo1_LiftA ?_
                    have hfin := fin_st H
                    repeat refine mf1_LiftA ?_
                    first | exact trivial | exact rfl
                  · have hfin := fin_st H
                    repeat refine mf1_LiftA ?_
                    first | exact trivial | exact rfl
                · have hfin := fin_st H
                  repeat refine mf1_LiftA ?_
                  first | exact trivial | exact rfl
              · have hfin := fin_st H
                repeat refine mf1_LiftA ?_
                first | exact trivial | exact rfl
            · have hfin := fin_st H
              repeat refine mf1_LiftA ?_
              first | exact trivial | exact rfl
          · have hfin := fin_st H
            repeat refine mf1_LiftA ?_
            first | exact trivial | exact rfl
        · have hfin := fin_st H
          repeat refine mf1_LiftA ?_
          first | exact trivial | exact rfl
      · have hfin := fin_st H
        repeat refine mf1_LiftA ?_
        first | exact trivial | exact rfl
    · have hfin := fin_st H
      repeat refine mf1_LiftA ?_
      first | exact trivial | exact rfl

end Go.Proofs.Ytenjkphlbdhaiaa
