/- The law: of more comes no less. -/
import Derived.Test.YtfnodgpebheinaaM61
import Derived.Test.YtfnodgpebheinaaM53
import Derived.Test.YtfnodgpebheinaaM54
import Derived.Test.YtfnodgpebheinaaQ0
import Derived.Deep.DeepCutAuto
import Derived.Deep.CutBlock
namespace Go.Proofs.Ytfnodgpebheinaa.M
open Go Go.RowKit Go.Proofs.Ytfnodgpebheinaa
set_option linter.unusedVariables false
set_option linter.unusedSimpArgs false
attribute [local simp, local go_sem] lt_a2 lt_a3 lt_a4 lt_a5 lt_a6 lt_a7 lt_a8
set_option maxHeartbeats 4000000
attribute [local go_sem] eqIv
set_option maxRecDepth 100000 in
theorem law_grows (a b c d : Iv) (ra : inR a = true) (rb : inR b = true) (rc : inR c = true) (rd : inR d = true) (w : World) : Calls Try.prog 9 #[.agg #[.bool a.s, .int .i64 a.lo, .int .i64 a.hi], .agg #[.bool b.s, .int .i64 b.lo, .int .i64 b.hi], .agg #[.bool c.s, .int .i64 c.lo, .int .i64 c.hi], .agg #[.bool d.s, .int .i64 d.lo, .int .i64 d.hi]] w fun e w' => e = .returned (.bool true) ∧ Below w.heap.size w w' := by
  have hu := Try.underlying23
  have ox := inR_ok ra
  have oy := inR_ok rb
  have oc := inR_ok rc
  have od := inR_ok rd
  have oX := joinI_ok ox oc
  have oY := joinI_ok oy od
  have s1 := join_sub_left ox oc
  have s2 := join_sub_left oy od
  obtain ⟨x, hx⟩ : ∃ x, Hid (nrm a = x) := ⟨_, Lib.hid rfl⟩
  obtain ⟨y, hy⟩ : ∃ y, Hid (nrm b = y) := ⟨_, Lib.hid rfl⟩
  obtain ⟨X, hX⟩ : ∃ q, Hid (joinI (nrm a) (nrm c) = q) := ⟨_, Lib.hid rfl⟩
  obtain ⟨Y, hY⟩ : ∃ q, Hid (joinI (nrm b) (nrm d) = q) := ⟨_, Lib.hid rfl⟩
  rw [hX.out] at oX s1
  rw [hY.out] at oY s2
  rw [hx.out] at ox s1
  rw [hy.out] at oy s2
  have hXX : Hid (nrm X = X) := Lib.hid oX.nrm
  have hYY : Hid (nrm Y = Y) := Lib.hid oY.nrm
  have o00 : Ok ⟨true, 0, 0⟩ := .inr ⟨rfl, by decide, by decide, by decide⟩
  obtain ⟨p1, h1⟩ : ∃ q, Hid (addI x y = q) := ⟨_, Lib.hid rfl⟩
  obtain ⟨q1, k1⟩ : ∃ q, Hid (addI X Y = q) := ⟨_, Lib.hid rfl⟩
  have l1 : Hid (leqI p1 q1 = true) := Lib.hid (leq_of_sub (by rw [← h1.out, ← k1.out]; exact add_mono ox oy oX oY s1 s2))
  have np1 : Hid (nrm p1 = p1) := Lib.hid (by rw [← h1.out]; exact Ok.nrm (addI_ok ox oy))
  have nq1 : Hid (nrm q1 = q1) := Lib.hid (by rw [← k1.out]; exact Ok.nrm (addI_ok oX oY))
  obtain ⟨p2, h2⟩ : ∃ q, Hid (subI x y = q) := ⟨_, Lib.hid rfl⟩
  obtain ⟨q2, k2⟩ : ∃ q, Hid (subI X Y = q) := ⟨_, Lib.hid rfl⟩
  have l2 : Hid (leqI p2 q2 = true) := Lib.hid (leq_of_sub (by rw [← h2.out, ← k2.out]; exact sub_mono ox oy oX oY s1 s2))
  have np2 : Hid (nrm p2 = p2) := Lib.hid (by rw [← h2.out]; exact Ok.nrm (subI_ok ox oy))
  have nq2 : Hid (nrm q2 = q2) := Lib.hid (by rw [← k2.out]; exact Ok.nrm (subI_ok oX oY))
  obtain ⟨p3, h3⟩ : ∃ q, Hid (mulI x y = q) := ⟨_, Lib.hid rfl⟩
  obtain ⟨q3, k3⟩ : ∃ q, Hid (mulI X Y = q) := ⟨_, Lib.hid rfl⟩
  have l3 : Hid (leqI p3 q3 = true) := Lib.hid (leq_of_sub (by rw [← h3.out, ← k3.out]; exact mul_mono ox oy s1 s2))
  have np3 : Hid (nrm p3 = p3) := Lib.hid (by rw [← h3.out]; exact Ok.nrm (mulI_ok))
  have nq3 : Hid (nrm q3 = q3) := Lib.hid (by rw [← k3.out]; exact Ok.nrm (mulI_ok))
  obtain ⟨p4, h4⟩ : ∃ q, Hid (subI ⟨true, 0, 0⟩ (nrm a) = q) := ⟨_, Lib.hid rfl⟩
  obtain ⟨q4, k4⟩ : ∃ q, Hid (subI ⟨true, 0, 0⟩ (nrm X) = q) := ⟨_, Lib.hid rfl⟩
  have l4 : Hid (leqI p4 q4 = true) := Lib.hid (leq_of_sub (by rw [← h4.out, ← k4.out]; rw [hx.out, hXX.out]; exact sub_mono o00 ox o00 oX (Sub.refl _) s1))
  have np4 : Hid (nrm p4 = p4) := Lib.hid (by rw [← h4.out]; exact Ok.nrm (subI_ok o00 (inR_ok ra)))
  have nq4 : Hid (nrm q4 = q4) := Lib.hid (by rw [← k4.out]; rw [hXX.out]; exact Ok.nrm (subI_ok o00 oX))
  obtain ⟨p5, h5⟩ : ∃ q, Hid (divI x y = q) := ⟨_, Lib.hid rfl⟩
  obtain ⟨q5, k5⟩ : ∃ q, Hid (divI X Y = q) := ⟨_, Lib.hid rfl⟩
  have l5 : Hid (leqI p5 q5 = true) := Lib.hid (leq_of_sub (by rw [← h5.out, ← k5.out]; exact div_mono ox oy oX oY s1 s2))
  have np5 : Hid (nrm p5 = p5) := Lib.hid (by rw [← h5.out]; exact Ok.nrm (divI_ok x y))
  have nq5 : Hid (nrm q5 = q5) := Lib.hid (by rw [← k5.out]; exact Ok.nrm (divI_ok X Y))
  obtain ⟨p6, h6⟩ : ∃ q, Hid (modI x y = q) := ⟨_, Lib.hid rfl⟩
  obtain ⟨q6, k6⟩ : ∃ q, Hid (modI X Y = q) := ⟨_, Lib.hid rfl⟩
  have l6 : Hid (leqI p6 q6 = true) := Lib.hid (leq_of_sub (by rw [← h6.out, ← k6.out]; exact mod_mono ox oy oX oY s1 s2))
  have np6 : Hid (nrm p6 = p6) := Lib.hid (by rw [← h6.out]; exact Ok.nrm (modI_ok ox oy))
  have nq6 : Hid (nrm q6 = q6) := Lib.hid (by rw [← k6.out]; exact Ok.nrm (modI_ok oX oY))
  obtain ⟨z, hz⟩ : ∃ q, Hid (divZ x y = q) := ⟨_, Lib.hid rfl⟩
  obtain ⟨Z, hZ⟩ : ∃ q, Hid (divZ X Y = q) := ⟨_, Lib.hid rfl⟩
  have hz' : Hid (modZ x y = z) := hz
  have hZ' : Hid (modZ X Y = Z) := hZ
  have hzz : z = false ∨ z = true ∧ Z = true := by
    cases hc : z
    · exact .inl rfl
    · refine .inr ⟨rfl, ?_⟩
      rw [← hZ.out]
      refine divZ_mono s1 s2 ?_
      rw [hz.out, hc]
  replace ox := Lib.hid ox
  replace oy := Lib.hid oy
  replace oX := Lib.hid oX
  replace oY := Lib.hid oY
  clear s1 s2 oc od o00
  go_enter Try.func9, Try.ntmps9
  go_upto_region 3 with (first | (go_at_call 10; (with_reducible refine (known_any _).mono ?_); rintro e w' ⟨rfl, hB⟩; have Qa := Box.keep (g := w.heap.size) (x := a) hB ⟨by go_simp, by go_simp, by go_simp, by go_simp, by go_simp, by go_simp⟩; have Qd := Box.keep (g := w.heap.size + 1) (x := b) hB ⟨by go_simp, by go_simp, by go_simp, by go_simp, by go_simp, by go_simp⟩; have Qi := Box.keep (g := w.heap.size + 1 + 1) (x := c) hB ⟨by go_simp, by go_simp, by go_simp, by go_simp, by go_simp, by go_simp⟩; have Qk := Box.keep (g := w.heap.size + 1 + 1 + 1) (x := d) hB ⟨by go_simp, by go_simp, by go_simp, by go_simp, by go_simp, by go_simp⟩; replace hB0 := below_call (w := w) (by first | (with_reducible assumption) | ((try go_grown); (all_goals (repeat' (first | (with_reducible assumption) | (refine below_call ?_ (by assumption); (try go_grown))))); all_goals (first | omega | (simp; omega)))) hB; clear hB; (try clear a0 a1 a2 a3 a4 a5); (try clear d0 d1 d2 d3 d4 d5); (try clear i0 i1 i2 i3 i4 i5); (try clear k0 k1 k2 k3 k4 k5); have la0 := Box.lt Qa; have la1 := Nat.lt_succ_of_lt la0; have la2 := Nat.lt_succ_of_lt la1; obtain ⟨a0, a1, a2, a3, a4, a5⟩ := Qa; have ld0 := Box.lt Qd; have ld1 := Nat.lt_succ_of_lt ld0; have ld2 := Nat.lt_succ_of_lt ld1; obtain ⟨d0, d1, d2, d3, d4, d5⟩ := Qd; have li0 := Box.lt Qi; have li1 := Nat.lt_succ_of_lt li0; have li2 := Nat.lt_succ_of_lt li1; obtain ⟨i0, i1, i2, i3, i4, i5⟩ := Qi; have lk0 := Box.lt Qk; have lk1 := Nat.lt_succ_of_lt lk0; have lk2 := Nat.lt_succ_of_lt lk1; obtain ⟨k0, k1, k2, k3, k4, k5⟩ := Qk))
  go_cut [9, 10] (fun v1 v2 wd => ∃ g9 g10 : Nat, v1 = .pointer (some ⟨g9, 0, none⟩) ∧ v2 = .pointer (some ⟨g10, 0, none⟩) ∧ Box wd (w.heap.size) (a) ∧ Box wd (w.heap.size + 1) (b) ∧ Box wd (g9) (X) ∧ Box wd (g10) (Y) ∧ Below w.heap.size w wd)
  case first =>
    go_wp2_with fail
    refine Calm.wp_calm_late (by kernel_rfl) _ [Calm.isV (.agg #[.bool a.s, .int .i64 a.lo, .int .i64 a.hi]), Calm.isV (.agg #[.bool c.s, .int .i64 c.lo, .int .i64 c.hi]), Calm.rowV [.bool a.s, .int .i64 a.lo, .int .i64 a.hi, .bool c.s, .int .i64 c.lo, .int .i64 c.hi] 2, Calm.isV (.agg #[.bool X.s, .int .i64 X.lo, .int .i64 X.hi]), Calm.isV (.agg #[.bool b.s, .int .i64 b.lo, .int .i64 b.hi]), Calm.isV (.agg #[.bool d.s, .int .i64 d.lo, .int .i64 d.hi]), Calm.rowV [.bool b.s, .int .i64 b.lo, .int .i64 b.hi, .bool d.s, .int .i64 d.lo, .int .i64 d.hi] 2, Calm.isV (.agg #[.bool Y.s, .int .i64 Y.lo, .int .i64 Y.hi]), Calm.varV (w.heap.size + 1 + 1 + 1 + 1) [.bool false, .int .i64 0, .int .i64 0], Calm.varV (w.heap.size + 1 + 1 + 1 + 1) [.bool false, .int .i64 0, .int .i64 0], Calm.anyV, Calm.anyV] (fun k => decide (k < 10)) [(8, 9), (9, 10)] ?hL (by kernel_rfl) (by kernel_rfl) (by kernel_rfl) (Below.refl _ _) ?step ?fin
    case hL => repeat' (first | exact List.forall_mem_nil _ | refine List.forall_mem_cons.2 ⟨by first | exact Calm.stable_is _ | exact Calm.stable_row _ _ | exact Calm.stable_any | exact Calm.stable_var _ _, ?_⟩)
    case step =>
      refine Calm.StepsJ.cons (Calm.stepJ_of (by kernel_rfl) (by kernel_rfl) rfl (by rfl) (Calm.step_plain rfl ?_)) ?_
      · intro a_ w1 hS hsz hold hdep K hK
        have h4 : a_.tmps[4]? = some (.pointer (some ⟨w.heap.size, 0, none⟩)) := (hold 4 (by kernel_rfl)).trans rfl
        have e4 := Calm.at_getD h4
        clear hsz hold hdep
        have hcl := fun (b o : Nat) (h : b < _) => Below.cell hS (p := ⟨b, o, none⟩) h
        go_simp
        exact hK _ _ (Below.refl _ _) rfl
      refine Calm.StepsJ.cons (Calm.stepJ_of (by kernel_rfl) (by kernel_rfl) rfl (by rfl) (Calm.step_plain rfl ?_)) ?_
      · intro a_ w1 hS hsz hold hdep K hK
        have h6 : a_.tmps[6]? = some (.pointer (some ⟨w.heap.size + 1 + 1, 0, none⟩)) := (hold 6 (by kernel_rfl)).trans rfl
        have e6 := Calm.at_getD h6
        clear hsz hold hdep
        have hcl := fun (b o : Nat) (h : b < _) => Below.cell hS (p := ⟨b, o, none⟩) h
        go_simp
        exact hK _ _ (Below.refl _ _) rfl
      refine Calm.StepsJ.cons (Calm.stepJ_of (by kernel_rfl) (by kernel_rfl) rfl (by rfl) (Calm.step_plain rfl ?_)) ?_
      · intro a_ w1 hS hsz hold hdep K hK
        obtain ⟨u22, h22, (k22 : u22 = .agg #[.bool a.s, .int .i64 a.lo, .int .i64 a.hi])⟩ := hdep 0 (by kernel_rfl) _ rfl
        subst k22
        replace h22 := h22 22 rfl
        have e22 := Calm.at_getD h22
        obtain ⟨u23, h23, (k23 : u23 = .agg #[.bool c.s, .int .i64 c.lo, .int .i64 c.hi])⟩ := hdep 1 (by kernel_rfl) _ rfl
        subst k23
        replace h23 := h23 23 rfl
        have e23 := Calm.at_getD h23
        clear hsz hold hdep
        have hcl := fun (b o : Nat) (h : b < _) => Below.cell hS (p := ⟨b, o, none⟩) h
        go_simp
        refine hK _ _ (by unfold Calm.Grow; go_grown) ⟨_, rfl, fun j u hj => ?_⟩
        rcases j with _ | _ | _ | _ | _ | _ | j
        all_goals first | (simp at hj; done) | (simp at hj; subst hj; go_simp)
      refine Calm.StepsJ.cons (Calm.stepJ_of (by kernel_rfl) (by kernel_rfl) rfl (by rfl) (Calm.step_plain rfl ?_)) ?_
      · intro a_ w1 hS hsz hold hdep K hK
        obtain ⟨u24, h24, g24, (k24 : u24 = _), c24⟩ := hdep 2 (by kernel_rfl) _ rfl
        subst k24
        replace h24 := h24 24 rfl
        have e24 := Calm.at_getD h24
        have c24_0 := c24 0 _ rfl
        have c24_1 := c24 1 _ rfl
        have c24_2 := c24 2 _ rfl
        have c24_3 := c24 3 _ rfl
        have c24_4 := c24 4 _ rfl
        have c24_5 := c24 5 _ rfl
        clear c24
        clear hsz hold hdep
        go_simp
        refine (rjoin_raw _ a c X hX _ c24_0 c24_1 c24_2 c24_3 c24_4 c24_5).mono ?_; rintro e w' ⟨rfl, hB⟩
        exact hK _ _ hB rfl
      refine Calm.StepsJ.cons (Calm.stepJ_of (by kernel_rfl) (by kernel_rfl) rfl (by rfl) (Calm.step_plain rfl ?_)) ?_
      · intro a_ w1 hS hsz hold hdep K hK
        have h5 : a_.tmps[5]? = some (.pointer (some ⟨w.heap.size + 1, 0, none⟩)) := (hold 5 (by kernel_rfl)).trans rfl
        have e5 := Calm.at_getD h5
        clear hsz hold hdep
        have hcl := fun (b o : Nat) (h : b < _) => Below.cell hS (p := ⟨b, o, none⟩) h
        go_simp
        exact hK _ _ (Below.refl _ _) rfl
      refine Calm.StepsJ.cons (Calm.stepJ_of (by kernel_rfl) (by kernel_rfl) rfl (by rfl) (Calm.step_plain rfl ?_)) ?_
      · intro a_ w1 hS hsz hold hdep K hK
        have h7 : a_.tmps[7]? = some (.pointer (some ⟨w.heap.size + 1 + 1 + 1, 0, none⟩)) := (hold 7 (by kernel_rfl)).trans rfl
        have e7 := Calm.at_getD h7
        clear hsz hold hdep
        have hcl := fun (b o : Nat) (h : b < _) => Below.cell hS (p := ⟨b, o, none⟩) h
        go_simp
        exact hK _ _ (Below.refl _ _) rfl
      refine Calm.StepsJ.cons (Calm.stepJ_of (by kernel_rfl) (by kernel_rfl) rfl (by rfl) (Calm.step_plain rfl ?_)) ?_
      · intro a_ w1 hS hsz hold hdep K hK
        obtain ⟨u26, h26, (k26 : u26 = .agg #[.bool b.s, .int .i64 b.lo, .int .i64 b.hi])⟩ := hdep 4 (by kernel_rfl) _ rfl
        subst k26
        replace h26 := h26 26 rfl
        have e26 := Calm.at_getD h26
        obtain ⟨u27, h27, (k27 : u27 = .agg #[.bool d.s, .int .i64 d.lo, .int .i64 d.hi])⟩ := hdep 5 (by kernel_rfl) _ rfl
        subst k27
        replace h27 := h27 27 rfl
        have e27 := Calm.at_getD h27
        clear hsz hold hdep
        have hcl := fun (b o : Nat) (h : b < _) => Below.cell hS (p := ⟨b, o, none⟩) h
        go_simp
        refine hK _ _ (by unfold Calm.Grow; go_grown) ⟨_, rfl, fun j u hj => ?_⟩
        rcases j with _ | _ | _ | _ | _ | _ | j
        all_goals first | (simp at hj; done) | (simp at hj; subst hj; go_simp)
      refine Calm.StepsJ.cons (Calm.stepJ_of (by kernel_rfl) (by kernel_rfl) rfl (by rfl) (Calm.step_plain rfl ?_)) ?_
      · intro a_ w1 hS hsz hold hdep K hK
        obtain ⟨u28, h28, g28, (k28 : u28 = _), c28⟩ := hdep 6 (by kernel_rfl) _ rfl
        subst k28
        replace h28 := h28 28 rfl
        have e28 := Calm.at_getD h28
        have c28_0 := c28 0 _ rfl
        have c28_1 := c28 1 _ rfl
        have c28_2 := c28 2 _ rfl
        have c28_3 := c28 3 _ rfl
        have c28_4 := c28 4 _ rfl
        have c28_5 := c28 5 _ rfl
        clear c28
        clear hsz hold hdep
        go_simp
        refine (rjoin_raw _ b d Y hY _ c28_0 c28_1 c28_2 c28_3 c28_4 c28_5).mono ?_; rintro e w' ⟨rfl, hB⟩
        exact hK _ _ hB rfl
      refine Calm.StepsJ.cons (Calm.stepJ_alloc (by kernel_rfl) (by kernel_rfl) rfl rfl ?_ ?_) ?_
      · intro p hp v w2 h hV hv
        simp only [List.mem_cons, List.not_mem_nil, or_false] at hp
        rcases hp with rfl | rfl
        all_goals exact Calm.var_lt hV hv
      · intro a_ w1 hS K hK
        go_simp
        refine hK _ (by unfold Calm.Grow; go_grown) ⟨_, rfl, (Nat.le_trans (Nat.succ_le_of_lt lk0) (Below.size hS)), fun j u hj => ?_⟩
        rcases j with _ | _ | _ | j
        all_goals first | (simp at hj; done) | (simp at hj; subst hj; exact ⟨by go_simp, by go_simp⟩)
      refine Calm.StepsJ.cons (Calm.stepJ_alloc (by kernel_rfl) (by kernel_rfl) rfl rfl ?_ ?_) ?_
      · intro p hp v w2 h hV hv
        simp only [List.mem_cons, List.not_mem_nil, or_false] at hp
        rcases hp with rfl | rfl
        all_goals exact Calm.var_lt hV hv
      · intro a_ w1 hS K hK
        go_simp
        refine hK _ (by unfold Calm.Grow; go_grown) ⟨_, rfl, (Nat.le_trans (Nat.succ_le_of_lt lk0) (Below.size hS)), fun j u hj => ?_⟩
        rcases j with _ | _ | _ | j
        all_goals first | (simp at hj; done) | (simp at hj; subst hj; exact ⟨by go_simp, by go_simp⟩)
      refine Calm.StepsJ.skip rfl ?_
      refine Calm.StepsJ.skip rfl ?_
      exact Calm.StepsJ.nil
    case fin =>
      intro v w1 hS hv hJ
      have hcl := fun (b o : Nat) (h : b < _) => Below.cell hS (p := ⟨b, o, none⟩) h
      have hfl := fun (b o : Nat) (h : b < _) => Below.frozen hS (p := ⟨b, o, none⟩) h
      have k3 : v 3 = .agg #[.bool X.s, .int .i64 X.lo, .int .i64 X.hi] := hv 3 (by decide) rfl
      have k7 : v 7 = .agg #[.bool Y.s, .int .i64 Y.lo, .int .i64 Y.hi] := hv 7 (by decide) rfl
      obtain ⟨g9, (k8 : v 8 = _), hb9, c8⟩ := hv 8 (by decide) rfl
      obtain ⟨g10, (k9 : v 9 = _), hb10, c9⟩ := hv 9 (by decide) rfl
      obtain ⟨x0, y0⟩ := c8 0 _ rfl
      obtain ⟨x1, y1⟩ := c8 1 _ rfl
      obtain ⟨x2, y2⟩ := c8 2 _ rfl
      obtain ⟨x3, y3⟩ := c9 0 _ rfl
      obtain ⟨x4, y4⟩ := c9 1 _ rfl
      obtain ⟨x5, y5⟩ := c9 2 _ rfl
      have hne : g9 ≠ g10 := hJ (8, 9) (by simp) (9, 10) (by simp) (by decide) (by kernel_rfl) (by kernel_rfl) g9 g10 (by rw [← k8]; kernel_rfl) (by rw [← k9]; kernel_rfl)
      have hne2 := hne.symm
      have hg9 : w.heap.size ≤ g9 := by omega
      have hg10 : w.heap.size ≤ g10 := by omega
      have n0 : w.heap.size ≠ g9 := by omega
      have m0 : g9 ≠ w.heap.size := by omega
      have n1 : w.heap.size ≠ g10 := by omega
      have m1 : g10 ≠ w.heap.size := by omega
      have n2 : w.heap.size + 1 ≠ g9 := by omega
      have m2 : g9 ≠ w.heap.size + 1 := by omega
      have n3 : w.heap.size + 1 ≠ g10 := by omega
      have m3 : g10 ≠ w.heap.size + 1 := by omega
      have hB1 : Below w.heap.size w w1 := below_call hB0 hS
      clear hv hJ c8 c9
      refine Calm.wpAny_cast (n' := 2) (L' := #[true, true, true, true, true, true, true, true, true, true, false, false]) (by kernel_rfl) (by kernel_rfl) ?_
      simp only [Calm.puts, Act.put, List.setIfInBounds_toArray, List.set_cons_zero, List.set_cons_succ]
      simp only [k3, k7, k8, k9]
      refine Calm.wpAny_one (i := 10) (by kernel_rfl) rfl rfl (fun K hK => ?_)
      go_simp
      refine hK _ _ ?_
      clear hK
      refine Calm.wpAny_one (i := 11) (by kernel_rfl) rfl rfl (fun K hK => ?_)
      go_simp
      refine hK _ _ ?_
      clear hK
      refine Calm.wpAny_end (by kernel_rfl) ?_
      go_wp2_with fail
      go_meet
      case rel => exact ⟨_, _, rfl, rfl, ⟨by go_simp, by go_simp, by go_simp, by go_simp, by go_simp, by go_simp⟩, ⟨by go_simp, by go_simp, by go_simp, by go_simp, by go_simp, by go_simp⟩, ⟨by go_simp, by go_simp, by go_simp, by go_simp, by go_simp, by go_simp⟩, ⟨by go_simp, by go_simp, by go_simp, by go_simp, by go_simp, by go_simp⟩, by first | (with_reducible assumption) | ((try go_grown); (all_goals (repeat' (first | (with_reducible assumption) | (refine below_call ?_ (by assumption); (try go_grown))))); all_goals (first | omega | (simp; omega)))⟩
  case rest =>
    (try clear hB0); (try clear a0 a1 a2 a3 a4 a5); (try clear d0 d1 d2 d3 d4 d5); (try clear i0 i1 i2 i3 i4 i5); (try clear k0 k1 k2 k3 k4 k5)
    obtain ⟨g9, g10, rfl, rfl, Qa, Qd, Qe, Qr, hB0⟩ := hcut
    have la0 := Box.lt Qa
    obtain ⟨a0, a1, a2, a3, a4, a5⟩ := Qa
    have ld0 := Box.lt Qd
    obtain ⟨d0, d1, d2, d3, d4, d5⟩ := Qd
    have le0 := Box.lt Qe
    obtain ⟨e0, e1, e2, e3, e4, e5⟩ := Qe
    have lr0 := Box.lt Qr
    obtain ⟨r0, r1, r2, r3, r4, r5⟩ := Qr
    go_upto_region 4 with (fail)
    go_cut [11, 12] (fun v1 v2 wd => ∃ g11 : Nat, v1 = .pointer (some ⟨g11, 0, none⟩) ∧ v2 = .bool z ∧ Box wd (w.heap.size) (a) ∧ Box wd (w.heap.size + 1) (b) ∧ Box wd (g9) (X) ∧ Box wd (g10) (Y) ∧ Box wd (g11) (p5) ∧ Below w.heap.size w wd)
    case first =>
      go_wp2_with (first | (go_at_call 24; (with_reducible refine (arith_div a b x y hx hy ox.out oy.out p5 z h5 hz _).mono ?_); rintro e w' ⟨rfl, hB⟩; have Qa := Box.keep (g := w.heap.size) (x := a) hB ⟨by go_simp, by go_simp, by go_simp, by go_simp, by go_simp, by go_simp⟩; have Qd := Box.keep (g := w.heap.size + 1) (x := b) hB ⟨by go_simp, by go_simp, by go_simp, by go_simp, by go_simp, by go_simp⟩; have Qe := Box.keep (g := g9) (x := X) hB ⟨by go_simp, by go_simp, by go_simp, by go_simp, by go_simp, by go_simp⟩; have Qr := Box.keep (g := g10) (x := Y) hB ⟨by go_simp, by go_simp, by go_simp, by go_simp, by go_simp, by go_simp⟩; replace hB0 := below_call (w := w) (by first | (with_reducible assumption) | ((try go_grown); (all_goals (repeat' (first | (with_reducible assumption) | (refine below_call ?_ (by assumption); (try go_grown))))); all_goals (first | omega | (simp; omega)))) hB; clear hB; (try clear a0 a1 a2 a3 a4 a5); (try clear d0 d1 d2 d3 d4 d5); (try clear e0 e1 e2 e3 e4 e5); (try clear r0 r1 r2 r3 r4 r5); have la0 := Box.lt Qa; have la1 := Nat.lt_succ_of_lt la0; have la2 := Nat.lt_succ_of_lt la1; obtain ⟨a0, a1, a2, a3, a4, a5⟩ := Qa; have ld0 := Box.lt Qd; have ld1 := Nat.lt_succ_of_lt ld0; have ld2 := Nat.lt_succ_of_lt ld1; obtain ⟨d0, d1, d2, d3, d4, d5⟩ := Qd; have le0 := Box.lt Qe; have le1 := Nat.lt_succ_of_lt le0; have le2 := Nat.lt_succ_of_lt le1; obtain ⟨e0, e1, e2, e3, e4, e5⟩ := Qe; have lr0 := Box.lt Qr; have lr1 := Nat.lt_succ_of_lt lr0; have lr2 := Nat.lt_succ_of_lt lr1; obtain ⟨r0, r1, r2, r3, r4, r5⟩ := Qr))
      go_meet
      case rel => exact ⟨_, rfl, rfl, ⟨by go_simp, by go_simp, by go_simp, by go_simp, by go_simp, by go_simp⟩, ⟨by go_simp, by go_simp, by go_simp, by go_simp, by go_simp, by go_simp⟩, ⟨by go_simp, by go_simp, by go_simp, by go_simp, by go_simp, by go_simp⟩, ⟨by go_simp, by go_simp, by go_simp, by go_simp, by go_simp, by go_simp⟩, ⟨by go_simp, by go_simp, by go_simp, by go_simp, by go_simp, by go_simp⟩, by first | (with_reducible assumption) | ((try go_grown); (all_goals (repeat' (first | (with_reducible assumption) | (refine below_call ?_ (by assumption); (try go_grown))))); all_goals (first | omega | (simp; omega)))⟩
    case rest =>
      (try clear hB0); (try clear a0 a1 a2 a3 a4 a5); (try clear d0 d1 d2 d3 d4 d5); (try clear e0 e1 e2 e3 e4 e5); (try clear r0 r1 r2 r3 r4 r5)
      obtain ⟨g11, rfl, rfl, Qa, Qd, Qe, Qr, Qo, hB0⟩ := hcut
      have la0 := Box.lt Qa
      obtain ⟨a0, a1, a2, a3, a4, a5⟩ := Qa
      have ld0 := Box.lt Qd
      obtain ⟨d0, d1, d2, d3, d4, d5⟩ := Qd
      have le0 := Box.lt Qe
      obtain ⟨e0, e1, e2, e3, e4, e5⟩ := Qe
      have lr0 := Box.lt Qr
      obtain ⟨r0, r1, r2, r3, r4, r5⟩ := Qr
      have lo0 := Box.lt Qo
      obtain ⟨o0, o1, o2, o3, o4, o5⟩ := Qo
      go_upto_region 5 with (fail)
      go_cut [13, 14] (fun v1 v2 wd => ∃ g13 : Nat, v1 = .pointer (some ⟨g13, 0, none⟩) ∧ v2 = .bool Z ∧ Box wd (w.heap.size) (a) ∧ Box wd (w.heap.size + 1) (b) ∧ Box wd (g9) (X) ∧ Box wd (g10) (Y) ∧ Box wd (g11) (p5) ∧ Box wd (g13) (q5) ∧ Below w.heap.size w wd)
      case first =>
        go_wp2_with (first | (go_at_call 24; (with_reducible refine (arith_div X Y X Y hXX hYY oX.out oY.out q5 Z k5 hZ _).mono ?_); rintro e w' ⟨rfl, hB⟩; have Qa := Box.keep (g := w.heap.size) (x := a) hB ⟨by go_simp, by go_simp, by go_simp, by go_simp, by go_simp, by go_simp⟩; have Qd := Box.keep (g := w.heap.size + 1) (x := b) hB ⟨by go_simp, by go_simp, by go_simp, by go_simp, by go_simp, by go_simp⟩; have Qe := Box.keep (g := g9) (x := X) hB ⟨by go_simp, by go_simp, by go_simp, by go_simp, by go_simp, by go_simp⟩; have Qr := Box.keep (g := g10) (x := Y) hB ⟨by go_simp, by go_simp, by go_simp, by go_simp, by go_simp, by go_simp⟩; have Qo := Box.keep (g := g11) (x := p5) hB ⟨by go_simp, by go_simp, by go_simp, by go_simp, by go_simp, by go_simp⟩; replace hB0 := below_call (w := w) (by first | (with_reducible assumption) | ((try go_grown); (all_goals (repeat' (first | (with_reducible assumption) | (refine below_call ?_ (by assumption); (try go_grown))))); all_goals (first | omega | (simp; omega)))) hB; clear hB; (try clear a0 a1 a2 a3 a4 a5); (try clear d0 d1 d2 d3 d4 d5); (try clear e0 e1 e2 e3 e4 e5); (try clear r0 r1 r2 r3 r4 r5); (try clear o0 o1 o2 o3 o4 o5); have la0 := Box.lt Qa; have la1 := Nat.lt_succ_of_lt la0; have la2 := Nat.lt_succ_of_lt la1; obtain ⟨a0, a1, a2, a3, a4, a5⟩ := Qa; have ld0 := Box.lt Qd; have ld1 := Nat.lt_succ_of_lt ld0; have ld2 := Nat.lt_succ_of_lt ld1; obtain ⟨d0, d1, d2, d3, d4, d5⟩ := Qd; have le0 := Box.lt Qe; have le1 := Nat.lt_succ_of_lt le0; have le2 := Nat.lt_succ_of_lt le1; obtain ⟨e0, e1, e2, e3, e4, e5⟩ := Qe; have lr0 := Box.lt Qr; have lr1 := Nat.lt_succ_of_lt lr0; have lr2 := Nat.lt_succ_of_lt lr1; obtain ⟨r0, r1, r2, r3, r4, r5⟩ := Qr; have lo0 := Box.lt Qo; have lo1 := Nat.lt_succ_of_lt lo0; have lo2 := Nat.lt_succ_of_lt lo1; obtain ⟨o0, o1, o2, o3, o4, o5⟩ := Qo))
        go_meet
        case rel => exact ⟨_, rfl, rfl, ⟨by go_simp, by go_simp, by go_simp, by go_simp, by go_simp, by go_simp⟩, ⟨by go_simp, by go_simp, by go_simp, by go_simp, by go_simp, by go_simp⟩, ⟨by go_simp, by go_simp, by go_simp, by go_simp, by go_simp, by go_simp⟩, ⟨by go_simp, by go_simp, by go_simp, by go_simp, by go_simp, by go_simp⟩, ⟨by go_simp, by go_simp, by go_simp, by go_simp, by go_simp, by go_simp⟩, ⟨by go_simp, by go_simp, by go_simp, by go_simp, by go_simp, by go_simp⟩, by first | (with_reducible assumption) | ((try go_grown); (all_goals (repeat' (first | (with_reducible assumption) | (refine below_call ?_ (by assumption); (try go_grown))))); all_goals (first | omega | (simp; omega)))⟩
      case rest =>
        (try clear hB0); (try clear a0 a1 a2 a3 a4 a5); (try clear d0 d1 d2 d3 d4 d5); (try clear e0 e1 e2 e3 e4 e5); (try clear r0 r1 r2 r3 r4 r5); (try clear o0 o1 o2 o3 o4 o5)
        obtain ⟨g13, rfl, rfl, Qa, Qd, Qe, Qr, Qo, Qu, hB0⟩ := hcut
        have la0 := Box.lt Qa
        obtain ⟨a0, a1, a2, a3, a4, a5⟩ := Qa
        have ld0 := Box.lt Qd
        obtain ⟨d0, d1, d2, d3, d4, d5⟩ := Qd
        have le0 := Box.lt Qe
        obtain ⟨e0, e1, e2, e3, e4, e5⟩ := Qe
        have lr0 := Box.lt Qr
        obtain ⟨r0, r1, r2, r3, r4, r5⟩ := Qr
        have lo0 := Box.lt Qo
        obtain ⟨o0, o1, o2, o3, o4, o5⟩ := Qo
        have lu0 := Box.lt Qu
        obtain ⟨u0, u1, u2, u3, u4, u5⟩ := Qu
        go_upto_region 6 with (fail)
        go_cut [15, 16] (fun v1 v2 wd => ∃ g15 : Nat, v1 = .pointer (some ⟨g15, 0, none⟩) ∧ v2 = .bool z ∧ Box wd (w.heap.size) (a) ∧ Box wd (w.heap.size + 1) (b) ∧ Box wd (g9) (X) ∧ Box wd (g10) (Y) ∧ Box wd (g11) (p5) ∧ Box wd (g13) (q5) ∧ Box wd (g15) (p6) ∧ Below w.heap.size w wd)
        case first =>
          go_wp2_with (first | (go_at_call 25; (with_reducible refine (arith_mod a b x y hx hy ox.out oy.out p6 z h6 hz' _).mono ?_); rintro e w' ⟨rfl, hB⟩; have Qa := Box.keep (g := w.heap.size) (x := a) hB ⟨by go_simp, by go_simp, by go_simp, by go_simp, by go_simp, by go_simp⟩; have Qd := Box.keep (g := w.heap.size + 1) (x := b) hB ⟨by go_simp, by go_simp, by go_simp, by go_simp, by go_simp, by go_simp⟩; have Qe := Box.keep (g := g9) (x := X) hB ⟨by go_simp, by go_simp, by go_simp, by go_simp, by go_simp, by go_simp⟩; have Qr := Box.keep (g := g10) (x := Y) hB ⟨by go_simp, by go_simp, by go_simp, by go_simp, by go_simp, by go_simp⟩; have Qo := Box.keep (g := g11) (x := p5) hB ⟨by go_simp, by go_simp, by go_simp, by go_simp, by go_simp, by go_simp⟩; have Qu := Box.keep (g := g13) (x := q5) hB ⟨by go_simp, by go_simp, by go_simp, by go_simp, by go_simp, by go_simp⟩; replace hB0 := below_call (w := w) (by first | (with_reducible assumption) | ((try go_grown); (all_goals (repeat' (first | (with_reducible assumption) | (refine below_call ?_ (by assumption); (try go_grown))))); all_goals (first | omega | (simp; omega)))) hB; clear hB; (try clear a0 a1 a2 a3 a4 a5); (try clear d0 d1 d2 d3 d4 d5); (try clear e0 e1 e2 e3 e4 e5); (try clear r0 r1 r2 r3 r4 r5); (try clear o0 o1 o2 o3 o4 o5); (try clear u0 u1 u2 u3 u4 u5); have la0 := Box.lt Qa; have la1 := Nat.lt_succ_of_lt la0; have la2 := Nat.lt_succ_of_lt la1; obtain ⟨a0, a1, a2, a3, a4, a5⟩ := Qa; have ld0 := Box.lt Qd; have ld1 := Nat.lt_succ_of_lt ld0; have ld2 := Nat.lt_succ_of_lt ld1; obtain ⟨d0, d1, d2, d3, d4, d5⟩ := Qd; have le0 := Box.lt Qe; have le1 := Nat.lt_succ_of_lt le0; have le2 := Nat.lt_succ_of_lt le1; obtain ⟨e0, e1, e2, e3, e4, e5⟩ := Qe; have lr0 := Box.lt Qr; have lr1 := Nat.lt_succ_of_lt lr0; have lr2 := Nat.lt_succ_of_lt lr1; obtain ⟨r0, r1, r2, r3, r4, r5⟩ := Qr; have lo0 := Box.lt Qo; have lo1 := Nat.lt_succ_of_lt lo0; have lo2 := Nat.lt_succ_of_lt lo1; obtain ⟨o0, o1, o2, o3, o4, o5⟩ := Qo; have lu0 := Box.lt Qu; have lu1 := Nat.lt_succ_of_lt lu0; have lu2 := Nat.lt_succ_of_lt lu1; obtain ⟨u0, u1, u2, u3, u4, u5⟩ := Qu))
          go_meet
          case rel => exact ⟨_, rfl, rfl, ⟨by go_simp, by go_simp, by go_simp, by go_simp, by go_simp, by go_simp⟩, ⟨by go_simp, by go_simp, by go_simp, by go_simp, by go_simp, by go_simp⟩, ⟨by go_simp, by go_simp, by go_simp, by go_simp, by go_simp, by go_simp⟩, ⟨by go_simp, by go_simp, by go_simp, by go_simp, by go_simp, by go_simp⟩, ⟨by go_simp, by go_simp, by go_simp, by go_simp, by go_simp, by go_simp⟩, ⟨by go_simp, by go_simp, by go_simp, by go_simp, by go_simp, by go_simp⟩, ⟨by go_simp, by go_simp, by go_simp, by go_simp, by go_simp, by go_simp⟩, by first | (with_reducible assumption) | ((try go_grown); (all_goals (repeat' (first | (with_reducible assumption) | (refine below_call ?_ (by assumption); (try go_grown))))); all_goals (first | omega | (simp; omega)))⟩
        case rest =>
          (try clear hB0); (try clear a0 a1 a2 a3 a4 a5); (try clear d0 d1 d2 d3 d4 d5); (try clear e0 e1 e2 e3 e4 e5); (try clear r0 r1 r2 r3 r4 r5); (try clear o0 o1 o2 o3 o4 o5); (try clear u0 u1 u2 u3 u4 u5)
          obtain ⟨g15, rfl, rfl, Qa, Qd, Qe, Qr, Qo, Qu, Qs, hB0⟩ := hcut
          have la0 := Box.lt Qa
          obtain ⟨a0, a1, a2, a3, a4, a5⟩ := Qa
          have ld0 := Box.lt Qd
          obtain ⟨d0, d1, d2, d3, d4, d5⟩ := Qd
          have le0 := Box.lt Qe
          obtain ⟨e0, e1, e2, e3, e4, e5⟩ := Qe
          have lr0 := Box.lt Qr
          obtain ⟨r0, r1, r2, r3, r4, r5⟩ := Qr
          have lo0 := Box.lt Qo
          obtain ⟨o0, o1, o2, o3, o4, o5⟩ := Qo
          have lu0 := Box.lt Qu
          obtain ⟨u0, u1, u2, u3, u4, u5⟩ := Qu
          have ls0 := Box.lt Qs
          obtain ⟨s0, s1, s2, s3, s4, s5⟩ := Qs
          go_upto_region 7 with (fail)
          go_cut [17, 18] (fun v1 v2 wd => ∃ g17 : Nat, v1 = .pointer (some ⟨g17, 0, none⟩) ∧ v2 = .bool Z ∧ Box wd (w.heap.size) (a) ∧ Box wd (w.heap.size + 1) (b) ∧ Box wd (g9) (X) ∧ Box wd (g10) (Y) ∧ Box wd (g11) (p5) ∧ Box wd (g13) (q5) ∧ Box wd (g15) (p6) ∧ Box wd (g17) (q6) ∧ Below w.heap.size w wd)
          case first =>
            go_wp2_with (first | (go_at_call 25; (with_reducible refine (arith_mod X Y X Y hXX hYY oX.out oY.out q6 Z k6 hZ' _).mono ?_); rintro e w' ⟨rfl, hB⟩; have Qa := Box.keep (g := w.heap.size) (x := a) hB ⟨by go_simp, by go_simp, by go_simp, by go_simp, by go_simp, by go_simp⟩; have Qd := Box.keep (g := w.heap.size + 1) (x := b) hB ⟨by go_simp, by go_simp, by go_simp, by go_simp, by go_simp, by go_simp⟩; have Qe := Box.keep (g := g9) (x := X) hB ⟨by go_simp, by go_simp, by go_simp, by go_simp, by go_simp, by go_simp⟩; have Qr := Box.keep (g := g10) (x := Y) hB ⟨by go_simp, by go_simp, by go_simp, by go_simp, by go_simp, by go_simp⟩; have Qo := Box.keep (g := g11) (x := p5) hB ⟨by go_simp, by go_simp, by go_simp, by go_simp, by go_simp, by go_simp⟩; have Qu := Box.keep (g := g13) (x := q5) hB ⟨by go_simp, by go_simp, by go_simp, by go_simp, by go_simp, by go_simp⟩; have Qs := Box.keep (g := g15) (x := p6) hB ⟨by go_simp, by go_simp, by go_simp, by go_simp, by go_simp, by go_simp⟩; replace hB0 := below_call (w := w) (by first | (with_reducible assumption) | ((try go_grown); (all_goals (repeat' (first | (with_reducible assumption) | (refine below_call ?_ (by assumption); (try go_grown))))); all_goals (first | omega | (simp; omega)))) hB; clear hB; (try clear a0 a1 a2 a3 a4 a5); (try clear d0 d1 d2 d3 d4 d5); (try clear e0 e1 e2 e3 e4 e5); (try clear r0 r1 r2 r3 r4 r5); (try clear o0 o1 o2 o3 o4 o5); (try clear u0 u1 u2 u3 u4 u5); (try clear s0 s1 s2 s3 s4 s5); have la0 := Box.lt Qa; have la1 := Nat.lt_succ_of_lt la0; have la2 := Nat.lt_succ_of_lt la1; obtain ⟨a0, a1, a2, a3, a4, a5⟩ := Qa; have ld0 := Box.lt Qd; have ld1 := Nat.lt_succ_of_lt ld0; have ld2 := Nat.lt_succ_of_lt ld1; obtain ⟨d0, d1, d2, d3, d4, d5⟩ := Qd; have le0 := Box.lt Qe; have le1 := Nat.lt_succ_of_lt le0; have le2 := Nat.lt_succ_of_lt le1; obtain ⟨e0, e1, e2, e3, e4, e5⟩ := Qe; have lr0 := Box.lt Qr; have lr1 := Nat.lt_succ_of_lt lr0; have lr2 := Nat.lt_succ_of_lt lr1; obtain ⟨r0, r1, r2, r3, r4, r5⟩ := Qr; have lo0 := Box.lt Qo; have lo1 := Nat.lt_succ_of_lt lo0; have lo2 := Nat.lt_succ_of_lt lo1; obtain ⟨o0, o1, o2, o3, o4, o5⟩ := Qo; have lu0 := Box.lt Qu; have lu1 := Nat.lt_succ_of_lt lu0; have lu2 := Nat.lt_succ_of_lt lu1; obtain ⟨u0, u1, u2, u3, u4, u5⟩ := Qu; have ls0 := Box.lt Qs; have ls1 := Nat.lt_succ_of_lt ls0; have ls2 := Nat.lt_succ_of_lt ls1; obtain ⟨s0, s1, s2, s3, s4, s5⟩ := Qs))
            go_meet
            case rel => exact ⟨_, rfl, rfl, ⟨by go_simp, by go_simp, by go_simp, by go_simp, by go_simp, by go_simp⟩, ⟨by go_simp, by go_simp, by go_simp, by go_simp, by go_simp, by go_simp⟩, ⟨by go_simp, by go_simp, by go_simp, by go_simp, by go_simp, by go_simp⟩, ⟨by go_simp, by go_simp, by go_simp, by go_simp, by go_simp, by go_simp⟩, ⟨by go_simp, by go_simp, by go_simp, by go_simp, by go_simp, by go_simp⟩, ⟨by go_simp, by go_simp, by go_simp, by go_simp, by go_simp, by go_simp⟩, ⟨by go_simp, by go_simp, by go_simp, by go_simp, by go_simp, by go_simp⟩, ⟨by go_simp, by go_simp, by go_simp, by go_simp, by go_simp, by go_simp⟩, by first | (with_reducible assumption) | ((try go_grown); (all_goals (repeat' (first | (with_reducible assumption) | (refine below_call ?_ (by assumption); (try go_grown))))); all_goals (first | omega | (simp; omega)))⟩
          case rest =>
            (try clear hB0); (try clear a0 a1 a2 a3 a4 a5); (try clear d0 d1 d2 d3 d4 d5); (try clear e0 e1 e2 e3 e4 e5); (try clear r0 r1 r2 r3 r4 r5); (try clear o0 o1 o2 o3 o4 o5); (try clear u0 u1 u2 u3 u4 u5); (try clear s0 s1 s2 s3 s4 s5)
            obtain ⟨g17, rfl, rfl, Qa, Qd, Qe, Qr, Qo, Qu, Qs, Qt, hB0⟩ := hcut
            have la0 := Box.lt Qa
            obtain ⟨a0, a1, a2, a3, a4, a5⟩ := Qa
            have ld0 := Box.lt Qd
            obtain ⟨d0, d1, d2, d3, d4, d5⟩ := Qd
            have le0 := Box.lt Qe
            obtain ⟨e0, e1, e2, e3, e4, e5⟩ := Qe
            have lr0 := Box.lt Qr
            obtain ⟨r0, r1, r2, r3, r4, r5⟩ := Qr
            have lo0 := Box.lt Qo
            obtain ⟨o0, o1, o2, o3, o4, o5⟩ := Qo
            have lu0 := Box.lt Qu
            obtain ⟨u0, u1, u2, u3, u4, u5⟩ := Qu
            have ls0 := Box.lt Qs
            obtain ⟨s0, s1, s2, s3, s4, s5⟩ := Qs
            have lt0 := Box.lt Qt
            obtain ⟨t0, t1, t2, t3, t4, t5⟩ := Qt
            go_upto_region 9 with (fail)
            rcases hzz with rfl | ⟨rfl, rfl⟩
              
            · refine Calm.wp_calm (by kernel_rfl) _ [Calm.isV (.func (.func 13) #[] #[]), Calm.isV (.agg #[.bool a.s, .int .i64 a.lo, .int .i64 a.hi]), Calm.isV (.agg #[.bool b.s, .int .i64 b.lo, .int .i64 b.hi]), Calm.isV (.agg #[.bool p1.s, .int .i64 p1.lo, .int .i64 p1.hi]), Calm.isV (.agg #[.bool X.s, .int .i64 X.lo, .int .i64 X.hi]), Calm.isV (.agg #[.bool Y.s, .int .i64 Y.lo, .int .i64 Y.hi]), Calm.isV (.agg #[.bool q1.s, .int .i64 q1.lo, .int .i64 q1.hi]), Calm.isV (.bool true), Calm.isV (.bool true), Calm.isV (.func (.func 13) #[] #[]), Calm.isV (.agg #[.bool a.s, .int .i64 a.lo, .int .i64 a.hi]), Calm.isV (.agg #[.bool b.s, .int .i64 b.lo, .int .i64 b.hi]), Calm.isV (.agg #[.bool p2.s, .int .i64 p2.lo, .int .i64 p2.hi]), Calm.isV (.agg #[.bool X.s, .int .i64 X.lo, .int .i64 X.hi]), Calm.isV (.agg #[.bool Y.s, .int .i64 Y.lo, .int .i64 Y.hi]), Calm.isV (.agg #[.bool q2.s, .int .i64 q2.lo, .int .i64 q2.hi]), Calm.isV (.bool true), Calm.isV (.bool true), Calm.isV (.bool true), Calm.isV (.func (.func 13) #[] #[]), Calm.isV (.agg #[.bool a.s, .int .i64 a.lo, .int .i64 a.hi]), Calm.isV (.agg #[.bool b.s, .int .i64 b.lo, .int .i64 b.hi]), Calm.isV (.agg #[.bool p3.s, .int .i64 p3.lo, .int .i64 p3.hi]), Calm.isV (.agg #[.bool X.s, .int .i64 X.lo, .int .i64 X.hi]), Calm.isV (.agg #[.bool Y.s, .int .i64 Y.lo, .int .i64 Y.hi]), Calm.isV (.agg #[.bool q3.s, .int .i64 q3.lo, .int .i64 q3.hi]), Calm.isV (.bool true), Calm.isV (.bool true), Calm.isV (.bool true), Calm.isV (.func (.func 13) #[] #[]), Calm.isV (.agg #[.bool a.s, .int .i64 a.lo, .int .i64 a.hi]), Calm.isV (.agg #[.bool p4.s, .int .i64 p4.lo, .int .i64 p4.hi]), Calm.isV (.agg #[.bool X.s, .int .i64 X.lo, .int .i64 X.hi]), Calm.isV (.agg #[.bool q4.s, .int .i64 q4.lo, .int .i64 q4.hi]), Calm.isV (.bool true), Calm.isV (.bool true), Calm.isV (.bool true), Calm.isV (.func (.func 13) #[] #[]), Calm.isV (.agg #[.bool p5.s, .int .i64 p5.lo, .int .i64 p5.hi]), Calm.isV (.agg #[.bool q5.s, .int .i64 q5.lo, .int .i64 q5.hi]), Calm.isV (.bool true), Calm.isV (.bool true), Calm.isV (.bool true), Calm.isV (.func (.func 13) #[] #[]), Calm.isV (.agg #[.bool p6.s, .int .i64 p6.lo, .int .i64 p6.hi]), Calm.isV (.agg #[.bool q6.s, .int .i64 q6.lo, .int .i64 q6.hi]), Calm.isV (.bool true), Calm.isV (.bool true), Calm.isV (.bool true), Calm.isV (.bool false), Calm.isV (.bool true), Calm.isV (.bool true), Calm.anyV, Calm.isV (.bool true), Calm.isV (.bool true), Calm.isV (.bool true), Calm.isV (.bool false), Calm.isV (.bool true), Calm.isV (.bool true), Calm.anyV, Calm.isV (.bool true), Calm.isV (.bool true), Calm.isV (.bool true)] ?hL (by kernel_rfl) (by kernel_rfl) (Below.refl _ _) ?step ?fin
              case hL => repeat' (first | exact List.forall_mem_nil _ | refine List.forall_mem_cons.2 ⟨by first | exact Calm.stable_is _ | exact Calm.stable_row _ _ | exact Calm.stable_any, ?_⟩)
              case step =>
                refine Calm.Steps.cons (Calm.step_plain rfl ?_) ?_
                · intro a_ w1 hS hsz hold hdep K hK
                  have h19 : a_.tmps[19]? = some (.func (.func 13) #[] #[]) := (hold 19 (by kernel_rfl)).trans rfl
                  have e19 := Calm.at_getD h19
                  clear hsz hold hdep
                  have hcl := fun (b o : Nat) (h : b < _) => Below.cell hS (p := ⟨b, o, none⟩) h
                  go_simp
                  exact hK _ _ (Below.refl _ _) rfl
                refine Calm.Steps.cons (Calm.step_plain rfl ?_) ?_
                · intro a_ w1 hS hsz hold hdep K hK
                  have h4 : a_.tmps[4]? = some (.pointer (some ⟨w.heap.size, 0, none⟩)) := (hold 4 (by kernel_rfl)).trans rfl
                  have e4 := Calm.at_getD h4
                  clear hsz hold hdep
                  have hcl := fun (b o : Nat) (h : b < _) => Below.cell hS (p := ⟨b, o, none⟩) h
                  go_simp
                  exact hK _ _ (Below.refl _ _) rfl
                refine Calm.Steps.cons (Calm.step_plain rfl ?_) ?_
                · intro a_ w1 hS hsz hold hdep K hK
                  have h5 : a_.tmps[5]? = some (.pointer (some ⟨w.heap.size + 1, 0, none⟩)) := (hold 5 (by kernel_rfl)).trans rfl
                  have e5 := Calm.at_getD h5
                  clear hsz hold hdep
                  have hcl := fun (b o : Nat) (h : b < _) => Below.cell hS (p := ⟨b, o, none⟩) h
                  go_simp
                  exact hK _ _ (Below.refl _ _) rfl
                refine Calm.Steps.cons (Calm.step_plain rfl ?_) ?_
                · intro a_ w1 hS hsz hold hdep K hK
                  obtain ⟨u55, h55, (k55 : u55 = .agg #[.bool a.s, .int .i64 a.lo, .int .i64 a.hi])⟩ := hdep 1 (by kernel_rfl) _ rfl
                  subst k55
                  replace h55 := h55 55 rfl
                  have e55 := Calm.at_getD h55
                  obtain ⟨u56, h56, (k56 : u56 = .agg #[.bool b.s, .int .i64 b.lo, .int .i64 b.hi])⟩ := hdep 2 (by kernel_rfl) _ rfl
                  subst k56
                  replace h56 := h56 56 rfl
                  have e56 := Calm.at_getD h56
                  clear hsz hold hdep
                  go_simp
                  refine (arith_add' a b x y hx hy p1 h1 _).mono ?_; rintro e w' ⟨rfl, hB⟩
                  exact hK _ _ hB rfl
                refine Calm.Steps.cons (Calm.step_plain rfl ?_) ?_
                · intro a_ w1 hS hsz hold hdep K hK
                  have h9 : a_.tmps[9]? = some (.pointer (some ⟨g9, 0, none⟩)) := (hold 9 (by kernel_rfl)).trans rfl
                  have e9 := Calm.at_getD h9
                  clear hsz hold hdep
                  have hcl := fun (b o : Nat) (h : b < _) => Below.cell hS (p := ⟨b, o, none⟩) h
                  go_simp
                  exact hK _ _ (Below.refl _ _) rfl
                refine Calm.Steps.cons (Calm.step_plain rfl ?_) ?_
                · intro a_ w1 hS hsz hold hdep K hK
                  have h10 : a_.tmps[10]? = some (.pointer (some ⟨g10, 0, none⟩)) := (hold 10 (by kernel_rfl)).trans rfl
                  have e10 := Calm.at_getD h10
                  clear hsz hold hdep
                  have hcl := fun (b o : Nat) (h : b < _) => Below.cell hS (p := ⟨b, o, none⟩) h
                  go_simp
                  exact hK _ _ (Below.refl _ _) rfl
                refine Calm.Steps.cons (Calm.step_plain rfl ?_) ?_
                · intro a_ w1 hS hsz hold hdep K hK
                  obtain ⟨u58, h58, (k58 : u58 = .agg #[.bool X.s, .int .i64 X.lo, .int .i64 X.hi])⟩ := hdep 4 (by kernel_rfl) _ rfl
                  subst k58
                  replace h58 := h58 58 rfl
                  have e58 := Calm.at_getD h58
                  obtain ⟨u59, h59, (k59 : u59 = .agg #[.bool Y.s, .int .i64 Y.lo, .int .i64 Y.hi])⟩ := hdep 5 (by kernel_rfl) _ rfl
                  subst k59
                  replace h59 := h59 59 rfl
                  have e59 := Calm.at_getD h59
                  clear hsz hold hdep
                  go_simp
                  refine (arith_add' X Y X Y hXX hYY q1 k1 _).mono ?_; rintro e w' ⟨rfl, hB⟩
                  exact hK _ _ hB rfl
                refine Calm.Steps.cons (Calm.step_plain rfl ?_) ?_
                · intro a_ w1 hS hsz hold hdep K hK
                  obtain ⟨u54, h54, (k54 : u54 = .func (.func 13) #[] #[])⟩ := hdep 0 (by kernel_rfl) _ rfl
                  subst k54
                  replace h54 := h54 54 rfl
                  have e54 := Calm.at_getD h54
                  obtain ⟨u57, h57, (k57 : u57 = .agg #[.bool p1.s, .int .i64 p1.lo, .int .i64 p1.hi])⟩ := hdep 3 (by kernel_rfl) _ rfl
                  subst k57
                  replace h57 := h57 57 rfl
                  have e57 := Calm.at_getD h57
                  obtain ⟨u60, h60, (k60 : u60 = .agg #[.bool q1.s, .int .i64 q1.lo, .int .i64 q1.hi])⟩ := hdep 6 (by kernel_rfl) _ rfl
                  subst k60
                  replace h60 := h60 60 rfl
                  have e60 := Calm.at_getD h60
                  clear hsz hold hdep
                  go_simp
                  refine (leq_any p1 q1 p1 q1 np1 nq1 true l1 _).mono ?_; rintro e w' ⟨rfl, hB⟩
                  exact hK _ _ hB rfl
                refine Calm.Steps.cons (Calm.step_plain rfl ?_) ?_
                · intro a_ w1 hS hsz hold hdep K hK
                  obtain ⟨u61, h61, (k61 : u61 = .bool true)⟩ := hdep 7 (by kernel_rfl) _ rfl
                  subst k61
                  replace h61 := h61 61 rfl
                  have e61 := Calm.at_getD h61
                  clear hsz hold hdep
                  have hcl := fun (b o : Nat) (h : b < _) => Below.cell hS (p := ⟨b, o, none⟩) h
                  go_simp
                  exact hK _ _ (Below.refl _ _) rfl
                refine Calm.Steps.cons (Calm.step_wanted (b := true) rfl rfl rfl (by kernel_rfl) (fun _ _ h => h) ?_) ?_
                · intro a_ w1 hS hsz hold hdep K hK
                  have h19 : a_.tmps[19]? = some (.func (.func 13) #[] #[]) := (hold 19 (by kernel_rfl)).trans rfl
                  have e19 := Calm.at_getD h19
                  clear hsz hold hdep
                  have hcl := fun (b o : Nat) (h : b < _) => Below.cell hS (p := ⟨b, o, none⟩) h
                  go_simp
                  exact hK _ _ (Below.refl _ _) rfl
                refine Calm.Steps.cons (Calm.step_wanted (b := true) rfl rfl rfl (by kernel_rfl) (fun _ _ h => h) ?_) ?_
                · intro a_ w1 hS hsz hold hdep K hK
                  have h4 : a_.tmps[4]? = some (.pointer (some ⟨w.heap.size, 0, none⟩)) := (hold 4 (by kernel_rfl)).trans rfl
                  have e4 := Calm.at_getD h4
                  clear hsz hold hdep
                  have hcl := fun (b o : Nat) (h : b < _) => Below.cell hS (p := ⟨b, o, none⟩) h
                  go_simp
                  exact hK _ _ (Below.refl _ _) rfl
                refine Calm.Steps.cons (Calm.step_wanted (b := true) rfl rfl rfl (by kernel_rfl) (fun _ _ h => h) ?_) ?_
                · intro a_ w1 hS hsz hold hdep K hK
                  have h5 : a_.tmps[5]? = some (.pointer (some ⟨w.heap.size + 1, 0, none⟩)) := (hold 5 (by kernel_rfl)).trans rfl
                  have e5 := Calm.at_getD h5
                  clear hsz hold hdep
                  have hcl := fun (b o : Nat) (h : b < _) => Below.cell hS (p := ⟨b, o, none⟩) h
                  go_simp
                  exact hK _ _ (Below.refl _ _) rfl
                refine Calm.Steps.cons (Calm.step_wanted (b := true) rfl rfl rfl (by kernel_rfl) (fun _ _ h => h) ?_) ?_
                · intro a_ w1 hS hsz hold hdep K hK
                  obtain ⟨u64, h64, (k64 : u64 = .agg #[.bool a.s, .int .i64 a.lo, .int .i64 a.hi])⟩ := hdep 10 (by kernel_rfl) _ rfl
                  subst k64
                  replace h64 := h64 64 rfl
                  have e64 := Calm.at_getD h64
                  obtain ⟨u65, h65, (k65 : u65 = .agg #[.bool b.s, .int .i64 b.lo, .int .i64 b.hi])⟩ := hdep 11 (by kernel_rfl) _ rfl
                  subst k65
                  replace h65 := h65 65 rfl
                  have e65 := Calm.at_getD h65
                  clear hsz hold hdep
                  go_simp
                  refine (arith_sub' a b x y hx hy p2 h2 _).mono ?_; rintro e w' ⟨rfl, hB⟩
                  exact hK _ _ hB rfl
                refine Calm.Steps.cons (Calm.step_wanted (b := true) rfl rfl rfl (by kernel_rfl) (fun _ _ h => h) ?_) ?_
                · intro a_ w1 hS hsz hold hdep K hK
                  have h9 : a_.tmps[9]? = some (.pointer (some ⟨g9, 0, none⟩)) := (hold 9 (by kernel_rfl)).trans rfl
                  have e9 := Calm.at_getD h9
                  clear hsz hold hdep
                  have hcl := fun (b o : Nat) (h : b < _) => Below.cell hS (p := ⟨b, o, none⟩) h
                  go_simp
                  exact hK _ _ (Below.refl _ _) rfl
                refine Calm.Steps.cons (Calm.step_wanted (b := true) rfl rfl rfl (by kernel_rfl) (fun _ _ h => h) ?_) ?_
                · intro a_ w1 hS hsz hold hdep K hK
                  have h10 : a_.tmps[10]? = some (.pointer (some ⟨g10, 0, none⟩)) := (hold 10 (by kernel_rfl)).trans rfl
                  have e10 := Calm.at_getD h10
                  clear hsz hold hdep
                  have hcl := fun (b o : Nat) (h : b < _) => Below.cell hS (p := ⟨b, o, none⟩) h
                  go_simp
                  exact hK _ _ (Below.refl _ _) rfl
                refine Calm.Steps.cons (Calm.step_wanted (b := true) rfl rfl rfl (by kernel_rfl) (fun _ _ h => h) ?_) ?_
                · intro a_ w1 hS hsz hold hdep K hK
                  obtain ⟨u67, h67, (k67 : u67 = .agg #[.bool X.s, .int .i64 X.lo, .int .i64 X.hi])⟩ := hdep 13 (by kernel_rfl) _ rfl
                  subst k67
                  replace h67 := h67 67 rfl
                  have e67 := Calm.at_getD h67
                  obtain ⟨u68, h68, (k68 : u68 = .agg #[.bool Y.s, .int .i64 Y.lo, .int .i64 Y.hi])⟩ := hdep 14 (by kernel_rfl) _ rfl
                  subst k68
                  replace h68 := h68 68 rfl
                  have e68 := Calm.at_getD h68
                  clear hsz hold hdep
                  go_simp
                  refine (arith_sub' X Y X Y hXX hYY q2 k2 _).mono ?_; rintro e w' ⟨rfl, hB⟩
                  exact hK _ _ hB rfl
                refine Calm.Steps.cons (Calm.step_wanted (b := true) rfl rfl rfl (by kernel_rfl) (fun _ _ h => h) ?_) ?_
                · intro a_ w1 hS hsz hold hdep K hK
                  obtain ⟨u63, h63, (k63 : u63 = .func (.func 13) #[] #[])⟩ := hdep 9 (by kernel_rfl) _ rfl
                  subst k63
                  replace h63 := h63 63 rfl
                  have e63 := Calm.at_getD h63
                  obtain ⟨u66, h66, (k66 : u66 = .agg #[.bool p2.s, .int .i64 p2.lo, .int .i64 p2.hi])⟩ := hdep 12 (by kernel_rfl) _ rfl
                  subst k66
                  replace h66 := h66 66 rfl
                  have e66 := Calm.at_getD h66
                  obtain ⟨u69, h69, (k69 : u69 = .agg #[.bool q2.s, .int .i64 q2.lo, .int .i64 q2.hi])⟩ := hdep 15 (by kernel_rfl) _ rfl
                  subst k69
                  replace h69 := h69 69 rfl
                  have e69 := Calm.at_getD h69
                  clear hsz hold hdep
                  go_simp
                  refine (leq_any p2 q2 p2 q2 np2 nq2 true l2 _).mono ?_; rintro e w' ⟨rfl, hB⟩
                  exact hK _ _ hB rfl
                refine Calm.Steps.cons (Calm.step_plain rfl ?_) ?_
                · intro a_ w1 hS hsz hold hdep K hK
                  obtain ⟨u62, h62, (k62 : u62 = .bool true)⟩ := hdep 8 (by kernel_rfl) _ rfl
                  subst k62
                  replace h62 := h62 62 rfl
                  have e62 := Calm.at_getD h62
                  obtain ⟨u70, h70, (k70 : u70 = .bool true)⟩ := hdep 16 (by kernel_rfl) _ rfl
                  subst k70
                  replace h70 := h70 70 rfl
                  have e70 := Calm.at_getD h70
                  clear hsz hold hdep
                  have hcl := fun (b o : Nat) (h : b < _) => Below.cell hS (p := ⟨b, o, none⟩) h
                  go_simp
                  exact hK _ _ (Below.refl _ _) rfl
                refine Calm.Steps.cons (Calm.step_plain rfl ?_) ?_
                · intro a_ w1 hS hsz hold hdep K hK
                  obtain ⟨u71, h71, (k71 : u71 = .bool true)⟩ := hdep 17 (by kernel_rfl) _ rfl
                  subst k71
                  replace h71 := h71 71 rfl
                  have e71 := Calm.at_getD h71
                  clear hsz hold hdep
                  have hcl := fun (b o : Nat) (h : b < _) => Below.cell hS (p := ⟨b, o, none⟩) h
                  go_simp
                  exact hK _ _ (Below.refl _ _) rfl
                refine Calm.Steps.cons (Calm.step_wanted (b := true) rfl rfl rfl (by kernel_rfl) (fun _ _ h => h) ?_) ?_
                · intro a_ w1 hS hsz hold hdep K hK
                  have h19 : a_.tmps[19]? = some (.func (.func 13) #[] #[]) := (hold 19 (by kernel_rfl)).trans rfl
                  have e19 := Calm.at_getD h19
                  clear hsz hold hdep
                  have hcl := fun (b o : Nat) (h : b < _) => Below.cell hS (p := ⟨b, o, none⟩) h
                  go_simp
                  exact hK _ _ (Below.refl _ _) rfl
                refine Calm.Steps.cons (Calm.step_wanted (b := true) rfl rfl rfl (by kernel_rfl) (fun _ _ h => h) ?_) ?_
                · intro a_ w1 hS hsz hold hdep K hK
                  have h4 : a_.tmps[4]? = some (.pointer (some ⟨w.heap.size, 0, none⟩)) := (hold 4 (by kernel_rfl)).trans rfl
                  have e4 := Calm.at_getD h4
                  clear hsz hold hdep
                  have hcl := fun (b o : Nat) (h : b < _) => Below.cell hS (p := ⟨b, o, none⟩) h
                  go_simp
                  exact hK _ _ (Below.refl _ _) rfl
                refine Calm.Steps.cons (Calm.step_wanted (b := true) rfl rfl rfl (by kernel_rfl) (fun _ _ h => h) ?_) ?_
                · intro a_ w1 hS hsz hold hdep K hK
                  have h5 : a_.tmps[5]? = some (.pointer (some ⟨w.heap.size + 1, 0, none⟩)) := (hold 5 (by kernel_rfl)).trans rfl
                  have e5 := Calm.at_getD h5
                  clear hsz hold hdep
                  have hcl := fun (b o : Nat) (h : b < _) => Below.cell hS (p := ⟨b, o, none⟩) h
                  go_simp
                  exact hK _ _ (Below.refl _ _) rfl
                refine Calm.Steps.cons (Calm.step_wanted (b := true) rfl rfl rfl (by kernel_rfl) (fun _ _ h => h) ?_) ?_
                · intro a_ w1 hS hsz hold hdep K hK
                  obtain ⟨u74, h74, (k74 : u74 = .agg #[.bool a.s, .int .i64 a.lo, .int .i64 a.hi])⟩ := hdep 20 (by kernel_rfl) _ rfl
                  subst k74
                  replace h74 := h74 74 rfl
                  have e74 := Calm.at_getD h74
                  obtain ⟨u75, h75, (k75 : u75 = .agg #[.bool b.s, .int .i64 b.lo, .int .i64 b.hi])⟩ := hdep 21 (by kernel_rfl) _ rfl
                  subst k75
                  replace h75 := h75 75 rfl
                  have e75 := Calm.at_getD h75
                  clear hsz hold hdep
                  go_simp
                  refine (arith_mul a b x y hx hy ox.out oy.out p3 h3 _).mono ?_; rintro e w' ⟨rfl, hB⟩
                  exact hK _ _ hB rfl
                refine Calm.Steps.cons (Calm.step_wanted (b := true) rfl rfl rfl (by kernel_rfl) (fun _ _ h => h) ?_) ?_
                · intro a_ w1 hS hsz hold hdep K hK
                  have h9 : a_.tmps[9]? = some (.pointer (some ⟨g9, 0, none⟩)) := (hold 9 (by kernel_rfl)).trans rfl
                  have e9 := Calm.at_getD h9
                  clear hsz hold hdep
                  have hcl := fun (b o : Nat) (h : b < _) => Below.cell hS (p := ⟨b, o, none⟩) h
                  go_simp
                  exact hK _ _ (Below.refl _ _) rfl
                refine Calm.Steps.cons (Calm.step_wanted (b := true) rfl rfl rfl (by kernel_rfl) (fun _ _ h => h) ?_) ?_
                · intro a_ w1 hS hsz hold hdep K hK
                  have h10 : a_.tmps[10]? = some (.pointer (some ⟨g10, 0, none⟩)) := (hold 10 (by kernel_rfl)).trans rfl
                  have e10 := Calm.at_getD h10
                  clear hsz hold hdep
                  have hcl := fun (b o : Nat) (h : b < _) => Below.cell hS (p := ⟨b, o, none⟩) h
                  go_simp
                  exact hK _ _ (Below.refl _ _) rfl
                refine Calm.Steps.cons (Calm.step_wanted (b := true) rfl rfl rfl (by kernel_rfl) (fun _ _ h => h) ?_) ?_
                · intro a_ w1 hS hsz hold hdep K hK
                  obtain ⟨u77, h77, (k77 : u77 = .agg #[.bool X.s, .int .i64 X.lo, .int .i64 X.hi])⟩ := hdep 23 (by kernel_rfl) _ rfl
                  subst k77
                  replace h77 := h77 77 rfl
                  have e77 := Calm.at_getD h77
                  obtain ⟨u78, h78, (k78 : u78 = .agg #[.bool Y.s, .int .i64 Y.lo, .int .i64 Y.hi])⟩ := hdep 24 (by kernel_rfl) _ rfl
                  subst k78
                  replace h78 := h78 78 rfl
                  have e78 := Calm.at_getD h78
                  clear hsz hold hdep
                  go_simp
                  refine (arith_mul X Y X Y hXX hYY oX.out oY.out q3 k3 _).mono ?_; rintro e w' ⟨rfl, hB⟩
                  exact hK _ _ hB rfl
                refine Calm.Steps.cons (Calm.step_wanted (b := true) rfl rfl rfl (by kernel_rfl) (fun _ _ h => h) ?_) ?_
                · intro a_ w1 hS hsz hold hdep K hK
                  obtain ⟨u73, h73, (k73 : u73 = .func (.func 13) #[] #[])⟩ := hdep 19 (by kernel_rfl) _ rfl
                  subst k73
                  replace h73 := h73 73 rfl
                  have e73 := Calm.at_getD h73
                  obtain ⟨u76, h76, (k76 : u76 = .agg #[.bool p3.s, .int .i64 p3.lo, .int .i64 p3.hi])⟩ := hdep 22 (by kernel_rfl) _ rfl
                  subst k76
                  replace h76 := h76 76 rfl
                  have e76 := Calm.at_getD h76
                  obtain ⟨u79, h79, (k79 : u79 = .agg #[.bool q3.s, .int .i64 q3.lo, .int .i64 q3.hi])⟩ := hdep 25 (by kernel_rfl) _ rfl
                  subst k79
                  replace h79 := h79 79 rfl
                  have e79 := Calm.at_getD h79
                  clear hsz hold hdep
                  go_simp
                  refine (leq_any p3 q3 p3 q3 np3 nq3 true l3 _).mono ?_; rintro e w' ⟨rfl, hB⟩
                  exact hK _ _ hB rfl
                refine Calm.Steps.cons (Calm.step_plain rfl ?_) ?_
                · intro a_ w1 hS hsz hold hdep K hK
                  obtain ⟨u72, h72, (k72 : u72 = .bool true)⟩ := hdep 18 (by kernel_rfl) _ rfl
                  subst k72
                  replace h72 := h72 72 rfl
                  have e72 := Calm.at_getD h72
                  obtain ⟨u80, h80, (k80 : u80 = .bool true)⟩ := hdep 26 (by kernel_rfl) _ rfl
                  subst k80
                  replace h80 := h80 80 rfl
                  have e80 := Calm.at_getD h80
                  clear hsz hold hdep
                  have hcl := fun (b o : Nat) (h : b < _) => Below.cell hS (p := ⟨b, o, none⟩) h
                  go_simp
                  exact hK _ _ (Below.refl _ _) rfl
                refine Calm.Steps.cons (Calm.step_plain rfl ?_) ?_
                · intro a_ w1 hS hsz hold hdep K hK
                  obtain ⟨u81, h81, (k81 : u81 = .bool true)⟩ := hdep 27 (by kernel_rfl) _ rfl
                  subst k81
                  replace h81 := h81 81 rfl
                  have e81 := Calm.at_getD h81
                  clear hsz hold hdep
                  have hcl := fun (b o : Nat) (h : b < _) => Below.cell hS (p := ⟨b, o, none⟩) h
                  go_simp
                  exact hK _ _ (Below.refl _ _) rfl
                refine Calm.Steps.cons (Calm.step_wanted (b := true) rfl rfl rfl (by kernel_rfl) (fun _ _ h => h) ?_) ?_
                · intro a_ w1 hS hsz hold hdep K hK
                  have h19 : a_.tmps[19]? = some (.func (.func 13) #[] #[]) := (hold 19 (by kernel_rfl)).trans rfl
                  have e19 := Calm.at_getD h19
                  clear hsz hold hdep
                  have hcl := fun (b o : Nat) (h : b < _) => Below.cell hS (p := ⟨b, o, none⟩) h
                  go_simp
                  exact hK _ _ (Below.refl _ _) rfl
                refine Calm.Steps.cons (Calm.step_wanted (b := true) rfl rfl rfl (by kernel_rfl) (fun _ _ h => h) ?_) ?_
                · intro a_ w1 hS hsz hold hdep K hK
                  have h4 : a_.tmps[4]? = some (.pointer (some ⟨w.heap.size, 0, none⟩)) := (hold 4 (by kernel_rfl)).trans rfl
                  have e4 := Calm.at_getD h4
                  clear hsz hold hdep
                  have hcl := fun (b o : Nat) (h : b < _) => Below.cell hS (p := ⟨b, o, none⟩) h
                  go_simp
                  exact hK _ _ (Below.refl _ _) rfl
                refine Calm.Steps.cons (Calm.step_wanted (b := true) rfl rfl rfl (by kernel_rfl) (fun _ _ h => h) ?_) ?_
                · intro a_ w1 hS hsz hold hdep K hK
                  obtain ⟨u84, h84, (k84 : u84 = .agg #[.bool a.s, .int .i64 a.lo, .int .i64 a.hi])⟩ := hdep 30 (by kernel_rfl) _ rfl
                  subst k84
                  replace h84 := h84 84 rfl
                  have e84 := Calm.at_getD h84
                  clear hsz hold hdep
                  go_simp
                  refine (neg_any a p4 h4 _).mono ?_; rintro e w' ⟨rfl, hB⟩
                  exact hK _ _ hB rfl
                refine Calm.Steps.cons (Calm.step_wanted (b := true) rfl rfl rfl (by kernel_rfl) (fun _ _ h => h) ?_) ?_
                · intro a_ w1 hS hsz hold hdep K hK
                  have h9 : a_.tmps[9]? = some (.pointer (some ⟨g9, 0, none⟩)) := (hold 9 (by kernel_rfl)).trans rfl
                  have e9 := Calm.at_getD h9
                  clear hsz hold hdep
                  have hcl := fun (b o : Nat) (h : b < _) => Below.cell hS (p := ⟨b, o, none⟩) h
                  go_simp
                  exact hK _ _ (Below.refl _ _) rfl
                refine Calm.Steps.cons (Calm.step_wanted (b := true) rfl rfl rfl (by kernel_rfl) (fun _ _ h => h) ?_) ?_
                · intro a_ w1 hS hsz hold hdep K hK
                  obtain ⟨u86, h86, (k86 : u86 = .agg #[.bool X.s, .int .i64 X.lo, .int .i64 X.hi])⟩ := hdep 32 (by kernel_rfl) _ rfl
                  subst k86
                  replace h86 := h86 86 rfl
                  have e86 := Calm.at_getD h86
                  clear hsz hold hdep
                  go_simp
                  refine (neg_any X q4 k4 _).mono ?_; rintro e w' ⟨rfl, hB⟩
                  exact hK _ _ hB rfl
                refine Calm.Steps.cons (Calm.step_wanted (b := true) rfl rfl rfl (by kernel_rfl) (fun _ _ h => h) ?_) ?_
                · intro a_ w1 hS hsz hold hdep K hK
                  obtain ⟨u83, h83, (k83 : u83 = .func (.func 13) #[] #[])⟩ := hdep 29 (by kernel_rfl) _ rfl
                  subst k83
                  replace h83 := h83 83 rfl
                  have e83 := Calm.at_getD h83
                  obtain ⟨u85, h85, (k85 : u85 = .agg #[.bool p4.s, .int .i64 p4.lo, .int .i64 p4.hi])⟩ := hdep 31 (by kernel_rfl) _ rfl
                  subst k85
                  replace h85 := h85 85 rfl
                  have e85 := Calm.at_getD h85
                  obtain ⟨u87, h87, (k87 : u87 = .agg #[.bool q4.s, .int .i64 q4.lo, .int .i64 q4.hi])⟩ := hdep 33 (by kernel_rfl) _ rfl
                  subst k87
                  replace h87 := h87 87 rfl
                  have e87 := Calm.at_getD h87
                  clear hsz hold hdep
                  go_simp
                  refine (leq_any p4 q4 p4 q4 np4 nq4 true l4 _).mono ?_; rintro e w' ⟨rfl, hB⟩
                  exact hK _ _ hB rfl
                refine Calm.Steps.cons (Calm.step_plain rfl ?_) ?_
                · intro a_ w1 hS hsz hold hdep K hK
                  obtain ⟨u82, h82, (k82 : u82 = .bool true)⟩ := hdep 28 (by kernel_rfl) _ rfl
                  subst k82
                  replace h82 := h82 82 rfl
                  have e82 := Calm.at_getD h82
                  obtain ⟨u88, h88, (k88 : u88 = .bool true)⟩ := hdep 34 (by kernel_rfl) _ rfl
                  subst k88
                  replace h88 := h88 88 rfl
                  have e88 := Calm.at_getD h88
                  clear hsz hold hdep
                  have hcl := fun (b o : Nat) (h : b < _) => Below.cell hS (p := ⟨b, o, none⟩) h
                  go_simp
                  exact hK _ _ (Below.refl _ _) rfl
                refine Calm.Steps.cons (Calm.step_plain rfl ?_) ?_
                · intro a_ w1 hS hsz hold hdep K hK
                  obtain ⟨u89, h89, (k89 : u89 = .bool true)⟩ := hdep 35 (by kernel_rfl) _ rfl
                  subst k89
                  replace h89 := h89 89 rfl
                  have e89 := Calm.at_getD h89
                  clear hsz hold hdep
                  have hcl := fun (b o : Nat) (h : b < _) => Below.cell hS (p := ⟨b, o, none⟩) h
                  go_simp
                  exact hK _ _ (Below.refl _ _) rfl
                refine Calm.Steps.cons (Calm.step_wanted (b := true) rfl rfl rfl (by kernel_rfl) (fun _ _ h => h) ?_) ?_
                · intro a_ w1 hS hsz hold hdep K hK
                  have h19 : a_.tmps[19]? = some (.func (.func 13) #[] #[]) := (hold 19 (by kernel_rfl)).trans rfl
                  have e19 := Calm.at_getD h19
                  clear hsz hold hdep
                  have hcl := fun (b o : Nat) (h : b < _) => Below.cell hS (p := ⟨b, o, none⟩) h
                  go_simp
                  exact hK _ _ (Below.refl _ _) rfl
                refine Calm.Steps.cons (Calm.step_wanted (b := true) rfl rfl rfl (by kernel_rfl) (fun _ _ h => h) ?_) ?_
                · intro a_ w1 hS hsz hold hdep K hK
                  have h11 : a_.tmps[11]? = some (.pointer (some ⟨g11, 0, none⟩)) := (hold 11 (by kernel_rfl)).trans rfl
                  have e11 := Calm.at_getD h11
                  clear hsz hold hdep
                  have hcl := fun (b o : Nat) (h : b < _) => Below.cell hS (p := ⟨b, o, none⟩) h
                  go_simp
                  exact hK _ _ (Below.refl _ _) rfl
                refine Calm.Steps.cons (Calm.step_wanted (b := true) rfl rfl rfl (by kernel_rfl) (fun _ _ h => h) ?_) ?_
                · intro a_ w1 hS hsz hold hdep K hK
                  have h13 : a_.tmps[13]? = some (.pointer (some ⟨g13, 0, none⟩)) := (hold 13 (by kernel_rfl)).trans rfl
                  have e13 := Calm.at_getD h13
                  clear hsz hold hdep
                  have hcl := fun (b o : Nat) (h : b < _) => Below.cell hS (p := ⟨b, o, none⟩) h
                  go_simp
                  exact hK _ _ (Below.refl _ _) rfl
                refine Calm.Steps.cons (Calm.step_wanted (b := true) rfl rfl rfl (by kernel_rfl) (fun _ _ h => h) ?_) ?_
                · intro a_ w1 hS hsz hold hdep K hK
                  obtain ⟨u91, h91, (k91 : u91 = .func (.func 13) #[] #[])⟩ := hdep 37 (by kernel_rfl) _ rfl
                  subst k91
                  replace h91 := h91 91 rfl
                  have e91 := Calm.at_getD h91
                  obtain ⟨u92, h92, (k92 : u92 = .agg #[.bool p5.s, .int .i64 p5.lo, .int .i64 p5.hi])⟩ := hdep 38 (by kernel_rfl) _ rfl
                  subst k92
                  replace h92 := h92 92 rfl
                  have e92 := Calm.at_getD h92
                  obtain ⟨u93, h93, (k93 : u93 = .agg #[.bool q5.s, .int .i64 q5.lo, .int .i64 q5.hi])⟩ := hdep 39 (by kernel_rfl) _ rfl
                  subst k93
                  replace h93 := h93 93 rfl
                  have e93 := Calm.at_getD h93
                  clear hsz hold hdep
                  go_simp
                  refine (leq_any p5 q5 p5 q5 np5 nq5 true l5 _).mono ?_; rintro e w' ⟨rfl, hB⟩
                  exact hK _ _ hB rfl
                refine Calm.Steps.cons (Calm.step_plain rfl ?_) ?_
                · intro a_ w1 hS hsz hold hdep K hK
                  obtain ⟨u90, h90, (k90 : u90 = .bool true)⟩ := hdep 36 (by kernel_rfl) _ rfl
                  subst k90
                  replace h90 := h90 90 rfl
                  have e90 := Calm.at_getD h90
                  obtain ⟨u94, h94, (k94 : u94 = .bool true)⟩ := hdep 40 (by kernel_rfl) _ rfl
                  subst k94
                  replace h94 := h94 94 rfl
                  have e94 := Calm.at_getD h94
                  clear hsz hold hdep
                  have hcl := fun (b o : Nat) (h : b < _) => Below.cell hS (p := ⟨b, o, none⟩) h
                  go_simp
                  exact hK _ _ (Below.refl _ _) rfl
                refine Calm.Steps.cons (Calm.step_plain rfl ?_) ?_
                · intro a_ w1 hS hsz hold hdep K hK
                  obtain ⟨u95, h95, (k95 : u95 = .bool true)⟩ := hdep 41 (by kernel_rfl) _ rfl
                  subst k95
                  replace h95 := h95 95 rfl
                  have e95 := Calm.at_getD h95
                  clear hsz hold hdep
                  have hcl := fun (b o : Nat) (h : b < _) => Below.cell hS (p := ⟨b, o, none⟩) h
                  go_simp
                  exact hK _ _ (Below.refl _ _) rfl
                refine Calm.Steps.cons (Calm.step_wanted (b := true) rfl rfl rfl (by kernel_rfl) (fun _ _ h => h) ?_) ?_
                · intro a_ w1 hS hsz hold hdep K hK
                  have h19 : a_.tmps[19]? = some (.func (.func 13) #[] #[]) := (hold 19 (by kernel_rfl)).trans rfl
                  have e19 := Calm.at_getD h19
                  clear hsz hold hdep
                  have hcl := fun (b o : Nat) (h : b < _) => Below.cell hS (p := ⟨b, o, none⟩) h
                  go_simp
                  exact hK _ _ (Below.refl _ _) rfl
                refine Calm.Steps.cons (Calm.step_wanted (b := true) rfl rfl rfl (by kernel_rfl) (fun _ _ h => h) ?_) ?_
                · intro a_ w1 hS hsz hold hdep K hK
                  have h15 : a_.tmps[15]? = some (.pointer (some ⟨g15, 0, none⟩)) := (hold 15 (by kernel_rfl)).trans rfl
                  have e15 := Calm.at_getD h15
                  clear hsz hold hdep
                  have hcl := fun (b o : Nat) (h : b < _) => Below.cell hS (p := ⟨b, o, none⟩) h
                  go_simp
                  exact hK _ _ (Below.refl _ _) rfl
                refine Calm.Steps.cons (Calm.step_wanted (b := true) rfl rfl rfl (by kernel_rfl) (fun _ _ h => h) ?_) ?_
                · intro a_ w1 hS hsz hold hdep K hK
                  have h17 : a_.tmps[17]? = some (.pointer (some ⟨g17, 0, none⟩)) := (hold 17 (by kernel_rfl)).trans rfl
                  have e17 := Calm.at_getD h17
                  clear hsz hold hdep
                  have hcl := fun (b o : Nat) (h : b < _) => Below.cell hS (p := ⟨b, o, none⟩) h
                  go_simp
                  exact hK _ _ (Below.refl _ _) rfl
                refine Calm.Steps.cons (Calm.step_wanted (b := true) rfl rfl rfl (by kernel_rfl) (fun _ _ h => h) ?_) ?_
                · intro a_ w1 hS hsz hold hdep K hK
                  obtain ⟨u97, h97, (k97 : u97 = .func (.func 13) #[] #[])⟩ := hdep 43 (by kernel_rfl) _ rfl
                  subst k97
                  replace h97 := h97 97 rfl
                  have e97 := Calm.at_getD h97
                  obtain ⟨u98, h98, (k98 : u98 = .agg #[.bool p6.s, .int .i64 p6.lo, .int .i64 p6.hi])⟩ := hdep 44 (by kernel_rfl) _ rfl
                  subst k98
                  replace h98 := h98 98 rfl
                  have e98 := Calm.at_getD h98
                  obtain ⟨u99, h99, (k99 : u99 = .agg #[.bool q6.s, .int .i64 q6.lo, .int .i64 q6.hi])⟩ := hdep 45 (by kernel_rfl) _ rfl
                  subst k99
                  replace h99 := h99 99 rfl
                  have e99 := Calm.at_getD h99
                  clear hsz hold hdep
                  go_simp
                  refine (leq_any p6 q6 p6 q6 np6 nq6 true l6 _).mono ?_; rintro e w' ⟨rfl, hB⟩
                  exact hK _ _ hB rfl
                refine Calm.Steps.cons (Calm.step_plain rfl ?_) ?_
                · intro a_ w1 hS hsz hold hdep K hK
                  obtain ⟨u96, h96, (k96 : u96 = .bool true)⟩ := hdep 42 (by kernel_rfl) _ rfl
                  subst k96
                  replace h96 := h96 96 rfl
                  have e96 := Calm.at_getD h96
                  obtain ⟨u100, h100, (k100 : u100 = .bool true)⟩ := hdep 46 (by kernel_rfl) _ rfl
                  subst k100
                  replace h100 := h100 100 rfl
                  have e100 := Calm.at_getD h100
                  clear hsz hold hdep
                  have hcl := fun (b o : Nat) (h : b < _) => Below.cell hS (p := ⟨b, o, none⟩) h
                  go_simp
                  exact hK _ _ (Below.refl _ _) rfl
                refine Calm.Steps.cons (Calm.step_plain rfl ?_) ?_
                · intro a_ w1 hS hsz hold hdep K hK
                  obtain ⟨u101, h101, (k101 : u101 = .bool true)⟩ := hdep 47 (by kernel_rfl) _ rfl
                  subst k101
                  replace h101 := h101 101 rfl
                  have e101 := Calm.at_getD h101
                  clear hsz hold hdep
                  have hcl := fun (b o : Nat) (h : b < _) => Below.cell hS (p := ⟨b, o, none⟩) h
                  go_simp
                  exact hK _ _ (Below.refl _ _) rfl
                refine Calm.Steps.cons (Calm.step_wanted (b := true) rfl rfl rfl (by kernel_rfl) (fun _ _ h => h) ?_) ?_
                · intro a_ w1 hS hsz hold hdep K hK
                  have h12 : a_.tmps[12]? = some (.bool false) := (hold 12 (by kernel_rfl)).trans rfl
                  have e12 := Calm.at_getD h12
                  clear hsz hold hdep
                  have hcl := fun (b o : Nat) (h : b < _) => Below.cell hS (p := ⟨b, o, none⟩) h
                  go_simp
                  exact hK _ _ (Below.refl _ _) rfl
                refine Calm.Steps.cons (Calm.step_wanted (b := true) rfl rfl rfl (by kernel_rfl) (fun _ _ h => h) ?_) ?_
                · intro a_ w1 hS hsz hold hdep K hK
                  obtain ⟨u103, h103, (k103 : u103 = .bool false)⟩ := hdep 49 (by kernel_rfl) _ rfl
                  subst k103
                  replace h103 := h103 103 rfl
                  have e103 := Calm.at_getD h103
                  clear hsz hold hdep
                  have hcl := fun (b o : Nat) (h : b < _) => Below.cell hS (p := ⟨b, o, none⟩) h
                  go_simp
                  exact hK _ _ (Below.refl _ _) rfl
                refine Calm.Steps.cons (Calm.step_wanted (b := true) rfl rfl rfl (by kernel_rfl) (fun _ _ h => h) ?_) ?_
                · intro a_ w1 hS hsz hold hdep K hK
                  obtain ⟨u104, h104, (k104 : u104 = .bool true)⟩ := hdep 50 (by kernel_rfl) _ rfl
                  subst k104
                  replace h104 := h104 104 rfl
                  have e104 := Calm.at_getD h104
                  clear hsz hold hdep
                  have hcl := fun (b o : Nat) (h : b < _) => Below.cell hS (p := ⟨b, o, none⟩) h
                  go_simp
                  exact hK _ _ (Below.refl _ _) rfl
                refine Calm.Steps.cons (Calm.step_unwanted (b := false) (c := true) (fun w => Below.refl _ _) rfl rfl rfl (by kernel_rfl) (fun _ _ h => h) (by decide) (fun _ => trivial)) ?_
                refine Calm.Steps.cons (Calm.step_wanted (b := true) rfl rfl rfl (by kernel_rfl) (fun _ _ h => h) ?_) ?_
                · intro a_ w1 hS hsz hold hdep K hK
                  obtain ⟨u105, h105, (k105 : u105 = .bool true)⟩ := hdep 51 (by kernel_rfl) _ rfl
                  subst k105
                  replace h105 := h105 105 rfl
                  have e105 := Calm.at_getD h105
                  obtain ⟨u106, h106, _⟩ := hdep 52 (by kernel_rfl) _ rfl
                  replace h106 := h106 106 rfl
                  have e106 := Calm.at_getD h106
                  clear hsz hold hdep
                  have hcl := fun (b o : Nat) (h : b < _) => Below.cell hS (p := ⟨b, o, none⟩) h
                  go_simp
                  exact hK _ _ (Below.refl _ _) rfl
                refine Calm.Steps.cons (Calm.step_plain rfl ?_) ?_
                · intro a_ w1 hS hsz hold hdep K hK
                  obtain ⟨u102, h102, (k102 : u102 = .bool true)⟩ := hdep 48 (by kernel_rfl) _ rfl
                  subst k102
                  replace h102 := h102 102 rfl
                  have e102 := Calm.at_getD h102
                  obtain ⟨u107, h107, (k107 : u107 = .bool true)⟩ := hdep 53 (by kernel_rfl) _ rfl
                  subst k107
                  replace h107 := h107 107 rfl
                  have e107 := Calm.at_getD h107
                  clear hsz hold hdep
                  have hcl := fun (b o : Nat) (h : b < _) => Below.cell hS (p := ⟨b, o, none⟩) h
                  go_simp
                  exact hK _ _ (Below.refl _ _) rfl
                refine Calm.Steps.cons (Calm.step_plain rfl ?_) ?_
                · intro a_ w1 hS hsz hold hdep K hK
                  obtain ⟨u108, h108, (k108 : u108 = .bool true)⟩ := hdep 54 (by kernel_rfl) _ rfl
                  subst k108
                  replace h108 := h108 108 rfl
                  have e108 := Calm.at_getD h108
                  clear hsz hold hdep
                  have hcl := fun (b o : Nat) (h : b < _) => Below.cell hS (p := ⟨b, o, none⟩) h
                  go_simp
                  exact hK _ _ (Below.refl _ _) rfl
                refine Calm.Steps.cons (Calm.step_wanted (b := true) rfl rfl rfl (by kernel_rfl) (fun _ _ h => h) ?_) ?_
                · intro a_ w1 hS hsz hold hdep K hK
                  have h16 : a_.tmps[16]? = some (.bool false) := (hold 16 (by kernel_rfl)).trans rfl
                  have e16 := Calm.at_getD h16
                  clear hsz hold hdep
                  have hcl := fun (b o : Nat) (h : b < _) => Below.cell hS (p := ⟨b, o, none⟩) h
                  go_simp
                  exact hK _ _ (Below.refl _ _) rfl
                refine Calm.Steps.cons (Calm.step_wanted (b := true) rfl rfl rfl (by kernel_rfl) (fun _ _ h => h) ?_) ?_
                · intro a_ w1 hS hsz hold hdep K hK
                  obtain ⟨u110, h110, (k110 : u110 = .bool false)⟩ := hdep 56 (by kernel_rfl) _ rfl
                  subst k110
                  replace h110 := h110 110 rfl
                  have e110 := Calm.at_getD h110
                  clear hsz hold hdep
                  have hcl := fun (b o : Nat) (h : b < _) => Below.cell hS (p := ⟨b, o, none⟩) h
                  go_simp
                  exact hK _ _ (Below.refl _ _) rfl
                refine Calm.Steps.cons (Calm.step_wanted (b := true) rfl rfl rfl (by kernel_rfl) (fun _ _ h => h) ?_) ?_
                · intro a_ w1 hS hsz hold hdep K hK
                  obtain ⟨u111, h111, (k111 : u111 = .bool true)⟩ := hdep 57 (by kernel_rfl) _ rfl
                  subst k111
                  replace h111 := h111 111 rfl
                  have e111 := Calm.at_getD h111
                  clear hsz hold hdep
                  have hcl := fun (b o : Nat) (h : b < _) => Below.cell hS (p := ⟨b, o, none⟩) h
                  go_simp
                  exact hK _ _ (Below.refl _ _) rfl
                refine Calm.Steps.cons (Calm.step_unwanted (b := false) (c := true) (fun w => Below.refl _ _) rfl rfl rfl (by kernel_rfl) (fun _ _ h => h) (by decide) (fun _ => trivial)) ?_
                refine Calm.Steps.cons (Calm.step_wanted (b := true) rfl rfl rfl (by kernel_rfl) (fun _ _ h => h) ?_) ?_
                · intro a_ w1 hS hsz hold hdep K hK
                  obtain ⟨u112, h112, (k112 : u112 = .bool true)⟩ := hdep 58 (by kernel_rfl) _ rfl
                  subst k112
                  replace h112 := h112 112 rfl
                  have e112 := Calm.at_getD h112
                  obtain ⟨u113, h113, _⟩ := hdep 59 (by kernel_rfl) _ rfl
                  replace h113 := h113 113 rfl
                  have e113 := Calm.at_getD h113
                  clear hsz hold hdep
                  have hcl := fun (b o : Nat) (h : b < _) => Below.cell hS (p := ⟨b, o, none⟩) h
                  go_simp
                  exact hK _ _ (Below.refl _ _) rfl
                refine Calm.Steps.cons (Calm.step_plain rfl ?_) ?_
                · intro a_ w1 hS hsz hold hdep K hK
                  obtain ⟨u109, h109, (k109 : u109 = .bool true)⟩ := hdep 55 (by kernel_rfl) _ rfl
                  subst k109
                  replace h109 := h109 109 rfl
                  have e109 := Calm.at_getD h109
                  obtain ⟨u114, h114, (k114 : u114 = .bool true)⟩ := hdep 60 (by kernel_rfl) _ rfl
                  subst k114
                  replace h114 := h114 114 rfl
                  have e114 := Calm.at_getD h114
                  clear hsz hold hdep
                  have hcl := fun (b o : Nat) (h : b < _) => Below.cell hS (p := ⟨b, o, none⟩) h
                  go_simp
                  exact hK _ _ (Below.refl _ _) rfl
                refine Calm.Steps.cons (Calm.step_plain rfl ?_) ?_
                · intro a_ w1 hS hsz hold hdep K hK
                  obtain ⟨u115, h115, (k115 : u115 = .bool true)⟩ := hdep 61 (by kernel_rfl) _ rfl
                  subst k115
                  replace h115 := h115 115 rfl
                  have e115 := Calm.at_getD h115
                  clear hsz hold hdep
                  have hcl := fun (b o : Nat) (h : b < _) => Below.cell hS (p := ⟨b, o, none⟩) h
                  go_simp
                  exact hK _ _ (Below.refl _ _) rfl
                exact Calm.Steps.nil
              case fin =>
                intro a_ w1 hS hsz hdf hold hk
                obtain ⟨u8, h8_, (k8_ : u8 = .bool true)⟩ := hk 62 _ rfl
                subst k8_
                replace h8_ := h8_ 8 rfl
                have e8_ := Calm.at_getD h8_
                replace hdf : a_.defers = [] := hdf
                clear hold hk hsz
                go_wp2_with fail
                refine bodyPost_ret (v := .bool true) (by simp [results, Try.results9, *, go_sem]) hdf ?_
                exact ⟨rfl, below_call hB0 hS⟩
            · refine Calm.wp_calm (by kernel_rfl) _ [Calm.isV (.func (.func 13) #[] #[]), Calm.isV (.agg #[.bool a.s, .int .i64 a.lo, .int .i64 a.hi]), Calm.isV (.agg #[.bool b.s, .int .i64 b.lo, .int .i64 b.hi]), Calm.isV (.agg #[.bool p1.s, .int .i64 p1.lo, .int .i64 p1.hi]), Calm.isV (.agg #[.bool X.s, .int .i64 X.lo, .int .i64 X.hi]), Calm.isV (.agg #[.bool Y.s, .int .i64 Y.lo, .int .i64 Y.hi]), Calm.isV (.agg #[.bool q1.s, .int .i64 q1.lo, .int .i64 q1.hi]), Calm.isV (.bool true), Calm.isV (.bool true), Calm.isV (.func (.func 13) #[] #[]), Calm.isV (.agg #[.bool a.s, .int .i64 a.lo, .int .i64 a.hi]), Calm.isV (.agg #[.bool b.s, .int .i64 b.lo, .int .i64 b.hi]), Calm.isV (.agg #[.bool p2.s, .int .i64 p2.lo, .int .i64 p2.hi]), Calm.isV (.agg #[.bool X.s, .int .i64 X.lo, .int .i64 X.hi]), Calm.isV (.agg #[.bool Y.s, .int .i64 Y.lo, .int .i64 Y.hi]), Calm.isV (.agg #[.bool q2.s, .int .i64 q2.lo, .int .i64 q2.hi]), Calm.isV (.bool true), Calm.isV (.bool true), Calm.isV (.bool true), Calm.isV (.func (.func 13) #[] #[]), Calm.isV (.agg #[.bool a.s, .int .i64 a.lo, .int .i64 a.hi]), Calm.isV (.agg #[.bool b.s, .int .i64 b.lo, .int .i64 b.hi]), Calm.isV (.agg #[.bool p3.s, .int .i64 p3.lo, .int .i64 p3.hi]), Calm.isV (.agg #[.bool X.s, .int .i64 X.lo, .int .i64 X.hi]), Calm.isV (.agg #[.bool Y.s, .int .i64 Y.lo, .int .i64 Y.hi]), Calm.isV (.agg #[.bool q3.s, .int .i64 q3.lo, .int .i64 q3.hi]), Calm.isV (.bool true), Calm.isV (.bool true), Calm.isV (.bool true), Calm.isV (.func (.func 13) #[] #[]), Calm.isV (.agg #[.bool a.s, .int .i64 a.lo, .int .i64 a.hi]), Calm.isV (.agg #[.bool p4.s, .int .i64 p4.lo, .int .i64 p4.hi]), Calm.isV (.agg #[.bool X.s, .int .i64 X.lo, .int .i64 X.hi]), Calm.isV (.agg #[.bool q4.s, .int .i64 q4.lo, .int .i64 q4.hi]), Calm.isV (.bool true), Calm.isV (.bool true), Calm.isV (.bool true), Calm.isV (.func (.func 13) #[] #[]), Calm.isV (.agg #[.bool p5.s, .int .i64 p5.lo, .int .i64 p5.hi]), Calm.isV (.agg #[.bool q5.s, .int .i64 q5.lo, .int .i64 q5.hi]), Calm.isV (.bool true), Calm.isV (.bool true), Calm.isV (.bool true), Calm.isV (.func (.func 13) #[] #[]), Calm.isV (.agg #[.bool p6.s, .int .i64 p6.lo, .int .i64 p6.hi]), Calm.isV (.agg #[.bool q6.s, .int .i64 q6.lo, .int .i64 q6.hi]), Calm.isV (.bool true), Calm.isV (.bool true), Calm.isV (.bool true), Calm.isV (.bool true), Calm.isV (.bool false), Calm.isV (.bool false), Calm.isV (.bool true), Calm.isV (.bool true), Calm.isV (.bool true), Calm.isV (.bool true), Calm.isV (.bool true), Calm.isV (.bool false), Calm.isV (.bool false), Calm.isV (.bool true), Calm.isV (.bool true), Calm.isV (.bool true), Calm.isV (.bool true)] ?hL (by kernel_rfl) (by kernel_rfl) (Below.refl _ _) ?step ?fin
              case hL => repeat' (first | exact List.forall_mem_nil _ | refine List.forall_mem_cons.2 ⟨by first | exact Calm.stable_is _ | exact Calm.stable_row _ _ | exact Calm.stable_any, ?_⟩)
              case step =>
                refine Calm.Steps.cons (Calm.step_plain rfl ?_) ?_
                · intro a_ w1 hS hsz hold hdep K hK
                  have h19 : a_.tmps[19]? = some (.func (.func 13) #[] #[]) := (hold 19 (by kernel_rfl)).trans rfl
                  have e19 := Calm.at_getD h19
                  clear hsz hold hdep
                  have hcl := fun (b o : Nat) (h : b < _) => Below.cell hS (p := ⟨b, o, none⟩) h
                  go_simp
                  exact hK _ _ (Below.refl _ _) rfl
                refine Calm.Steps.cons (Calm.step_plain rfl ?_) ?_
                · intro a_ w1 hS hsz hold hdep K hK
                  have h4 : a_.tmps[4]? = some (.pointer (some ⟨w.heap.size, 0, none⟩)) := (hold 4 (by kernel_rfl)).trans rfl
                  have e4 := Calm.at_getD h4
                  clear hsz hold hdep
                  have hcl := fun (b o : Nat) (h : b < _) => Below.cell hS (p := ⟨b, o, none⟩) h
                  go_simp
                  exact hK _ _ (Below.refl _ _) rfl
                refine Calm.Steps.cons (Calm.step_plain rfl ?_) ?_
                · intro a_ w1 hS hsz hold hdep K hK
                  have h5 : a_.tmps[5]? = some (.pointer (some ⟨w.heap.size + 1, 0, none⟩)) := (hold 5 (by kernel_rfl)).trans rfl
                  have e5 := Calm.at_getD h5
                  clear hsz hold hdep
                  have hcl := fun (b o : Nat) (h : b < _) => Below.cell hS (p := ⟨b, o, none⟩) h
                  go_simp
                  exact hK _ _ (Below.refl _ _) rfl
                refine Calm.Steps.cons (Calm.step_plain rfl ?_) ?_
                · intro a_ w1 hS hsz hold hdep K hK
                  obtain ⟨u55, h55, (k55 : u55 = .agg #[.bool a.s, .int .i64 a.lo, .int .i64 a.hi])⟩ := hdep 1 (by kernel_rfl) _ rfl
                  subst k55
                  replace h55 := h55 55 rfl
                  have e55 := Calm.at_getD h55
                  obtain ⟨u56, h56, (k56 : u56 = .agg #[.bool b.s, .int .i64 b.lo, .int .i64 b.hi])⟩ := hdep 2 (by kernel_rfl) _ rfl
                  subst k56
                  replace h56 := h56 56 rfl
                  have e56 := Calm.at_getD h56
                  clear hsz hold hdep
                  go_simp
                  refine (arith_add' a b x y hx hy p1 h1 _).mono ?_; rintro e w' ⟨rfl, hB⟩
                  exact hK _ _ hB rfl
                refine Calm.Steps.cons (Calm.step_plain rfl ?_) ?_
                · intro a_ w1 hS hsz hold hdep K hK
                  have h9 : a_.tmps[9]? = some (.pointer (some ⟨g9, 0, none⟩)) := (hold 9 (by kernel_rfl)).trans rfl
                  have e9 := Calm.at_getD h9
                  clear hsz hold hdep
                  have hcl := fun (b o : Nat) (h : b < _) => Below.cell hS (p := ⟨b, o, none⟩) h
                  go_simp
                  exact hK _ _ (Below.refl _ _) rfl
                refine Calm.Steps.cons (Calm.step_plain rfl ?_) ?_
                · intro a_ w1 hS hsz hold hdep K hK
                  have h10 : a_.tmps[10]? = some (.pointer (some ⟨g10, 0, none⟩)) := (hold 10 (by kernel_rfl)).trans rfl
                  have e10 := Calm.at_getD h10
                  clear hsz hold hdep
                  have hcl := fun (b o : Nat) (h : b < _) => Below.cell hS (p := ⟨b, o, none⟩) h
                  go_simp
                  exact hK _ _ (Below.refl _ _) rfl
                refine Calm.Steps.cons (Calm.step_plain rfl ?_) ?_
                · intro a_ w1 hS hsz hold hdep K hK
                  obtain ⟨u58, h58, (k58 : u58 = .agg #[.bool X.s, .int .i64 X.lo, .int .i64 X.hi])⟩ := hdep 4 (by kernel_rfl) _ rfl
                  subst k58
                  replace h58 := h58 58 rfl
                  have e58 := Calm.at_getD h58
                  obtain ⟨u59, h59, (k59 : u59 = .agg #[.bool Y.s, .int .i64 Y.lo, .int .i64 Y.hi])⟩ := hdep 5 (by kernel_rfl) _ rfl
                  subst k59
                  replace h59 := h59 59 rfl
                  have e59 := Calm.at_getD h59
                  clear hsz hold hdep
                  go_simp
                  refine (arith_add' X Y X Y hXX hYY q1 k1 _).mono ?_; rintro e w' ⟨rfl, hB⟩
                  exact hK _ _ hB rfl
                refine Calm.Steps.cons (Calm.step_plain rfl ?_) ?_
                · intro a_ w1 hS hsz hold hdep K hK
                  obtain ⟨u54, h54, (k54 : u54 = .func (.func 13) #[] #[])⟩ := hdep 0 (by kernel_rfl) _ rfl
                  subst k54
                  replace h54 := h54 54 rfl
                  have e54 := Calm.at_getD h54
                  obtain ⟨u57, h57, (k57 : u57 = .agg #[.bool p1.s, .int .i64 p1.lo, .int .i64 p1.hi])⟩ := hdep 3 (by kernel_rfl) _ rfl
                  subst k57
                  replace h57 := h57 57 rfl
                  have e57 := Calm.at_getD h57
                  obtain ⟨u60, h60, (k60 : u60 = .agg #[.bool q1.s, .int .i64 q1.lo, .int .i64 q1.hi])⟩ := hdep 6 (by kernel_rfl) _ rfl
                  subst k60
                  replace h60 := h60 60 rfl
                  have e60 := Calm.at_getD h60
                  clear hsz hold hdep
                  go_simp
                  refine (leq_any p1 q1 p1 q1 np1 nq1 true l1 _).mono ?_; rintro e w' ⟨rfl, hB⟩
                  exact hK _ _ hB rfl
                refine Calm.Steps.cons (Calm.step_plain rfl ?_) ?_
                · intro a_ w1 hS hsz hold hdep K hK
                  obtain ⟨u61, h61, (k61 : u61 = .bool true)⟩ := hdep 7 (by kernel_rfl) _ rfl
                  subst k61
                  replace h61 := h61 61 rfl
                  have e61 := Calm.at_getD h61
                  clear hsz hold hdep
                  have hcl := fun (b o : Nat) (h : b < _) => Below.cell hS (p := ⟨b, o, none⟩) h
                  go_simp
                  exact hK _ _ (Below.refl _ _) rfl
                refine Calm.Steps.cons (Calm.step_wanted (b := true) rfl rfl rfl (by kernel_rfl) (fun _ _ h => h) ?_) ?_
                · intro a_ w1 hS hsz hold hdep K hK
                  have h19 : a_.tmps[19]? = some (.func (.func 13) #[] #[]) := (hold 19 (by kernel_rfl)).trans rfl
                  have e19 := Calm.at_getD h19
                  clear hsz hold hdep
                  have hcl := fun (b o : Nat) (h : b < _) => Below.cell hS (p := ⟨b, o, none⟩) h
                  go_simp
                  exact hK _ _ (Below.refl _ _) rfl
                refine Calm.Steps.cons (Calm.step_wanted (b := true) rfl rfl rfl (by kernel_rfl) (fun _ _ h => h) ?_) ?_
                · intro a_ w1 hS hsz hold hdep K hK
                  have h4 : a_.tmps[4]? = some (.pointer (some ⟨w.heap.size, 0, none⟩)) := (hold 4 (by kernel_rfl)).trans rfl
                  have e4 := Calm.at_getD h4
                  clear hsz hold hdep
                  have hcl := fun (b o : Nat) (h : b < _) => Below.cell hS (p := ⟨b, o, none⟩) h
                  go_simp
                  exact hK _ _ (Below.refl _ _) rfl
                refine Calm.Steps.cons (Calm.step_wanted (b := true) rfl rfl rfl (by kernel_rfl) (fun _ _ h => h) ?_) ?_
                · intro a_ w1 hS hsz hold hdep K hK
                  have h5 : a_.tmps[5]? = some (.pointer (some ⟨w.heap.size + 1, 0, none⟩)) := (hold 5 (by kernel_rfl)).trans rfl
                  have e5 := Calm.at_getD h5
                  clear hsz hold hdep
                  have hcl := fun (b o : Nat) (h : b < _) => Below.cell hS (p := ⟨b, o, none⟩) h
                  go_simp
                  exact hK _ _ (Below.refl _ _) rfl
                refine Calm.Steps.cons (Calm.step_wanted (b := true) rfl rfl rfl (by kernel_rfl) (fun _ _ h => h) ?_) ?_
                · intro a_ w1 hS hsz hold hdep K hK
                  obtain ⟨u64, h64, (k64 : u64 = .agg #[.bool a.s, .int .i64 a.lo, .int .i64 a.hi])⟩ := hdep 10 (by kernel_rfl) _ rfl
                  subst k64
                  replace h64 := h64 64 rfl
                  have e64 := Calm.at_getD h64
                  obtain ⟨u65, h65, (k65 : u65 = .agg #[.bool b.s, .int .i64 b.lo, .int .i64 b.hi])⟩ := hdep 11 (by kernel_rfl) _ rfl
                  subst k65
                  replace h65 := h65 65 rfl
                  have e65 := Calm.at_getD h65
                  clear hsz hold hdep
                  go_simp
                  refine (arith_sub' a b x y hx hy p2 h2 _).mono ?_; rintro e w' ⟨rfl, hB⟩
                  exact hK _ _ hB rfl
                refine Calm.Steps.cons (Calm.step_wanted (b := true) rfl rfl rfl (by kernel_rfl) (fun _ _ h => h) ?_) ?_
                · intro a_ w1 hS hsz hold hdep K hK
                  have h9 : a_.tmps[9]? = some (.pointer (some ⟨g9, 0, none⟩)) := (hold 9 (by kernel_rfl)).trans rfl
                  have e9 := Calm.at_getD h9
                  clear hsz hold hdep
                  have hcl := fun (b o : Nat) (h : b < _) => Below.cell hS (p := ⟨b, o, none⟩) h
                  go_simp
                  exact hK _ _ (Below.refl _ _) rfl
                refine Calm.Steps.cons (Calm.step_wanted (b := true) rfl rfl rfl (by kernel_rfl) (fun _ _ h => h) ?_) ?_
                · intro a_ w1 hS hsz hold hdep K hK
                  have h10 : a_.tmps[10]? = some (.pointer (some ⟨g10, 0, none⟩)) := (hold 10 (by kernel_rfl)).trans rfl
                  have e10 := Calm.at_getD h10
                  clear hsz hold hdep
                  have hcl := fun (b o : Nat) (h : b < _) => Below.cell hS (p := ⟨b, o, none⟩) h
                  go_simp
                  exact hK _ _ (Below.refl _ _) rfl
                refine Calm.Steps.cons (Calm.step_wanted (b := true) rfl rfl rfl (by kernel_rfl) (fun _ _ h => h) ?_) ?_
                · intro a_ w1 hS hsz hold hdep K hK
                  obtain ⟨u67, h67, (k67 : u67 = .agg #[.bool X.s, .int .i64 X.lo, .int .i64 X.hi])⟩ := hdep 13 (by kernel_rfl) _ rfl
                  subst k67
                  replace h67 := h67 67 rfl
                  have e67 := Calm.at_getD h67
                  obtain ⟨u68, h68, (k68 : u68 = .agg #[.bool Y.s, .int .i64 Y.lo, .int .i64 Y.hi])⟩ := hdep 14 (by kernel_rfl) _ rfl
                  subst k68
                  replace h68 := h68 68 rfl
                  have e68 := Calm.at_getD h68
                  clear hsz hold hdep
                  go_simp
                  refine (arith_sub' X Y X Y hXX hYY q2 k2 _).mono ?_; rintro e w' ⟨rfl, hB⟩
                  exact hK _ _ hB rfl
                refine Calm.Steps.cons (Calm.step_wanted (b := true) rfl rfl rfl (by kernel_rfl) (fun _ _ h => h) ?_) ?_
                · intro a_ w1 hS hsz hold hdep K hK
                  obtain ⟨u63, h63, (k63 : u63 = .func (.func 13) #[] #[])⟩ := hdep 9 (by kernel_rfl) _ rfl
                  subst k63
                  replace h63 := h63 63 rfl
                  have e63 := Calm.at_getD h63
                  obtain ⟨u66, h66, (k66 : u66 = .agg #[.bool p2.s, .int .i64 p2.lo, .int .i64 p2.hi])⟩ := hdep 12 (by kernel_rfl) _ rfl
                  subst k66
                  replace h66 := h66 66 rfl
                  have e66 := Calm.at_getD h66
                  obtain ⟨u69, h69, (k69 : u69 = .agg #[.bool q2.s, .int .i64 q2.lo, .int .i64 q2.hi])⟩ := hdep 15 (by kernel_rfl) _ rfl
                  subst k69
                  replace h69 := h69 69 rfl
                  have e69 := Calm.at_getD h69
                  clear hsz hold hdep
                  go_simp
                  refine (leq_any p2 q2 p2 q2 np2 nq2 true l2 _).mono ?_; rintro e w' ⟨rfl, hB⟩
                  exact hK _ _ hB rfl
                refine Calm.Steps.cons (Calm.step_plain rfl ?_) ?_
                · intro a_ w1 hS hsz hold hdep K hK
                  obtain ⟨u62, h62, (k62 : u62 = .bool true)⟩ := hdep 8 (by kernel_rfl) _ rfl
                  subst k62
                  replace h62 := h62 62 rfl
                  have e62 := Calm.at_getD h62
                  obtain ⟨u70, h70, (k70 : u70 = .bool true)⟩ := hdep 16 (by kernel_rfl) _ rfl
                  subst k70
                  replace h70 := h70 70 rfl
                  have e70 := Calm.at_getD h70
                  clear hsz hold hdep
                  have hcl := fun (b o : Nat) (h : b < _) => Below.cell hS (p := ⟨b, o, none⟩) h
                  go_simp
                  exact hK _ _ (Below.refl _ _) rfl
                refine Calm.Steps.cons (Calm.step_plain rfl ?_) ?_
                · intro a_ w1 hS hsz hold hdep K hK
                  obtain ⟨u71, h71, (k71 : u71 = .bool true)⟩ := hdep 17 (by kernel_rfl) _ rfl
                  subst k71
                  replace h71 := h71 71 rfl
                  have e71 := Calm.at_getD h71
                  clear hsz hold hdep
                  have hcl := fun (b o : Nat) (h : b < _) => Below.cell hS (p := ⟨b, o, none⟩) h
                  go_simp
                  exact hK _ _ (Below.refl _ _) rfl
                refine Calm.Steps.cons (Calm.step_wanted (b := true) rfl rfl rfl (by kernel_rfl) (fun _ _ h => h) ?_) ?_
                · intro a_ w1 hS hsz hold hdep K hK
                  have h19 : a_.tmps[19]? = some (.func (.func 13) #[] #[]) := (hold 19 (by kernel_rfl)).trans rfl
                  have e19 := Calm.at_getD h19
                  clear hsz hold hdep
                  have hcl := fun (b o : Nat) (h : b < _) => Below.cell hS (p := ⟨b, o, none⟩) h
                  go_simp
                  exact hK _ _ (Below.refl _ _) rfl
                refine Calm.Steps.cons (Calm.step_wanted (b := true) rfl rfl rfl (by kernel_rfl) (fun _ _ h => h) ?_) ?_
                · intro a_ w1 hS hsz hold hdep K hK
                  have h4 : a_.tmps[4]? = some (.pointer (some ⟨w.heap.size, 0, none⟩)) := (hold 4 (by kernel_rfl)).trans rfl
                  have e4 := Calm.at_getD h4
                  clear hsz hold hdep
                  have hcl := fun (b o : Nat) (h : b < _) => Below.cell hS (p := ⟨b, o, none⟩) h
                  go_simp
                  exact hK _ _ (Below.refl _ _) rfl
                refine Calm.Steps.cons (Calm.step_wanted (b := true) rfl rfl rfl (by kernel_rfl) (fun _ _ h => h) ?_) ?_
                · intro a_ w1 hS hsz hold hdep K hK
                  have h5 : a_.tmps[5]? = some (.pointer (some ⟨w.heap.size + 1, 0, none⟩)) := (hold 5 (by kernel_rfl)).trans rfl
                  have e5 := Calm.at_getD h5
                  clear hsz hold hdep
                  have hcl := fun (b o : Nat) (h : b < _) => Below.cell hS (p := ⟨b, o, none⟩) h
                  go_simp
                  exact hK _ _ (Below.refl _ _) rfl
                refine Calm.Steps.cons (Calm.step_wanted (b := true) rfl rfl rfl (by kernel_rfl) (fun _ _ h => h) ?_) ?_
                · intro a_ w1 hS hsz hold hdep K hK
                  obtain ⟨u74, h74, (k74 : u74 = .agg #[.bool a.s, .int .i64 a.lo, .int .i64 a.hi])⟩ := hdep 20 (by kernel_rfl) _ rfl
                  subst k74
                  replace h74 := h74 74 rfl
                  have e74 := Calm.at_getD h74
                  obtain ⟨u75, h75, (k75 : u75 = .agg #[.bool b.s, .int .i64 b.lo, .int .i64 b.hi])⟩ := hdep 21 (by kernel_rfl) _ rfl
                  subst k75
                  replace h75 := h75 75 rfl
                  have e75 := Calm.at_getD h75
                  clear hsz hold hdep
                  go_simp
                  refine (arith_mul a b x y hx hy ox.out oy.out p3 h3 _).mono ?_; rintro e w' ⟨rfl, hB⟩
                  exact hK _ _ hB rfl
                refine Calm.Steps.cons (Calm.step_wanted (b := true) rfl rfl rfl (by kernel_rfl) (fun _ _ h => h) ?_) ?_
                · intro a_ w1 hS hsz hold hdep K hK
                  have h9 : a_.tmps[9]? = some (.pointer (some ⟨g9, 0, none⟩)) := (hold 9 (by kernel_rfl)).trans rfl
                  have e9 := Calm.at_getD h9
                  clear hsz hold hdep
                  have hcl := fun (b o : Nat) (h : b < _) => Below.cell hS (p := ⟨b, o, none⟩) h
                  go_simp
                  exact hK _ _ (Below.refl _ _) rfl
                refine Calm.Steps.cons (Calm.step_wanted (b := true) rfl rfl rfl (by kernel_rfl) (fun _ _ h => h) ?_) ?_
                · intro a_ w1 hS hsz hold hdep K hK
                  have h10 : a_.tmps[10]? = some (.pointer (some ⟨g10, 0, none⟩)) := (hold 10 (by kernel_rfl)).trans rfl
                  have e10 := Calm.at_getD h10
                  clear hsz hold hdep
                  have hcl := fun (b o : Nat) (h : b < _) => Below.cell hS (p := ⟨b, o, none⟩) h
                  go_simp
                  exact hK _ _ (Below.refl _ _) rfl
                refine Calm.Steps.cons (Calm.step_wanted (b := true) rfl rfl rfl (by kernel_rfl) (fun _ _ h => h) ?_) ?_
                · intro a_ w1 hS hsz hold hdep K hK
                  obtain ⟨u77, h77, (k77 : u77 = .agg #[.bool X.s, .int .i64 X.lo, .int .i64 X.hi])⟩ := hdep 23 (by kernel_rfl) _ rfl
                  subst k77
                  replace h77 := h77 77 rfl
                  have e77 := Calm.at_getD h77
                  obtain ⟨u78, h78, (k78 : u78 = .agg #[.bool Y.s, .int .i64 Y.lo, .int .i64 Y.hi])⟩ := hdep 24 (by kernel_rfl) _ rfl
                  subst k78
                  replace h78 := h78 78 rfl
                  have e78 := Calm.at_getD h78
                  clear hsz hold hdep
                  go_simp
                  refine (arith_mul X Y X Y hXX hYY oX.out oY.out q3 k3 _).mono ?_; rintro e w' ⟨rfl, hB⟩
                  exact hK _ _ hB rfl
                refine Calm.Steps.cons (Calm.step_wanted (b := true) rfl rfl rfl (by kernel_rfl) (fun _ _ h => h) ?_) ?_
                · intro a_ w1 hS hsz hold hdep K hK
                  obtain ⟨u73, h73, (k73 : u73 = .func (.func 13) #[] #[])⟩ := hdep 19 (by kernel_rfl) _ rfl
                  subst k73
                  replace h73 := h73 73 rfl
                  have e73 := Calm.at_getD h73
                  obtain ⟨u76, h76, (k76 : u76 = .agg #[.bool p3.s, .int .i64 p3.lo, .int .i64 p3.hi])⟩ := hdep 22 (by kernel_rfl) _ rfl
                  subst k76
                  replace h76 := h76 76 rfl
                  have e76 := Calm.at_getD h76
                  obtain ⟨u79, h79, (k79 : u79 = .agg #[.bool q3.s, .int .i64 q3.lo, .int .i64 q3.hi])⟩ := hdep 25 (by kernel_rfl) _ rfl
                  subst k79
                  replace h79 := h79 79 rfl
                  have e79 := Calm.at_getD h79
                  clear hsz hold hdep
                  go_simp
                  refine (leq_any p3 q3 p3 q3 np3 nq3 true l3 _).mono ?_; rintro e w' ⟨rfl, hB⟩
                  exact hK _ _ hB rfl
                refine Calm.Steps.cons (Calm.step_plain rfl ?_) ?_
                · intro a_ w1 hS hsz hold hdep K hK
                  obtain ⟨u72, h72, (k72 : u72 = .bool true)⟩ := hdep 18 (by kernel_rfl) _ rfl
                  subst k72
                  replace h72 := h72 72 rfl
                  have e72 := Calm.at_getD h72
                  obtain ⟨u80, h80, (k80 : u80 = .bool true)⟩ := hdep 26 (by kernel_rfl) _ rfl
                  subst k80
                  replace h80 := h80 80 rfl
                  have e80 := Calm.at_getD h80
                  clear hsz hold hdep
                  have hcl := fun (b o : Nat) (h : b < _) => Below.cell hS (p := ⟨b, o, none⟩) h
                  go_simp
                  exact hK _ _ (Below.refl _ _) rfl
                refine Calm.Steps.cons (Calm.step_plain rfl ?_) ?_
                · intro a_ w1 hS hsz hold hdep K hK
                  obtain ⟨u81, h81, (k81 : u81 = .bool true)⟩ := hdep 27 (by kernel_rfl) _ rfl
                  subst k81
                  replace h81 := h81 81 rfl
                  have e81 := Calm.at_getD h81
                  clear hsz hold hdep
                  have hcl := fun (b o : Nat) (h : b < _) => Below.cell hS (p := ⟨b, o, none⟩) h
                  go_simp
                  exact hK _ _ (Below.refl _ _) rfl
                refine Calm.Steps.cons (Calm.step_wanted (b := true) rfl rfl rfl (by kernel_rfl) (fun _ _ h => h) ?_) ?_
                · intro a_ w1 hS hsz hold hdep K hK
                  have h19 : a_.tmps[19]? = some (.func (.func 13) #[] #[]) := (hold 19 (by kernel_rfl)).trans rfl
                  have e19 := Calm.at_getD h19
                  clear hsz hold hdep
                  have hcl := fun (b o : Nat) (h : b < _) => Below.cell hS (p := ⟨b, o, none⟩) h
                  go_simp
                  exact hK _ _ (Below.refl _ _) rfl
                refine Calm.Steps.cons (Calm.step_wanted (b := true) rfl rfl rfl (by kernel_rfl) (fun _ _ h => h) ?_) ?_
                · intro a_ w1 hS hsz hold hdep K hK
                  have h4 : a_.tmps[4]? = some (.pointer (some ⟨w.heap.size, 0, none⟩)) := (hold 4 (by kernel_rfl)).trans rfl
                  have e4 := Calm.at_getD h4
                  clear hsz hold hdep
                  have hcl := fun (b o : Nat) (h : b < _) => Below.cell hS (p := ⟨b, o, none⟩) h
                  go_simp
                  exact hK _ _ (Below.refl _ _) rfl
                refine Calm.Steps.cons (Calm.step_wanted (b := true) rfl rfl rfl (by kernel_rfl) (fun _ _ h => h) ?_) ?_
                · intro a_ w1 hS hsz hold hdep K hK
                  obtain ⟨u84, h84, (k84 : u84 = .agg #[.bool a.s, .int .i64 a.lo, .int .i64 a.hi])⟩ := hdep 30 (by kernel_rfl) _ rfl
                  subst k84
                  replace h84 := h84 84 rfl
                  have e84 := Calm.at_getD h84
                  clear hsz hold hdep
                  go_simp
                  refine (neg_any a p4 h4 _).mono ?_; rintro e w' ⟨rfl, hB⟩
                  exact hK _ _ hB rfl
                refine Calm.Steps.cons (Calm.step_wanted (b := true) rfl rfl rfl (by kernel_rfl) (fun _ _ h => h) ?_) ?_
                · intro a_ w1 hS hsz hold hdep K hK
                  have h9 : a_.tmps[9]? = some (.pointer (some ⟨g9, 0, none⟩)) := (hold 9 (by kernel_rfl)).trans rfl
                  have e9 := Calm.at_getD h9
                  clear hsz hold hdep
                  have hcl := fun (b o : Nat) (h : b < _) => Below.cell hS (p := ⟨b, o, none⟩) h
                  go_simp
                  exact hK _ _ (Below.refl _ _) rfl
                refine Calm.Steps.cons (Calm.step_wanted (b := true) rfl rfl rfl (by kernel_rfl) (fun _ _ h => h) ?_) ?_
                · intro a_ w1 hS hsz hold hdep K hK
                  obtain ⟨u86, h86, (k86 : u86 = .agg #[.bool X.s, .int .i64 X.lo, .int .i64 X.hi])⟩ := hdep 32 (by kernel_rfl) _ rfl
                  subst k86
                  replace h86 := h86 86 rfl
                  have e86 := Calm.at_getD h86
                  clear hsz hold hdep
                  go_simp
                  refine (neg_any X q4 k4 _).mono ?_; rintro e w' ⟨rfl, hB⟩
                  exact hK _ _ hB rfl
                refine Calm.Steps.cons (Calm.step_wanted (b := true) rfl rfl rfl (by kernel_rfl) (fun _ _ h => h) ?_) ?_
                · intro a_ w1 hS hsz hold hdep K hK
                  obtain ⟨u83, h83, (k83 : u83 = .func (.func 13) #[] #[])⟩ := hdep 29 (by kernel_rfl) _ rfl
                  subst k83
                  replace h83 := h83 83 rfl
                  have e83 := Calm.at_getD h83
                  obtain ⟨u85, h85, (k85 : u85 = .agg #[.bool p4.s, .int .i64 p4.lo, .int .i64 p4.hi])⟩ := hdep 31 (by kernel_rfl) _ rfl
                  subst k85
                  replace h85 := h85 85 rfl
                  have e85 := Calm.at_getD h85
                  obtain ⟨u87, h87, (k87 : u87 = .agg #[.bool q4.s, .int .i64 q4.lo, .int .i64 q4.hi])⟩ := hdep 33 (by kernel_rfl) _ rfl
                  subst k87
                  replace h87 := h87 87 rfl
                  have e87 := Calm.at_getD h87
                  clear hsz hold hdep
                  go_simp
                  refine (leq_any p4 q4 p4 q4 np4 nq4 true l4 _).mono ?_; rintro e w' ⟨rfl, hB⟩
                  exact hK _ _ hB rfl
                refine Calm.Steps.cons (Calm.step_plain rfl ?_) ?_
                · intro a_ w1 hS hsz hold hdep K hK
                  obtain ⟨u82, h82, (k82 : u82 = .bool true)⟩ := hdep 28 (by kernel_rfl) _ rfl
                  subst k82
                  replace h82 := h82 82 rfl
                  have e82 := Calm.at_getD h82
                  obtain ⟨u88, h88, (k88 : u88 = .bool true)⟩ := hdep 34 (by kernel_rfl) _ rfl
                  subst k88
                  replace h88 := h88 88 rfl
                  have e88 := Calm.at_getD h88
                  clear hsz hold hdep
                  have hcl := fun (b o : Nat) (h : b < _) => Below.cell hS (p := ⟨b, o, none⟩) h
                  go_simp
                  exact hK _ _ (Below.refl _ _) rfl
                refine Calm.Steps.cons (Calm.step_plain rfl ?_) ?_
                · intro a_ w1 hS hsz hold hdep K hK
                  obtain ⟨u89, h89, (k89 : u89 = .bool true)⟩ := hdep 35 (by kernel_rfl) _ rfl
                  subst k89
                  replace h89 := h89 89 rfl
                  have e89 := Calm.at_getD h89
                  clear hsz hold hdep
                  have hcl := fun (b o : Nat) (h : b < _) => Below.cell hS (p := ⟨b, o, none⟩) h
                  go_simp
                  exact hK _ _ (Below.refl _ _) rfl
                refine Calm.Steps.cons (Calm.step_wanted (b := true) rfl rfl rfl (by kernel_rfl) (fun _ _ h => h) ?_) ?_
                · intro a_ w1 hS hsz hold hdep K hK
                  have h19 : a_.tmps[19]? = some (.func (.func 13) #[] #[]) := (hold 19 (by kernel_rfl)).trans rfl
                  have e19 := Calm.at_getD h19
                  clear hsz hold hdep
                  have hcl := fun (b o : Nat) (h : b < _) => Below.cell hS (p := ⟨b, o, none⟩) h
                  go_simp
                  exact hK _ _ (Below.refl _ _) rfl
                refine Calm.Steps.cons (Calm.step_wanted (b := true) rfl rfl rfl (by kernel_rfl) (fun _ _ h => h) ?_) ?_
                · intro a_ w1 hS hsz hold hdep K hK
                  have h11 : a_.tmps[11]? = some (.pointer (some ⟨g11, 0, none⟩)) := (hold 11 (by kernel_rfl)).trans rfl
                  have e11 := Calm.at_getD h11
                  clear hsz hold hdep
                  have hcl := fun (b o : Nat) (h : b < _) => Below.cell hS (p := ⟨b, o, none⟩) h
                  go_simp
                  exact hK _ _ (Below.refl _ _) rfl
                refine Calm.Steps.cons (Calm.step_wanted (b := true) rfl rfl rfl (by kernel_rfl) (fun _ _ h => h) ?_) ?_
                · intro a_ w1 hS hsz hold hdep K hK
                  have h13 : a_.tmps[13]? = some (.pointer (some ⟨g13, 0, none⟩)) := (hold 13 (by kernel_rfl)).trans rfl
                  have e13 := Calm.at_getD h13
                  clear hsz hold hdep
                  have hcl := fun (b o : Nat) (h : b < _) => Below.cell hS (p := ⟨b, o, none⟩) h
                  go_simp
                  exact hK _ _ (Below.refl _ _) rfl
                refine Calm.Steps.cons (Calm.step_wanted (b := true) rfl rfl rfl (by kernel_rfl) (fun _ _ h => h) ?_) ?_
                · intro a_ w1 hS hsz hold hdep K hK
                  obtain ⟨u91, h91, (k91 : u91 = .func (.func 13) #[] #[])⟩ := hdep 37 (by kernel_rfl) _ rfl
                  subst k91
                  replace h91 := h91 91 rfl
                  have e91 := Calm.at_getD h91
                  obtain ⟨u92, h92, (k92 : u92 = .agg #[.bool p5.s, .int .i64 p5.lo, .int .i64 p5.hi])⟩ := hdep 38 (by kernel_rfl) _ rfl
                  subst k92
                  replace h92 := h92 92 rfl
                  have e92 := Calm.at_getD h92
                  obtain ⟨u93, h93, (k93 : u93 = .agg #[.bool q5.s, .int .i64 q5.lo, .int .i64 q5.hi])⟩ := hdep 39 (by kernel_rfl) _ rfl
                  subst k93
                  replace h93 := h93 93 rfl
                  have e93 := Calm.at_getD h93
                  clear hsz hold hdep
                  go_simp
                  refine (leq_any p5 q5 p5 q5 np5 nq5 true l5 _).mono ?_; rintro e w' ⟨rfl, hB⟩
                  exact hK _ _ hB rfl
                refine Calm.Steps.cons (Calm.step_plain rfl ?_) ?_
                · intro a_ w1 hS hsz hold hdep K hK
                  obtain ⟨u90, h90, (k90 : u90 = .bool true)⟩ := hdep 36 (by kernel_rfl) _ rfl
                  subst k90
                  replace h90 := h90 90 rfl
                  have e90 := Calm.at_getD h90
                  obtain ⟨u94, h94, (k94 : u94 = .bool true)⟩ := hdep 40 (by kernel_rfl) _ rfl
                  subst k94
                  replace h94 := h94 94 rfl
                  have e94 := Calm.at_getD h94
                  clear hsz hold hdep
                  have hcl := fun (b o : Nat) (h : b < _) => Below.cell hS (p := ⟨b, o, none⟩) h
                  go_simp
                  exact hK _ _ (Below.refl _ _) rfl
                refine Calm.Steps.cons (Calm.step_plain rfl ?_) ?_
                · intro a_ w1 hS hsz hold hdep K hK
                  obtain ⟨u95, h95, (k95 : u95 = .bool true)⟩ := hdep 41 (by kernel_rfl) _ rfl
                  subst k95
                  replace h95 := h95 95 rfl
                  have e95 := Calm.at_getD h95
                  clear hsz hold hdep
                  have hcl := fun (b o : Nat) (h : b < _) => Below.cell hS (p := ⟨b, o, none⟩) h
                  go_simp
                  exact hK _ _ (Below.refl _ _) rfl
                refine Calm.Steps.cons (Calm.step_wanted (b := true) rfl rfl rfl (by kernel_rfl) (fun _ _ h => h) ?_) ?_
                · intro a_ w1 hS hsz hold hdep K hK
                  have h19 : a_.tmps[19]? = some (.func (.func 13) #[] #[]) := (hold 19 (by kernel_rfl)).trans rfl
                  have e19 := Calm.at_getD h19
                  clear hsz hold hdep
                  have hcl := fun (b o : Nat) (h : b < _) => Below.cell hS (p := ⟨b, o, none⟩) h
                  go_simp
                  exact hK _ _ (Below.refl _ _) rfl
                refine Calm.Steps.cons (Calm.step_wanted (b := true) rfl rfl rfl (by kernel_rfl) (fun _ _ h => h) ?_) ?_
                · intro a_ w1 hS hsz hold hdep K hK
                  have h15 : a_.tmps[15]? = some (.pointer (some ⟨g15, 0, none⟩)) := (hold 15 (by kernel_rfl)).trans rfl
                  have e15 := Calm.at_getD h15
                  clear hsz hold hdep
                  have hcl := fun (b o : Nat) (h : b < _) => Below.cell hS (p := ⟨b, o, none⟩) h
                  go_simp
                  exact hK _ _ (Below.refl _ _) rfl
                refine Calm.Steps.cons (Calm.step_wanted (b := true) rfl rfl rfl (by kernel_rfl) (fun _ _ h => h) ?_) ?_
                · intro a_ w1 hS hsz hold hdep K hK
                  have h17 : a_.tmps[17]? = some (.pointer (some ⟨g17, 0, none⟩)) := (hold 17 (by kernel_rfl)).trans rfl
                  have e17 := Calm.at_getD h17
                  clear hsz hold hdep
                  have hcl := fun (b o : Nat) (h : b < _) => Below.cell hS (p := ⟨b, o, none⟩) h
                  go_simp
                  exact hK _ _ (Below.refl _ _) rfl
                refine Calm.Steps.cons (Calm.step_wanted (b := true) rfl rfl rfl (by kernel_rfl) (fun _ _ h => h) ?_) ?_
                · intro a_ w1 hS hsz hold hdep K hK
                  obtain ⟨u97, h97, (k97 : u97 = .func (.func 13) #[] #[])⟩ := hdep 43 (by kernel_rfl) _ rfl
                  subst k97
                  replace h97 := h97 97 rfl
                  have e97 := Calm.at_getD h97
                  obtain ⟨u98, h98, (k98 : u98 = .agg #[.bool p6.s, .int .i64 p6.lo, .int .i64 p6.hi])⟩ := hdep 44 (by kernel_rfl) _ rfl
                  subst k98
                  replace h98 := h98 98 rfl
                  have e98 := Calm.at_getD h98
                  obtain ⟨u99, h99, (k99 : u99 = .agg #[.bool q6.s, .int .i64 q6.lo, .int .i64 q6.hi])⟩ := hdep 45 (by kernel_rfl) _ rfl
                  subst k99
                  replace h99 := h99 99 rfl
                  have e99 := Calm.at_getD h99
                  clear hsz hold hdep
                  go_simp
                  refine (leq_any p6 q6 p6 q6 np6 nq6 true l6 _).mono ?_; rintro e w' ⟨rfl, hB⟩
                  exact hK _ _ hB rfl
                refine Calm.Steps.cons (Calm.step_plain rfl ?_) ?_
                · intro a_ w1 hS hsz hold hdep K hK
                  obtain ⟨u96, h96, (k96 : u96 = .bool true)⟩ := hdep 42 (by kernel_rfl) _ rfl
                  subst k96
                  replace h96 := h96 96 rfl
                  have e96 := Calm.at_getD h96
                  obtain ⟨u100, h100, (k100 : u100 = .bool true)⟩ := hdep 46 (by kernel_rfl) _ rfl
                  subst k100
                  replace h100 := h100 100 rfl
                  have e100 := Calm.at_getD h100
                  clear hsz hold hdep
                  have hcl := fun (b o : Nat) (h : b < _) => Below.cell hS (p := ⟨b, o, none⟩) h
                  go_simp
                  exact hK _ _ (Below.refl _ _) rfl
                refine Calm.Steps.cons (Calm.step_plain rfl ?_) ?_
                · intro a_ w1 hS hsz hold hdep K hK
                  obtain ⟨u101, h101, (k101 : u101 = .bool true)⟩ := hdep 47 (by kernel_rfl) _ rfl
                  subst k101
                  replace h101 := h101 101 rfl
                  have e101 := Calm.at_getD h101
                  clear hsz hold hdep
                  have hcl := fun (b o : Nat) (h : b < _) => Below.cell hS (p := ⟨b, o, none⟩) h
                  go_simp
                  exact hK _ _ (Below.refl _ _) rfl
                refine Calm.Steps.cons (Calm.step_wanted (b := true) rfl rfl rfl (by kernel_rfl) (fun _ _ h => h) ?_) ?_
                · intro a_ w1 hS hsz hold hdep K hK
                  have h12 : a_.tmps[12]? = some (.bool true) := (hold 12 (by kernel_rfl)).trans rfl
                  have e12 := Calm.at_getD h12
                  clear hsz hold hdep
                  have hcl := fun (b o : Nat) (h : b < _) => Below.cell hS (p := ⟨b, o, none⟩) h
                  go_simp
                  exact hK _ _ (Below.refl _ _) rfl
                refine Calm.Steps.cons (Calm.step_wanted (b := true) rfl rfl rfl (by kernel_rfl) (fun _ _ h => h) ?_) ?_
                · intro a_ w1 hS hsz hold hdep K hK
                  obtain ⟨u103, h103, (k103 : u103 = .bool true)⟩ := hdep 49 (by kernel_rfl) _ rfl
                  subst k103
                  replace h103 := h103 103 rfl
                  have e103 := Calm.at_getD h103
                  clear hsz hold hdep
                  have hcl := fun (b o : Nat) (h : b < _) => Below.cell hS (p := ⟨b, o, none⟩) h
                  go_simp
                  exact hK _ _ (Below.refl _ _) rfl
                refine Calm.Steps.cons (Calm.step_wanted (b := true) rfl rfl rfl (by kernel_rfl) (fun _ _ h => h) ?_) ?_
                · intro a_ w1 hS hsz hold hdep K hK
                  obtain ⟨u104, h104, (k104 : u104 = .bool false)⟩ := hdep 50 (by kernel_rfl) _ rfl
                  subst k104
                  replace h104 := h104 104 rfl
                  have e104 := Calm.at_getD h104
                  clear hsz hold hdep
                  have hcl := fun (b o : Nat) (h : b < _) => Below.cell hS (p := ⟨b, o, none⟩) h
                  go_simp
                  exact hK _ _ (Below.refl _ _) rfl
                refine Calm.Steps.cons (Calm.step_wanted (b := false) rfl rfl rfl (by kernel_rfl) (fun _ _ h => h) ?_) ?_
                · intro a_ w1 hS hsz hold hdep K hK
                  have h14 : a_.tmps[14]? = some (.bool true) := (hold 14 (by kernel_rfl)).trans rfl
                  have e14 := Calm.at_getD h14
                  clear hsz hold hdep
                  have hcl := fun (b o : Nat) (h : b < _) => Below.cell hS (p := ⟨b, o, none⟩) h
                  go_simp
                  exact hK _ _ (Below.refl _ _) rfl
                refine Calm.Steps.cons (Calm.step_wanted (b := true) rfl rfl rfl (by kernel_rfl) (fun _ _ h => h) ?_) ?_
                · intro a_ w1 hS hsz hold hdep K hK
                  obtain ⟨u105, h105, (k105 : u105 = .bool false)⟩ := hdep 51 (by kernel_rfl) _ rfl
                  subst k105
                  replace h105 := h105 105 rfl
                  have e105 := Calm.at_getD h105
                  obtain ⟨u106, h106, (k106 : u106 = .bool true)⟩ := hdep 52 (by kernel_rfl) _ rfl
                  subst k106
                  replace h106 := h106 106 rfl
                  have e106 := Calm.at_getD h106
                  clear hsz hold hdep
                  have hcl := fun (b o : Nat) (h : b < _) => Below.cell hS (p := ⟨b, o, none⟩) h
                  go_simp
                  exact hK _ _ (Below.refl _ _) rfl
                refine Calm.Steps.cons (Calm.step_plain rfl ?_) ?_
                · intro a_ w1 hS hsz hold hdep K hK
                  obtain ⟨u102, h102, (k102 : u102 = .bool true)⟩ := hdep 48 (by kernel_rfl) _ rfl
                  subst k102
                  replace h102 := h102 102 rfl
                  have e102 := Calm.at_getD h102
                  obtain ⟨u107, h107, (k107 : u107 = .bool true)⟩ := hdep 53 (by kernel_rfl) _ rfl
                  subst k107
                  replace h107 := h107 107 rfl
                  have e107 := Calm.at_getD h107
                  clear hsz hold hdep
                  have hcl := fun (b o : Nat) (h : b < _) => Below.cell hS (p := ⟨b, o, none⟩) h
                  go_simp
                  exact hK _ _ (Below.refl _ _) rfl
                refine Calm.Steps.cons (Calm.step_plain rfl ?_) ?_
                · intro a_ w1 hS hsz hold hdep K hK
                  obtain ⟨u108, h108, (k108 : u108 = .bool true)⟩ := hdep 54 (by kernel_rfl) _ rfl
                  subst k108
                  replace h108 := h108 108 rfl
                  have e108 := Calm.at_getD h108
                  clear hsz hold hdep
                  have hcl := fun (b o : Nat) (h : b < _) => Below.cell hS (p := ⟨b, o, none⟩) h
                  go_simp
                  exact hK _ _ (Below.refl _ _) rfl
                refine Calm.Steps.cons (Calm.step_wanted (b := true) rfl rfl rfl (by kernel_rfl) (fun _ _ h => h) ?_) ?_
                · intro a_ w1 hS hsz hold hdep K hK
                  have h16 : a_.tmps[16]? = some (.bool true) := (hold 16 (by kernel_rfl)).trans rfl
                  have e16 := Calm.at_getD h16
                  clear hsz hold hdep
                  have hcl := fun (b o : Nat) (h : b < _) => Below.cell hS (p := ⟨b, o, none⟩) h
                  go_simp
                  exact hK _ _ (Below.refl _ _) rfl
                refine Calm.Steps.cons (Calm.step_wanted (b := true) rfl rfl rfl (by kernel_rfl) (fun _ _ h => h) ?_) ?_
                · intro a_ w1 hS hsz hold hdep K hK
                  obtain ⟨u110, h110, (k110 : u110 = .bool true)⟩ := hdep 56 (by kernel_rfl) _ rfl
                  subst k110
                  replace h110 := h110 110 rfl
                  have e110 := Calm.at_getD h110
                  clear hsz hold hdep
                  have hcl := fun (b o : Nat) (h : b < _) => Below.cell hS (p := ⟨b, o, none⟩) h
                  go_simp
                  exact hK _ _ (Below.refl _ _) rfl
                refine Calm.Steps.cons (Calm.step_wanted (b := true) rfl rfl rfl (by kernel_rfl) (fun _ _ h => h) ?_) ?_
                · intro a_ w1 hS hsz hold hdep K hK
                  obtain ⟨u111, h111, (k111 : u111 = .bool false)⟩ := hdep 57 (by kernel_rfl) _ rfl
                  subst k111
                  replace h111 := h111 111 rfl
                  have e111 := Calm.at_getD h111
                  clear hsz hold hdep
                  have hcl := fun (b o : Nat) (h : b < _) => Below.cell hS (p := ⟨b, o, none⟩) h
                  go_simp
                  exact hK _ _ (Below.refl _ _) rfl
                refine Calm.Steps.cons (Calm.step_wanted (b := false) rfl rfl rfl (by kernel_rfl) (fun _ _ h => h) ?_) ?_
                · intro a_ w1 hS hsz hold hdep K hK
                  have h18 : a_.tmps[18]? = some (.bool true) := (hold 18 (by kernel_rfl)).trans rfl
                  have e18 := Calm.at_getD h18
                  clear hsz hold hdep
                  have hcl := fun (b o : Nat) (h : b < _) => Below.cell hS (p := ⟨b, o, none⟩) h
                  go_simp
                  exact hK _ _ (Below.refl _ _) rfl
                refine Calm.Steps.cons (Calm.step_wanted (b := true) rfl rfl rfl (by kernel_rfl) (fun _ _ h => h) ?_) ?_
                · intro a_ w1 hS hsz hold hdep K hK
                  obtain ⟨u112, h112, (k112 : u112 = .bool false)⟩ := hdep 58 (by kernel_rfl) _ rfl
                  subst k112
                  replace h112 := h112 112 rfl
                  have e112 := Calm.at_getD h112
                  obtain ⟨u113, h113, (k113 : u113 = .bool true)⟩ := hdep 59 (by kernel_rfl) _ rfl
                  subst k113
                  replace h113 := h113 113 rfl
                  have e113 := Calm.at_getD h113
                  clear hsz hold hdep
                  have hcl := fun (b o : Nat) (h : b < _) => Below.cell hS (p := ⟨b, o, none⟩) h
                  go_simp
                  exact hK _ _ (Below.refl _ _) rfl
                refine Calm.Steps.cons (Calm.step_plain rfl ?_) ?_
                · intro a_ w1 hS hsz hold hdep K hK
                  obtain ⟨u109, h109, (k109 : u109 = .bool true)⟩ := hdep 55 (by kernel_rfl) _ rfl
                  subst k109
                  replace h109 := h109 109 rfl
                  have e109 := Calm.at_getD h109
                  obtain ⟨u114, h114, (k114 : u114 = .bool true)⟩ := hdep 60 (by kernel_rfl) _ rfl
                  subst k114
                  replace h114 := h114 114 rfl
                  have e114 := Calm.at_getD h114
                  clear hsz hold hdep
                  have hcl := fun (b o : Nat) (h : b < _) => Below.cell hS (p := ⟨b, o, none⟩) h
                  go_simp
                  exact hK _ _ (Below.refl _ _) rfl
                refine Calm.Steps.cons (Calm.step_plain rfl ?_) ?_
                · intro a_ w1 hS hsz hold hdep K hK
                  obtain ⟨u115, h115, (k115 : u115 = .bool true)⟩ := hdep 61 (by kernel_rfl) _ rfl
                  subst k115
                  replace h115 := h115 115 rfl
                  have e115 := Calm.at_getD h115
                  clear hsz hold hdep
                  have hcl := fun (b o : Nat) (h : b < _) => Below.cell hS (p := ⟨b, o, none⟩) h
                  go_simp
                  exact hK _ _ (Below.refl _ _) rfl
                exact Calm.Steps.nil
              case fin =>
                intro a_ w1 hS hsz hdf hold hk
                obtain ⟨u8, h8_, (k8_ : u8 = .bool true)⟩ := hk 62 _ rfl
                subst k8_
                replace h8_ := h8_ 8 rfl
                have e8_ := Calm.at_getD h8_
                replace hdf : a_.defers = [] := hdf
                clear hold hk hsz
                go_wp2_with fail
                refine bodyPost_ret (v := .bool true) (by simp [results, Try.results9, *, go_sem]) hdf ?_
                exact ⟨rfl, below_call hB0 hS⟩
end Go.Proofs.Ytfnodgpebheinaa.M
