/- The law: of single numbers. -/
import Derived.Test.YtfnodgpebheinaaM61
import Derived.Test.YtfnodgpebheinaaM52
import Derived.Test.YtfnodgpebheinaaM70
import Derived.Test.YtfnodgpebheinaaQ0
import Derived.Deep.DeepCutAuto
import Derived.Deep.CutBlock
namespace Go.Proofs.Ytfnodgpebheinaa.M
open Go Go.RowKit Go.Proofs.Ytfnodgpebheinaa
set_option linter.unusedVariables false
set_option linter.unusedSimpArgs false
attribute [local simp, local go_sem] lt_a2 lt_a3 lt_a4 lt_a5 lt_a6 lt_a7 lt_a8
set_option maxHeartbeats 4000000
attribute [local go_sem] eqIv
theorem i64w (n : Int) : IntKind.i64.wrap n = wrap64 n := by first | exact IntKind.wrap_i64 n | rfl | (simp only [IntKind.wrap, IntKind.signed, IntKind.bits, wrap64]; simp; omega)
theorem name_right' {a b : Nat} (h : a < b) : ∃ G, b = G ∧ a < G := ⟨b, rfl, h⟩
theorem of_one (n : Int) : ofI n n = ⟨true, n, n⟩ := of_eq (Int.le_refl n)
theorem ok_one {n : Int} (h : inr n = true) : Ok ⟨true, n, n⟩ := by rw [inr_iff] at h; exact .inr ⟨rfl, h.1, Int.le_refl n, h.2⟩
theorem has_one (n : Int) : hasI ⟨true, n, n⟩ n = true := (has_iff _ _).2 ⟨rfl, Int.le_refl n, Int.le_refl n⟩
theorem add_one' {x y : Int} (hx : inr x = true) (hy : inr y = true) : addI ⟨true, x, x⟩ ⟨true, y, y⟩ = ⟨true, wrap64 (x + y), wrap64 (x + y)⟩ ∨ addI ⟨true, x, x⟩ ⟨true, y, y⟩ = Iv.top := by
  rw [addI_eq (ok_one hx) (ok_one hy) rfl rfl]
  split
  · rename_i h; left; dsimp only at h ⊢; rw [wrap_id h.1]
  · right; rfl
theorem sub_one' {x y : Int} (hx : inr x = true) (hy : inr y = true) : subI ⟨true, x, x⟩ ⟨true, y, y⟩ = ⟨true, wrap64 (x - y), wrap64 (x - y)⟩ ∨ subI ⟨true, x, x⟩ ⟨true, y, y⟩ = Iv.top := by
  rw [subI_eq (ok_one hx) (ok_one hy) rfl rfl]
  split
  · rename_i h; left; dsimp only at h ⊢; rw [wrap_id h.1]
  · right; rfl
theorem four_same (n : Int) : min4 n n n n = n ∧ max4 n n n n = n := by unfold min4 max4; simp
theorem mul_one' {x y : Int} : mulI ⟨true, x, x⟩ ⟨true, y, y⟩ = ⟨true, wrap64 (x * y), wrap64 (x * y)⟩ ∨ mulI ⟨true, x, x⟩ ⟨true, y, y⟩ = Iv.top := by
  rw [mulI_eq rfl rfl]
  split
  · rename_i h; left; dsimp only at h ⊢; rw [(four_same _).1, (four_same _).2, wrap_id h.1]
  · right; rfl
theorem quo_one {x y : Int} : quoJ ⟨true, x, x⟩ ⟨true, y, y⟩ = ⟨true, wrap64 (x.tdiv y), wrap64 (x.tdiv y)⟩ := by
  unfold quoJ
  rw [cornerJ_eq]
  have m : ∀ i j, quoN ⟨true, x, x⟩ ⟨true, y, y⟩ i j = wrap64 (x.tdiv y) := fun i j => by unfold quoN two; simp
  rw [m, m, m, m, (four_same _).1, (four_same _).2]
theorem div_one {x y : Int} (hx : inr x = true) (hy : inr y = true) :
    divI ⟨true, x, x⟩ ⟨true, y, y⟩ = (if y = 0 then Iv.e else if x = -9223372036854775808 ∧ y = -1 then Iv.top else ⟨true, wrap64 (x.tdiv y), wrap64 (x.tdiv y)⟩) := by
  have hy' := (inr_iff y).1 hy
  unfold divI
  rw [if_pos ⟨rfl, rfl⟩, negP_eq (ok_one hy) rfl, posP_eq (ok_one hy) rfl]
  dsimp only
  have hh : (hasI ⟨true, x, x⟩ (-9223372036854775808) = true ∧ hasI ⟨true, y, y⟩ (-1) = true) ↔ (x = -9223372036854775808 ∧ y = -1) := by
    rw [has_iff, has_iff]; dsimp only
    have hx' := (inr_iff x).1 hx
    constructor
    · rintro ⟨⟨_, a, b⟩, ⟨_, c, d⟩⟩; omega
    · rintro ⟨a, b⟩; exact ⟨⟨rfl, by omega, by omega⟩, ⟨rfl, by omega, by omega⟩⟩
  by_cases h0 : y = 0
  · subst h0
    rw [if_neg (by rw [hh]; omega)]
    rfl
  · rw [if_neg h0]
    by_cases hc : x = -9223372036854775808 ∧ y = -1
    · rw [if_pos (hh.2 hc), if_pos hc]
    · rw [if_neg (fun h => hc (hh.1 h)), if_neg hc]
      by_cases hn : y ≤ -1
      · rw [if_pos hn, if_neg (by omega), if_neg (by omega)]
        unfold divStep
        rw [if_pos rfl, if_neg (by decide), quo_one]
        unfold joinI; rw [if_pos rfl, if_neg (by decide)]
      · rw [if_neg hn, if_pos (by omega), if_neg (by omega)]
        unfold divStep
        rw [if_pos rfl, if_neg (by decide), quo_one]
        unfold joinI; rw [if_pos rfl, if_neg (by decide)]
theorem divZ_one {x y : Int} : divZ ⟨true, x, x⟩ ⟨true, y, y⟩ = decide (y = 0) := by
  unfold divZ hasI
  dsimp only
  rw [Bool.eq_iff_iff]
  simp
  omega
theorem mod_zero (x : Int) : modI ⟨true, x, x⟩ ⟨true, 0, 0⟩ = Iv.e := by
  unfold modI
  rw [if_pos ⟨rfl, rfl⟩, if_pos ⟨rfl, rfl⟩]
theorem mod_one {x y : Int} (hx : inr x = true) (hy : inr y = true) (h : y ≠ 0) : hasI (modI ⟨true, x, x⟩ ⟨true, y, y⟩) (x.tmod y) = true := mod_sound (ok_one hx) (ok_one hy) (has_one x) (has_one y) h
set_option maxRecDepth 100000 in
theorem law_consts (x y : Int) (ix : inr x = true) (iy : inr y = true) (w : World) : Calls Try.prog 6 #[.int .i64 x, .int .i64 y] w fun e w' => e = .returned (.bool true) ∧ Below w.heap.size w w' := by
  have hu := Try.underlying23
  have ox := Lib.hid (ok_one ix)
  have oy := Lib.hid (ok_one iy)
  have hox := Lib.hid (of_one x)
  have hoy := Lib.hid (of_one y)
  have hx : Hid (nrm ⟨true, x, x⟩ = ⟨true, x, x⟩) := Lib.hid (ox.out.nrm)
  have hy : Hid (nrm ⟨true, y, y⟩ = ⟨true, y, y⟩) := Lib.hid (oy.out.nrm)
  obtain ⟨n1, hn1⟩ : ∃ n, Hid (wrap64 (x + y) = n) := ⟨_, Lib.hid rfl⟩
  obtain ⟨n2, hn2⟩ : ∃ n, Hid (wrap64 (x - y) = n) := ⟨_, Lib.hid rfl⟩
  obtain ⟨n3, hn3⟩ : ∃ n, Hid (wrap64 (x * y) = n) := ⟨_, Lib.hid rfl⟩
  obtain ⟨s1, h1⟩ : ∃ q, Hid (addI ⟨true, x, x⟩ ⟨true, y, y⟩ = q) := ⟨_, Lib.hid rfl⟩
  obtain ⟨s2, h2⟩ : ∃ q, Hid (subI ⟨true, x, x⟩ ⟨true, y, y⟩ = q) := ⟨_, Lib.hid rfl⟩
  obtain ⟨s3, h3⟩ : ∃ q, Hid (mulI ⟨true, x, x⟩ ⟨true, y, y⟩ = q) := ⟨_, Lib.hid rfl⟩
  have c1 : Hid (s1 = ⟨true, n1, n1⟩ ∨ s1 = Iv.top) := Lib.hid (by have z := add_one' ix iy; rwa [h1.out, hn1.out] at z)
  have c2 : Hid (s2 = ⟨true, n2, n2⟩ ∨ s2 = Iv.top) := Lib.hid (by have z := sub_one' ix iy; rwa [h2.out, hn2.out] at z)
  have c3 : Hid (s3 = ⟨true, n3, n3⟩ ∨ s3 = Iv.top) := Lib.hid (by have z := mul_one' (x := x) (y := y); rwa [h3.out, hn3.out] at z)
  have b1 : Hid (hasI s1 n1 = true) := Lib.hid (by rw [← h1.out, ← hn1.out]; exact add_sound ox.out oy.out (has_one x) (has_one y))
  have b2 : Hid (hasI s2 n2 = true) := Lib.hid (by rw [← h2.out, ← hn2.out]; exact sub_sound ox.out oy.out (has_one x) (has_one y))
  have b3 : Hid (hasI s3 n3 = true) := Lib.hid (by rw [← h3.out, ← hn3.out]; exact mul_sound (has_one x) (has_one y))
  obtain ⟨s5, h5⟩ : ∃ q, Hid (divI ⟨true, x, x⟩ ⟨true, y, y⟩ = q) := ⟨_, Lib.hid rfl⟩
  obtain ⟨z5, k5⟩ : ∃ q, Hid (divZ ⟨true, x, x⟩ ⟨true, y, y⟩ = q) := ⟨_, Lib.hid rfl⟩
  obtain ⟨s6, h6⟩ : ∃ q, Hid (modI ⟨true, x, x⟩ ⟨true, y, y⟩ = q) := ⟨_, Lib.hid rfl⟩
  have k6 : Hid (modZ ⟨true, x, x⟩ ⟨true, y, y⟩ = z5) := k5
  have ff5 := Lib.hid (h5.out.symm.trans (div_one ix iy))
  have ff6 := Lib.hid (k5.out.symm.trans divZ_one)
  have ff7 : Hid (y ≠ 0 → hasI s6 (x.tmod y) = true) := Lib.hid (fun h => by rw [← h6.out]; exact mod_one ix iy h)
  have ff8 : Hid (y = 0 → s6 = Iv.e) := Lib.hid (fun h => by subst h; rw [← h6.out]; exact mod_zero x)
  replace ix := Lib.hid ix
  replace iy := Lib.hid iy
  have ht : Hid (ofI (-9223372036854775808) 9223372036854775807 = Iv.top) := Lib.hid (by decide)
  go_enter Try.func6, Try.ntmps6
  go_upto_region 4 with (first | (go_at_call 10; (with_reducible refine (known_any _).mono ?_); rintro e w' ⟨rfl, hB0⟩))
  go_cut [6, 7] (fun v1 v2 wd => ∃ g6 g7 : Nat, v1 = .pointer (some ⟨g6, 0, none⟩) ∧ v2 = .pointer (some ⟨g7, 0, none⟩) ∧ Box wd (g6) (⟨true, x, x⟩) ∧ Box wd (g7) (⟨true, y, y⟩) ∧ Below w.heap.size w wd)
  case first =>
    go_wp2_with (first | (go_at_call 22; (with_reducible refine (rof_any x x ⟨true, x, x⟩ hox _).mono ?_); rintro e w2 ⟨rfl, hB⟩; replace hB0 := below_call (w := w) (by first | exact hB0 | (go_grown)) hB; have hsz := hB0.size; clear hB) | (go_at_call 22; (with_reducible refine (rof_any y y ⟨true, y, y⟩ hoy _).mono ?_); rintro e w2 ⟨rfl, hB⟩; replace hB0 := below_call (w := w) (by first | exact hB0 | (go_grown)) hB; have hsz := hB0.size; clear hB))
    go_meet
    case rel => exact ⟨_, _, rfl, rfl, ⟨by go_simp, by go_simp, by go_simp, by go_simp, by go_simp, by go_simp⟩, ⟨by go_simp, by go_simp, by go_simp, by go_simp, by go_simp, by go_simp⟩, by first | (with_reducible assumption) | ((try go_grown); (all_goals (repeat' (first | (with_reducible assumption) | (refine below_call ?_ (by assumption); (try go_grown))))); all_goals (first | omega | (simp; omega)))⟩
  case rest =>
    (try clear hB0)
    obtain ⟨g6, g7, rfl, rfl, Qa, Qd, hB0⟩ := hcut
    have la0 := Box.lt Qa
    obtain ⟨a0, a1, a2, a3, a4, a5⟩ := Qa
    have ld0 := Box.lt Qd
    obtain ⟨d0, d1, d2, d3, d4, d5⟩ := Qd
    have hszB := hB0.size
    go_upto_region 6 with (fail)
    obtain ⟨G, hG, lG6⟩ := name_right' la0
    have lG7 : g7 < G := by have := ld0; omega
    have lGw : w.heap.size ≤ G := by have := hB0.size; omega
    go_cut [9, 10, 11] (fun v1 v2 v3 wd => ∃ g9 g10 g11 : Nat, v1 = .pointer (some ⟨g9, 0, none⟩) ∧ v2 = .pointer (some ⟨g10, 0, none⟩) ∧ v3 = .pointer (some ⟨g11, 0, none⟩) ∧ Box wd (g6) (⟨true, x, x⟩) ∧ Box wd (g7) (⟨true, y, y⟩) ∧ Box wd (g9) (s1) ∧ Box wd (g10) (s2) ∧ Box wd (g11) (s3) ∧ Below w.heap.size w wd)
    case first =>
      refine Calm.wp_calm_late (by kernel_rfl) _ ((Calm.isV (.agg #[.bool true, .int .i64 x, .int .i64 x])) :: (Calm.isV (.agg #[.bool true, .int .i64 y, .int .i64 y])) :: (Calm.isV (.agg #[.bool s1.s, .int .i64 s1.lo, .int .i64 s1.hi])) :: (Calm.isV (.agg #[.bool true, .int .i64 x, .int .i64 x])) :: (Calm.isV (.agg #[.bool true, .int .i64 y, .int .i64 y])) :: (Calm.isV (.agg #[.bool s2.s, .int .i64 s2.lo, .int .i64 s2.hi])) :: (Calm.isV (.agg #[.bool true, .int .i64 x, .int .i64 x])) :: (Calm.isV (.agg #[.bool true, .int .i64 y, .int .i64 y])) :: (Calm.isV (.agg #[.bool s3.s, .int .i64 s3.lo, .int .i64 s3.hi])) :: (Calm.varV (G) [.bool false, .int .i64 0, .int .i64 0]) :: (Calm.varV (G) [.bool false, .int .i64 0, .int .i64 0]) :: (Calm.varV (G) [.bool false, .int .i64 0, .int .i64 0]) :: (Calm.anyV) :: (Calm.anyV) :: (Calm.anyV) :: []) (fun k => decide (k < 12)) [(9, 9), (10, 10), (11, 11)] ?hL (by kernel_rfl) (by kernel_rfl) (by kernel_rfl) (Below.refl _ _) ?step ?fin
      case hL => repeat' (first | exact List.forall_mem_nil _ | refine List.forall_mem_cons.2 ⟨by first | exact Calm.stable_is _ | exact Calm.stable_row _ _ | exact Calm.stable_any | exact Calm.stable_var _ _ | exact Calm.stable_if _ _, ?_⟩)
      case step =>
        refine Calm.StepsJ.cons (Calm.stepJ_of (by kernel_rfl) (by kernel_rfl) rfl (by rfl) (Calm.step_plain rfl ?_)) ?_
        · intro a_ w1 hS hsz hold hdep K hK
          have h6 : a_.tmps[6]? = some (.pointer (some ⟨g6, 0, none⟩)) := (hold 6 (by kernel_rfl)).trans rfl
          have e6 := Calm.at_getD h6
          clear hsz hold hdep
          have hcl := fun (b o : Nat) (h : b < _) => Below.cell hS (p := ⟨b, o, none⟩) h
          go_simp
          exact hK _ _ (Below.refl _ _) rfl
        refine Calm.StepsJ.cons (Calm.stepJ_of (by kernel_rfl) (by kernel_rfl) rfl (by rfl) (Calm.step_plain rfl ?_)) ?_
        · intro a_ w1 hS hsz hold hdep K hK
          have h7 : a_.tmps[7]? = some (.pointer (some ⟨g7, 0, none⟩)) := (hold 7 (by kernel_rfl)).trans rfl
          have e7 := Calm.at_getD h7
          clear hsz hold hdep
          have hcl := fun (b o : Nat) (h : b < _) => Below.cell hS (p := ⟨b, o, none⟩) h
          go_simp
          exact hK _ _ (Below.refl _ _) rfl
        refine Calm.StepsJ.cons (Calm.stepJ_of (by kernel_rfl) (by kernel_rfl) rfl (by rfl) (Calm.step_plain rfl ?_)) ?_
        · intro a_ w1 hS hsz hold hdep K hK
          have h26 := Calm.is_at (x := .agg #[.bool true, .int .i64 x, .int .i64 x]) hdep (k := 0) (by kernel_rfl) rfl rfl (fun _ _ h => h)
          have e26 := Calm.at_getD h26
          have h27 := Calm.is_at (x := .agg #[.bool true, .int .i64 y, .int .i64 y]) hdep (k := 1) (by kernel_rfl) rfl rfl (fun _ _ h => h)
          have e27 := Calm.at_getD h27
          clear hsz hold hdep
          go_simp
          refine (arith_add' ⟨true, x, x⟩ ⟨true, y, y⟩ ⟨true, x, x⟩ ⟨true, y, y⟩ hx hy s1 h1 _).mono ?_; rintro e w' ⟨rfl, hB⟩
          exact hK _ _ hB rfl
        refine Calm.StepsJ.cons (Calm.stepJ_of (by kernel_rfl) (by kernel_rfl) rfl (by rfl) (Calm.step_plain rfl ?_)) ?_
        · intro a_ w1 hS hsz hold hdep K hK
          have h6 : a_.tmps[6]? = some (.pointer (some ⟨g6, 0, none⟩)) := (hold 6 (by kernel_rfl)).trans rfl
          have e6 := Calm.at_getD h6
          clear hsz hold hdep
          have hcl := fun (b o : Nat) (h : b < _) => Below.cell hS (p := ⟨b, o, none⟩) h
          go_simp
          exact hK _ _ (Below.refl _ _) rfl
        refine Calm.StepsJ.cons (Calm.stepJ_of (by kernel_rfl) (by kernel_rfl) rfl (by rfl) (Calm.step_plain rfl ?_)) ?_
        · intro a_ w1 hS hsz hold hdep K hK
          have h7 : a_.tmps[7]? = some (.pointer (some ⟨g7, 0, none⟩)) := (hold 7 (by kernel_rfl)).trans rfl
          have e7 := Calm.at_getD h7
          clear hsz hold hdep
          have hcl := fun (b o : Nat) (h : b < _) => Below.cell hS (p := ⟨b, o, none⟩) h
          go_simp
          exact hK _ _ (Below.refl _ _) rfl
        refine Calm.StepsJ.cons (Calm.stepJ_of (by kernel_rfl) (by kernel_rfl) rfl (by rfl) (Calm.step_plain rfl ?_)) ?_
        · intro a_ w1 hS hsz hold hdep K hK
          have h29 := Calm.is_at (x := .agg #[.bool true, .int .i64 x, .int .i64 x]) hdep (k := 3) (by kernel_rfl) rfl rfl (fun _ _ h => h)
          have e29 := Calm.at_getD h29
          have h30 := Calm.is_at (x := .agg #[.bool true, .int .i64 y, .int .i64 y]) hdep (k := 4) (by kernel_rfl) rfl rfl (fun _ _ h => h)
          have e30 := Calm.at_getD h30
          clear hsz hold hdep
          go_simp
          refine (arith_sub' ⟨true, x, x⟩ ⟨true, y, y⟩ ⟨true, x, x⟩ ⟨true, y, y⟩ hx hy s2 h2 _).mono ?_; rintro e w' ⟨rfl, hB⟩
          exact hK _ _ hB rfl
        refine Calm.StepsJ.cons (Calm.stepJ_of (by kernel_rfl) (by kernel_rfl) rfl (by rfl) (Calm.step_plain rfl ?_)) ?_
        · intro a_ w1 hS hsz hold hdep K hK
          have h6 : a_.tmps[6]? = some (.pointer (some ⟨g6, 0, none⟩)) := (hold 6 (by kernel_rfl)).trans rfl
          have e6 := Calm.at_getD h6
          clear hsz hold hdep
          have hcl := fun (b o : Nat) (h : b < _) => Below.cell hS (p := ⟨b, o, none⟩) h
          go_simp
          exact hK _ _ (Below.refl _ _) rfl
        refine Calm.StepsJ.cons (Calm.stepJ_of (by kernel_rfl) (by kernel_rfl) rfl (by rfl) (Calm.step_plain rfl ?_)) ?_
        · intro a_ w1 hS hsz hold hdep K hK
          have h7 : a_.tmps[7]? = some (.pointer (some ⟨g7, 0, none⟩)) := (hold 7 (by kernel_rfl)).trans rfl
          have e7 := Calm.at_getD h7
          clear hsz hold hdep
          have hcl := fun (b o : Nat) (h : b < _) => Below.cell hS (p := ⟨b, o, none⟩) h
          go_simp
          exact hK _ _ (Below.refl _ _) rfl
        refine Calm.StepsJ.cons (Calm.stepJ_of (by kernel_rfl) (by kernel_rfl) rfl (by rfl) (Calm.step_plain rfl ?_)) ?_
        · intro a_ w1 hS hsz hold hdep K hK
          have h32 := Calm.is_at (x := .agg #[.bool true, .int .i64 x, .int .i64 x]) hdep (k := 6) (by kernel_rfl) rfl rfl (fun _ _ h => h)
          have e32 := Calm.at_getD h32
          have h33 := Calm.is_at (x := .agg #[.bool true, .int .i64 y, .int .i64 y]) hdep (k := 7) (by kernel_rfl) rfl rfl (fun _ _ h => h)
          have e33 := Calm.at_getD h33
          clear hsz hold hdep
          go_simp
          refine (arith_mul ⟨true, x, x⟩ ⟨true, y, y⟩ ⟨true, x, x⟩ ⟨true, y, y⟩ hx hy ox.out oy.out s3 h3 _).mono ?_; rintro e w' ⟨rfl, hB⟩
          exact hK _ _ hB rfl
        refine Calm.StepsJ.cons (Calm.stepJ_alloc (by kernel_rfl) (by kernel_rfl) rfl rfl ?_ ?_) ?_
        · intro p hp v w2 h hV hv
          simp only [List.mem_cons, List.not_mem_nil, or_false] at hp
          rcases hp with rfl | rfl | rfl
          all_goals exact Calm.var_lt hV hv
        · intro a_ w1 hS K hK
          go_simp
          refine hK _ (by unfold Calm.Grow; go_grown) ⟨_, rfl, (Nat.le_trans (Nat.le_of_eq hG.symm) (Below.size hS)), fun j u hj => ?_⟩
          rcases j with _ | _ | _ | j
          all_goals first | (simp at hj; done) | (simp at hj; subst hj; exact ⟨by go_simp, by go_simp⟩)
        refine Calm.StepsJ.cons (Calm.stepJ_alloc (by kernel_rfl) (by kernel_rfl) rfl rfl ?_ ?_) ?_
        · intro p hp v w2 h hV hv
          simp only [List.mem_cons, List.not_mem_nil, or_false] at hp
          rcases hp with rfl | rfl | rfl
          all_goals exact Calm.var_lt hV hv
        · intro a_ w1 hS K hK
          go_simp
          refine hK _ (by unfold Calm.Grow; go_grown) ⟨_, rfl, (Nat.le_trans (Nat.le_of_eq hG.symm) (Below.size hS)), fun j u hj => ?_⟩
          rcases j with _ | _ | _ | j
          all_goals first | (simp at hj; done) | (simp at hj; subst hj; exact ⟨by go_simp, by go_simp⟩)
        refine Calm.StepsJ.cons (Calm.stepJ_alloc (by kernel_rfl) (by kernel_rfl) rfl rfl ?_ ?_) ?_
        · intro p hp v w2 h hV hv
          simp only [List.mem_cons, List.not_mem_nil, or_false] at hp
          rcases hp with rfl | rfl | rfl
          all_goals exact Calm.var_lt hV hv
        · intro a_ w1 hS K hK
          go_simp
          refine hK _ (by unfold Calm.Grow; go_grown) ⟨_, rfl, (Nat.le_trans (Nat.le_of_eq hG.symm) (Below.size hS)), fun j u hj => ?_⟩
          rcases j with _ | _ | _ | j
          all_goals first | (simp at hj; done) | (simp at hj; subst hj; exact ⟨by go_simp, by go_simp⟩)
        refine Calm.StepsJ.skip rfl ?_
        refine Calm.StepsJ.skip rfl ?_
        refine Calm.StepsJ.skip rfl ?_
        exact Calm.StepsJ.nil
      case fin =>
        intro v w1 hS hv hJ
        have hcl := fun (b o : Nat) (h : b < _) => Below.cell hS (p := ⟨b, o, none⟩) h
        have hfl := fun (b o : Nat) (h : b < _) => Below.frozen hS (p := ⟨b, o, none⟩) h
        have k2 : v 2 = .agg #[.bool s1.s, .int .i64 s1.lo, .int .i64 s1.hi] := hv 2 (by decide) rfl
        have k5 : v 5 = .agg #[.bool s2.s, .int .i64 s2.lo, .int .i64 s2.hi] := hv 5 (by decide) rfl
        have k8 : v 8 = .agg #[.bool s3.s, .int .i64 s3.lo, .int .i64 s3.hi] := hv 8 (by decide) rfl
        obtain ⟨g9, (k9 : v 9 = _), hbg9, cg9⟩ := hv 9 (by decide) rfl
        obtain ⟨xg90, yg90⟩ := cg9 0 _ rfl
        obtain ⟨xg91, yg91⟩ := cg9 1 _ rfl
        obtain ⟨xg92, yg92⟩ := cg9 2 _ rfl
        clear cg9
        obtain ⟨g10, (k10 : v 10 = _), hbg10, cg10⟩ := hv 10 (by decide) rfl
        obtain ⟨xg100, yg100⟩ := cg10 0 _ rfl
        obtain ⟨xg101, yg101⟩ := cg10 1 _ rfl
        obtain ⟨xg102, yg102⟩ := cg10 2 _ rfl
        clear cg10
        obtain ⟨g11, (k11 : v 11 = _), hbg11, cg11⟩ := hv 11 (by decide) rfl
        obtain ⟨xg110, yg110⟩ := cg11 0 _ rfl
        obtain ⟨xg111, yg111⟩ := cg11 1 _ rfl
        obtain ⟨xg112, yg112⟩ := cg11 2 _ rfl
        clear cg11
        have hne01 : g9 ≠ g10 := hJ (9, 9) (by simp) (10, 10) (by simp) (by decide) (by kernel_rfl) (by kernel_rfl) g9 g10 (by rw [← k9]; kernel_rfl) (by rw [← k10]; kernel_rfl)
        have hnf01 := hne01.symm
        have hne02 : g9 ≠ g11 := hJ (9, 9) (by simp) (11, 11) (by simp) (by decide) (by kernel_rfl) (by kernel_rfl) g9 g11 (by rw [← k9]; kernel_rfl) (by rw [← k11]; kernel_rfl)
        have hnf02 := hne02.symm
        have hne12 : g10 ≠ g11 := hJ (10, 10) (by simp) (11, 11) (by simp) (by decide) (by kernel_rfl) (by kernel_rfl) g10 g11 (by rw [← k10]; kernel_rfl) (by rw [← k11]; kernel_rfl)
        have hnf12 := hne12.symm
        have hlg9 : w.heap.size ≤ g9 := by omega
        have ng9g6 : g9 ≠ g6 := by omega
        have mg9g6 : g6 ≠ g9 := by omega
        have ng9g7 : g9 ≠ g7 := by omega
        have mg9g7 : g7 ≠ g9 := by omega
        have hlg10 : w.heap.size ≤ g10 := by omega
        have ng10g6 : g10 ≠ g6 := by omega
        have mg10g6 : g6 ≠ g10 := by omega
        have ng10g7 : g10 ≠ g7 := by omega
        have mg10g7 : g7 ≠ g10 := by omega
        have hlg11 : w.heap.size ≤ g11 := by omega
        have ng11g6 : g11 ≠ g6 := by omega
        have mg11g6 : g6 ≠ g11 := by omega
        have ng11g7 : g11 ≠ g7 := by omega
        have mg11g7 : g7 ≠ g11 := by omega
        have hB1 : Below w.heap.size w w1 := below_call hB0 hS
        clear hv hJ
        refine Calm.wpAny_cast (n' := 3) (L' := #[true, true, true, true, true, true, true, true, true, true, true, true, false, false, false]) (by kernel_rfl) (by kernel_rfl) ?_
        simp only [List.append, Calm.puts, Act.put, List.setIfInBounds_toArray, List.set_cons_zero, List.set_cons_succ]
        simp only [k2, k5, k8, k9, k10, k11]
        refine Calm.wpAny_one (i := 12) (by kernel_rfl) rfl rfl (fun K hK => ?_)
        go_simp
        refine hK _ _ ?_
        clear hK
        refine Calm.wpAny_one (i := 13) (by kernel_rfl) rfl rfl (fun K hK => ?_)
        go_simp
        refine hK _ _ ?_
        clear hK
        refine Calm.wpAny_one (i := 14) (by kernel_rfl) rfl rfl (fun K hK => ?_)
        go_simp
        refine hK _ _ ?_
        clear hK
        refine Calm.wpAny_end (by kernel_rfl) ?_
        go_wp2_with fail
        go_meet
        case rel => exact ⟨_, _, _, rfl, rfl, rfl, ⟨by go_simp, by go_simp, by go_simp, by go_simp, by go_simp, by go_simp⟩, ⟨by go_simp, by go_simp, by go_simp, by go_simp, by go_simp, by go_simp⟩, ⟨by go_simp, by go_simp, by go_simp, by go_simp, by go_simp, by go_simp⟩, ⟨by go_simp, by go_simp, by go_simp, by go_simp, by go_simp, by go_simp⟩, ⟨by go_simp, by go_simp, by go_simp, by go_simp, by go_simp, by go_simp⟩, by first | (with_reducible assumption) | ((try go_grown); (all_goals (repeat' (first | (with_reducible assumption) | (refine below_call ?_ (by assumption); (try go_grown))))); all_goals (first | omega | (simp; omega)))⟩
    case rest =>
      clear hG lG6 lG7 lGw
      (try clear hB0); (try clear a0 a1 a2 a3 a4 a5); (try clear d0 d1 d2 d3 d4 d5)
      obtain ⟨g9, g10, g11, rfl, rfl, rfl, Qa, Qd, Qe, Qf, Qm, hB0⟩ := hcut
      have la0 := Box.lt Qa
      obtain ⟨a0, a1, a2, a3, a4, a5⟩ := Qa
      have ld0 := Box.lt Qd
      obtain ⟨d0, d1, d2, d3, d4, d5⟩ := Qd
      have le0 := Box.lt Qe
      obtain ⟨e0, e1, e2, e3, e4, e5⟩ := Qe
      have lf0 := Box.lt Qf
      obtain ⟨f0, f1, f2, f3, f4, f5⟩ := Qf
      have lm0 := Box.lt Qm
      obtain ⟨m0, m1, m2, m3, m4, m5⟩ := Qm
      have hszB := hB0.size
      go_upto_region 7 with (fail)
      go_cut [110] (fun v wd => v = .bool false ∧ Box wd (g6) (⟨true, x, x⟩) ∧ Box wd (g7) (⟨true, y, y⟩) ∧ Below w.heap.size w wd)
      case first =>
        clear ff5 ff6 ff7 ff8 h5 h6 k5 k6 ox oy hx hy ix iy h1 h2 h3
        obtain ⟨u1_, U1⟩ : ∃ u, Hid ((!(s1.s == true && (s1.lo == n1 && s1.hi == n1))) = u) := ⟨_, Lib.hid rfl⟩
        have T1 : Hid (u1_ = true → s1 = Iv.top) := Lib.hid (fun h => by
          rcases c1.out with e | e
          · have z := U1.out; rw [h, e] at z; simp at z
          · exact e)
        obtain ⟨u2_, U2⟩ : ∃ u, Hid ((!(s2.s == true && (s2.lo == n2 && s2.hi == n2))) = u) := ⟨_, Lib.hid rfl⟩
        have T2 : Hid (u2_ = true → s2 = Iv.top) := Lib.hid (fun h => by
          rcases c2.out with e | e
          · have z := U2.out; rw [h, e] at z; simp at z
          · exact e)
        obtain ⟨u3_, U3⟩ : ∃ u, Hid ((!(s3.s == true && (s3.lo == n3 && s3.hi == n3))) = u) := ⟨_, Lib.hid rfl⟩
        have T3 : Hid (u3_ = true → s3 = Iv.top) := Lib.hid (fun h => by
          rcases c3.out with e | e
          · have z := U3.out; rw [h, e] at z; simp at z
          · exact e)
        clear c1 c2 c3
        refine Calm.wp_calm2 (by kernel_rfl) _ ((Calm.isV (.agg #[.bool s1.s, .int .i64 s1.lo, .int .i64 s1.hi])) :: (Calm.isV (.func (.func 22) #[] #[])) :: (Calm.isV (.int .i64 x)) :: (Calm.isV (.int .i64 y)) :: (Calm.isV (.int .i64 n1)) :: (Calm.isV (.int .i64 x)) :: (Calm.isV (.int .i64 y)) :: (Calm.isV (.int .i64 n1)) :: (Calm.isV (.agg #[.bool true, .int .i64 n1, .int .i64 n1])) :: (Calm.isV (.bool u1_)) :: (Calm.isV (.bool u1_)) :: (Calm.ifV u1_ (.agg #[.bool s1.s, .int .i64 s1.lo, .int .i64 s1.hi])) :: (Calm.ifV u1_ (.agg #[.bool true, .int .i64 (-9223372036854775808), .int .i64 9223372036854775807])) :: (Calm.ifV u1_ (.bool false)) :: (Calm.isV (.bool false)) :: (Calm.isV (.bool false)) :: (Calm.isV (.agg #[.bool s2.s, .int .i64 s2.lo, .int .i64 s2.hi])) :: (Calm.isV (.func (.func 22) #[] #[])) :: (Calm.isV (.int .i64 x)) :: (Calm.isV (.int .i64 y)) :: (Calm.isV (.int .i64 n2)) :: (Calm.isV (.int .i64 x)) :: (Calm.isV (.int .i64 y)) :: (Calm.isV (.int .i64 n2)) :: (Calm.isV (.agg #[.bool true, .int .i64 n2, .int .i64 n2])) :: (Calm.isV (.bool u2_)) :: (Calm.isV (.bool u2_)) :: (Calm.ifV u2_ (.agg #[.bool s2.s, .int .i64 s2.lo, .int .i64 s2.hi])) :: (Calm.ifV u2_ (.agg #[.bool true, .int .i64 (-9223372036854775808), .int .i64 9223372036854775807])) :: (Calm.ifV u2_ (.bool false)) :: (Calm.isV (.bool false)) :: (Calm.isV (.bool false)) :: (Calm.isV (.bool false)) :: (Calm.isV (.agg #[.bool s3.s, .int .i64 s3.lo, .int .i64 s3.hi])) :: (Calm.isV (.func (.func 22) #[] #[])) :: (Calm.isV (.int .i64 x)) :: (Calm.isV (.int .i64 y)) :: (Calm.isV (.int .i64 n3)) :: (Calm.isV (.int .i64 x)) :: (Calm.isV (.int .i64 y)) :: (Calm.isV (.int .i64 n3)) :: (Calm.isV (.agg #[.bool true, .int .i64 n3, .int .i64 n3])) :: (Calm.isV (.bool u3_)) :: (Calm.isV (.bool u3_)) :: (Calm.ifV u3_ (.agg #[.bool s3.s, .int .i64 s3.lo, .int .i64 s3.hi])) :: (Calm.ifV u3_ (.agg #[.bool true, .int .i64 (-9223372036854775808), .int .i64 9223372036854775807])) :: (Calm.ifV u3_ (.bool false)) :: (Calm.isV (.bool false)) :: (Calm.isV (.bool false)) :: (Calm.isV (.bool false)) :: (Calm.isV (.func (.func 16) #[] #[])) :: (Calm.isV (.agg #[.bool s1.s, .int .i64 s1.lo, .int .i64 s1.hi])) :: (Calm.isV (.int .i64 x)) :: (Calm.isV (.int .i64 y)) :: (Calm.isV (.int .i64 n1)) :: (Calm.isV (.bool true)) :: (Calm.isV (.bool false)) :: (Calm.isV (.bool false)) :: (Calm.isV (.bool false)) :: (Calm.isV (.func (.func 16) #[] #[])) :: (Calm.isV (.agg #[.bool s2.s, .int .i64 s2.lo, .int .i64 s2.hi])) :: (Calm.isV (.int .i64 x)) :: (Calm.isV (.int .i64 y)) :: (Calm.isV (.int .i64 n2)) :: (Calm.isV (.bool true)) :: (Calm.isV (.bool false)) :: (Calm.isV (.bool false)) :: (Calm.isV (.bool false)) :: (Calm.isV (.func (.func 16) #[] #[])) :: (Calm.isV (.agg #[.bool s3.s, .int .i64 s3.lo, .int .i64 s3.hi])) :: (Calm.isV (.int .i64 x)) :: (Calm.isV (.int .i64 y)) :: (Calm.isV (.int .i64 n3)) :: (Calm.isV (.bool true)) :: (Calm.isV (.bool false)) :: (Calm.isV (.bool false)) :: []) ?hL (by kernel_rfl) (by kernel_rfl) (Below.refl _ _) ?step ?fin
        case hL => repeat' (first | exact List.forall_mem_nil _ | refine List.forall_mem_cons.2 ⟨by first | exact Calm.stable_is _ | exact Calm.stable_row _ _ | exact Calm.stable_any | exact Calm.stable_var _ _ | exact Calm.stable_if _ _, ?_⟩)
        case step =>
          refine Calm.Steps.cons (Calm.step_plain rfl ?_) ?_
          · intro a_ w1 hS hsz hold hdep K hK
            have h9 : a_.tmps[9]? = some (.pointer (some ⟨g9, 0, none⟩)) := (hold 9 (by kernel_rfl)).trans rfl
            have e9 := Calm.at_getD h9
            clear hsz hold hdep
            have hcl := fun (b o : Nat) (h : b < _) => Below.cell hS (p := ⟨b, o, none⟩) h
            go_simp
            exact hK _ _ (Below.refl _ _) rfl
          refine Calm.Steps.cons (Calm.step_plain rfl ?_) ?_
          · intro a_ w1 hS hsz hold hdep K hK
            have h5 : a_.tmps[5]? = some (.func (.func 22) #[] #[]) := (hold 5 (by kernel_rfl)).trans rfl
            have e5 := Calm.at_getD h5
            clear hsz hold hdep
            have hcl := fun (b o : Nat) (h : b < _) => Below.cell hS (p := ⟨b, o, none⟩) h
            go_simp
            exact hK _ _ (Below.refl _ _) rfl
          refine Calm.Steps.cons (Calm.step_plain rfl ?_) ?_
          · intro a_ w1 hS hsz hold hdep K hK
            have h0 : a_.tmps[0]? = some (.int .i64 x) := (hold 0 (by kernel_rfl)).trans rfl
            have e0 := Calm.at_getD h0
            clear hsz hold hdep
            have hcl := fun (b o : Nat) (h : b < _) => Below.cell hS (p := ⟨b, o, none⟩) h
            go_simp
            exact hK _ _ (Below.refl _ _) rfl
          refine Calm.Steps.cons (Calm.step_plain rfl ?_) ?_
          · intro a_ w1 hS hsz hold hdep K hK
            have h1 : a_.tmps[1]? = some (.int .i64 y) := (hold 1 (by kernel_rfl)).trans rfl
            have e1 := Calm.at_getD h1
            clear hsz hold hdep
            have hcl := fun (b o : Nat) (h : b < _) => Below.cell hS (p := ⟨b, o, none⟩) h
            go_simp
            exact hK _ _ (Below.refl _ _) rfl
          refine Calm.Steps.cons (Calm.step_plain rfl ?_) ?_
          · intro a_ w1 hS hsz hold hdep K hK
            have h37 := Calm.is_at (x := .int .i64 x) hdep (k := 2) (by kernel_rfl) rfl rfl (fun _ _ h => h)
            have e37 := Calm.at_getD h37
            have h38 := Calm.is_at (x := .int .i64 y) hdep (k := 3) (by kernel_rfl) rfl rfl (fun _ _ h => h)
            have e38 := Calm.at_getD h38
            clear hsz hold hdep
            have hcl := fun (b o : Nat) (h : b < _) => Below.cell hS (p := ⟨b, o, none⟩) h
            go_simp
            refine hK _ _ (Below.refl _ _) ?_
            exact congrArg (Value.int IntKind.i64) (by first | exact hn1.out | (rw [i64w]; exact hn1.out))
          refine Calm.Steps.cons (Calm.step_plain rfl ?_) ?_
          · intro a_ w1 hS hsz hold hdep K hK
            have h0 : a_.tmps[0]? = some (.int .i64 x) := (hold 0 (by kernel_rfl)).trans rfl
            have e0 := Calm.at_getD h0
            clear hsz hold hdep
            have hcl := fun (b o : Nat) (h : b < _) => Below.cell hS (p := ⟨b, o, none⟩) h
            go_simp
            exact hK _ _ (Below.refl _ _) rfl
          refine Calm.Steps.cons (Calm.step_plain rfl ?_) ?_
          · intro a_ w1 hS hsz hold hdep K hK
            have h1 : a_.tmps[1]? = some (.int .i64 y) := (hold 1 (by kernel_rfl)).trans rfl
            have e1 := Calm.at_getD h1
            clear hsz hold hdep
            have hcl := fun (b o : Nat) (h : b < _) => Below.cell hS (p := ⟨b, o, none⟩) h
            go_simp
            exact hK _ _ (Below.refl _ _) rfl
          refine Calm.Steps.cons (Calm.step_plain rfl ?_) ?_
          · intro a_ w1 hS hsz hold hdep K hK
            have h40 := Calm.is_at (x := .int .i64 x) hdep (k := 5) (by kernel_rfl) rfl rfl (fun _ _ h => h)
            have e40 := Calm.at_getD h40
            have h41 := Calm.is_at (x := .int .i64 y) hdep (k := 6) (by kernel_rfl) rfl rfl (fun _ _ h => h)
            have e41 := Calm.at_getD h41
            clear hsz hold hdep
            have hcl := fun (b o : Nat) (h : b < _) => Below.cell hS (p := ⟨b, o, none⟩) h
            go_simp
            refine hK _ _ (Below.refl _ _) ?_
            exact congrArg (Value.int IntKind.i64) (by first | exact hn1.out | (rw [i64w]; exact hn1.out))
          refine Calm.Steps.cons (Calm.step_plain rfl ?_) ?_
          · intro a_ w1 hS hsz hold hdep K hK
            have h36 := Calm.is_at (x := .func (.func 22) #[] #[]) hdep (k := 1) (by kernel_rfl) rfl rfl (fun _ _ h => h)
            have e36 := Calm.at_getD h36
            have h39 := Calm.is_at (x := .int .i64 n1) hdep (k := 4) (by kernel_rfl) rfl rfl (fun _ _ h => h)
            have e39 := Calm.at_getD h39
            have h42 := Calm.is_at (x := .int .i64 n1) hdep (k := 7) (by kernel_rfl) rfl rfl (fun _ _ h => h)
            have e42 := Calm.at_getD h42
            clear hsz hold hdep
            go_simp
            refine (rof_any n1 n1 ⟨true, n1, n1⟩ (Lib.hid (of_one n1)) _).mono ?_; rintro e w' ⟨rfl, hB⟩
            exact hK _ _ hB rfl
          refine Calm.Steps.cons (Calm.step_plain rfl ?_) ?_
          · intro a_ w1 hS hsz hold hdep K hK
            have h35 := Calm.is_at (x := .agg #[.bool s1.s, .int .i64 s1.lo, .int .i64 s1.hi]) hdep (k := 0) (by kernel_rfl) rfl rfl (fun _ _ h => h)
            have e35 := Calm.at_getD h35
            have h43 := Calm.is_at (x := .agg #[.bool true, .int .i64 n1, .int .i64 n1]) hdep (k := 8) (by kernel_rfl) rfl rfl (fun _ _ h => h)
            have e43 := Calm.at_getD h43
            clear hsz hold hdep
            have hcl := fun (b o : Nat) (h : b < _) => Below.cell hS (p := ⟨b, o, none⟩) h
            go_simp
            (repeat' split) <;> (refine hK _ _ (Below.refl _ _) ?_; show Value.bool _ = Value.bool _; exact congrArg Value.bool (by rw [← U1.out]; simp [*]))
          refine Calm.Steps.cons (Calm.step_plain rfl ?_) ?_
          · intro a_ w1 hS hsz hold hdep K hK
            have h44 := Calm.is_at (x := .bool u1_) hdep (k := 9) (by kernel_rfl) rfl rfl (fun _ _ h => h)
            have e44 := Calm.at_getD h44
            clear hsz hold hdep
            have hcl := fun (b o : Nat) (h : b < _) => Below.cell hS (p := ⟨b, o, none⟩) h
            go_simp
            exact hK _ _ (Below.refl _ _) rfl
          refine Calm.Steps.cons ?_ ?_
          · rcases u1_ with _ | _
            · exact Calm.step_unwanted (b := true) (c := false) (fun w => Below.refl _ _) rfl rfl rfl (by kernel_rfl) (fun _ _ h => h) (by decide) (fun _ => (fun h => by cases h))
            · refine Calm.step_wanted (b := true) rfl rfl rfl (by kernel_rfl) (fun _ _ h => h) ?_
              intro a_ w1 hS hsz hold hdep K hK
              have h9 : a_.tmps[9]? = some (.pointer (some ⟨g9, 0, none⟩)) := (hold 9 (by kernel_rfl)).trans rfl
              have e9 := Calm.at_getD h9
              clear hsz hold hdep
              have hcl := fun (b o : Nat) (h : b < _) => Below.cell hS (p := ⟨b, o, none⟩) h
              go_simp
              exact hK _ _ (Below.refl _ _) (fun _ => rfl)
          refine Calm.Steps.cons ?_ ?_
          · rcases u1_ with _ | _
            · exact Calm.step_unwanted (b := true) (c := false) (fun w => Below.refl _ _) rfl rfl rfl (by kernel_rfl) (fun _ _ h => h) (by decide) (fun _ => (fun h => by cases h))
            · refine Calm.step_wanted (b := true) rfl rfl rfl (by kernel_rfl) (fun _ _ h => h) ?_
              intro a_ w1 hS hsz hold hdep K hK
              clear hsz hold hdep
              go_simp
              refine (rtop_any Iv.top (Lib.hid rfl) _).mono ?_; rintro e w' ⟨rfl, hB⟩
              exact hK _ _ hB (fun _ => rfl)
          refine Calm.Steps.cons ?_ ?_
          · rcases u1_ with _ | _
            · exact Calm.step_unwanted (b := true) (c := false) (fun w => Below.refl _ _) rfl rfl rfl (by kernel_rfl) (fun _ _ h => h) (by decide) (fun _ => (fun h => by cases h))
            · refine Calm.step_wanted (b := true) rfl rfl rfl (by kernel_rfl) (fun _ _ h => h) ?_
              intro a_ w1 hS hsz hold hdep K hK
              have h46 := Calm.is_at (x := .agg #[.bool s1.s, .int .i64 s1.lo, .int .i64 s1.hi]) hdep (k := 11) (by kernel_rfl) rfl rfl (fun _ _ h => h rfl)
              have e46 := Calm.at_getD h46
              have h47 := Calm.is_at (x := .agg #[.bool true, .int .i64 (-9223372036854775808), .int .i64 9223372036854775807]) hdep (k := 12) (by kernel_rfl) rfl rfl (fun _ _ h => h rfl)
              have e47 := Calm.at_getD h47
              clear hsz hold hdep
              have hcl := fun (b o : Nat) (h : b < _) => Below.cell hS (p := ⟨b, o, none⟩) h
              have z := T1.out rfl
              go_simp
              first | exact hK _ _ (Below.refl _ _) (fun _ => rfl) | ((repeat' split) <;> first | exact hK _ _ (Below.refl _ _) (fun _ => rfl) | (exfalso; simp_all))
          refine Calm.Steps.cons ?_ ?_
          · rcases u1_ with _ | _
            · refine Calm.step_plain rfl ?_
              intro a_ w1 hS hsz hold hdep K hK
              have h45 := Calm.is_at (x := .bool false) hdep (k := 10) (by kernel_rfl) rfl rfl (fun _ _ h => h)
              have e45 := Calm.at_getD h45
              obtain ⟨u48, h48, _⟩ := hdep 13 (by kernel_rfl) _ rfl
              replace h48 := h48 48 rfl
              have e48 := Calm.at_getD h48
              clear hsz hold hdep
              have hcl := fun (b o : Nat) (h : b < _) => Below.cell hS (p := ⟨b, o, none⟩) h
              go_simp
              exact hK _ _ (Below.refl _ _) rfl
            · refine Calm.step_plain rfl ?_
              intro a_ w1 hS hsz hold hdep K hK
              have h45 := Calm.is_at (x := .bool true) hdep (k := 10) (by kernel_rfl) rfl rfl (fun _ _ h => h)
              have e45 := Calm.at_getD h45
              have h48 := Calm.is_at (x := .bool false) hdep (k := 13) (by kernel_rfl) rfl rfl (fun _ _ h => h rfl)
              have e48 := Calm.at_getD h48
              clear hsz hold hdep
              have hcl := fun (b o : Nat) (h : b < _) => Below.cell hS (p := ⟨b, o, none⟩) h
              go_simp
              exact hK _ _ (Below.refl _ _) rfl
          refine Calm.Steps.cons (Calm.step_plain rfl ?_) ?_
          · intro a_ w1 hS hsz hold hdep K hK
            have h49 := Calm.is_at (x := .bool false) hdep (k := 14) (by kernel_rfl) rfl rfl (fun _ _ h => h)
            have e49 := Calm.at_getD h49
            clear hsz hold hdep
            have hcl := fun (b o : Nat) (h : b < _) => Below.cell hS (p := ⟨b, o, none⟩) h
            go_simp
            exact hK _ _ (Below.refl _ _) rfl
          refine Calm.Steps.cons (Calm.step_wanted (b := false) rfl rfl rfl (by kernel_rfl) (fun _ _ h => h) ?_) ?_
          · intro a_ w1 hS hsz hold hdep K hK
            have h10 : a_.tmps[10]? = some (.pointer (some ⟨g10, 0, none⟩)) := (hold 10 (by kernel_rfl)).trans rfl
            have e10 := Calm.at_getD h10
            clear hsz hold hdep
            have hcl := fun (b o : Nat) (h : b < _) => Below.cell hS (p := ⟨b, o, none⟩) h
            go_simp
            exact hK _ _ (Below.refl _ _) rfl
          refine Calm.Steps.cons (Calm.step_wanted (b := false) rfl rfl rfl (by kernel_rfl) (fun _ _ h => h) ?_) ?_
          · intro a_ w1 hS hsz hold hdep K hK
            have h5 : a_.tmps[5]? = some (.func (.func 22) #[] #[]) := (hold 5 (by kernel_rfl)).trans rfl
            have e5 := Calm.at_getD h5
            clear hsz hold hdep
            have hcl := fun (b o : Nat) (h : b < _) => Below.cell hS (p := ⟨b, o, none⟩) h
            go_simp
            exact hK _ _ (Below.refl _ _) rfl
          refine Calm.Steps.cons (Calm.step_wanted (b := false) rfl rfl rfl (by kernel_rfl) (fun _ _ h => h) ?_) ?_
          · intro a_ w1 hS hsz hold hdep K hK
            have h0 : a_.tmps[0]? = some (.int .i64 x) := (hold 0 (by kernel_rfl)).trans rfl
            have e0 := Calm.at_getD h0
            clear hsz hold hdep
            have hcl := fun (b o : Nat) (h : b < _) => Below.cell hS (p := ⟨b, o, none⟩) h
            go_simp
            exact hK _ _ (Below.refl _ _) rfl
          refine Calm.Steps.cons (Calm.step_wanted (b := false) rfl rfl rfl (by kernel_rfl) (fun _ _ h => h) ?_) ?_
          · intro a_ w1 hS hsz hold hdep K hK
            have h1 : a_.tmps[1]? = some (.int .i64 y) := (hold 1 (by kernel_rfl)).trans rfl
            have e1 := Calm.at_getD h1
            clear hsz hold hdep
            have hcl := fun (b o : Nat) (h : b < _) => Below.cell hS (p := ⟨b, o, none⟩) h
            go_simp
            exact hK _ _ (Below.refl _ _) rfl
          refine Calm.Steps.cons (Calm.step_wanted (b := false) rfl rfl rfl (by kernel_rfl) (fun _ _ h => h) ?_) ?_
          · intro a_ w1 hS hsz hold hdep K hK
            have h53 := Calm.is_at (x := .int .i64 x) hdep (k := 18) (by kernel_rfl) rfl rfl (fun _ _ h => h)
            have e53 := Calm.at_getD h53
            have h54 := Calm.is_at (x := .int .i64 y) hdep (k := 19) (by kernel_rfl) rfl rfl (fun _ _ h => h)
            have e54 := Calm.at_getD h54
            clear hsz hold hdep
            have hcl := fun (b o : Nat) (h : b < _) => Below.cell hS (p := ⟨b, o, none⟩) h
            go_simp
            refine hK _ _ (Below.refl _ _) ?_
            exact congrArg (Value.int IntKind.i64) (by first | exact hn2.out | (rw [i64w]; exact hn2.out))
          refine Calm.Steps.cons (Calm.step_wanted (b := false) rfl rfl rfl (by kernel_rfl) (fun _ _ h => h) ?_) ?_
          · intro a_ w1 hS hsz hold hdep K hK
            have h0 : a_.tmps[0]? = some (.int .i64 x) := (hold 0 (by kernel_rfl)).trans rfl
            have e0 := Calm.at_getD h0
            clear hsz hold hdep
            have hcl := fun (b o : Nat) (h : b < _) => Below.cell hS (p := ⟨b, o, none⟩) h
            go_simp
            exact hK _ _ (Below.refl _ _) rfl
          refine Calm.Steps.cons (Calm.step_wanted (b := false) rfl rfl rfl (by kernel_rfl) (fun _ _ h => h) ?_) ?_
          · intro a_ w1 hS hsz hold hdep K hK
            have h1 : a_.tmps[1]? = some (.int .i64 y) := (hold 1 (by kernel_rfl)).trans rfl
            have e1 := Calm.at_getD h1
            clear hsz hold hdep
            have hcl := fun (b o : Nat) (h : b < _) => Below.cell hS (p := ⟨b, o, none⟩) h
            go_simp
            exact hK _ _ (Below.refl _ _) rfl
          refine Calm.Steps.cons (Calm.step_wanted (b := false) rfl rfl rfl (by kernel_rfl) (fun _ _ h => h) ?_) ?_
          · intro a_ w1 hS hsz hold hdep K hK
            have h56 := Calm.is_at (x := .int .i64 x) hdep (k := 21) (by kernel_rfl) rfl rfl (fun _ _ h => h)
            have e56 := Calm.at_getD h56
            have h57 := Calm.is_at (x := .int .i64 y) hdep (k := 22) (by kernel_rfl) rfl rfl (fun _ _ h => h)
            have e57 := Calm.at_getD h57
            clear hsz hold hdep
            have hcl := fun (b o : Nat) (h : b < _) => Below.cell hS (p := ⟨b, o, none⟩) h
            go_simp
            refine hK _ _ (Below.refl _ _) ?_
            exact congrArg (Value.int IntKind.i64) (by first | exact hn2.out | (rw [i64w]; exact hn2.out))
          refine Calm.Steps.cons (Calm.step_wanted (b := false) rfl rfl rfl (by kernel_rfl) (fun _ _ h => h) ?_) ?_
          · intro a_ w1 hS hsz hold hdep K hK
            have h52 := Calm.is_at (x := .func (.func 22) #[] #[]) hdep (k := 17) (by kernel_rfl) rfl rfl (fun _ _ h => h)
            have e52 := Calm.at_getD h52
            have h55 := Calm.is_at (x := .int .i64 n2) hdep (k := 20) (by kernel_rfl) rfl rfl (fun _ _ h => h)
            have e55 := Calm.at_getD h55
            have h58 := Calm.is_at (x := .int .i64 n2) hdep (k := 23) (by kernel_rfl) rfl rfl (fun _ _ h => h)
            have e58 := Calm.at_getD h58
            clear hsz hold hdep
            go_simp
            refine (rof_any n2 n2 ⟨true, n2, n2⟩ (Lib.hid (of_one n2)) _).mono ?_; rintro e w' ⟨rfl, hB⟩
            exact hK _ _ hB rfl
          refine Calm.Steps.cons (Calm.step_wanted (b := false) rfl rfl rfl (by kernel_rfl) (fun _ _ h => h) ?_) ?_
          · intro a_ w1 hS hsz hold hdep K hK
            have h51 := Calm.is_at (x := .agg #[.bool s2.s, .int .i64 s2.lo, .int .i64 s2.hi]) hdep (k := 16) (by kernel_rfl) rfl rfl (fun _ _ h => h)
            have e51 := Calm.at_getD h51
            have h59 := Calm.is_at (x := .agg #[.bool true, .int .i64 n2, .int .i64 n2]) hdep (k := 24) (by kernel_rfl) rfl rfl (fun _ _ h => h)
            have e59 := Calm.at_getD h59
            clear hsz hold hdep
            have hcl := fun (b o : Nat) (h : b < _) => Below.cell hS (p := ⟨b, o, none⟩) h
            go_simp
            (repeat' split) <;> (refine hK _ _ (Below.refl _ _) ?_; show Value.bool _ = Value.bool _; exact congrArg Value.bool (by rw [← U2.out]; simp [*]))
          refine Calm.Steps.cons (Calm.step_wanted (b := false) rfl rfl rfl (by kernel_rfl) (fun _ _ h => h) ?_) ?_
          · intro a_ w1 hS hsz hold hdep K hK
            have h60 := Calm.is_at (x := .bool u2_) hdep (k := 25) (by kernel_rfl) rfl rfl (fun _ _ h => h)
            have e60 := Calm.at_getD h60
            clear hsz hold hdep
            have hcl := fun (b o : Nat) (h : b < _) => Below.cell hS (p := ⟨b, o, none⟩) h
            go_simp
            exact hK _ _ (Below.refl _ _) rfl
          refine Calm.Steps.cons ?_ ?_
          · rcases u2_ with _ | _
            · exact Calm.step_unwanted (b := true) (c := false) (fun w => Below.refl _ _) rfl rfl rfl (by kernel_rfl) (fun _ _ h => h) (by decide) (fun _ => (fun h => by cases h))
            · refine Calm.step_wanted (b := true) rfl rfl rfl (by kernel_rfl) (fun _ _ h => h) ?_
              intro a_ w1 hS hsz hold hdep K hK
              have h10 : a_.tmps[10]? = some (.pointer (some ⟨g10, 0, none⟩)) := (hold 10 (by kernel_rfl)).trans rfl
              have e10 := Calm.at_getD h10
              clear hsz hold hdep
              have hcl := fun (b o : Nat) (h : b < _) => Below.cell hS (p := ⟨b, o, none⟩) h
              go_simp
              exact hK _ _ (Below.refl _ _) (fun _ => rfl)
          refine Calm.Steps.cons ?_ ?_
          · rcases u2_ with _ | _
            · exact Calm.step_unwanted (b := true) (c := false) (fun w => Below.refl _ _) rfl rfl rfl (by kernel_rfl) (fun _ _ h => h) (by decide) (fun _ => (fun h => by cases h))
            · refine Calm.step_wanted (b := true) rfl rfl rfl (by kernel_rfl) (fun _ _ h => h) ?_
              intro a_ w1 hS hsz hold hdep K hK
              clear hsz hold hdep
              go_simp
              refine (rtop_any Iv.top (Lib.hid rfl) _).mono ?_; rintro e w' ⟨rfl, hB⟩
              exact hK _ _ hB (fun _ => rfl)
          refine Calm.Steps.cons ?_ ?_
          · rcases u2_ with _ | _
            · exact Calm.step_unwanted (b := true) (c := false) (fun w => Below.refl _ _) rfl rfl rfl (by kernel_rfl) (fun _ _ h => h) (by decide) (fun _ => (fun h => by cases h))
            · refine Calm.step_wanted (b := true) rfl rfl rfl (by kernel_rfl) (fun _ _ h => h) ?_
              intro a_ w1 hS hsz hold hdep K hK
              have h62 := Calm.is_at (x := .agg #[.bool s2.s, .int .i64 s2.lo, .int .i64 s2.hi]) hdep (k := 27) (by kernel_rfl) rfl rfl (fun _ _ h => h rfl)
              have e62 := Calm.at_getD h62
              have h63 := Calm.is_at (x := .agg #[.bool true, .int .i64 (-9223372036854775808), .int .i64 9223372036854775807]) hdep (k := 28) (by kernel_rfl) rfl rfl (fun _ _ h => h rfl)
              have e63 := Calm.at_getD h63
              clear hsz hold hdep
              have hcl := fun (b o : Nat) (h : b < _) => Below.cell hS (p := ⟨b, o, none⟩) h
              have z := T2.out rfl
              go_simp
              first | exact hK _ _ (Below.refl _ _) (fun _ => rfl) | ((repeat' split) <;> first | exact hK _ _ (Below.refl _ _) (fun _ => rfl) | (exfalso; simp_all))
          refine Calm.Steps.cons ?_ ?_
          · rcases u2_ with _ | _
            · refine Calm.step_wanted (b := false) rfl rfl rfl (by kernel_rfl) (fun _ _ h => h) ?_
              intro a_ w1 hS hsz hold hdep K hK
              have h61 := Calm.is_at (x := .bool false) hdep (k := 26) (by kernel_rfl) rfl rfl (fun _ _ h => h)
              have e61 := Calm.at_getD h61
              obtain ⟨u64, h64, _⟩ := hdep 29 (by kernel_rfl) _ rfl
              replace h64 := h64 64 rfl
              have e64 := Calm.at_getD h64
              clear hsz hold hdep
              have hcl := fun (b o : Nat) (h : b < _) => Below.cell hS (p := ⟨b, o, none⟩) h
              go_simp
              exact hK _ _ (Below.refl _ _) rfl
            · refine Calm.step_wanted (b := false) rfl rfl rfl (by kernel_rfl) (fun _ _ h => h) ?_
              intro a_ w1 hS hsz hold hdep K hK
              have h61 := Calm.is_at (x := .bool true) hdep (k := 26) (by kernel_rfl) rfl rfl (fun _ _ h => h)
              have e61 := Calm.at_getD h61
              have h64 := Calm.is_at (x := .bool false) hdep (k := 29) (by kernel_rfl) rfl rfl (fun _ _ h => h rfl)
              have e64 := Calm.at_getD h64
              clear hsz hold hdep
              have hcl := fun (b o : Nat) (h : b < _) => Below.cell hS (p := ⟨b, o, none⟩) h
              go_simp
              exact hK _ _ (Below.refl _ _) rfl
          refine Calm.Steps.cons (Calm.step_plain rfl ?_) ?_
          · intro a_ w1 hS hsz hold hdep K hK
            have h50 := Calm.is_at (x := .bool false) hdep (k := 15) (by kernel_rfl) rfl rfl (fun _ _ h => h)
            have e50 := Calm.at_getD h50
            have h65 := Calm.is_at (x := .bool false) hdep (k := 30) (by kernel_rfl) rfl rfl (fun _ _ h => h)
            have e65 := Calm.at_getD h65
            clear hsz hold hdep
            have hcl := fun (b o : Nat) (h : b < _) => Below.cell hS (p := ⟨b, o, none⟩) h
            go_simp
            exact hK _ _ (Below.refl _ _) rfl
          refine Calm.Steps.cons (Calm.step_plain rfl ?_) ?_
          · intro a_ w1 hS hsz hold hdep K hK
            have h66 := Calm.is_at (x := .bool false) hdep (k := 31) (by kernel_rfl) rfl rfl (fun _ _ h => h)
            have e66 := Calm.at_getD h66
            clear hsz hold hdep
            have hcl := fun (b o : Nat) (h : b < _) => Below.cell hS (p := ⟨b, o, none⟩) h
            go_simp
            exact hK _ _ (Below.refl _ _) rfl
          refine Calm.Steps.cons (Calm.step_wanted (b := false) rfl rfl rfl (by kernel_rfl) (fun _ _ h => h) ?_) ?_
          · intro a_ w1 hS hsz hold hdep K hK
            have h11 : a_.tmps[11]? = some (.pointer (some ⟨g11, 0, none⟩)) := (hold 11 (by kernel_rfl)).trans rfl
            have e11 := Calm.at_getD h11
            clear hsz hold hdep
            have hcl := fun (b o : Nat) (h : b < _) => Below.cell hS (p := ⟨b, o, none⟩) h
            go_simp
            exact hK _ _ (Below.refl _ _) rfl
          refine Calm.Steps.cons (Calm.step_wanted (b := false) rfl rfl rfl (by kernel_rfl) (fun _ _ h => h) ?_) ?_
          · intro a_ w1 hS hsz hold hdep K hK
            have h5 : a_.tmps[5]? = some (.func (.func 22) #[] #[]) := (hold 5 (by kernel_rfl)).trans rfl
            have e5 := Calm.at_getD h5
            clear hsz hold hdep
            have hcl := fun (b o : Nat) (h : b < _) => Below.cell hS (p := ⟨b, o, none⟩) h
            go_simp
            exact hK _ _ (Below.refl _ _) rfl
          refine Calm.Steps.cons (Calm.step_wanted (b := false) rfl rfl rfl (by kernel_rfl) (fun _ _ h => h) ?_) ?_
          · intro a_ w1 hS hsz hold hdep K hK
            have h0 : a_.tmps[0]? = some (.int .i64 x) := (hold 0 (by kernel_rfl)).trans rfl
            have e0 := Calm.at_getD h0
            clear hsz hold hdep
            have hcl := fun (b o : Nat) (h : b < _) => Below.cell hS (p := ⟨b, o, none⟩) h
            go_simp
            exact hK _ _ (Below.refl _ _) rfl
          refine Calm.Steps.cons (Calm.step_wanted (b := false) rfl rfl rfl (by kernel_rfl) (fun _ _ h => h) ?_) ?_
          · intro a_ w1 hS hsz hold hdep K hK
            have h1 : a_.tmps[1]? = some (.int .i64 y) := (hold 1 (by kernel_rfl)).trans rfl
            have e1 := Calm.at_getD h1
            clear hsz hold hdep
            have hcl := fun (b o : Nat) (h : b < _) => Below.cell hS (p := ⟨b, o, none⟩) h
            go_simp
            exact hK _ _ (Below.refl _ _) rfl
          refine Calm.Steps.cons (Calm.step_wanted (b := false) rfl rfl rfl (by kernel_rfl) (fun _ _ h => h) ?_) ?_
          · intro a_ w1 hS hsz hold hdep K hK
            have h70 := Calm.is_at (x := .int .i64 x) hdep (k := 35) (by kernel_rfl) rfl rfl (fun _ _ h => h)
            have e70 := Calm.at_getD h70
            have h71 := Calm.is_at (x := .int .i64 y) hdep (k := 36) (by kernel_rfl) rfl rfl (fun _ _ h => h)
            have e71 := Calm.at_getD h71
            clear hsz hold hdep
            have hcl := fun (b o : Nat) (h : b < _) => Below.cell hS (p := ⟨b, o, none⟩) h
            go_simp
            refine hK _ _ (Below.refl _ _) ?_
            exact congrArg (Value.int IntKind.i64) (by first | exact hn3.out | (rw [i64w]; exact hn3.out))
          refine Calm.Steps.cons (Calm.step_wanted (b := false) rfl rfl rfl (by kernel_rfl) (fun _ _ h => h) ?_) ?_
          · intro a_ w1 hS hsz hold hdep K hK
            have h0 : a_.tmps[0]? = some (.int .i64 x) := (hold 0 (by kernel_rfl)).trans rfl
            have e0 := Calm.at_getD h0
            clear hsz hold hdep
            have hcl := fun (b o : Nat) (h : b < _) => Below.cell hS (p := ⟨b, o, none⟩) h
            go_simp
            exact hK _ _ (Below.refl _ _) rfl
          refine Calm.Steps.cons (Calm.step_wanted (b := false) rfl rfl rfl (by kernel_rfl) (fun _ _ h => h) ?_) ?_
          · intro a_ w1 hS hsz hold hdep K hK
            have h1 : a_.tmps[1]? = some (.int .i64 y) := (hold 1 (by kernel_rfl)).trans rfl
            have e1 := Calm.at_getD h1
            clear hsz hold hdep
            have hcl := fun (b o : Nat) (h : b < _) => Below.cell hS (p := ⟨b, o, none⟩) h
            go_simp
            exact hK _ _ (Below.refl _ _) rfl
          refine Calm.Steps.cons (Calm.step_wanted (b := false) rfl rfl rfl (by kernel_rfl) (fun _ _ h => h) ?_) ?_
          · intro a_ w1 hS hsz hold hdep K hK
            have h73 := Calm.is_at (x := .int .i64 x) hdep (k := 38) (by kernel_rfl) rfl rfl (fun _ _ h => h)
            have e73 := Calm.at_getD h73
            have h74 := Calm.is_at (x := .int .i64 y) hdep (k := 39) (by kernel_rfl) rfl rfl (fun _ _ h => h)
            have e74 := Calm.at_getD h74
            clear hsz hold hdep
            have hcl := fun (b o : Nat) (h : b < _) => Below.cell hS (p := ⟨b, o, none⟩) h
            go_simp
            refine hK _ _ (Below.refl _ _) ?_
            exact congrArg (Value.int IntKind.i64) (by first | exact hn3.out | (rw [i64w]; exact hn3.out))
          refine Calm.Steps.cons (Calm.step_wanted (b := false) rfl rfl rfl (by kernel_rfl) (fun _ _ h => h) ?_) ?_
          · intro a_ w1 hS hsz hold hdep K hK
            have h69 := Calm.is_at (x := .func (.func 22) #[] #[]) hdep (k := 34) (by kernel_rfl) rfl rfl (fun _ _ h => h)
            have e69 := Calm.at_getD h69
            have h72 := Calm.is_at (x := .int .i64 n3) hdep (k := 37) (by kernel_rfl) rfl rfl (fun _ _ h => h)
            have e72 := Calm.at_getD h72
            have h75 := Calm.is_at (x := .int .i64 n3) hdep (k := 40) (by kernel_rfl) rfl rfl (fun _ _ h => h)
            have e75 := Calm.at_getD h75
            clear hsz hold hdep
            go_simp
            refine (rof_any n3 n3 ⟨true, n3, n3⟩ (Lib.hid (of_one n3)) _).mono ?_; rintro e w' ⟨rfl, hB⟩
            exact hK _ _ hB rfl
          refine Calm.Steps.cons (Calm.step_wanted (b := false) rfl rfl rfl (by kernel_rfl) (fun _ _ h => h) ?_) ?_
          · intro a_ w1 hS hsz hold hdep K hK
            have h68 := Calm.is_at (x := .agg #[.bool s3.s, .int .i64 s3.lo, .int .i64 s3.hi]) hdep (k := 33) (by kernel_rfl) rfl rfl (fun _ _ h => h)
            have e68 := Calm.at_getD h68
            have h76 := Calm.is_at (x := .agg #[.bool true, .int .i64 n3, .int .i64 n3]) hdep (k := 41) (by kernel_rfl) rfl rfl (fun _ _ h => h)
            have e76 := Calm.at_getD h76
            clear hsz hold hdep
            have hcl := fun (b o : Nat) (h : b < _) => Below.cell hS (p := ⟨b, o, none⟩) h
            go_simp
            (repeat' split) <;> (refine hK _ _ (Below.refl _ _) ?_; show Value.bool _ = Value.bool _; exact congrArg Value.bool (by rw [← U3.out]; simp [*]))
          refine Calm.Steps.cons (Calm.step_wanted (b := false) rfl rfl rfl (by kernel_rfl) (fun _ _ h => h) ?_) ?_
          · intro a_ w1 hS hsz hold hdep K hK
            have h77 := Calm.is_at (x := .bool u3_) hdep (k := 42) (by kernel_rfl) rfl rfl (fun _ _ h => h)
            have e77 := Calm.at_getD h77
            clear hsz hold hdep
            have hcl := fun (b o : Nat) (h : b < _) => Below.cell hS (p := ⟨b, o, none⟩) h
            go_simp
            exact hK _ _ (Below.refl _ _) rfl
          refine Calm.Steps.cons ?_ ?_
          · rcases u3_ with _ | _
            · exact Calm.step_unwanted (b := true) (c := false) (fun w => Below.refl _ _) rfl rfl rfl (by kernel_rfl) (fun _ _ h => h) (by decide) (fun _ => (fun h => by cases h))
            · refine Calm.step_wanted (b := true) rfl rfl rfl (by kernel_rfl) (fun _ _ h => h) ?_
              intro a_ w1 hS hsz hold hdep K hK
              have h11 : a_.tmps[11]? = some (.pointer (some ⟨g11, 0, none⟩)) := (hold 11 (by kernel_rfl)).trans rfl
              have e11 := Calm.at_getD h11
              clear hsz hold hdep
              have hcl := fun (b o : Nat) (h : b < _) => Below.cell hS (p := ⟨b, o, none⟩) h
              go_simp
              exact hK _ _ (Below.refl _ _) (fun _ => rfl)
          refine Calm.Steps.cons ?_ ?_
          · rcases u3_ with _ | _
            · exact Calm.step_unwanted (b := true) (c := false) (fun w => Below.refl _ _) rfl rfl rfl (by kernel_rfl) (fun _ _ h => h) (by decide) (fun _ => (fun h => by cases h))
            · refine Calm.step_wanted (b := true) rfl rfl rfl (by kernel_rfl) (fun _ _ h => h) ?_
              intro a_ w1 hS hsz hold hdep K hK
              clear hsz hold hdep
              go_simp
              refine (rtop_any Iv.top (Lib.hid rfl) _).mono ?_; rintro e w' ⟨rfl, hB⟩
              exact hK _ _ hB (fun _ => rfl)
          refine Calm.Steps.cons ?_ ?_
          · rcases u3_ with _ | _
            · exact Calm.step_unwanted (b := true) (c := false) (fun w => Below.refl _ _) rfl rfl rfl (by kernel_rfl) (fun _ _ h => h) (by decide) (fun _ => (fun h => by cases h))
            · refine Calm.step_wanted (b := true) rfl rfl rfl (by kernel_rfl) (fun _ _ h => h) ?_
              intro a_ w1 hS hsz hold hdep K hK
              have h79 := Calm.is_at (x := .agg #[.bool s3.s, .int .i64 s3.lo, .int .i64 s3.hi]) hdep (k := 44) (by kernel_rfl) rfl rfl (fun _ _ h => h rfl)
              have e79 := Calm.at_getD h79
              have h80 := Calm.is_at (x := .agg #[.bool true, .int .i64 (-9223372036854775808), .int .i64 9223372036854775807]) hdep (k := 45) (by kernel_rfl) rfl rfl (fun _ _ h => h rfl)
              have e80 := Calm.at_getD h80
              clear hsz hold hdep
              have hcl := fun (b o : Nat) (h : b < _) => Below.cell hS (p := ⟨b, o, none⟩) h
              have z := T3.out rfl
              go_simp
              first | exact hK _ _ (Below.refl _ _) (fun _ => rfl) | ((repeat' split) <;> first | exact hK _ _ (Below.refl _ _) (fun _ => rfl) | (exfalso; simp_all))
          refine Calm.Steps.cons ?_ ?_
          · rcases u3_ with _ | _
            · refine Calm.step_wanted (b := false) rfl rfl rfl (by kernel_rfl) (fun _ _ h => h) ?_
              intro a_ w1 hS hsz hold hdep K hK
              have h78 := Calm.is_at (x := .bool false) hdep (k := 43) (by kernel_rfl) rfl rfl (fun _ _ h => h)
              have e78 := Calm.at_getD h78
              obtain ⟨u81, h81, _⟩ := hdep 46 (by kernel_rfl) _ rfl
              replace h81 := h81 81 rfl
              have e81 := Calm.at_getD h81
              clear hsz hold hdep
              have hcl := fun (b o : Nat) (h : b < _) => Below.cell hS (p := ⟨b, o, none⟩) h
              go_simp
              exact hK _ _ (Below.refl _ _) rfl
            · refine Calm.step_wanted (b := false) rfl rfl rfl (by kernel_rfl) (fun _ _ h => h) ?_
              intro a_ w1 hS hsz hold hdep K hK
              have h78 := Calm.is_at (x := .bool true) hdep (k := 43) (by kernel_rfl) rfl rfl (fun _ _ h => h)
              have e78 := Calm.at_getD h78
              have h81 := Calm.is_at (x := .bool false) hdep (k := 46) (by kernel_rfl) rfl rfl (fun _ _ h => h rfl)
              have e81 := Calm.at_getD h81
              clear hsz hold hdep
              have hcl := fun (b o : Nat) (h : b < _) => Below.cell hS (p := ⟨b, o, none⟩) h
              go_simp
              exact hK _ _ (Below.refl _ _) rfl
          refine Calm.Steps.cons (Calm.step_plain rfl ?_) ?_
          · intro a_ w1 hS hsz hold hdep K hK
            have h67 := Calm.is_at (x := .bool false) hdep (k := 32) (by kernel_rfl) rfl rfl (fun _ _ h => h)
            have e67 := Calm.at_getD h67
            have h82 := Calm.is_at (x := .bool false) hdep (k := 47) (by kernel_rfl) rfl rfl (fun _ _ h => h)
            have e82 := Calm.at_getD h82
            clear hsz hold hdep
            have hcl := fun (b o : Nat) (h : b < _) => Below.cell hS (p := ⟨b, o, none⟩) h
            go_simp
            exact hK _ _ (Below.refl _ _) rfl
          refine Calm.Steps.cons (Calm.step_plain rfl ?_) ?_
          · intro a_ w1 hS hsz hold hdep K hK
            have h83 := Calm.is_at (x := .bool false) hdep (k := 48) (by kernel_rfl) rfl rfl (fun _ _ h => h)
            have e83 := Calm.at_getD h83
            clear hsz hold hdep
            have hcl := fun (b o : Nat) (h : b < _) => Below.cell hS (p := ⟨b, o, none⟩) h
            go_simp
            exact hK _ _ (Below.refl _ _) rfl
          refine Calm.Steps.cons (Calm.step_wanted (b := false) rfl rfl rfl (by kernel_rfl) (fun _ _ h => h) ?_) ?_
          · intro a_ w1 hS hsz hold hdep K hK
            have h8 : a_.tmps[8]? = some (.func (.func 16) #[] #[]) := (hold 8 (by kernel_rfl)).trans rfl
            have e8 := Calm.at_getD h8
            clear hsz hold hdep
            have hcl := fun (b o : Nat) (h : b < _) => Below.cell hS (p := ⟨b, o, none⟩) h
            go_simp
            exact hK _ _ (Below.refl _ _) rfl
          refine Calm.Steps.cons (Calm.step_wanted (b := false) rfl rfl rfl (by kernel_rfl) (fun _ _ h => h) ?_) ?_
          · intro a_ w1 hS hsz hold hdep K hK
            have h9 : a_.tmps[9]? = some (.pointer (some ⟨g9, 0, none⟩)) := (hold 9 (by kernel_rfl)).trans rfl
            have e9 := Calm.at_getD h9
            clear hsz hold hdep
            have hcl := fun (b o : Nat) (h : b < _) => Below.cell hS (p := ⟨b, o, none⟩) h
            go_simp
            exact hK _ _ (Below.refl _ _) rfl
          refine Calm.Steps.cons (Calm.step_wanted (b := false) rfl rfl rfl (by kernel_rfl) (fun _ _ h => h) ?_) ?_
          · intro a_ w1 hS hsz hold hdep K hK
            have h0 : a_.tmps[0]? = some (.int .i64 x) := (hold 0 (by kernel_rfl)).trans rfl
            have e0 := Calm.at_getD h0
            clear hsz hold hdep
            have hcl := fun (b o : Nat) (h : b < _) => Below.cell hS (p := ⟨b, o, none⟩) h
            go_simp
            exact hK _ _ (Below.refl _ _) rfl
          refine Calm.Steps.cons (Calm.step_wanted (b := false) rfl rfl rfl (by kernel_rfl) (fun _ _ h => h) ?_) ?_
          · intro a_ w1 hS hsz hold hdep K hK
            have h1 : a_.tmps[1]? = some (.int .i64 y) := (hold 1 (by kernel_rfl)).trans rfl
            have e1 := Calm.at_getD h1
            clear hsz hold hdep
            have hcl := fun (b o : Nat) (h : b < _) => Below.cell hS (p := ⟨b, o, none⟩) h
            go_simp
            exact hK _ _ (Below.refl _ _) rfl
          refine Calm.Steps.cons (Calm.step_wanted (b := false) rfl rfl rfl (by kernel_rfl) (fun _ _ h => h) ?_) ?_
          · intro a_ w1 hS hsz hold hdep K hK
            have h87 := Calm.is_at (x := .int .i64 x) hdep (k := 52) (by kernel_rfl) rfl rfl (fun _ _ h => h)
            have e87 := Calm.at_getD h87
            have h88 := Calm.is_at (x := .int .i64 y) hdep (k := 53) (by kernel_rfl) rfl rfl (fun _ _ h => h)
            have e88 := Calm.at_getD h88
            clear hsz hold hdep
            have hcl := fun (b o : Nat) (h : b < _) => Below.cell hS (p := ⟨b, o, none⟩) h
            go_simp
            refine hK _ _ (Below.refl _ _) ?_
            exact congrArg (Value.int IntKind.i64) (by first | exact hn1.out | (rw [i64w]; exact hn1.out))
          refine Calm.Steps.cons (Calm.step_wanted (b := false) rfl rfl rfl (by kernel_rfl) (fun _ _ h => h) ?_) ?_
          · intro a_ w1 hS hsz hold hdep K hK
            have h85 := Calm.is_at (x := .func (.func 16) #[] #[]) hdep (k := 50) (by kernel_rfl) rfl rfl (fun _ _ h => h)
            have e85 := Calm.at_getD h85
            have h86 := Calm.is_at (x := .agg #[.bool s1.s, .int .i64 s1.lo, .int .i64 s1.hi]) hdep (k := 51) (by kernel_rfl) rfl rfl (fun _ _ h => h)
            have e86 := Calm.at_getD h86
            have h89 := Calm.is_at (x := .int .i64 n1) hdep (k := 54) (by kernel_rfl) rfl rfl (fun _ _ h => h)
            have e89 := Calm.at_getD h89
            clear hsz hold hdep
            go_simp
            refine (rhas_any s1 n1 true b1 _).mono ?_; rintro e w' ⟨rfl, hB⟩
            exact hK _ _ hB rfl
          refine Calm.Steps.cons (Calm.step_wanted (b := false) rfl rfl rfl (by kernel_rfl) (fun _ _ h => h) ?_) ?_
          · intro a_ w1 hS hsz hold hdep K hK
            have h90 := Calm.is_at (x := .bool true) hdep (k := 55) (by kernel_rfl) rfl rfl (fun _ _ h => h)
            have e90 := Calm.at_getD h90
            clear hsz hold hdep
            have hcl := fun (b o : Nat) (h : b < _) => Below.cell hS (p := ⟨b, o, none⟩) h
            go_simp
            exact hK _ _ (Below.refl _ _) rfl
          refine Calm.Steps.cons (Calm.step_plain rfl ?_) ?_
          · intro a_ w1 hS hsz hold hdep K hK
            have h84 := Calm.is_at (x := .bool false) hdep (k := 49) (by kernel_rfl) rfl rfl (fun _ _ h => h)
            have e84 := Calm.at_getD h84
            have h91 := Calm.is_at (x := .bool false) hdep (k := 56) (by kernel_rfl) rfl rfl (fun _ _ h => h)
            have e91 := Calm.at_getD h91
            clear hsz hold hdep
            have hcl := fun (b o : Nat) (h : b < _) => Below.cell hS (p := ⟨b, o, none⟩) h
            go_simp
            exact hK _ _ (Below.refl _ _) rfl
          refine Calm.Steps.cons (Calm.step_plain rfl ?_) ?_
          · intro a_ w1 hS hsz hold hdep K hK
            have h92 := Calm.is_at (x := .bool false) hdep (k := 57) (by kernel_rfl) rfl rfl (fun _ _ h => h)
            have e92 := Calm.at_getD h92
            clear hsz hold hdep
            have hcl := fun (b o : Nat) (h : b < _) => Below.cell hS (p := ⟨b, o, none⟩) h
            go_simp
            exact hK _ _ (Below.refl _ _) rfl
          refine Calm.Steps.cons (Calm.step_wanted (b := false) rfl rfl rfl (by kernel_rfl) (fun _ _ h => h) ?_) ?_
          · intro a_ w1 hS hsz hold hdep K hK
            have h8 : a_.tmps[8]? = some (.func (.func 16) #[] #[]) := (hold 8 (by kernel_rfl)).trans rfl
            have e8 := Calm.at_getD h8
            clear hsz hold hdep
            have hcl := fun (b o : Nat) (h : b < _) => Below.cell hS (p := ⟨b, o, none⟩) h
            go_simp
            exact hK _ _ (Below.refl _ _) rfl
          refine Calm.Steps.cons (Calm.step_wanted (b := false) rfl rfl rfl (by kernel_rfl) (fun _ _ h => h) ?_) ?_
          · intro a_ w1 hS hsz hold hdep K hK
            have h10 : a_.tmps[10]? = some (.pointer (some ⟨g10, 0, none⟩)) := (hold 10 (by kernel_rfl)).trans rfl
            have e10 := Calm.at_getD h10
            clear hsz hold hdep
            have hcl := fun (b o : Nat) (h : b < _) => Below.cell hS (p := ⟨b, o, none⟩) h
            go_simp
            exact hK _ _ (Below.refl _ _) rfl
          refine Calm.Steps.cons (Calm.step_wanted (b := false) rfl rfl rfl (by kernel_rfl) (fun _ _ h => h) ?_) ?_
          · intro a_ w1 hS hsz hold hdep K hK
            have h0 : a_.tmps[0]? = some (.int .i64 x) := (hold 0 (by kernel_rfl)).trans rfl
            have e0 := Calm.at_getD h0
            clear hsz hold hdep
            have hcl := fun (b o : Nat) (h : b < _) => Below.cell hS (p := ⟨b, o, none⟩) h
            go_simp
            exact hK _ _ (Below.refl _ _) rfl
          refine Calm.Steps.cons (Calm.step_wanted (b := false) rfl rfl rfl (by kernel_rfl) (fun _ _ h => h) ?_) ?_
          · intro a_ w1 hS hsz hold hdep K hK
            have h1 : a_.tmps[1]? = some (.int .i64 y) := (hold 1 (by kernel_rfl)).trans rfl
            have e1 := Calm.at_getD h1
            clear hsz hold hdep
            have hcl := fun (b o : Nat) (h : b < _) => Below.cell hS (p := ⟨b, o, none⟩) h
            go_simp
            exact hK _ _ (Below.refl _ _) rfl
          refine Calm.Steps.cons (Calm.step_wanted (b := false) rfl rfl rfl (by kernel_rfl) (fun _ _ h => h) ?_) ?_
          · intro a_ w1 hS hsz hold hdep K hK
            have h96 := Calm.is_at (x := .int .i64 x) hdep (k := 61) (by kernel_rfl) rfl rfl (fun _ _ h => h)
            have e96 := Calm.at_getD h96
            have h97 := Calm.is_at (x := .int .i64 y) hdep (k := 62) (by kernel_rfl) rfl rfl (fun _ _ h => h)
            have e97 := Calm.at_getD h97
            clear hsz hold hdep
            have hcl := fun (b o : Nat) (h : b < _) => Below.cell hS (p := ⟨b, o, none⟩) h
            go_simp
            refine hK _ _ (Below.refl _ _) ?_
            exact congrArg (Value.int IntKind.i64) (by first | exact hn2.out | (rw [i64w]; exact hn2.out))
          refine Calm.Steps.cons (Calm.step_wanted (b := false) rfl rfl rfl (by kernel_rfl) (fun _ _ h => h) ?_) ?_
          · intro a_ w1 hS hsz hold hdep K hK
            have h94 := Calm.is_at (x := .func (.func 16) #[] #[]) hdep (k := 59) (by kernel_rfl) rfl rfl (fun _ _ h => h)
            have e94 := Calm.at_getD h94
            have h95 := Calm.is_at (x := .agg #[.bool s2.s, .int .i64 s2.lo, .int .i64 s2.hi]) hdep (k := 60) (by kernel_rfl) rfl rfl (fun _ _ h => h)
            have e95 := Calm.at_getD h95
            have h98 := Calm.is_at (x := .int .i64 n2) hdep (k := 63) (by kernel_rfl) rfl rfl (fun _ _ h => h)
            have e98 := Calm.at_getD h98
            clear hsz hold hdep
            go_simp
            refine (rhas_any s2 n2 true b2 _).mono ?_; rintro e w' ⟨rfl, hB⟩
            exact hK _ _ hB rfl
          refine Calm.Steps.cons (Calm.step_wanted (b := false) rfl rfl rfl (by kernel_rfl) (fun _ _ h => h) ?_) ?_
          · intro a_ w1 hS hsz hold hdep K hK
            have h99 := Calm.is_at (x := .bool true) hdep (k := 64) (by kernel_rfl) rfl rfl (fun _ _ h => h)
            have e99 := Calm.at_getD h99
            clear hsz hold hdep
            have hcl := fun (b o : Nat) (h : b < _) => Below.cell hS (p := ⟨b, o, none⟩) h
            go_simp
            exact hK _ _ (Below.refl _ _) rfl
          refine Calm.Steps.cons (Calm.step_plain rfl ?_) ?_
          · intro a_ w1 hS hsz hold hdep K hK
            have h93 := Calm.is_at (x := .bool false) hdep (k := 58) (by kernel_rfl) rfl rfl (fun _ _ h => h)
            have e93 := Calm.at_getD h93
            have h100 := Calm.is_at (x := .bool false) hdep (k := 65) (by kernel_rfl) rfl rfl (fun _ _ h => h)
            have e100 := Calm.at_getD h100
            clear hsz hold hdep
            have hcl := fun (b o : Nat) (h : b < _) => Below.cell hS (p := ⟨b, o, none⟩) h
            go_simp
            exact hK _ _ (Below.refl _ _) rfl
          refine Calm.Steps.cons (Calm.step_plain rfl ?_) ?_
          · intro a_ w1 hS hsz hold hdep K hK
            have h101 := Calm.is_at (x := .bool false) hdep (k := 66) (by kernel_rfl) rfl rfl (fun _ _ h => h)
            have e101 := Calm.at_getD h101
            clear hsz hold hdep
            have hcl := fun (b o : Nat) (h : b < _) => Below.cell hS (p := ⟨b, o, none⟩) h
            go_simp
            exact hK _ _ (Below.refl _ _) rfl
          refine Calm.Steps.cons (Calm.step_wanted (b := false) rfl rfl rfl (by kernel_rfl) (fun _ _ h => h) ?_) ?_
          · intro a_ w1 hS hsz hold hdep K hK
            have h8 : a_.tmps[8]? = some (.func (.func 16) #[] #[]) := (hold 8 (by kernel_rfl)).trans rfl
            have e8 := Calm.at_getD h8
            clear hsz hold hdep
            have hcl := fun (b o : Nat) (h : b < _) => Below.cell hS (p := ⟨b, o, none⟩) h
            go_simp
            exact hK _ _ (Below.refl _ _) rfl
          refine Calm.Steps.cons (Calm.step_wanted (b := false) rfl rfl rfl (by kernel_rfl) (fun _ _ h => h) ?_) ?_
          · intro a_ w1 hS hsz hold hdep K hK
            have h11 : a_.tmps[11]? = some (.pointer (some ⟨g11, 0, none⟩)) := (hold 11 (by kernel_rfl)).trans rfl
            have e11 := Calm.at_getD h11
            clear hsz hold hdep
            have hcl := fun (b o : Nat) (h : b < _) => Below.cell hS (p := ⟨b, o, none⟩) h
            go_simp
            exact hK _ _ (Below.refl _ _) rfl
          refine Calm.Steps.cons (Calm.step_wanted (b := false) rfl rfl rfl (by kernel_rfl) (fun _ _ h => h) ?_) ?_
          · intro a_ w1 hS hsz hold hdep K hK
            have h0 : a_.tmps[0]? = some (.int .i64 x) := (hold 0 (by kernel_rfl)).trans rfl
            have e0 := Calm.at_getD h0
            clear hsz hold hdep
            have hcl := fun (b o : Nat) (h : b < _) => Below.cell hS (p := ⟨b, o, none⟩) h
            go_simp
            exact hK _ _ (Below.refl _ _) rfl
          refine Calm.Steps.cons (Calm.step_wanted (b := false) rfl rfl rfl (by kernel_rfl) (fun _ _ h => h) ?_) ?_
          · intro a_ w1 hS hsz hold hdep K hK
            have h1 : a_.tmps[1]? = some (.int .i64 y) := (hold 1 (by kernel_rfl)).trans rfl
            have e1 := Calm.at_getD h1
            clear hsz hold hdep
            have hcl := fun (b o : Nat) (h : b < _) => Below.cell hS (p := ⟨b, o, none⟩) h
            go_simp
            exact hK _ _ (Below.refl _ _) rfl
          refine Calm.Steps.cons (Calm.step_wanted (b := false) rfl rfl rfl (by kernel_rfl) (fun _ _ h => h) ?_) ?_
          · intro a_ w1 hS hsz hold hdep K hK
            have h105 := Calm.is_at (x := .int .i64 x) hdep (k := 70) (by kernel_rfl) rfl rfl (fun _ _ h => h)
            have e105 := Calm.at_getD h105
            have h106 := Calm.is_at (x := .int .i64 y) hdep (k := 71) (by kernel_rfl) rfl rfl (fun _ _ h => h)
            have e106 := Calm.at_getD h106
            clear hsz hold hdep
            have hcl := fun (b o : Nat) (h : b < _) => Below.cell hS (p := ⟨b, o, none⟩) h
            go_simp
            refine hK _ _ (Below.refl _ _) ?_
            exact congrArg (Value.int IntKind.i64) (by first | exact hn3.out | (rw [i64w]; exact hn3.out))
          refine Calm.Steps.cons (Calm.step_wanted (b := false) rfl rfl rfl (by kernel_rfl) (fun _ _ h => h) ?_) ?_
          · intro a_ w1 hS hsz hold hdep K hK
            have h103 := Calm.is_at (x := .func (.func 16) #[] #[]) hdep (k := 68) (by kernel_rfl) rfl rfl (fun _ _ h => h)
            have e103 := Calm.at_getD h103
            have h104 := Calm.is_at (x := .agg #[.bool s3.s, .int .i64 s3.lo, .int .i64 s3.hi]) hdep (k := 69) (by kernel_rfl) rfl rfl (fun _ _ h => h)
            have e104 := Calm.at_getD h104
            have h107 := Calm.is_at (x := .int .i64 n3) hdep (k := 72) (by kernel_rfl) rfl rfl (fun _ _ h => h)
            have e107 := Calm.at_getD h107
            clear hsz hold hdep
            go_simp
            refine (rhas_any s3 n3 true b3 _).mono ?_; rintro e w' ⟨rfl, hB⟩
            exact hK _ _ hB rfl
          refine Calm.Steps.cons (Calm.step_wanted (b := false) rfl rfl rfl (by kernel_rfl) (fun _ _ h => h) ?_) ?_
          · intro a_ w1 hS hsz hold hdep K hK
            have h108 := Calm.is_at (x := .bool true) hdep (k := 73) (by kernel_rfl) rfl rfl (fun _ _ h => h)
            have e108 := Calm.at_getD h108
            clear hsz hold hdep
            have hcl := fun (b o : Nat) (h : b < _) => Below.cell hS (p := ⟨b, o, none⟩) h
            go_simp
            exact hK _ _ (Below.refl _ _) rfl
          refine Calm.Steps.cons (Calm.step_plain rfl ?_) ?_
          · intro a_ w1 hS hsz hold hdep K hK
            have h102 := Calm.is_at (x := .bool false) hdep (k := 67) (by kernel_rfl) rfl rfl (fun _ _ h => h)
            have e102 := Calm.at_getD h102
            have h109 := Calm.is_at (x := .bool false) hdep (k := 74) (by kernel_rfl) rfl rfl (fun _ _ h => h)
            have e109 := Calm.at_getD h109
            clear hsz hold hdep
            have hcl := fun (b o : Nat) (h : b < _) => Below.cell hS (p := ⟨b, o, none⟩) h
            go_simp
            exact hK _ _ (Below.refl _ _) rfl
          exact Calm.Steps.nil
        case fin =>
          intro v w1 hS hv
          have hcl := fun (b o : Nat) (h : b < _) => Below.cell hS (p := ⟨b, o, none⟩) h
          have hfl := fun (b o : Nat) (h : b < _) => Below.frozen hS (p := ⟨b, o, none⟩) h
          have k75 : v 75 = .bool false := hv 75 (by decide)
          have hB1 : Below w.heap.size w w1 := below_call hB0 hS
          clear hv
          simp only [List.append, Calm.puts, Act.put, List.setIfInBounds_toArray, List.set_cons_zero, List.set_cons_succ]
          simp only [k75]
          go_wp2_with fail
          go_meet
          case rel => exact ⟨rfl, ⟨by go_simp, by go_simp, by go_simp, by go_simp, by go_simp, by go_simp⟩, ⟨by go_simp, by go_simp, by go_simp, by go_simp, by go_simp, by go_simp⟩, by first | (with_reducible assumption) | ((try go_grown); (all_goals (repeat' (first | (with_reducible assumption) | (refine below_call ?_ (by assumption); (try go_grown))))); all_goals (first | omega | (simp; omega)))⟩
      case rest =>
        clear c1 c2 c3 b1 b2 b3 h1 h2 h3 hn1 hn2 hn3
        (try clear hB0); (try clear a0 a1 a2 a3 a4 a5); (try clear d0 d1 d2 d3 d4 d5); (try clear e0 e1 e2 e3 e4 e5); (try clear f0 f1 f2 f3 f4 f5); (try clear m0 m1 m2 m3 m4 m5)
        obtain ⟨rfl, Qa, Qd, hB0⟩ := hcut
        have la0 := Box.lt Qa
        obtain ⟨a0, a1, a2, a3, a4, a5⟩ := Qa
        have ld0 := Box.lt Qd
        obtain ⟨d0, d1, d2, d3, d4, d5⟩ := Qd
        have hszB := hB0.size
        go_upto_region 9 with (fail)
        go_cut [12, 13] (fun v1 v2 wd => ∃ g12 : Nat, v1 = .pointer (some ⟨g12, 0, none⟩) ∧ v2 = .bool z5 ∧ Box wd (g6) (⟨true, x, x⟩) ∧ Box wd (g7) (⟨true, y, y⟩) ∧ Box wd (g12) (s5) ∧ Below w.heap.size w wd)
        case first =>
          go_wp2_with (first | (go_at_call 24; (with_reducible refine (arith_div ⟨true, x, x⟩ ⟨true, y, y⟩ ⟨true, x, x⟩ ⟨true, y, y⟩ hx hy ox.out oy.out s5 z5 h5 k5 _).mono ?_); rintro e w' ⟨rfl, hB⟩; have Qa := Box.keep (g := g6) (x := ⟨true, x, x⟩) hB ⟨by go_simp, by go_simp, by go_simp, by go_simp, by go_simp, by go_simp⟩; have Qd := Box.keep (g := g7) (x := ⟨true, y, y⟩) hB ⟨by go_simp, by go_simp, by go_simp, by go_simp, by go_simp, by go_simp⟩; replace hB0 := below_call (w := w) (by first | (with_reducible assumption) | ((try go_grown); (all_goals (repeat' (first | (with_reducible assumption) | (refine below_call ?_ (by assumption); (try go_grown))))); all_goals (first | omega | (simp; omega)))) hB; clear hB; have hszB := hB0.size; (try clear a0 a1 a2 a3 a4 a5); (try clear d0 d1 d2 d3 d4 d5); have la0 := Box.lt Qa; have la1 := Nat.lt_succ_of_lt la0; have la2 := Nat.lt_succ_of_lt la1; obtain ⟨a0, a1, a2, a3, a4, a5⟩ := Qa; have ld0 := Box.lt Qd; have ld1 := Nat.lt_succ_of_lt ld0; have ld2 := Nat.lt_succ_of_lt ld1; obtain ⟨d0, d1, d2, d3, d4, d5⟩ := Qd))
          go_meet
          case rel => exact ⟨_, rfl, rfl, ⟨by go_simp, by go_simp, by go_simp, by go_simp, by go_simp, by go_simp⟩, ⟨by go_simp, by go_simp, by go_simp, by go_simp, by go_simp, by go_simp⟩, ⟨by go_simp, by go_simp, by go_simp, by go_simp, by go_simp, by go_simp⟩, by first | (with_reducible assumption) | ((try go_grown); (all_goals (repeat' (first | (with_reducible assumption) | (refine below_call ?_ (by assumption); (try go_grown))))); all_goals (first | omega | (simp; omega)))⟩
        case rest =>
          (try clear hB0); (try clear a0 a1 a2 a3 a4 a5); (try clear d0 d1 d2 d3 d4 d5)
          obtain ⟨g12, rfl, rfl, Qa, Qd, Qe, hB0⟩ := hcut
          have la0 := Box.lt Qa
          obtain ⟨a0, a1, a2, a3, a4, a5⟩ := Qa
          have ld0 := Box.lt Qd
          obtain ⟨d0, d1, d2, d3, d4, d5⟩ := Qd
          have le0 := Box.lt Qe
          obtain ⟨e0, e1, e2, e3, e4, e5⟩ := Qe
          have hszB := hB0.size
          go_upto_region 10 with (fail)
          go_cut [14, 15] (fun v1 v2 wd => ∃ g14 : Nat, v1 = .pointer (some ⟨g14, 0, none⟩) ∧ v2 = .bool z5 ∧ Box wd (g6) (⟨true, x, x⟩) ∧ Box wd (g7) (⟨true, y, y⟩) ∧ Box wd (g12) (s5) ∧ Box wd (g14) (s6) ∧ Below w.heap.size w wd)
          case first =>
            go_wp2_with (first | (go_at_call 25; (with_reducible refine (arith_mod ⟨true, x, x⟩ ⟨true, y, y⟩ ⟨true, x, x⟩ ⟨true, y, y⟩ hx hy ox.out oy.out s6 z5 h6 k6 _).mono ?_); rintro e w' ⟨rfl, hB⟩; have Qa := Box.keep (g := g6) (x := ⟨true, x, x⟩) hB ⟨by go_simp, by go_simp, by go_simp, by go_simp, by go_simp, by go_simp⟩; have Qd := Box.keep (g := g7) (x := ⟨true, y, y⟩) hB ⟨by go_simp, by go_simp, by go_simp, by go_simp, by go_simp, by go_simp⟩; have Qe := Box.keep (g := g12) (x := s5) hB ⟨by go_simp, by go_simp, by go_simp, by go_simp, by go_simp, by go_simp⟩; replace hB0 := below_call (w := w) (by first | (with_reducible assumption) | ((try go_grown); (all_goals (repeat' (first | (with_reducible assumption) | (refine below_call ?_ (by assumption); (try go_grown))))); all_goals (first | omega | (simp; omega)))) hB; clear hB; have hszB := hB0.size; (try clear a0 a1 a2 a3 a4 a5); (try clear d0 d1 d2 d3 d4 d5); (try clear e0 e1 e2 e3 e4 e5); have la0 := Box.lt Qa; have la1 := Nat.lt_succ_of_lt la0; have la2 := Nat.lt_succ_of_lt la1; obtain ⟨a0, a1, a2, a3, a4, a5⟩ := Qa; have ld0 := Box.lt Qd; have ld1 := Nat.lt_succ_of_lt ld0; have ld2 := Nat.lt_succ_of_lt ld1; obtain ⟨d0, d1, d2, d3, d4, d5⟩ := Qd; have le0 := Box.lt Qe; have le1 := Nat.lt_succ_of_lt le0; have le2 := Nat.lt_succ_of_lt le1; obtain ⟨e0, e1, e2, e3, e4, e5⟩ := Qe))
            go_meet
            case rel => exact ⟨_, rfl, rfl, ⟨by go_simp, by go_simp, by go_simp, by go_simp, by go_simp, by go_simp⟩, ⟨by go_simp, by go_simp, by go_simp, by go_simp, by go_simp, by go_simp⟩, ⟨by go_simp, by go_simp, by go_simp, by go_simp, by go_simp, by go_simp⟩, ⟨by go_simp, by go_simp, by go_simp, by go_simp, by go_simp, by go_simp⟩, by first | (with_reducible assumption) | ((try go_grown); (all_goals (repeat' (first | (with_reducible assumption) | (refine below_call ?_ (by assumption); (try go_grown))))); all_goals (first | omega | (simp; omega)))⟩
          case rest =>
            (try clear hB0); (try clear a0 a1 a2 a3 a4 a5); (try clear d0 d1 d2 d3 d4 d5); (try clear e0 e1 e2 e3 e4 e5)
            obtain ⟨g14, rfl, rfl, Qa, Qd, Qe, Qf, hB0⟩ := hcut
            have la0 := Box.lt Qa
            obtain ⟨a0, a1, a2, a3, a4, a5⟩ := Qa
            have ld0 := Box.lt Qd
            obtain ⟨d0, d1, d2, d3, d4, d5⟩ := Qd
            have le0 := Box.lt Qe
            obtain ⟨e0, e1, e2, e3, e4, e5⟩ := Qe
            have lf0 := Box.lt Qf
            obtain ⟨f0, f1, f2, f3, f4, f5⟩ := Qf
            have hszB := hB0.size
            by_cases hy0 : y = 0
            · obtain rfl : s5 = Iv.e := by rw [ff5.out, if_pos hy0]
              obtain rfl : z5 = true := by rw [ff6.out]; exact decide_eq_true hy0
              obtain rfl : s6 = Iv.e := ff8.out hy0
              subst hy0
              clear ff5 ff6 ff7 ff8 h5 h6 k5 k6 ox oy hx hy ix iy
              go_wp2_with fail
              go_returns
              exact ⟨by simp, by first | (with_reducible assumption) | ((try go_grown); (all_goals (repeat' (first | (with_reducible assumption) | (refine below_call ?_ (by assumption); (try go_grown))))); all_goals (first | omega | (simp; omega)))⟩
            · have hr0 := ff7.out hy0
              obtain rfl : z5 = false := by rw [ff6.out]; exact decide_eq_false hy0
              have hd := ff5.out
              rw [if_neg hy0] at hd
              have y0 : (y == 0) = false := beq_eq_false_iff_ne.mpr hy0
              by_cases hc : x = -9223372036854775808 ∧ y = -1
              · rw [if_pos hc] at hd
                obtain ⟨rfl, rfl⟩ := hc
                subst hd
                have hr : Hid (hasI s6 0 = true) := Lib.hid hr0
                clear ff5 ff6 ff7 ff8 h5 h6 k5 k6 ox oy hx hy ix iy hr0
                go_upto_region 14 with (fail)
                refine Calm.wp_calm (by kernel_rfl) _ ((Calm.isV (.bool false)) :: (Calm.isV (.bool true)) :: (Calm.isV (.bool true)) :: (Calm.isV (.bool false)) :: (Calm.isV (.bool true)) :: (Calm.isV (.bool true)) :: (Calm.isV (.bool true)) :: (Calm.isV (.agg #[.bool true, .int .i64 (-9223372036854775808), .int .i64 9223372036854775807])) :: (Calm.isV (.agg #[.bool true, .int .i64 (-9223372036854775808), .int .i64 9223372036854775807])) :: (Calm.isV (.bool true)) :: (Calm.isV (.bool true)) :: (Calm.isV (.bool true)) :: (Calm.isV (.func (.func 16) #[] #[])) :: (Calm.isV (.agg #[.bool s6.s, .int .i64 s6.lo, .int .i64 s6.hi])) :: (Calm.isV (.bool true)) :: (Calm.isV (.bool true)) :: (Calm.isV (.bool true)) :: []) ?hL (by kernel_rfl) (by kernel_rfl) (Below.refl _ _) ?step ?fin
                case hL => repeat' (first | exact List.forall_mem_nil _ | refine List.forall_mem_cons.2 ⟨by first | exact Calm.stable_is _ | exact Calm.stable_row _ _ | exact Calm.stable_any | exact Calm.stable_var _ _ | exact Calm.stable_if _ _, ?_⟩)
                case step =>
                  refine Calm.Steps.cons (Calm.step_plain rfl ?_) ?_
                  · intro a_ w1 hS hsz hold hdep K hK
                    have h13 : a_.tmps[13]? = some (.bool false) := (hold 13 (by kernel_rfl)).trans rfl
                    have e13 := Calm.at_getD h13
                    clear hsz hold hdep
                    have hcl := fun (b o : Nat) (h : b < _) => Below.cell hS (p := ⟨b, o, none⟩) h
                    go_simp
                    exact hK _ _ (Below.refl _ _) rfl
                  refine Calm.Steps.cons (Calm.step_plain rfl ?_) ?_
                  · intro a_ w1 hS hsz hold hdep K hK
                    have h145 := Calm.is_at (x := .bool false) hdep (k := 0) (by kernel_rfl) rfl rfl (fun _ _ h => h)
                    have e145 := Calm.at_getD h145
                    clear hsz hold hdep
                    have hcl := fun (b o : Nat) (h : b < _) => Below.cell hS (p := ⟨b, o, none⟩) h
                    go_simp
                    exact hK _ _ (Below.refl _ _) rfl
                  refine Calm.Steps.cons (Calm.step_plain rfl ?_) ?_
                  · intro a_ w1 hS hsz hold hdep K hK
                    have h146 := Calm.is_at (x := .bool true) hdep (k := 1) (by kernel_rfl) rfl rfl (fun _ _ h => h)
                    have e146 := Calm.at_getD h146
                    clear hsz hold hdep
                    have hcl := fun (b o : Nat) (h : b < _) => Below.cell hS (p := ⟨b, o, none⟩) h
                    go_simp
                    exact hK _ _ (Below.refl _ _) rfl
                  refine Calm.Steps.cons (Calm.step_wanted (b := true) rfl rfl rfl (by kernel_rfl) (fun _ _ h => h) ?_) ?_
                  · intro a_ w1 hS hsz hold hdep K hK
                    have h15 : a_.tmps[15]? = some (.bool false) := (hold 15 (by kernel_rfl)).trans rfl
                    have e15 := Calm.at_getD h15
                    clear hsz hold hdep
                    have hcl := fun (b o : Nat) (h : b < _) => Below.cell hS (p := ⟨b, o, none⟩) h
                    go_simp
                    exact hK _ _ (Below.refl _ _) rfl
                  refine Calm.Steps.cons (Calm.step_wanted (b := true) rfl rfl rfl (by kernel_rfl) (fun _ _ h => h) ?_) ?_
                  · intro a_ w1 hS hsz hold hdep K hK
                    have h148 := Calm.is_at (x := .bool false) hdep (k := 3) (by kernel_rfl) rfl rfl (fun _ _ h => h)
                    have e148 := Calm.at_getD h148
                    clear hsz hold hdep
                    have hcl := fun (b o : Nat) (h : b < _) => Below.cell hS (p := ⟨b, o, none⟩) h
                    go_simp
                    exact hK _ _ (Below.refl _ _) rfl
                  refine Calm.Steps.cons (Calm.step_plain rfl ?_) ?_
                  · intro a_ w1 hS hsz hold hdep K hK
                    have h147 := Calm.is_at (x := .bool true) hdep (k := 2) (by kernel_rfl) rfl rfl (fun _ _ h => h)
                    have e147 := Calm.at_getD h147
                    have h149 := Calm.is_at (x := .bool true) hdep (k := 4) (by kernel_rfl) rfl rfl (fun _ _ h => h)
                    have e149 := Calm.at_getD h149
                    clear hsz hold hdep
                    have hcl := fun (b o : Nat) (h : b < _) => Below.cell hS (p := ⟨b, o, none⟩) h
                    go_simp
                    exact hK _ _ (Below.refl _ _) rfl
                  refine Calm.Steps.cons (Calm.step_plain rfl ?_) ?_
                  · intro a_ w1 hS hsz hold hdep K hK
                    have h150 := Calm.is_at (x := .bool true) hdep (k := 5) (by kernel_rfl) rfl rfl (fun _ _ h => h)
                    have e150 := Calm.at_getD h150
                    clear hsz hold hdep
                    have hcl := fun (b o : Nat) (h : b < _) => Below.cell hS (p := ⟨b, o, none⟩) h
                    go_simp
                    exact hK _ _ (Below.refl _ _) rfl
                  refine Calm.Steps.cons (Calm.step_wanted (b := true) rfl rfl rfl (by kernel_rfl) (fun _ _ h => h) ?_) ?_
                  · intro a_ w1 hS hsz hold hdep K hK
                    have h12 : a_.tmps[12]? = some (.pointer (some ⟨g12, 0, none⟩)) := (hold 12 (by kernel_rfl)).trans rfl
                    have e12 := Calm.at_getD h12
                    clear hsz hold hdep
                    have hcl := fun (b o : Nat) (h : b < _) => Below.cell hS (p := ⟨b, o, none⟩) h
                    go_simp
                    exact hK _ _ (Below.refl _ _) rfl
                  refine Calm.Steps.cons (Calm.step_wanted (b := true) rfl rfl rfl (by kernel_rfl) (fun _ _ h => h) ?_) ?_
                  · intro a_ w1 hS hsz hold hdep K hK
                    clear hsz hold hdep
                    go_simp
                    refine (rtop_any Iv.top (Lib.hid rfl) _).mono ?_; rintro e w' ⟨rfl, hB⟩
                    exact hK _ _ hB rfl
                  refine Calm.Steps.cons (Calm.step_wanted (b := true) rfl rfl rfl (by kernel_rfl) (fun _ _ h => h) ?_) ?_
                  · intro a_ w1 hS hsz hold hdep K hK
                    have h152 := Calm.is_at (x := .agg #[.bool true, .int .i64 (-9223372036854775808), .int .i64 9223372036854775807]) hdep (k := 7) (by kernel_rfl) rfl rfl (fun _ _ h => h)
                    have e152 := Calm.at_getD h152
                    have h153 := Calm.is_at (x := .agg #[.bool true, .int .i64 (-9223372036854775808), .int .i64 9223372036854775807]) hdep (k := 8) (by kernel_rfl) rfl rfl (fun _ _ h => h)
                    have e153 := Calm.at_getD h153
                    clear hsz hold hdep
                    have hcl := fun (b o : Nat) (h : b < _) => Below.cell hS (p := ⟨b, o, none⟩) h
                    go_simp
                    exact hK _ _ (Below.refl _ _) rfl
                  refine Calm.Steps.cons (Calm.step_plain rfl ?_) ?_
                  · intro a_ w1 hS hsz hold hdep K hK
                    have h151 := Calm.is_at (x := .bool true) hdep (k := 6) (by kernel_rfl) rfl rfl (fun _ _ h => h)
                    have e151 := Calm.at_getD h151
                    have h154 := Calm.is_at (x := .bool true) hdep (k := 9) (by kernel_rfl) rfl rfl (fun _ _ h => h)
                    have e154 := Calm.at_getD h154
                    clear hsz hold hdep
                    have hcl := fun (b o : Nat) (h : b < _) => Below.cell hS (p := ⟨b, o, none⟩) h
                    go_simp
                    exact hK _ _ (Below.refl _ _) rfl
                  refine Calm.Steps.cons (Calm.step_plain rfl ?_) ?_
                  · intro a_ w1 hS hsz hold hdep K hK
                    have h155 := Calm.is_at (x := .bool true) hdep (k := 10) (by kernel_rfl) rfl rfl (fun _ _ h => h)
                    have e155 := Calm.at_getD h155
                    clear hsz hold hdep
                    have hcl := fun (b o : Nat) (h : b < _) => Below.cell hS (p := ⟨b, o, none⟩) h
                    go_simp
                    exact hK _ _ (Below.refl _ _) rfl
                  refine Calm.Steps.cons (Calm.step_wanted (b := true) rfl rfl rfl (by kernel_rfl) (fun _ _ h => h) ?_) ?_
                  · intro a_ w1 hS hsz hold hdep K hK
                    have h8 : a_.tmps[8]? = some (.func (.func 16) #[] #[]) := (hold 8 (by kernel_rfl)).trans rfl
                    have e8 := Calm.at_getD h8
                    clear hsz hold hdep
                    have hcl := fun (b o : Nat) (h : b < _) => Below.cell hS (p := ⟨b, o, none⟩) h
                    go_simp
                    exact hK _ _ (Below.refl _ _) rfl
                  refine Calm.Steps.cons (Calm.step_wanted (b := true) rfl rfl rfl (by kernel_rfl) (fun _ _ h => h) ?_) ?_
                  · intro a_ w1 hS hsz hold hdep K hK
                    have h14 : a_.tmps[14]? = some (.pointer (some ⟨g14, 0, none⟩)) := (hold 14 (by kernel_rfl)).trans rfl
                    have e14 := Calm.at_getD h14
                    clear hsz hold hdep
                    have hcl := fun (b o : Nat) (h : b < _) => Below.cell hS (p := ⟨b, o, none⟩) h
                    go_simp
                    exact hK _ _ (Below.refl _ _) rfl
                  refine Calm.Steps.cons (Calm.step_wanted (b := true) rfl rfl rfl (by kernel_rfl) (fun _ _ h => h) ?_) ?_
                  · intro a_ w1 hS hsz hold hdep K hK
                    have h157 := Calm.is_at (x := .func (.func 16) #[] #[]) hdep (k := 12) (by kernel_rfl) rfl rfl (fun _ _ h => h)
                    have e157 := Calm.at_getD h157
                    have h158 := Calm.is_at (x := .agg #[.bool s6.s, .int .i64 s6.lo, .int .i64 s6.hi]) hdep (k := 13) (by kernel_rfl) rfl rfl (fun _ _ h => h)
                    have e158 := Calm.at_getD h158
                    clear hsz hold hdep
                    go_simp
                    refine (rhas_any s6 0 true hr _).mono ?_; rintro e w' ⟨rfl, hB⟩
                    exact hK _ _ hB rfl
                  refine Calm.Steps.cons (Calm.step_plain rfl ?_) ?_
                  · intro a_ w1 hS hsz hold hdep K hK
                    have h156 := Calm.is_at (x := .bool true) hdep (k := 11) (by kernel_rfl) rfl rfl (fun _ _ h => h)
                    have e156 := Calm.at_getD h156
                    have h159 := Calm.is_at (x := .bool true) hdep (k := 14) (by kernel_rfl) rfl rfl (fun _ _ h => h)
                    have e159 := Calm.at_getD h159
                    clear hsz hold hdep
                    have hcl := fun (b o : Nat) (h : b < _) => Below.cell hS (p := ⟨b, o, none⟩) h
                    go_simp
                    exact hK _ _ (Below.refl _ _) rfl
                  refine Calm.Steps.cons (Calm.step_plain rfl ?_) ?_
                  · intro a_ w1 hS hsz hold hdep K hK
                    have h160 := Calm.is_at (x := .bool true) hdep (k := 15) (by kernel_rfl) rfl rfl (fun _ _ h => h)
                    have e160 := Calm.at_getD h160
                    clear hsz hold hdep
                    have hcl := fun (b o : Nat) (h : b < _) => Below.cell hS (p := ⟨b, o, none⟩) h
                    go_simp
                    exact hK _ _ (Below.refl _ _) rfl
                  exact Calm.Steps.nil
                case fin =>
                  intro a_ w1 hS hsz hdf hold hk
                  obtain ⟨u4, h4_, (k4_ : u4 = .bool true)⟩ := hk 16 _ rfl
                  subst k4_
                  replace h4_ := h4_ 4 rfl
                  have e4_ := Calm.at_getD h4_
                  replace hdf : a_.defers = [] := hdf
                  clear hold hk hsz
                  go_wp2_with fail
                  refine bodyPost_ret (v := .bool true) (by simp [results, Try.results6, *, go_sem]) hdf ?_
                  exact ⟨rfl, below_call hB0 hS⟩
              · obtain ⟨nq, hnq⟩ : ∃ n, Hid (wrap64 (x.tdiv y) = n) := ⟨_, Lib.hid rfl⟩
                rw [if_neg hc, hnq.out] at hd
                subst hd
                obtain ⟨nr, hnr⟩ : ∃ n, Hid (x.tmod y = n) := ⟨_, Lib.hid rfl⟩
                have hr : Hid (hasI s6 nr = true) := Lib.hid (by rw [← hnr.out]; exact hr0)
                have hnot : x = -9223372036854775808 → (y == -1) = false := fun e => beq_eq_false_iff_ne.mpr (fun e2 => hc ⟨e, e2⟩)
                clear ff5 ff6 ff7 ff8 h5 h6 k5 k6 ox oy hx hy ix iy hr0
                by_cases hx1 : x = -9223372036854775808
                · have hy1 := hnot hx1
                  subst hx1
                  clear hnot hc
                  go_upto_region 15 with (fail)
                  refine Calm.wp_calm (by kernel_rfl) _ ((Calm.isV (.bool false)) :: (Calm.isV (.bool true)) :: (Calm.isV (.bool true)) :: (Calm.isV (.bool false)) :: (Calm.isV (.bool true)) :: (Calm.isV (.bool true)) :: (Calm.isV (.bool true)) :: (Calm.isV (.agg #[.bool true, .int .i64 nq, .int .i64 nq])) :: (Calm.isV (.func (.func 22) #[] #[])) :: (Calm.isV (.int .i64 (-9223372036854775808))) :: (Calm.isV (.int .i64 y)) :: (Calm.isV (.int .i64 nq)) :: (Calm.isV (.int .i64 (-9223372036854775808))) :: (Calm.isV (.int .i64 y)) :: (Calm.isV (.int .i64 nq)) :: (Calm.isV (.agg #[.bool true, .int .i64 nq, .int .i64 nq])) :: (Calm.isV (.bool true)) :: (Calm.isV (.bool true)) :: (Calm.isV (.bool true)) :: (Calm.isV (.func (.func 16) #[] #[])) :: (Calm.isV (.agg #[.bool s6.s, .int .i64 s6.lo, .int .i64 s6.hi])) :: (Calm.isV (.int .i64 (-9223372036854775808))) :: (Calm.isV (.int .i64 y)) :: (Calm.isV (.int .i64 nr)) :: (Calm.isV (.bool true)) :: (Calm.isV (.bool true)) :: (Calm.isV (.bool true)) :: []) ?hL (by kernel_rfl) (by kernel_rfl) (Below.refl _ _) ?step ?fin
                  case hL => repeat' (first | exact List.forall_mem_nil _ | refine List.forall_mem_cons.2 ⟨by first | exact Calm.stable_is _ | exact Calm.stable_row _ _ | exact Calm.stable_any | exact Calm.stable_var _ _ | exact Calm.stable_if _ _, ?_⟩)
                  case step =>
                    refine Calm.Steps.cons (Calm.step_plain rfl ?_) ?_
                    · intro a_ w1 hS hsz hold hdep K hK
                      have h13 : a_.tmps[13]? = some (.bool false) := (hold 13 (by kernel_rfl)).trans rfl
                      have e13 := Calm.at_getD h13
                      clear hsz hold hdep
                      have hcl := fun (b o : Nat) (h : b < _) => Below.cell hS (p := ⟨b, o, none⟩) h
                      go_simp
                      exact hK _ _ (Below.refl _ _) rfl
                    refine Calm.Steps.cons (Calm.step_plain rfl ?_) ?_
                    · intro a_ w1 hS hsz hold hdep K hK
                      have h161 := Calm.is_at (x := .bool false) hdep (k := 0) (by kernel_rfl) rfl rfl (fun _ _ h => h)
                      have e161 := Calm.at_getD h161
                      clear hsz hold hdep
                      have hcl := fun (b o : Nat) (h : b < _) => Below.cell hS (p := ⟨b, o, none⟩) h
                      go_simp
                      exact hK _ _ (Below.refl _ _) rfl
                    refine Calm.Steps.cons (Calm.step_plain rfl ?_) ?_
                    · intro a_ w1 hS hsz hold hdep K hK
                      have h162 := Calm.is_at (x := .bool true) hdep (k := 1) (by kernel_rfl) rfl rfl (fun _ _ h => h)
                      have e162 := Calm.at_getD h162
                      clear hsz hold hdep
                      have hcl := fun (b o : Nat) (h : b < _) => Below.cell hS (p := ⟨b, o, none⟩) h
                      go_simp
                      exact hK _ _ (Below.refl _ _) rfl
                    refine Calm.Steps.cons (Calm.step_wanted (b := true) rfl rfl rfl (by kernel_rfl) (fun _ _ h => h) ?_) ?_
                    · intro a_ w1 hS hsz hold hdep K hK
                      have h15 : a_.tmps[15]? = some (.bool false) := (hold 15 (by kernel_rfl)).trans rfl
                      have e15 := Calm.at_getD h15
                      clear hsz hold hdep
                      have hcl := fun (b o : Nat) (h : b < _) => Below.cell hS (p := ⟨b, o, none⟩) h
                      go_simp
                      exact hK _ _ (Below.refl _ _) rfl
                    refine Calm.Steps.cons (Calm.step_wanted (b := true) rfl rfl rfl (by kernel_rfl) (fun _ _ h => h) ?_) ?_
                    · intro a_ w1 hS hsz hold hdep K hK
                      have h164 := Calm.is_at (x := .bool false) hdep (k := 3) (by kernel_rfl) rfl rfl (fun _ _ h => h)
                      have e164 := Calm.at_getD h164
                      clear hsz hold hdep
                      have hcl := fun (b o : Nat) (h : b < _) => Below.cell hS (p := ⟨b, o, none⟩) h
                      go_simp
                      exact hK _ _ (Below.refl _ _) rfl
                    refine Calm.Steps.cons (Calm.step_plain rfl ?_) ?_
                    · intro a_ w1 hS hsz hold hdep K hK
                      have h163 := Calm.is_at (x := .bool true) hdep (k := 2) (by kernel_rfl) rfl rfl (fun _ _ h => h)
                      have e163 := Calm.at_getD h163
                      have h165 := Calm.is_at (x := .bool true) hdep (k := 4) (by kernel_rfl) rfl rfl (fun _ _ h => h)
                      have e165 := Calm.at_getD h165
                      clear hsz hold hdep
                      have hcl := fun (b o : Nat) (h : b < _) => Below.cell hS (p := ⟨b, o, none⟩) h
                      go_simp
                      exact hK _ _ (Below.refl _ _) rfl
                    refine Calm.Steps.cons (Calm.step_plain rfl ?_) ?_
                    · intro a_ w1 hS hsz hold hdep K hK
                      have h166 := Calm.is_at (x := .bool true) hdep (k := 5) (by kernel_rfl) rfl rfl (fun _ _ h => h)
                      have e166 := Calm.at_getD h166
                      clear hsz hold hdep
                      have hcl := fun (b o : Nat) (h : b < _) => Below.cell hS (p := ⟨b, o, none⟩) h
                      go_simp
                      exact hK _ _ (Below.refl _ _) rfl
                    refine Calm.Steps.cons (Calm.step_wanted (b := true) rfl rfl rfl (by kernel_rfl) (fun _ _ h => h) ?_) ?_
                    · intro a_ w1 hS hsz hold hdep K hK
                      have h12 : a_.tmps[12]? = some (.pointer (some ⟨g12, 0, none⟩)) := (hold 12 (by kernel_rfl)).trans rfl
                      have e12 := Calm.at_getD h12
                      clear hsz hold hdep
                      have hcl := fun (b o : Nat) (h : b < _) => Below.cell hS (p := ⟨b, o, none⟩) h
                      go_simp
                      exact hK _ _ (Below.refl _ _) rfl
                    refine Calm.Steps.cons (Calm.step_wanted (b := true) rfl rfl rfl (by kernel_rfl) (fun _ _ h => h) ?_) ?_
                    · intro a_ w1 hS hsz hold hdep K hK
                      have h5 : a_.tmps[5]? = some (.func (.func 22) #[] #[]) := (hold 5 (by kernel_rfl)).trans rfl
                      have e5 := Calm.at_getD h5
                      clear hsz hold hdep
                      have hcl := fun (b o : Nat) (h : b < _) => Below.cell hS (p := ⟨b, o, none⟩) h
                      go_simp
                      exact hK _ _ (Below.refl _ _) rfl
                    refine Calm.Steps.cons (Calm.step_wanted (b := true) rfl rfl rfl (by kernel_rfl) (fun _ _ h => h) ?_) ?_
                    · intro a_ w1 hS hsz hold hdep K hK
                      have h0 : a_.tmps[0]? = some (.int .i64 (-9223372036854775808)) := (hold 0 (by kernel_rfl)).trans rfl
                      have e0 := Calm.at_getD h0
                      clear hsz hold hdep
                      have hcl := fun (b o : Nat) (h : b < _) => Below.cell hS (p := ⟨b, o, none⟩) h
                      go_simp
                      exact hK _ _ (Below.refl _ _) rfl
                    refine Calm.Steps.cons (Calm.step_wanted (b := true) rfl rfl rfl (by kernel_rfl) (fun _ _ h => h) ?_) ?_
                    · intro a_ w1 hS hsz hold hdep K hK
                      have h1 : a_.tmps[1]? = some (.int .i64 y) := (hold 1 (by kernel_rfl)).trans rfl
                      have e1 := Calm.at_getD h1
                      clear hsz hold hdep
                      have hcl := fun (b o : Nat) (h : b < _) => Below.cell hS (p := ⟨b, o, none⟩) h
                      go_simp
                      exact hK _ _ (Below.refl _ _) rfl
                    refine Calm.Steps.cons (Calm.step_wanted (b := true) rfl rfl rfl (by kernel_rfl) (fun _ _ h => h) ?_) ?_
                    · intro a_ w1 hS hsz hold hdep K hK
                      have h170 := Calm.is_at (x := .int .i64 (-9223372036854775808)) hdep (k := 9) (by kernel_rfl) rfl rfl (fun _ _ h => h)
                      have e170 := Calm.at_getD h170
                      have h171 := Calm.is_at (x := .int .i64 y) hdep (k := 10) (by kernel_rfl) rfl rfl (fun _ _ h => h)
                      have e171 := Calm.at_getD h171
                      clear hsz hold hdep
                      have hcl := fun (b o : Nat) (h : b < _) => Below.cell hS (p := ⟨b, o, none⟩) h
                      go_simp
                      refine hK _ _ (Below.refl _ _) ?_
                      exact congrArg (Value.int IntKind.i64) (by first | exact hnq.out | (rw [i64w]; exact hnq.out) | (rw [← hnq.out]; simp; done) | (rw [i64w, ← hnq.out]; simp; done))
                    refine Calm.Steps.cons (Calm.step_wanted (b := true) rfl rfl rfl (by kernel_rfl) (fun _ _ h => h) ?_) ?_
                    · intro a_ w1 hS hsz hold hdep K hK
                      have h0 : a_.tmps[0]? = some (.int .i64 (-9223372036854775808)) := (hold 0 (by kernel_rfl)).trans rfl
                      have e0 := Calm.at_getD h0
                      clear hsz hold hdep
                      have hcl := fun (b o : Nat) (h : b < _) => Below.cell hS (p := ⟨b, o, none⟩) h
                      go_simp
                      exact hK _ _ (Below.refl _ _) rfl
                    refine Calm.Steps.cons (Calm.step_wanted (b := true) rfl rfl rfl (by kernel_rfl) (fun _ _ h => h) ?_) ?_
                    · intro a_ w1 hS hsz hold hdep K hK
                      have h1 : a_.tmps[1]? = some (.int .i64 y) := (hold 1 (by kernel_rfl)).trans rfl
                      have e1 := Calm.at_getD h1
                      clear hsz hold hdep
                      have hcl := fun (b o : Nat) (h : b < _) => Below.cell hS (p := ⟨b, o, none⟩) h
                      go_simp
                      exact hK _ _ (Below.refl _ _) rfl
                    refine Calm.Steps.cons (Calm.step_wanted (b := true) rfl rfl rfl (by kernel_rfl) (fun _ _ h => h) ?_) ?_
                    · intro a_ w1 hS hsz hold hdep K hK
                      have h173 := Calm.is_at (x := .int .i64 (-9223372036854775808)) hdep (k := 12) (by kernel_rfl) rfl rfl (fun _ _ h => h)
                      have e173 := Calm.at_getD h173
                      have h174 := Calm.is_at (x := .int .i64 y) hdep (k := 13) (by kernel_rfl) rfl rfl (fun _ _ h => h)
                      have e174 := Calm.at_getD h174
                      clear hsz hold hdep
                      have hcl := fun (b o : Nat) (h : b < _) => Below.cell hS (p := ⟨b, o, none⟩) h
                      go_simp
                      refine hK _ _ (Below.refl _ _) ?_
                      exact congrArg (Value.int IntKind.i64) (by first | exact hnq.out | (rw [i64w]; exact hnq.out) | (rw [← hnq.out]; simp; done) | (rw [i64w, ← hnq.out]; simp; done))
                    refine Calm.Steps.cons (Calm.step_wanted (b := true) rfl rfl rfl (by kernel_rfl) (fun _ _ h => h) ?_) ?_
                    · intro a_ w1 hS hsz hold hdep K hK
                      have h169 := Calm.is_at (x := .func (.func 22) #[] #[]) hdep (k := 8) (by kernel_rfl) rfl rfl (fun _ _ h => h)
                      have e169 := Calm.at_getD h169
                      have h172 := Calm.is_at (x := .int .i64 nq) hdep (k := 11) (by kernel_rfl) rfl rfl (fun _ _ h => h)
                      have e172 := Calm.at_getD h172
                      have h175 := Calm.is_at (x := .int .i64 nq) hdep (k := 14) (by kernel_rfl) rfl rfl (fun _ _ h => h)
                      have e175 := Calm.at_getD h175
                      clear hsz hold hdep
                      go_simp
                      refine (rof_any nq nq ⟨true, nq, nq⟩ (Lib.hid (of_one nq)) _).mono ?_; rintro e w' ⟨rfl, hB⟩
                      exact hK _ _ hB rfl
                    refine Calm.Steps.cons (Calm.step_wanted (b := true) rfl rfl rfl (by kernel_rfl) (fun _ _ h => h) ?_) ?_
                    · intro a_ w1 hS hsz hold hdep K hK
                      have h168 := Calm.is_at (x := .agg #[.bool true, .int .i64 nq, .int .i64 nq]) hdep (k := 7) (by kernel_rfl) rfl rfl (fun _ _ h => h)
                      have e168 := Calm.at_getD h168
                      have h176 := Calm.is_at (x := .agg #[.bool true, .int .i64 nq, .int .i64 nq]) hdep (k := 15) (by kernel_rfl) rfl rfl (fun _ _ h => h)
                      have e176 := Calm.at_getD h176
                      clear hsz hold hdep
                      have hcl := fun (b o : Nat) (h : b < _) => Below.cell hS (p := ⟨b, o, none⟩) h
                      go_simp
                      exact hK _ _ (Below.refl _ _) rfl
                    refine Calm.Steps.cons (Calm.step_plain rfl ?_) ?_
                    · intro a_ w1 hS hsz hold hdep K hK
                      have h167 := Calm.is_at (x := .bool true) hdep (k := 6) (by kernel_rfl) rfl rfl (fun _ _ h => h)
                      have e167 := Calm.at_getD h167
                      have h177 := Calm.is_at (x := .bool true) hdep (k := 16) (by kernel_rfl) rfl rfl (fun _ _ h => h)
                      have e177 := Calm.at_getD h177
                      clear hsz hold hdep
                      have hcl := fun (b o : Nat) (h : b < _) => Below.cell hS (p := ⟨b, o, none⟩) h
                      go_simp
                      exact hK _ _ (Below.refl _ _) rfl
                    refine Calm.Steps.cons (Calm.step_plain rfl ?_) ?_
                    · intro a_ w1 hS hsz hold hdep K hK
                      have h178 := Calm.is_at (x := .bool true) hdep (k := 17) (by kernel_rfl) rfl rfl (fun _ _ h => h)
                      have e178 := Calm.at_getD h178
                      clear hsz hold hdep
                      have hcl := fun (b o : Nat) (h : b < _) => Below.cell hS (p := ⟨b, o, none⟩) h
                      go_simp
                      exact hK _ _ (Below.refl _ _) rfl
                    refine Calm.Steps.cons (Calm.step_wanted (b := true) rfl rfl rfl (by kernel_rfl) (fun _ _ h => h) ?_) ?_
                    · intro a_ w1 hS hsz hold hdep K hK
                      have h8 : a_.tmps[8]? = some (.func (.func 16) #[] #[]) := (hold 8 (by kernel_rfl)).trans rfl
                      have e8 := Calm.at_getD h8
                      clear hsz hold hdep
                      have hcl := fun (b o : Nat) (h : b < _) => Below.cell hS (p := ⟨b, o, none⟩) h
                      go_simp
                      exact hK _ _ (Below.refl _ _) rfl
                    refine Calm.Steps.cons (Calm.step_wanted (b := true) rfl rfl rfl (by kernel_rfl) (fun _ _ h => h) ?_) ?_
                    · intro a_ w1 hS hsz hold hdep K hK
                      have h14 : a_.tmps[14]? = some (.pointer (some ⟨g14, 0, none⟩)) := (hold 14 (by kernel_rfl)).trans rfl
                      have e14 := Calm.at_getD h14
                      clear hsz hold hdep
                      have hcl := fun (b o : Nat) (h : b < _) => Below.cell hS (p := ⟨b, o, none⟩) h
                      go_simp
                      exact hK _ _ (Below.refl _ _) rfl
                    refine Calm.Steps.cons (Calm.step_wanted (b := true) rfl rfl rfl (by kernel_rfl) (fun _ _ h => h) ?_) ?_
                    · intro a_ w1 hS hsz hold hdep K hK
                      have h0 : a_.tmps[0]? = some (.int .i64 (-9223372036854775808)) := (hold 0 (by kernel_rfl)).trans rfl
                      have e0 := Calm.at_getD h0
                      clear hsz hold hdep
                      have hcl := fun (b o : Nat) (h : b < _) => Below.cell hS (p := ⟨b, o, none⟩) h
                      go_simp
                      exact hK _ _ (Below.refl _ _) rfl
                    refine Calm.Steps.cons (Calm.step_wanted (b := true) rfl rfl rfl (by kernel_rfl) (fun _ _ h => h) ?_) ?_
                    · intro a_ w1 hS hsz hold hdep K hK
                      have h1 : a_.tmps[1]? = some (.int .i64 y) := (hold 1 (by kernel_rfl)).trans rfl
                      have e1 := Calm.at_getD h1
                      clear hsz hold hdep
                      have hcl := fun (b o : Nat) (h : b < _) => Below.cell hS (p := ⟨b, o, none⟩) h
                      go_simp
                      exact hK _ _ (Below.refl _ _) rfl
                    refine Calm.Steps.cons (Calm.step_wanted (b := true) rfl rfl rfl (by kernel_rfl) (fun _ _ h => h) ?_) ?_
                    · intro a_ w1 hS hsz hold hdep K hK
                      have h182 := Calm.is_at (x := .int .i64 (-9223372036854775808)) hdep (k := 21) (by kernel_rfl) rfl rfl (fun _ _ h => h)
                      have e182 := Calm.at_getD h182
                      have h183 := Calm.is_at (x := .int .i64 y) hdep (k := 22) (by kernel_rfl) rfl rfl (fun _ _ h => h)
                      have e183 := Calm.at_getD h183
                      clear hsz hold hdep
                      have hcl := fun (b o : Nat) (h : b < _) => Below.cell hS (p := ⟨b, o, none⟩) h
                      go_simp
                      refine hK _ _ (Below.refl _ _) ?_
                      exact congrArg (Value.int IntKind.i64) (by first | exact hnr.out | (rw [← hnr.out]; simp; done))
                    refine Calm.Steps.cons (Calm.step_wanted (b := true) rfl rfl rfl (by kernel_rfl) (fun _ _ h => h) ?_) ?_
                    · intro a_ w1 hS hsz hold hdep K hK
                      have h180 := Calm.is_at (x := .func (.func 16) #[] #[]) hdep (k := 19) (by kernel_rfl) rfl rfl (fun _ _ h => h)
                      have e180 := Calm.at_getD h180
                      have h181 := Calm.is_at (x := .agg #[.bool s6.s, .int .i64 s6.lo, .int .i64 s6.hi]) hdep (k := 20) (by kernel_rfl) rfl rfl (fun _ _ h => h)
                      have e181 := Calm.at_getD h181
                      have h184 := Calm.is_at (x := .int .i64 nr) hdep (k := 23) (by kernel_rfl) rfl rfl (fun _ _ h => h)
                      have e184 := Calm.at_getD h184
                      clear hsz hold hdep
                      go_simp
                      refine (rhas_any s6 nr true hr _).mono ?_; rintro e w' ⟨rfl, hB⟩
                      exact hK _ _ hB rfl
                    refine Calm.Steps.cons (Calm.step_plain rfl ?_) ?_
                    · intro a_ w1 hS hsz hold hdep K hK
                      have h179 := Calm.is_at (x := .bool true) hdep (k := 18) (by kernel_rfl) rfl rfl (fun _ _ h => h)
                      have e179 := Calm.at_getD h179
                      have h185 := Calm.is_at (x := .bool true) hdep (k := 24) (by kernel_rfl) rfl rfl (fun _ _ h => h)
                      have e185 := Calm.at_getD h185
                      clear hsz hold hdep
                      have hcl := fun (b o : Nat) (h : b < _) => Below.cell hS (p := ⟨b, o, none⟩) h
                      go_simp
                      exact hK _ _ (Below.refl _ _) rfl
                    refine Calm.Steps.cons (Calm.step_plain rfl ?_) ?_
                    · intro a_ w1 hS hsz hold hdep K hK
                      have h186 := Calm.is_at (x := .bool true) hdep (k := 25) (by kernel_rfl) rfl rfl (fun _ _ h => h)
                      have e186 := Calm.at_getD h186
                      clear hsz hold hdep
                      have hcl := fun (b o : Nat) (h : b < _) => Below.cell hS (p := ⟨b, o, none⟩) h
                      go_simp
                      exact hK _ _ (Below.refl _ _) rfl
                    exact Calm.Steps.nil
                  case fin =>
                    intro a_ w1 hS hsz hdf hold hk
                    obtain ⟨u4, h4_, (k4_ : u4 = .bool true)⟩ := hk 26 _ rfl
                    subst k4_
                    replace h4_ := h4_ 4 rfl
                    have e4_ := Calm.at_getD h4_
                    replace hdf : a_.defers = [] := hdf
                    clear hold hk hsz
                    go_wp2_with fail
                    refine bodyPost_ret (v := .bool true) (by simp [results, Try.results6, *, go_sem]) hdf ?_
                    exact ⟨rfl, below_call hB0 hS⟩
                · have hx2 : (x == -9223372036854775808) = false := beq_eq_false_iff_ne.mpr hx1
                  clear hnot hc
                  go_upto_region 15 with (fail)
                  refine Calm.wp_calm (by kernel_rfl) _ ((Calm.isV (.bool false)) :: (Calm.isV (.bool true)) :: (Calm.isV (.bool true)) :: (Calm.isV (.bool false)) :: (Calm.isV (.bool true)) :: (Calm.isV (.bool true)) :: (Calm.isV (.bool true)) :: (Calm.isV (.agg #[.bool true, .int .i64 nq, .int .i64 nq])) :: (Calm.isV (.func (.func 22) #[] #[])) :: (Calm.isV (.int .i64 x)) :: (Calm.isV (.int .i64 y)) :: (Calm.isV (.int .i64 nq)) :: (Calm.isV (.int .i64 x)) :: (Calm.isV (.int .i64 y)) :: (Calm.isV (.int .i64 nq)) :: (Calm.isV (.agg #[.bool true, .int .i64 nq, .int .i64 nq])) :: (Calm.isV (.bool true)) :: (Calm.isV (.bool true)) :: (Calm.isV (.bool true)) :: (Calm.isV (.func (.func 16) #[] #[])) :: (Calm.isV (.agg #[.bool s6.s, .int .i64 s6.lo, .int .i64 s6.hi])) :: (Calm.isV (.int .i64 x)) :: (Calm.isV (.int .i64 y)) :: (Calm.isV (.int .i64 nr)) :: (Calm.isV (.bool true)) :: (Calm.isV (.bool true)) :: (Calm.isV (.bool true)) :: []) ?hL (by kernel_rfl) (by kernel_rfl) (Below.refl _ _) ?step ?fin
                  case hL => repeat' (first | exact List.forall_mem_nil _ | refine List.forall_mem_cons.2 ⟨by first | exact Calm.stable_is _ | exact Calm.stable_row _ _ | exact Calm.stable_any | exact Calm.stable_var _ _ | exact Calm.stable_if _ _, ?_⟩)
                  case step =>
                    refine Calm.Steps.cons (Calm.step_plain rfl ?_) ?_
                    · intro a_ w1 hS hsz hold hdep K hK
                      have h13 : a_.tmps[13]? = some (.bool false) := (hold 13 (by kernel_rfl)).trans rfl
                      have e13 := Calm.at_getD h13
                      clear hsz hold hdep
                      have hcl := fun (b o : Nat) (h : b < _) => Below.cell hS (p := ⟨b, o, none⟩) h
                      go_simp
                      exact hK _ _ (Below.refl _ _) rfl
                    refine Calm.Steps.cons (Calm.step_plain rfl ?_) ?_
                    · intro a_ w1 hS hsz hold hdep K hK
                      have h161 := Calm.is_at (x := .bool false) hdep (k := 0) (by kernel_rfl) rfl rfl (fun _ _ h => h)
                      have e161 := Calm.at_getD h161
                      clear hsz hold hdep
                      have hcl := fun (b o : Nat) (h : b < _) => Below.cell hS (p := ⟨b, o, none⟩) h
                      go_simp
                      exact hK _ _ (Below.refl _ _) rfl
                    refine Calm.Steps.cons (Calm.step_plain rfl ?_) ?_
                    · intro a_ w1 hS hsz hold hdep K hK
                      have h162 := Calm.is_at (x := .bool true) hdep (k := 1) (by kernel_rfl) rfl rfl (fun _ _ h => h)
                      have e162 := Calm.at_getD h162
                      clear hsz hold hdep
                      have hcl := fun (b o : Nat) (h : b < _) => Below.cell hS (p := ⟨b, o, none⟩) h
                      go_simp
                      exact hK _ _ (Below.refl _ _) rfl
                    refine Calm.Steps.cons (Calm.step_wanted (b := true) rfl rfl rfl (by kernel_rfl) (fun _ _ h => h) ?_) ?_
                    · intro a_ w1 hS hsz hold hdep K hK
                      have h15 : a_.tmps[15]? = some (.bool false) := (hold 15 (by kernel_rfl)).trans rfl
                      have e15 := Calm.at_getD h15
                      clear hsz hold hdep
                      have hcl := fun (b o : Nat) (h : b < _) => Below.cell hS (p := ⟨b, o, none⟩) h
                      go_simp
                      exact hK _ _ (Below.refl _ _) rfl
                    refine Calm.Steps.cons (Calm.step_wanted (b := true) rfl rfl rfl (by kernel_rfl) (fun _ _ h => h) ?_) ?_
                    · intro a_ w1 hS hsz hold hdep K hK
                      have h164 := Calm.is_at (x := .bool false) hdep (k := 3) (by kernel_rfl) rfl rfl (fun _ _ h => h)
                      have e164 := Calm.at_getD h164
                      clear hsz hold hdep
                      have hcl := fun (b o : Nat) (h : b < _) => Below.cell hS (p := ⟨b, o, none⟩) h
                      go_simp
                      exact hK _ _ (Below.refl _ _) rfl
                    refine Calm.Steps.cons (Calm.step_plain rfl ?_) ?_
                    · intro a_ w1 hS hsz hold hdep K hK
                      have h163 := Calm.is_at (x := .bool true) hdep (k := 2) (by kernel_rfl) rfl rfl (fun _ _ h => h)
                      have e163 := Calm.at_getD h163
                      have h165 := Calm.is_at (x := .bool true) hdep (k := 4) (by kernel_rfl) rfl rfl (fun _ _ h => h)
                      have e165 := Calm.at_getD h165
                      clear hsz hold hdep
                      have hcl := fun (b o : Nat) (h : b < _) => Below.cell hS (p := ⟨b, o, none⟩) h
                      go_simp
                      exact hK _ _ (Below.refl _ _) rfl
                    refine Calm.Steps.cons (Calm.step_plain rfl ?_) ?_
                    · intro a_ w1 hS hsz hold hdep K hK
                      have h166 := Calm.is_at (x := .bool true) hdep (k := 5) (by kernel_rfl) rfl rfl (fun _ _ h => h)
                      have e166 := Calm.at_getD h166
                      clear hsz hold hdep
                      have hcl := fun (b o : Nat) (h : b < _) => Below.cell hS (p := ⟨b, o, none⟩) h
                      go_simp
                      exact hK _ _ (Below.refl _ _) rfl
                    refine Calm.Steps.cons (Calm.step_wanted (b := true) rfl rfl rfl (by kernel_rfl) (fun _ _ h => h) ?_) ?_
                    · intro a_ w1 hS hsz hold hdep K hK
                      have h12 : a_.tmps[12]? = some (.pointer (some ⟨g12, 0, none⟩)) := (hold 12 (by kernel_rfl)).trans rfl
                      have e12 := Calm.at_getD h12
                      clear hsz hold hdep
                      have hcl := fun (b o : Nat) (h : b < _) => Below.cell hS (p := ⟨b, o, none⟩) h
                      go_simp
                      exact hK _ _ (Below.refl _ _) rfl
                    refine Calm.Steps.cons (Calm.step_wanted (b := true) rfl rfl rfl (by kernel_rfl) (fun _ _ h => h) ?_) ?_
                    · intro a_ w1 hS hsz hold hdep K hK
                      have h5 : a_.tmps[5]? = some (.func (.func 22) #[] #[]) := (hold 5 (by kernel_rfl)).trans rfl
                      have e5 := Calm.at_getD h5
                      clear hsz hold hdep
                      have hcl := fun (b o : Nat) (h : b < _) => Below.cell hS (p := ⟨b, o, none⟩) h
                      go_simp
                      exact hK _ _ (Below.refl _ _) rfl
                    refine Calm.Steps.cons (Calm.step_wanted (b := true) rfl rfl rfl (by kernel_rfl) (fun _ _ h => h) ?_) ?_
                    · intro a_ w1 hS hsz hold hdep K hK
                      have h0 : a_.tmps[0]? = some (.int .i64 x) := (hold 0 (by kernel_rfl)).trans rfl
                      have e0 := Calm.at_getD h0
                      clear hsz hold hdep
                      have hcl := fun (b o : Nat) (h : b < _) => Below.cell hS (p := ⟨b, o, none⟩) h
                      go_simp
                      exact hK _ _ (Below.refl _ _) rfl
                    refine Calm.Steps.cons (Calm.step_wanted (b := true) rfl rfl rfl (by kernel_rfl) (fun _ _ h => h) ?_) ?_
                    · intro a_ w1 hS hsz hold hdep K hK
                      have h1 : a_.tmps[1]? = some (.int .i64 y) := (hold 1 (by kernel_rfl)).trans rfl
                      have e1 := Calm.at_getD h1
                      clear hsz hold hdep
                      have hcl := fun (b o : Nat) (h : b < _) => Below.cell hS (p := ⟨b, o, none⟩) h
                      go_simp
                      exact hK _ _ (Below.refl _ _) rfl
                    refine Calm.Steps.cons (Calm.step_wanted (b := true) rfl rfl rfl (by kernel_rfl) (fun _ _ h => h) ?_) ?_
                    · intro a_ w1 hS hsz hold hdep K hK
                      have h170 := Calm.is_at (x := .int .i64 x) hdep (k := 9) (by kernel_rfl) rfl rfl (fun _ _ h => h)
                      have e170 := Calm.at_getD h170
                      have h171 := Calm.is_at (x := .int .i64 y) hdep (k := 10) (by kernel_rfl) rfl rfl (fun _ _ h => h)
                      have e171 := Calm.at_getD h171
                      clear hsz hold hdep
                      have hcl := fun (b o : Nat) (h : b < _) => Below.cell hS (p := ⟨b, o, none⟩) h
                      go_simp
                      refine hK _ _ (Below.refl _ _) ?_
                      exact congrArg (Value.int IntKind.i64) (by first | exact hnq.out | (rw [i64w]; exact hnq.out) | (rw [← hnq.out]; simp; done) | (rw [i64w, ← hnq.out]; simp; done))
                    refine Calm.Steps.cons (Calm.step_wanted (b := true) rfl rfl rfl (by kernel_rfl) (fun _ _ h => h) ?_) ?_
                    · intro a_ w1 hS hsz hold hdep K hK
                      have h0 : a_.tmps[0]? = some (.int .i64 x) := (hold 0 (by kernel_rfl)).trans rfl
                      have e0 := Calm.at_getD h0
                      clear hsz hold hdep
                      have hcl := fun (b o : Nat) (h : b < _) => Below.cell hS (p := ⟨b, o, none⟩) h
                      go_simp
                      exact hK _ _ (Below.refl _ _) rfl
                    refine Calm.Steps.cons (Calm.step_wanted (b := true) rfl rfl rfl (by kernel_rfl) (fun _ _ h => h) ?_) ?_
                    · intro a_ w1 hS hsz hold hdep K hK
                      have h1 : a_.tmps[1]? = some (.int .i64 y) := (hold 1 (by kernel_rfl)).trans rfl
                      have e1 := Calm.at_getD h1
                      clear hsz hold hdep
                      have hcl := fun (b o : Nat) (h : b < _) => Below.cell hS (p := ⟨b, o, none⟩) h
                      go_simp
                      exact hK _ _ (Below.refl _ _) rfl
                    refine Calm.Steps.cons (Calm.step_wanted (b := true) rfl rfl rfl (by kernel_rfl) (fun _ _ h => h) ?_) ?_
                    · intro a_ w1 hS hsz hold hdep K hK
                      have h173 := Calm.is_at (x := .int .i64 x) hdep (k := 12) (by kernel_rfl) rfl rfl (fun _ _ h => h)
                      have e173 := Calm.at_getD h173
                      have h174 := Calm.is_at (x := .int .i64 y) hdep (k := 13) (by kernel_rfl) rfl rfl (fun _ _ h => h)
                      have e174 := Calm.at_getD h174
                      clear hsz hold hdep
                      have hcl := fun (b o : Nat) (h : b < _) => Below.cell hS (p := ⟨b, o, none⟩) h
                      go_simp
                      refine hK _ _ (Below.refl _ _) ?_
                      exact congrArg (Value.int IntKind.i64) (by first | exact hnq.out | (rw [i64w]; exact hnq.out) | (rw [← hnq.out]; simp; done) | (rw [i64w, ← hnq.out]; simp; done))
                    refine Calm.Steps.cons (Calm.step_wanted (b := true) rfl rfl rfl (by kernel_rfl) (fun _ _ h => h) ?_) ?_
                    · intro a_ w1 hS hsz hold hdep K hK
                      have h169 := Calm.is_at (x := .func (.func 22) #[] #[]) hdep (k := 8) (by kernel_rfl) rfl rfl (fun _ _ h => h)
                      have e169 := Calm.at_getD h169
                      have h172 := Calm.is_at (x := .int .i64 nq) hdep (k := 11) (by kernel_rfl) rfl rfl (fun _ _ h => h)
                      have e172 := Calm.at_getD h172
                      have h175 := Calm.is_at (x := .int .i64 nq) hdep (k := 14) (by kernel_rfl) rfl rfl (fun _ _ h => h)
                      have e175 := Calm.at_getD h175
                      clear hsz hold hdep
                      go_simp
                      refine (rof_any nq nq ⟨true, nq, nq⟩ (Lib.hid (of_one nq)) _).mono ?_; rintro e w' ⟨rfl, hB⟩
                      exact hK _ _ hB rfl
                    refine Calm.Steps.cons (Calm.step_wanted (b := true) rfl rfl rfl (by kernel_rfl) (fun _ _ h => h) ?_) ?_
                    · intro a_ w1 hS hsz hold hdep K hK
                      have h168 := Calm.is_at (x := .agg #[.bool true, .int .i64 nq, .int .i64 nq]) hdep (k := 7) (by kernel_rfl) rfl rfl (fun _ _ h => h)
                      have e168 := Calm.at_getD h168
                      have h176 := Calm.is_at (x := .agg #[.bool true, .int .i64 nq, .int .i64 nq]) hdep (k := 15) (by kernel_rfl) rfl rfl (fun _ _ h => h)
                      have e176 := Calm.at_getD h176
                      clear hsz hold hdep
                      have hcl := fun (b o : Nat) (h : b < _) => Below.cell hS (p := ⟨b, o, none⟩) h
                      go_simp
                      exact hK _ _ (Below.refl _ _) rfl
                    refine Calm.Steps.cons (Calm.step_plain rfl ?_) ?_
                    · intro a_ w1 hS hsz hold hdep K hK
                      have h167 := Calm.is_at (x := .bool true) hdep (k := 6) (by kernel_rfl) rfl rfl (fun _ _ h => h)
                      have e167 := Calm.at_getD h167
                      have h177 := Calm.is_at (x := .bool true) hdep (k := 16) (by kernel_rfl) rfl rfl (fun _ _ h => h)
                      have e177 := Calm.at_getD h177
                      clear hsz hold hdep
                      have hcl := fun (b o : Nat) (h : b < _) => Below.cell hS (p := ⟨b, o, none⟩) h
                      go_simp
                      exact hK _ _ (Below.refl _ _) rfl
                    refine Calm.Steps.cons (Calm.step_plain rfl ?_) ?_
                    · intro a_ w1 hS hsz hold hdep K hK
                      have h178 := Calm.is_at (x := .bool true) hdep (k := 17) (by kernel_rfl) rfl rfl (fun _ _ h => h)
                      have e178 := Calm.at_getD h178
                      clear hsz hold hdep
                      have hcl := fun (b o : Nat) (h : b < _) => Below.cell hS (p := ⟨b, o, none⟩) h
                      go_simp
                      exact hK _ _ (Below.refl _ _) rfl
                    refine Calm.Steps.cons (Calm.step_wanted (b := true) rfl rfl rfl (by kernel_rfl) (fun _ _ h => h) ?_) ?_
                    · intro a_ w1 hS hsz hold hdep K hK
                      have h8 : a_.tmps[8]? = some (.func (.func 16) #[] #[]) := (hold 8 (by kernel_rfl)).trans rfl
                      have e8 := Calm.at_getD h8
                      clear hsz hold hdep
                      have hcl := fun (b o : Nat) (h : b < _) => Below.cell hS (p := ⟨b, o, none⟩) h
                      go_simp
                      exact hK _ _ (Below.refl _ _) rfl
                    refine Calm.Steps.cons (Calm.step_wanted (b := true) rfl rfl rfl (by kernel_rfl) (fun _ _ h => h) ?_) ?_
                    · intro a_ w1 hS hsz hold hdep K hK
                      have h14 : a_.tmps[14]? = some (.pointer (some ⟨g14, 0, none⟩)) := (hold 14 (by kernel_rfl)).trans rfl
                      have e14 := Calm.at_getD h14
                      clear hsz hold hdep
                      have hcl := fun (b o : Nat) (h : b < _) => Below.cell hS (p := ⟨b, o, none⟩) h
                      go_simp
                      exact hK _ _ (Below.refl _ _) rfl
                    refine Calm.Steps.cons (Calm.step_wanted (b := true) rfl rfl rfl (by kernel_rfl) (fun _ _ h => h) ?_) ?_
                    · intro a_ w1 hS hsz hold hdep K hK
                      have h0 : a_.tmps[0]? = some (.int .i64 x) := (hold 0 (by kernel_rfl)).trans rfl
                      have e0 := Calm.at_getD h0
                      clear hsz hold hdep
                      have hcl := fun (b o : Nat) (h : b < _) => Below.cell hS (p := ⟨b, o, none⟩) h
                      go_simp
                      exact hK _ _ (Below.refl _ _) rfl
                    refine Calm.Steps.cons (Calm.step_wanted (b := true) rfl rfl rfl (by kernel_rfl) (fun _ _ h => h) ?_) ?_
                    · intro a_ w1 hS hsz hold hdep K hK
                      have h1 : a_.tmps[1]? = some (.int .i64 y) := (hold 1 (by kernel_rfl)).trans rfl
                      have e1 := Calm.at_getD h1
                      clear hsz hold hdep
                      have hcl := fun (b o : Nat) (h : b < _) => Below.cell hS (p := ⟨b, o, none⟩) h
                      go_simp
                      exact hK _ _ (Below.refl _ _) rfl
                    refine Calm.Steps.cons (Calm.step_wanted (b := true) rfl rfl rfl (by kernel_rfl) (fun _ _ h => h) ?_) ?_
                    · intro a_ w1 hS hsz hold hdep K hK
                      have h182 := Calm.is_at (x := .int .i64 x) hdep (k := 21) (by kernel_rfl) rfl rfl (fun _ _ h => h)
                      have e182 := Calm.at_getD h182
                      have h183 := Calm.is_at (x := .int .i64 y) hdep (k := 22) (by kernel_rfl) rfl rfl (fun _ _ h => h)
                      have e183 := Calm.at_getD h183
                      clear hsz hold hdep
                      have hcl := fun (b o : Nat) (h : b < _) => Below.cell hS (p := ⟨b, o, none⟩) h
                      go_simp
                      refine hK _ _ (Below.refl _ _) ?_
                      exact congrArg (Value.int IntKind.i64) (by first | exact hnr.out | (rw [← hnr.out]; simp; done))
                    refine Calm.Steps.cons (Calm.step_wanted (b := true) rfl rfl rfl (by kernel_rfl) (fun _ _ h => h) ?_) ?_
                    · intro a_ w1 hS hsz hold hdep K hK
                      have h180 := Calm.is_at (x := .func (.func 16) #[] #[]) hdep (k := 19) (by kernel_rfl) rfl rfl (fun _ _ h => h)
                      have e180 := Calm.at_getD h180
                      have h181 := Calm.is_at (x := .agg #[.bool s6.s, .int .i64 s6.lo, .int .i64 s6.hi]) hdep (k := 20) (by kernel_rfl) rfl rfl (fun _ _ h => h)
                      have e181 := Calm.at_getD h181
                      have h184 := Calm.is_at (x := .int .i64 nr) hdep (k := 23) (by kernel_rfl) rfl rfl (fun _ _ h => h)
                      have e184 := Calm.at_getD h184
                      clear hsz hold hdep
                      go_simp
                      refine (rhas_any s6 nr true hr _).mono ?_; rintro e w' ⟨rfl, hB⟩
                      exact hK _ _ hB rfl
                    refine Calm.Steps.cons (Calm.step_plain rfl ?_) ?_
                    · intro a_ w1 hS hsz hold hdep K hK
                      have h179 := Calm.is_at (x := .bool true) hdep (k := 18) (by kernel_rfl) rfl rfl (fun _ _ h => h)
                      have e179 := Calm.at_getD h179
                      have h185 := Calm.is_at (x := .bool true) hdep (k := 24) (by kernel_rfl) rfl rfl (fun _ _ h => h)
                      have e185 := Calm.at_getD h185
                      clear hsz hold hdep
                      have hcl := fun (b o : Nat) (h : b < _) => Below.cell hS (p := ⟨b, o, none⟩) h
                      go_simp
                      exact hK _ _ (Below.refl _ _) rfl
                    refine Calm.Steps.cons (Calm.step_plain rfl ?_) ?_
                    · intro a_ w1 hS hsz hold hdep K hK
                      have h186 := Calm.is_at (x := .bool true) hdep (k := 25) (by kernel_rfl) rfl rfl (fun _ _ h => h)
                      have e186 := Calm.at_getD h186
                      clear hsz hold hdep
                      have hcl := fun (b o : Nat) (h : b < _) => Below.cell hS (p := ⟨b, o, none⟩) h
                      go_simp
                      exact hK _ _ (Below.refl _ _) rfl
                    exact Calm.Steps.nil
                  case fin =>
                    intro a_ w1 hS hsz hdf hold hk
                    obtain ⟨u4, h4_, (k4_ : u4 = .bool true)⟩ := hk 26 _ rfl
                    subst k4_
                    replace h4_ := h4_ 4 rfl
                    have e4_ := Calm.at_getD h4_
                    replace hdf : a_.defers = [] := hdf
                    clear hold hk hsz
                    go_wp2_with fail
                    refine bodyPost_ret (v := .bool true) (by simp [results, Try.results6, *, go_sem]) hdf ?_
                    exact ⟨rfl, below_call hB0 hS⟩
end Go.Proofs.Ytfnodgpebheinaa.M
