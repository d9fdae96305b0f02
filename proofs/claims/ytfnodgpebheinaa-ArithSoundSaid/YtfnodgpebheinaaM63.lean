/- The law: what numbers come to lies in what the intervals come to. -/
import Derived.Test.YtfnodgpebheinaaM61
import Derived.Test.YtfnodgpebheinaaM52
import Derived.Deep.DeepCutAuto
import Derived.Deep.CutBlock
namespace Go.Proofs.Ytfnodgpebheinaa.M
open Go Go.RowKit
set_option linter.unusedVariables false
set_option linter.unusedSimpArgs false
attribute [local simp, local go_sem] lt_a2 lt_a3 lt_a4 lt_a5 lt_a6 lt_a7 lt_a8
set_option maxHeartbeats 4000000
attribute [local go_sem] eqIv
theorem i64w (n : Int) : IntKind.i64.wrap n = wrap64 n := by first | exact IntKind.wrap_i64 n | rfl | (simp only [IntKind.wrap, IntKind.signed, IntKind.bits, wrap64]; simp; omega)
theorem mod_sound' {x y : Iv} {u v : Int} (ox : Ok x) (oy : Ok y) (hu : hasI x u = true) (hv : hasI y v = true) (h0 : v ≠ 0) : hasI (modI x y) (wrap64 (u.tmod v)) = true := by
  have ku := (has_iff x u).1 hu
  have kv := (has_iff y v).1 hv
  have by_ := oy.bounds kv.1
  have f1 := (tmod_facts u h0).1
  rw [wrap_id (by rw [inr_iff]; omega)]
  exact mod_sound ox oy hu hv h0
set_option maxRecDepth 100000 in
theorem law_sound (a b : Iv) (n m : Int) (hn : 0 ≤ n ∧ n ≤ 18446744073709551615) (hm : 0 ≤ m ∧ m ≤ 18446744073709551615) (ra : inR a = true) (rb : inR b = true) (w : World) : Calls Try.prog 8 #[.agg #[.bool a.s, .int .i64 a.lo, .int .i64 a.hi], .agg #[.bool b.s, .int .i64 b.lo, .int .i64 b.hi], .int .u64 n, .int .u64 m] w fun e w' => e = .returned (.bool true) ∧ Below w.heap.size w w' := by
  have hu := Try.underlying23
  have ox := inR_ok ra
  have oy := inR_ok rb
  have hxx : nrm (nrm a) = nrm a := nrm_nrm a
  have hyy : nrm (nrm b) = nrm b := nrm_nrm b
  obtain ⟨x, hx⟩ : ∃ x, Hid (nrm a = x) := ⟨_, Lib.hid rfl⟩
  obtain ⟨y, hy⟩ : ∃ y, Hid (nrm b = y) := ⟨_, Lib.hid rfl⟩
  rw [hx.out] at ox hxx
  rw [hy.out] at oy hyy
  obtain ⟨xs, xl, xh⟩ := x
  obtain ⟨ys, yl, yh⟩ := y
  have hxx' : Hid (nrm ⟨xs, xl, xh⟩ = ⟨xs, xl, xh⟩) := Lib.hid hxx
  have hyy' : Hid (nrm ⟨ys, yl, yh⟩ = ⟨ys, yl, yh⟩) := Lib.hid hyy
  obtain ⟨s1, h1⟩ : ∃ q, Hid (addI ⟨xs, xl, xh⟩ ⟨ys, yl, yh⟩ = q) := ⟨_, Lib.hid rfl⟩
  obtain ⟨s2, h2⟩ : ∃ q, Hid (subI ⟨xs, xl, xh⟩ ⟨ys, yl, yh⟩ = q) := ⟨_, Lib.hid rfl⟩
  obtain ⟨s3, h3⟩ : ∃ q, Hid (mulI ⟨xs, xl, xh⟩ ⟨ys, yl, yh⟩ = q) := ⟨_, Lib.hid rfl⟩
  obtain ⟨s4, h4⟩ : ∃ q, Hid (subI ⟨true, 0, 0⟩ (nrm ⟨xs, xl, xh⟩) = q) := ⟨_, Lib.hid rfl⟩
  obtain ⟨s5, h5⟩ : ∃ q, Hid (divI ⟨xs, xl, xh⟩ ⟨ys, yl, yh⟩ = q) := ⟨_, Lib.hid rfl⟩
  obtain ⟨z5, k5⟩ : ∃ q, Hid (divZ ⟨xs, xl, xh⟩ ⟨ys, yl, yh⟩ = q) := ⟨_, Lib.hid rfl⟩
  obtain ⟨s6, h6⟩ : ∃ q, Hid (modI ⟨xs, xl, xh⟩ ⟨ys, yl, yh⟩ = q) := ⟨_, Lib.hid rfl⟩
  have k6 : Hid (modZ ⟨xs, xl, xh⟩ ⟨ys, yl, yh⟩ = z5) := k5
  have hs : ∀ u v, hasI ⟨xs, xl, xh⟩ u = true → hasI ⟨ys, yl, yh⟩ v = true → hasI s1 (wrap64 (u + v)) = true ∧ hasI s2 (wrap64 (u - v)) = true ∧ hasI s3 (wrap64 (u * v)) = true ∧ hasI s4 (wrap64 (-u)) = true := by
    intro u v hu hv
    rw [← h1.out, ← h2.out, ← h3.out, ← h4.out, hxx]
    refine ⟨add_sound ox oy hu hv, sub_sound ox oy hu hv, mul_sound hu hv, ?_⟩
    have := sub_sound (x := ⟨true, 0, 0⟩) (u := 0) (.inr ⟨rfl, by decide, by decide, by decide⟩) ox (by decide) hu
    rwa [Int.zero_sub] at this
  have hq : ∀ u v, hasI ⟨xs, xl, xh⟩ u = true → hasI ⟨ys, yl, yh⟩ v = true → v ≠ 0 → hasI s5 (wrap64 (u.tdiv v)) = true ∧ hasI s6 (u.tmod v) = true := by
    intro u v hu hv h0
    rw [← h5.out, ← h6.out]
    exact ⟨div_sound ox oy hu hv h0, mod_sound ox oy hu hv h0⟩
  have hz : ∀ u v, hasI ⟨xs, xl, xh⟩ u = true → hasI ⟨ys, yl, yh⟩ v = true → v = 0 → z5 = true := by
    rintro u v hu hv rfl
    rw [← k5.out]
    exact divZ_sound ((has_iff _ _).1 hu).1 hv
  replace hs := Lib.hid hs
  replace hq := Lib.hid hq
  replace hz := Lib.hid hz
  replace ox := Lib.hid ox
  replace oy := Lib.hid oy
  clear hxx hyy
  go_enter Try.func8, Try.ntmps8
  go_upto_region 3 with (first | (go_at_call 10; (with_reducible refine (known_any _).mono ?_); rintro e w' ⟨rfl, hB⟩; have Qa := Box.keep (g := w.heap.size) (x := a) hB ⟨by go_simp, by go_simp, by go_simp, by go_simp, by go_simp, by go_simp⟩; have Qd := Box.keep (g := w.heap.size + 1) (x := b) hB ⟨by go_simp, by go_simp, by go_simp, by go_simp, by go_simp, by go_simp⟩; replace hB0 := below_call (w := w) (by first | (with_reducible assumption) | ((try go_grown); (all_goals (repeat' (first | (with_reducible assumption) | (refine below_call ?_ (by assumption); (try go_grown))))); all_goals (first | omega | (simp; omega)))) hB; clear hB; (try clear a0 a1 a2 a3 a4 a5); (try clear d0 d1 d2 d3 d4 d5); have la0 := Box.lt Qa; have la1 := Nat.lt_succ_of_lt la0; have la2 := Nat.lt_succ_of_lt la1; obtain ⟨a0, a1, a2, a3, a4, a5⟩ := Qa; have ld0 := Box.lt Qd; have ld1 := Nat.lt_succ_of_lt ld0; have ld2 := Nat.lt_succ_of_lt ld1; obtain ⟨d0, d1, d2, d3, d4, d5⟩ := Qd))
  go_cut [] (fun wc => Box wc (w.heap.size) (⟨xs, xl, xh⟩) ∧ Box wc (w.heap.size + 1) (⟨ys, yl, yh⟩) ∧ Below w.heap.size w wc)
  case first =>
    go_wp2
    go_region_with ((first | (go_at_call 11; (with_reducible refine (rnorm_any a.s a.lo a.hi ⟨xs, xl, xh⟩ hx _).mono ?_)) | (go_at_call 11; (with_reducible refine (rnorm_any b.s b.lo b.hi ⟨ys, yl, yh⟩ hy _).mono ?_))); rintro e w' ⟨rfl, hB⟩; obtain ⟨hc, hf, hs⟩ := bcell hB; clear hs; (try simp only [World.size_drew, World.size_alloc] at hc hf); obtain ⟨hz0_0, hz0_1, hz0_2, hz1_0, hz1_1, hz1_2⟩ : w.heap.size < w'.heap.size ∧ w.heap.size < w'.heap.size + 1 ∧ w.heap.size < w'.heap.size + 1 + 1 ∧ w.heap.size + 1 < w'.heap.size ∧ w.heap.size + 1 < w'.heap.size + 1 ∧ w.heap.size + 1 < w'.heap.size + 1 + 1 := by { have := hB.size; (try simp at this); omega })
    all_goals
      go_wp2
      go_meet
      case rel => exact ⟨⟨by go_simp, by go_simp, by go_simp, by go_simp, by go_simp, by go_simp⟩, ⟨by go_simp, by go_simp, by go_simp, by go_simp, by go_simp, by go_simp⟩, by first | (with_reducible assumption) | ((try go_grown); (all_goals (repeat' (first | (with_reducible assumption) | (refine below_call ?_ (by assumption); (try go_grown))))); all_goals (first | omega | (simp; omega)))⟩
  case rest =>
    (try clear hB0); (try clear a0 a1 a2 a3 a4 a5); (try clear d0 d1 d2 d3 d4 d5)
    obtain ⟨Qa, Qd, hB0⟩ := hcut
    have la0 := Box.lt Qa
    obtain ⟨a0, a1, a2, a3, a4, a5⟩ := Qa
    have ld0 := Box.lt Qd
    obtain ⟨d0, d1, d2, d3, d4, d5⟩ := Qd
    by_cases hxy : ¬ (xs = true ∧ ys = true)
    · have hxy' : xs = false ∨ xs = true ∧ ys = false := by
        cases xs <;> cases ys <;> simp_all
      rcases hxy' with rfl | ⟨rfl, rfl⟩
      · clear hxy hs hq hz
        go_wp2_with fail
        go_returns
        exact ⟨by simp, by first | (with_reducible assumption) | ((try go_grown); (all_goals (repeat' (first | (with_reducible assumption) | (refine below_call ?_ (by assumption); (try go_grown))))); all_goals (first | omega | (simp; omega)))⟩
      · clear hxy hs hq hz
        go_wp2_with fail
        go_returns
        exact ⟨by simp, by first | (with_reducible assumption) | ((try go_grown); (all_goals (repeat' (first | (with_reducible assumption) | (refine below_call ?_ (by assumption); (try go_grown))))); all_goals (first | omega | (simp; omega)))⟩
    obtain ⟨rfl, rfl⟩ := Classical.not_not.1 hxy
    clear hxy
    go_upto_region 6 with (fail)
    go_cut [9, 10] (fun v1 v2 wd => ∃ u v : Int, v1 = .int .i64 u ∧ v2 = .int .i64 v ∧ Aside (hasI ⟨true, xl, xh⟩ u = true ∧ hasI ⟨true, yl, yh⟩ v = true) ∧ Box wd (w.heap.size) (⟨true, xl, xh⟩) ∧ Box wd (w.heap.size + 1) (⟨true, yl, yh⟩) ∧ Below w.heap.size w wd)
    case first =>
      go_wp2_with fail
      go_region_held3 (fun w' => w'.cell? ⟨w.heap.size, 0, none⟩ = some (.bool true) ∧ w'.cell? ⟨w.heap.size, 1, none⟩ = some (.int .i64 xl) ∧ w'.cell? ⟨w.heap.size, 2, none⟩ = some (.int .i64 xh) ∧ w'.cell? ⟨w.heap.size + 1, 0, none⟩ = some (.bool true) ∧ w'.cell? ⟨w.heap.size + 1, 1, none⟩ = some (.int .i64 yl) ∧ w'.cell? ⟨w.heap.size + 1, 2, none⟩ = some (.int .i64 yh) ∧ Below w.heap.size w w') ((refine ⟨?_, ?_, ?_, ?_, ?_, ?_, ?_⟩ <;> first | (go_simp; done) | (first | (with_reducible assumption) | ((try go_grown); (all_goals (repeat' (first | (with_reducible assumption) | (refine below_call ?_ (by assumption); (try go_grown))))); all_goals (first | omega | (simp; omega)))))) (first | (go_at_call 14; (with_reducible refine (in_any ⟨true, xl, xh⟩ n ox.out rfl hn.1 hn.2 _).mono ?_); rintro e w' ⟨z1, hz1, rfl, hB⟩; obtain ⟨hc, hf, hs⟩ := bcell hB; clear hs; (try simp only [World.size_drew, World.size_alloc] at hc hf); have hB9 : Below w.heap.size w w' := below_call (w := w) (by first | (with_reducible assumption) | go_grown) hB; obtain ⟨hz_0_0, hz_0_1, hz_1_0, hz_1_1⟩ : w.heap.size < w'.heap.size ∧ w.heap.size < w'.heap.size + 1 ∧ w.heap.size + 1 < w'.heap.size ∧ w.heap.size + 1 < w'.heap.size + 1 := by { have := hB.size; (try simp at this); omega }) | (go_at_call 14; (with_reducible refine (in_any ⟨true, yl, yh⟩ m oy.out rfl hm.1 hm.2 _).mono ?_); rintro e w' ⟨z2, hz2, rfl, hB⟩; obtain ⟨hc, hf, hs⟩ := bcell hB; clear hs; (try simp only [World.size_drew, World.size_alloc] at hc hf); have hB9 : Below w.heap.size w w' := below_call (w := w) (by first | (with_reducible assumption) | go_grown) hB; obtain ⟨hz_0_0, hz_0_1, hz_1_0, hz_1_1⟩ : w.heap.size < w'.heap.size ∧ w.heap.size < w'.heap.size + 1 ∧ w.heap.size + 1 < w'.heap.size ∧ w.heap.size + 1 < w'.heap.size + 1 := by { have := hB.size; (try simp at this); omega }))
      go_wp2_with fail
      go_meet
      case rel => exact ⟨_, _, rfl, rfl, ⟨(has_iff _ _).2 ⟨rfl, hz1.out⟩, (has_iff _ _).2 ⟨rfl, hz2.out⟩⟩, ⟨by go_simp, by go_simp, by go_simp, by go_simp, by go_simp, by go_simp⟩, ⟨by go_simp, by go_simp, by go_simp, by go_simp, by go_simp, by go_simp⟩, by first | (with_reducible assumption) | ((try go_grown); (all_goals (repeat' (first | (with_reducible assumption) | (refine below_call ?_ (by assumption); (try go_grown))))); all_goals (first | omega | (simp; omega)))⟩
    case rest =>
      (try clear hB0); (try clear a0 a1 a2 a3 a4 a5); (try clear d0 d1 d2 d3 d4 d5)
      obtain ⟨u, v, rfl, rfl, huv, Qa, Qd, hB0⟩ := hcut
      have la0 := Box.lt Qa
      obtain ⟨a0, a1, a2, a3, a4, a5⟩ := Qa
      have ld0 := Box.lt Qd
      obtain ⟨d0, d1, d2, d3, d4, d5⟩ := Qd
      have huv' := huv.out
      have hS := hs.out u v huv'.1 huv'.2
      have hQ := Lib.hid (hq.out u v huv'.1 huv'.2)
      have hZ := Lib.hid (hz.out u v huv'.1 huv'.2)
      have c1 : Hid (hasI s1 (wrap64 (u + v)) = true) := Lib.hid hS.1
      have c2 : Hid (hasI s2 (wrap64 (u - v)) = true) := Lib.hid hS.2.1
      have c3 : Hid (hasI s3 (wrap64 (u * v)) = true) := Lib.hid hS.2.2.1
      have c4 : Hid (hasI s4 (wrap64 (-u)) = true) := Lib.hid hS.2.2.2
      clear huv huv' hS hs hq hz
      go_upto_region 10 with (first | (go_at_call 17; (with_reducible refine (arith_add' ⟨true, xl, xh⟩ ⟨true, yl, yh⟩ ⟨true, xl, xh⟩ ⟨true, yl, yh⟩ hxx' hyy' s1 h1 _).mono ?_); rintro e w' ⟨rfl, hB⟩; have Qa := Box.keep (g := w.heap.size) (x := ⟨true, xl, xh⟩) hB ⟨by go_simp, by go_simp, by go_simp, by go_simp, by go_simp, by go_simp⟩; have Qd := Box.keep (g := w.heap.size + 1) (x := ⟨true, yl, yh⟩) hB ⟨by go_simp, by go_simp, by go_simp, by go_simp, by go_simp, by go_simp⟩; replace hB0 := below_call (w := w) (by first | (with_reducible assumption) | ((try go_grown); (all_goals (repeat' (first | (with_reducible assumption) | (refine below_call ?_ (by assumption); (try go_grown))))); all_goals (first | omega | (simp; omega)))) hB; clear hB; (try clear a0 a1 a2 a3 a4 a5); (try clear d0 d1 d2 d3 d4 d5); have la0 := Box.lt Qa; have la1 := Nat.lt_succ_of_lt la0; have la2 := Nat.lt_succ_of_lt la1; obtain ⟨a0, a1, a2, a3, a4, a5⟩ := Qa; have ld0 := Box.lt Qd; have ld1 := Nat.lt_succ_of_lt ld0; have ld2 := Nat.lt_succ_of_lt ld1; obtain ⟨d0, d1, d2, d3, d4, d5⟩ := Qd) | (go_at_call 20; (with_reducible refine (arith_sub' ⟨true, xl, xh⟩ ⟨true, yl, yh⟩ ⟨true, xl, xh⟩ ⟨true, yl, yh⟩ hxx' hyy' s2 h2 _).mono ?_); rintro e w' ⟨rfl, hB⟩; have Qa := Box.keep (g := w.heap.size) (x := ⟨true, xl, xh⟩) hB ⟨by go_simp, by go_simp, by go_simp, by go_simp, by go_simp, by go_simp⟩; have Qd := Box.keep (g := w.heap.size + 1) (x := ⟨true, yl, yh⟩) hB ⟨by go_simp, by go_simp, by go_simp, by go_simp, by go_simp, by go_simp⟩; replace hB0 := below_call (w := w) (by first | (with_reducible assumption) | ((try go_grown); (all_goals (repeat' (first | (with_reducible assumption) | (refine below_call ?_ (by assumption); (try go_grown))))); all_goals (first | omega | (simp; omega)))) hB; clear hB; (try clear a0 a1 a2 a3 a4 a5); (try clear d0 d1 d2 d3 d4 d5); have la0 := Box.lt Qa; have la1 := Nat.lt_succ_of_lt la0; have la2 := Nat.lt_succ_of_lt la1; obtain ⟨a0, a1, a2, a3, a4, a5⟩ := Qa; have ld0 := Box.lt Qd; have ld1 := Nat.lt_succ_of_lt ld0; have ld2 := Nat.lt_succ_of_lt ld1; obtain ⟨d0, d1, d2, d3, d4, d5⟩ := Qd) | (go_at_call 18; (with_reducible refine (arith_mul ⟨true, xl, xh⟩ ⟨true, yl, yh⟩ ⟨true, xl, xh⟩ ⟨true, yl, yh⟩ hxx' hyy' ox.out oy.out s3 h3 _).mono ?_); rintro e w' ⟨rfl, hB⟩; have Qa := Box.keep (g := w.heap.size) (x := ⟨true, xl, xh⟩) hB ⟨by go_simp, by go_simp, by go_simp, by go_simp, by go_simp, by go_simp⟩; have Qd := Box.keep (g := w.heap.size + 1) (x := ⟨true, yl, yh⟩) hB ⟨by go_simp, by go_simp, by go_simp, by go_simp, by go_simp, by go_simp⟩; replace hB0 := below_call (w := w) (by first | (with_reducible assumption) | ((try go_grown); (all_goals (repeat' (first | (with_reducible assumption) | (refine below_call ?_ (by assumption); (try go_grown))))); all_goals (first | omega | (simp; omega)))) hB; clear hB; (try clear a0 a1 a2 a3 a4 a5); (try clear d0 d1 d2 d3 d4 d5); have la0 := Box.lt Qa; have la1 := Nat.lt_succ_of_lt la0; have la2 := Nat.lt_succ_of_lt la1; obtain ⟨a0, a1, a2, a3, a4, a5⟩ := Qa; have ld0 := Box.lt Qd; have ld1 := Nat.lt_succ_of_lt ld0; have ld2 := Nat.lt_succ_of_lt ld1; obtain ⟨d0, d1, d2, d3, d4, d5⟩ := Qd) | (go_at_call 21; (with_reducible refine (neg_any ⟨true, xl, xh⟩ s4 h4 _).mono ?_); rintro e w' ⟨rfl, hB⟩; have Qa := Box.keep (g := w.heap.size) (x := ⟨true, xl, xh⟩) hB ⟨by go_simp, by go_simp, by go_simp, by go_simp, by go_simp, by go_simp⟩; have Qd := Box.keep (g := w.heap.size + 1) (x := ⟨true, yl, yh⟩) hB ⟨by go_simp, by go_simp, by go_simp, by go_simp, by go_simp, by go_simp⟩; replace hB0 := below_call (w := w) (by first | (with_reducible assumption) | ((try go_grown); (all_goals (repeat' (first | (with_reducible assumption) | (refine below_call ?_ (by assumption); (try go_grown))))); all_goals (first | omega | (simp; omega)))) hB; clear hB; (try clear a0 a1 a2 a3 a4 a5); (try clear d0 d1 d2 d3 d4 d5); have la0 := Box.lt Qa; have la1 := Nat.lt_succ_of_lt la0; have la2 := Nat.lt_succ_of_lt la1; obtain ⟨a0, a1, a2, a3, a4, a5⟩ := Qa; have ld0 := Box.lt Qd; have ld1 := Nat.lt_succ_of_lt ld0; have ld2 := Nat.lt_succ_of_lt ld1; obtain ⟨d0, d1, d2, d3, d4, d5⟩ := Qd) | (go_at_call 16; (with_reducible refine (rhas_any s1 (wrap64 (u + v)) true c1 _).mono ?_); rintro e w' ⟨rfl, hB⟩; have Qa := Box.keep (g := w.heap.size) (x := ⟨true, xl, xh⟩) hB ⟨by go_simp, by go_simp, by go_simp, by go_simp, by go_simp, by go_simp⟩; have Qd := Box.keep (g := w.heap.size + 1) (x := ⟨true, yl, yh⟩) hB ⟨by go_simp, by go_simp, by go_simp, by go_simp, by go_simp, by go_simp⟩; replace hB0 := below_call (w := w) (by first | (with_reducible assumption) | ((try go_grown); (all_goals (repeat' (first | (with_reducible assumption) | (refine below_call ?_ (by assumption); (try go_grown))))); all_goals (first | omega | (simp; omega)))) hB; clear hB; (try clear a0 a1 a2 a3 a4 a5); (try clear d0 d1 d2 d3 d4 d5); have la0 := Box.lt Qa; have la1 := Nat.lt_succ_of_lt la0; have la2 := Nat.lt_succ_of_lt la1; obtain ⟨a0, a1, a2, a3, a4, a5⟩ := Qa; have ld0 := Box.lt Qd; have ld1 := Nat.lt_succ_of_lt ld0; have ld2 := Nat.lt_succ_of_lt ld1; obtain ⟨d0, d1, d2, d3, d4, d5⟩ := Qd) | (go_at_call 16; (with_reducible refine (rhas_any s2 (wrap64 (u - v)) true c2 _).mono ?_); rintro e w' ⟨rfl, hB⟩; have Qa := Box.keep (g := w.heap.size) (x := ⟨true, xl, xh⟩) hB ⟨by go_simp, by go_simp, by go_simp, by go_simp, by go_simp, by go_simp⟩; have Qd := Box.keep (g := w.heap.size + 1) (x := ⟨true, yl, yh⟩) hB ⟨by go_simp, by go_simp, by go_simp, by go_simp, by go_simp, by go_simp⟩; replace hB0 := below_call (w := w) (by first | (with_reducible assumption) | ((try go_grown); (all_goals (repeat' (first | (with_reducible assumption) | (refine below_call ?_ (by assumption); (try go_grown))))); all_goals (first | omega | (simp; omega)))) hB; clear hB; (try clear a0 a1 a2 a3 a4 a5); (try clear d0 d1 d2 d3 d4 d5); have la0 := Box.lt Qa; have la1 := Nat.lt_succ_of_lt la0; have la2 := Nat.lt_succ_of_lt la1; obtain ⟨a0, a1, a2, a3, a4, a5⟩ := Qa; have ld0 := Box.lt Qd; have ld1 := Nat.lt_succ_of_lt ld0; have ld2 := Nat.lt_succ_of_lt ld1; obtain ⟨d0, d1, d2, d3, d4, d5⟩ := Qd) | (go_at_call 16; (with_reducible refine (rhas_any s3 (wrap64 (u * v)) true c3 _).mono ?_); rintro e w' ⟨rfl, hB⟩; have Qa := Box.keep (g := w.heap.size) (x := ⟨true, xl, xh⟩) hB ⟨by go_simp, by go_simp, by go_simp, by go_simp, by go_simp, by go_simp⟩; have Qd := Box.keep (g := w.heap.size + 1) (x := ⟨true, yl, yh⟩) hB ⟨by go_simp, by go_simp, by go_simp, by go_simp, by go_simp, by go_simp⟩; replace hB0 := below_call (w := w) (by first | (with_reducible assumption) | ((try go_grown); (all_goals (repeat' (first | (with_reducible assumption) | (refine below_call ?_ (by assumption); (try go_grown))))); all_goals (first | omega | (simp; omega)))) hB; clear hB; (try clear a0 a1 a2 a3 a4 a5); (try clear d0 d1 d2 d3 d4 d5); have la0 := Box.lt Qa; have la1 := Nat.lt_succ_of_lt la0; have la2 := Nat.lt_succ_of_lt la1; obtain ⟨a0, a1, a2, a3, a4, a5⟩ := Qa; have ld0 := Box.lt Qd; have ld1 := Nat.lt_succ_of_lt ld0; have ld2 := Nat.lt_succ_of_lt ld1; obtain ⟨d0, d1, d2, d3, d4, d5⟩ := Qd) | (go_at_call 16; (with_reducible refine (rhas_any s4 (wrap64 (-u)) true c4 _).mono ?_); rintro e w' ⟨rfl, hB⟩; have Qa := Box.keep (g := w.heap.size) (x := ⟨true, xl, xh⟩) hB ⟨by go_simp, by go_simp, by go_simp, by go_simp, by go_simp, by go_simp⟩; have Qd := Box.keep (g := w.heap.size + 1) (x := ⟨true, yl, yh⟩) hB ⟨by go_simp, by go_simp, by go_simp, by go_simp, by go_simp, by go_simp⟩; replace hB0 := below_call (w := w) (by first | (with_reducible assumption) | ((try go_grown); (all_goals (repeat' (first | (with_reducible assumption) | (refine below_call ?_ (by assumption); (try go_grown))))); all_goals (first | omega | (simp; omega)))) hB; clear hB; (try clear a0 a1 a2 a3 a4 a5); (try clear d0 d1 d2 d3 d4 d5); have la0 := Box.lt Qa; have la1 := Nat.lt_succ_of_lt la0; have la2 := Nat.lt_succ_of_lt la1; obtain ⟨a0, a1, a2, a3, a4, a5⟩ := Qa; have ld0 := Box.lt Qd; have ld1 := Nat.lt_succ_of_lt ld0; have ld2 := Nat.lt_succ_of_lt ld1; obtain ⟨d0, d1, d2, d3, d4, d5⟩ := Qd))
      go_cut [12, 13] (fun v1 v2 wd => ∃ g12 : Nat, v1 = .pointer (some ⟨g12, 0, none⟩) ∧ v2 = .bool z5 ∧ Box wd (w.heap.size) (⟨true, xl, xh⟩) ∧ Box wd (w.heap.size + 1) (⟨true, yl, yh⟩) ∧ Box wd (g12) (s5) ∧ Below w.heap.size w wd)
      case first =>
        go_wp2_with (first | (go_at_call 24; (with_reducible refine (arith_div ⟨true, xl, xh⟩ ⟨true, yl, yh⟩ ⟨true, xl, xh⟩ ⟨true, yl, yh⟩ hxx' hyy' ox.out oy.out s5 z5 h5 k5 _).mono ?_); rintro e w' ⟨rfl, hB⟩; have Qa := Box.keep (g := w.heap.size) (x := ⟨true, xl, xh⟩) hB ⟨by go_simp, by go_simp, by go_simp, by go_simp, by go_simp, by go_simp⟩; have Qd := Box.keep (g := w.heap.size + 1) (x := ⟨true, yl, yh⟩) hB ⟨by go_simp, by go_simp, by go_simp, by go_simp, by go_simp, by go_simp⟩; replace hB0 := below_call (w := w) (by first | (with_reducible assumption) | ((try go_grown); (all_goals (repeat' (first | (with_reducible assumption) | (refine below_call ?_ (by assumption); (try go_grown))))); all_goals (first | omega | (simp; omega)))) hB; clear hB; (try clear a0 a1 a2 a3 a4 a5); (try clear d0 d1 d2 d3 d4 d5); have la0 := Box.lt Qa; have la1 := Nat.lt_succ_of_lt la0; have la2 := Nat.lt_succ_of_lt la1; obtain ⟨a0, a1, a2, a3, a4, a5⟩ := Qa; have ld0 := Box.lt Qd; have ld1 := Nat.lt_succ_of_lt ld0; have ld2 := Nat.lt_succ_of_lt ld1; obtain ⟨d0, d1, d2, d3, d4, d5⟩ := Qd))
        go_meet
        case rel => exact ⟨_, rfl, rfl, ⟨by go_simp, by go_simp, by go_simp, by go_simp, by go_simp, by go_simp⟩, ⟨by go_simp, by go_simp, by go_simp, by go_simp, by go_simp, by go_simp⟩, ⟨by go_simp, by go_simp, by go_simp, by go_simp, by go_simp, by go_simp⟩, by first | (with_reducible assumption) | ((try go_grown); (all_goals (repeat' (first | (with_reducible assumption) | (refine below_call ?_ (by assumption); (try go_grown))))); all_goals (first | omega | (simp; omega)))⟩
      case rest =>
        (try clear hB0); (try clear a0 a1 a2 a3 a4 a5); (try clear d0 d1 d2 d3 d4 d5)
        obtain ⟨g12, rfl, rfl, Qa, Qd, Qe, hB0⟩ := hcut
        have la0 := Box.lt Qa
        obtain ⟨a0, a1, a2, a3, a4, a5⟩ := Qa
        have ld0 := Box.lt Qd
        obtain ⟨d0, d1, d2, d3, d4, d5⟩ := Qd
        have le0 := Box.lt Qe
        obtain ⟨e0, e1, e2, e3, e4, e5⟩ := Qe
        go_upto_region 11 with (fail)
        go_cut [14, 15] (fun v1 v2 wd => ∃ g14 : Nat, v1 = .pointer (some ⟨g14, 0, none⟩) ∧ v2 = .bool z5 ∧ Box wd (w.heap.size) (⟨true, xl, xh⟩) ∧ Box wd (w.heap.size + 1) (⟨true, yl, yh⟩) ∧ Box wd (g12) (s5) ∧ Box wd (g14) (s6) ∧ Below w.heap.size w wd)
        case first =>
          go_wp2_with (first | (go_at_call 25; (with_reducible refine (arith_mod ⟨true, xl, xh⟩ ⟨true, yl, yh⟩ ⟨true, xl, xh⟩ ⟨true, yl, yh⟩ hxx' hyy' ox.out oy.out s6 z5 h6 k6 _).mono ?_); rintro e w' ⟨rfl, hB⟩; have Qa := Box.keep (g := w.heap.size) (x := ⟨true, xl, xh⟩) hB ⟨by go_simp, by go_simp, by go_simp, by go_simp, by go_simp, by go_simp⟩; have Qd := Box.keep (g := w.heap.size + 1) (x := ⟨true, yl, yh⟩) hB ⟨by go_simp, by go_simp, by go_simp, by go_simp, by go_simp, by go_simp⟩; have Qe := Box.keep (g := g12) (x := s5) hB ⟨by go_simp, by go_simp, by go_simp, by go_simp, by go_simp, by go_simp⟩; replace hB0 := below_call (w := w) (by first | (with_reducible assumption) | ((try go_grown); (all_goals (repeat' (first | (with_reducible assumption) | (refine below_call ?_ (by assumption); (try go_grown))))); all_goals (first | omega | (simp; omega)))) hB; clear hB; (try clear a0 a1 a2 a3 a4 a5); (try clear d0 d1 d2 d3 d4 d5); (try clear e0 e1 e2 e3 e4 e5); have la0 := Box.lt Qa; have la1 := Nat.lt_succ_of_lt la0; have la2 := Nat.lt_succ_of_lt la1; obtain ⟨a0, a1, a2, a3, a4, a5⟩ := Qa; have ld0 := Box.lt Qd; have ld1 := Nat.lt_succ_of_lt ld0; have ld2 := Nat.lt_succ_of_lt ld1; obtain ⟨d0, d1, d2, d3, d4, d5⟩ := Qd; have le0 := Box.lt Qe; have le1 := Nat.lt_succ_of_lt le0; have le2 := Nat.lt_succ_of_lt le1; obtain ⟨e0, e1, e2, e3, e4, e5⟩ := Qe))
          go_meet
          case rel => exact ⟨_, rfl, rfl, ⟨by go_simp, by go_simp, by go_simp, by go_simp, by go_simp, by go_simp⟩, ⟨by go_simp, by go_simp, by go_simp, by go_simp, by go_simp, by go_simp⟩, ⟨by go_simp, by go_simp, by go_simp, by go_simp, by go_simp, by go_simp⟩, ⟨by go_simp, by go_simp, by go_simp, by go_simp, by go_simp, by go_simp⟩, by first | (with_reducible assumption) | ((try go_grown); (all_goals (repeat' (first | (with_reducible assumption) | (refine below_call ?_ (by assumption); (try go_grown))))); all_goals (first | omega | (simp; omega)))⟩
        case rest =>
          (try clear hB0); (try clear a0 a1 a2 a3 a4 a5); (try clear d0 d1 d2 d3 d4 d5); (try clear e0 e1 e2 e3 e4 e5)
          obtain ⟨g14, rfl, rfl, Qa, Qd, Qe, Qr, hB0⟩ := hcut
          have la0 := Box.lt Qa
          obtain ⟨a0, a1, a2, a3, a4, a5⟩ := Qa
          have ld0 := Box.lt Qd
          obtain ⟨d0, d1, d2, d3, d4, d5⟩ := Qd
          have le0 := Box.lt Qe
          obtain ⟨e0, e1, e2, e3, e4, e5⟩ := Qe
          have lr0 := Box.lt Qr
          obtain ⟨r0, r1, r2, r3, r4, r5⟩ := Qr
          by_cases v0 : v = 0
          · obtain rfl : z5 = true := hZ.out v0
            have j0 : (v == 0) = true := beq_iff_eq.mpr v0
            clear v0 hQ hZ
            go_wp2_with fail
            go_returns
            exact ⟨by simp, by first | (with_reducible assumption) | ((try go_grown); (all_goals (repeat' (first | (with_reducible assumption) | (refine below_call ?_ (by assumption); (try go_grown))))); all_goals (first | omega | (simp; omega)))⟩
          · have hQ' := hQ.out v0
            have c5 : Hid (hasI s5 (IntKind.i64.wrap (u.tdiv v)) = true) := Lib.hid (by rw [i64w]; exact hQ'.1)
            have c6 : Hid (hasI s6 (u.tmod v) = true) := Lib.hid hQ'.2
            have j0 : (v == 0) = false := beq_eq_false_iff_ne.mpr v0
            clear hQ hQ' hZ
            go_upto_region 14 with (fail)
            go_region_held3 (fun w' => w'.cell? ⟨g12, 0, none⟩ = some (.bool s5.s) ∧ w'.cell? ⟨g12, 1, none⟩ = some (.int .i64 s5.lo) ∧ w'.cell? ⟨g12, 2, none⟩ = some (.int .i64 s5.hi) ∧ w'.cell? ⟨g14, 0, none⟩ = some (.bool s6.s) ∧ w'.cell? ⟨g14, 1, none⟩ = some (.int .i64 s6.lo) ∧ w'.cell? ⟨g14, 2, none⟩ = some (.int .i64 s6.hi) ∧ Below w.heap.size w w') ((refine ⟨?_, ?_, ?_, ?_, ?_, ?_, ?_⟩ <;> first | (go_simp; done) | (first | (with_reducible assumption) | ((try go_grown); (all_goals (repeat' (first | (with_reducible assumption) | (refine below_call ?_ (by assumption); (try go_grown))))); all_goals (first | omega | (simp; omega)))))) (first | (go_at_call 16; (with_reducible refine (rhas_any s5 (IntKind.i64.wrap (u.tdiv v)) true c5 _).mono ?_); rintro e w' ⟨rfl, hB⟩; obtain ⟨hc, hf, hs⟩ := bcell hB; clear hs; (try simp only [World.size_drew, World.size_alloc] at hc hf); have hB9 : Below w.heap.size w w' := below_call (w := w) (by first | (with_reducible assumption) | go_grown) hB; obtain ⟨hz_0_0, hz_0_1, hz_1_0, hz_1_1⟩ : g12 < w'.heap.size ∧ g12 < w'.heap.size + 1 ∧ g14 < w'.heap.size ∧ g14 < w'.heap.size + 1 := by { have := hB.size; (try simp at this); omega }) | (go_at_call 16; (with_reducible refine (rhas_any s6 (u.tmod v) true c6 _).mono ?_); rintro e w' ⟨rfl, hB⟩; obtain ⟨hc, hf, hs⟩ := bcell hB; clear hs; (try simp only [World.size_drew, World.size_alloc] at hc hf); have hB9 : Below w.heap.size w w' := below_call (w := w) (by first | (with_reducible assumption) | go_grown) hB; obtain ⟨hz_0_0, hz_0_1, hz_1_0, hz_1_1⟩ : g12 < w'.heap.size ∧ g12 < w'.heap.size + 1 ∧ g14 < w'.heap.size ∧ g14 < w'.heap.size + 1 := by { have := hB.size; (try simp at this); omega }))
            go_wp2_with fail
            go_returns
            exact ⟨by simp, by first | (with_reducible assumption) | ((try go_grown); (all_goals (repeat' (first | (with_reducible assumption) | (refine below_call ?_ (by assumption); (try go_grown))))); all_goals (first | omega | (simp; omega)))⟩
end Go.Proofs.Ytfnodgpebheinaa.M
