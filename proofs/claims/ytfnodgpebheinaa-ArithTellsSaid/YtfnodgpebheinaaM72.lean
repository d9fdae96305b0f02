/- Walks: the reference's Arith at products. -/
import Derived.Test.YtfnodgpebheinaaM70
import Derived.Test.YtfnodgpebheinaaM77
import Derived.Deep.DeepCutAuto
import Derived.Deep.CutBlock
namespace Go.Proofs.Ytfnodgpebheinaa.M
open Go Go.RowKit
set_option linter.unusedVariables false
set_option linter.unusedSimpArgs false
attribute [local simp, local go_sem] lt_a2 lt_a3 lt_a4 lt_a5 lt_a6 lt_a7 lt_a8
set_option maxHeartbeats 4000000
attribute [local go_sem] max4w min4w
set_option maxRecDepth 100000 in
theorem rarith_mul (a b x y : Iv) (hx : Hid (nrm a = x)) (hy : Hid (nrm b = y)) (ox : Ok x) (oy : Ok y) (q : Iv) (hq : Hid (mulI x y = q)) (w : World) :
    Calls Try.prog 29 #[.int .i64 4, .agg #[.bool a.s, .int .i64 a.lo, .int .i64 a.hi], .agg #[.bool b.s, .int .i64 b.lo, .int .i64 b.hi]] w (Ret (.agg #[.bool q.s, .int .i64 q.lo, .int .i64 q.hi]) w) := by
  have hu := Try.underlying23
  obtain ⟨xs, xl, xh⟩ := x
  obtain ⟨ys, yl, yh⟩ := y
  go_enter Try.func29, Try.ntmps29
  go_upto_region 1 with (fail)
  go_cut [] (fun wc => Box wc w.heap.size ⟨xs, xl, xh⟩ ∧ Box wc (w.heap.size + 1) ⟨ys, yl, yh⟩ ∧ Box wc (w.heap.size + 1 + 1) Iv.e ∧ Below w.heap.size w wc)
  case first =>
    go_wp2
    go_region_with ((first | (go_at_call 11; (with_reducible refine (rnorm_any a.s a.lo a.hi ⟨xs, xl, xh⟩ hx _).mono ?_)) | (go_at_call 11; (with_reducible refine (rnorm_any b.s b.lo b.hi ⟨ys, yl, yh⟩ hy _).mono ?_))); rintro e w' ⟨rfl, hB⟩; obtain ⟨hc, hf, hs⟩ := bcell hB; clear hs; (try simp only [World.size_drew, World.size_alloc] at hc hf); obtain ⟨hz0_0, hz0_1, hz0_2, hz1_0, hz1_1, hz1_2, hz2_0, hz2_1, hz2_2⟩ : w.heap.size < w'.heap.size ∧ w.heap.size < w'.heap.size + 1 ∧ w.heap.size < w'.heap.size + 1 + 1 ∧ w.heap.size + 1 < w'.heap.size ∧ w.heap.size + 1 < w'.heap.size + 1 ∧ w.heap.size + 1 < w'.heap.size + 1 + 1 ∧ w.heap.size + 1 + 1 < w'.heap.size ∧ w.heap.size + 1 + 1 < w'.heap.size + 1 ∧ w.heap.size + 1 + 1 < w'.heap.size + 1 + 1 := by { have := hB.size; (try simp at this); omega })
    all_goals
      go_wp2
      go_meet
      case rel => exact ⟨⟨by go_simp, by go_simp, by go_simp, by go_simp, by go_simp, by go_simp⟩, ⟨by go_simp, by go_simp, by go_simp, by go_simp, by go_simp, by go_simp⟩, ⟨by go_simp, by go_simp, by go_simp, by go_simp, by go_simp, by go_simp⟩, by go_grown; repeat (refine below_call ?_ (by assumption); go_grown)⟩
  case rest =>
    obtain ⟨b0, b1, b2, hB0⟩ := hcut
    have l0 := b0.lt
    have l1 := b1.lt
    have l2 := b2.lt
    obtain ⟨a0, a1, a2, a3, a4, a5⟩ := b0
    obtain ⟨d0, d1, d2, d3, d4, d5⟩ := b1
    obtain ⟨e0, e1, e2, e3, e4, e5⟩ := b2
    by_cases hxy : ¬ (xs = true ∧ ys = true)
    · obtain rfl : Iv.e = q := by have z := hq.out; unfold mulI at z; rw [if_neg hxy] at z; exact z
      have hxy' : xs = false ∨ xs = true ∧ ys = false := by
        cases xs <;> cases ys <;> simp_all
      clear hq
      rcases hxy' with rfl | ⟨rfl, rfl⟩
      · clear hxy
        go_wp2_with fail
        refine bodyPost_ret (v := .agg #[.bool false, .int .i64 0, .int .i64 0]) (by simp [results, Try.results29, *, go_sem]) rfl ?_
        exact ⟨rfl, by go_grown; repeat (refine below_call ?_ (by assumption); go_grown)⟩
      · clear hxy
        go_wp2_with fail
        refine bodyPost_ret (v := .agg #[.bool false, .int .i64 0, .int .i64 0]) (by simp [results, Try.results29, *, go_sem]) rfl ?_
        exact ⟨rfl, by go_grown; repeat (refine below_call ?_ (by assumption); go_grown)⟩
    obtain ⟨rfl, rfl⟩ := Classical.not_not.1 hxy
    clear hxy
    obtain ⟨x1, x2, x3⟩ : -9223372036854775808 ≤ xl ∧ xl ≤ xh ∧ xh ≤ 9223372036854775807 := by
      rcases ox with h | ⟨_, h1, h2, h3⟩
      · cases h
      · exact ⟨h1, h2, h3⟩
    obtain ⟨y1, y2, y3⟩ : -9223372036854775808 ≤ yl ∧ yl ≤ yh ∧ yh ≤ 9223372036854775807 := by
      rcases oy with h | ⟨_, h1, h2, h3⟩
      · cases h
      · exact ⟨h1, h2, h3⟩
    have ix1 : inr xl = true := decide_eq_true ⟨x1, by omega⟩
    have ix2 : inr xh = true := decide_eq_true ⟨by omega, x3⟩
    have iy1 : inr yl = true := decide_eq_true ⟨y1, by omega⟩
    have iy2 : inr yh = true := decide_eq_true ⟨by omega, y3⟩
    have hq' := hq.out
    rw [mulI_eq rfl rfl] at hq'
    dsimp only at hq'
    obtain ⟨f1, h1⟩ : ∃ f, Hid (inr (xl * yl) = f) := ⟨_, Lib.hid rfl⟩
    obtain ⟨n1, hw1⟩ : ∃ n, Hid (wrap64 (xl * yl) = n) := ⟨_, Lib.hid rfl⟩
    obtain ⟨f2, h2⟩ : ∃ f, Hid (inr (xl * yh) = f) := ⟨_, Lib.hid rfl⟩
    obtain ⟨n2, hw2⟩ : ∃ n, Hid (wrap64 (xl * yh) = n) := ⟨_, Lib.hid rfl⟩
    obtain ⟨f3, h3⟩ : ∃ f, Hid (inr (xh * yl) = f) := ⟨_, Lib.hid rfl⟩
    obtain ⟨n3, hw3⟩ : ∃ n, Hid (wrap64 (xh * yl) = n) := ⟨_, Lib.hid rfl⟩
    obtain ⟨f4, h4⟩ : ∃ f, Hid (inr (xh * yh) = f) := ⟨_, Lib.hid rfl⟩
    obtain ⟨n4, hw4⟩ : ∃ n, Hid (wrap64 (xh * yh) = n) := ⟨_, Lib.hid rfl⟩
    rw [h1.out, h2.out, h3.out, h4.out] at hq'
    have hT : f1 = true ∧ f2 = true ∧ f3 = true ∧ f4 = true → ofI (min4 n1 n2 n3 n4) (max4 n1 n2 n3 n4) = q := fun hff => by
      rw [if_pos hff] at hq'
      rw [of_eq (Int.le_trans (min4_le n1 n2 n3 n4).1 (le_max4 n1 n2 n3 n4).1), ← hw1.out, ← hw2.out, ← hw3.out, ← hw4.out, wrap_id (h1.out.trans hff.1), wrap_id (h2.out.trans hff.2.1), wrap_id (h3.out.trans hff.2.2.1), wrap_id (h4.out.trans hff.2.2.2)]
      exact hq'
    have hF : ¬ (f1 = true ∧ f2 = true ∧ f3 = true ∧ f4 = true) → Iv.top = q := fun hff => by rwa [if_neg hff] at hq'
    replace hT := Lib.hid hT
    replace hF := Lib.hid hF
    clear hq hq' ox oy hx hy x1 x2 x3 y1 y2 y3
    go_upto_region 5 with (fail)
    go_cut [15, 16] (fun v1 v2 wd => v1 = .int .i64 n1 ∧ v2 = .bool f1 ∧ Box wd (w.heap.size) (⟨true, xl, xh⟩) ∧ Box wd (w.heap.size + 1) (⟨true, yl, yh⟩) ∧ Box wd (w.heap.size + 1 + 1) (Iv.e) ∧ Below w.heap.size w wd)
    case first =>
      go_wp2_with ((go_at_call 57; (with_reducible refine (rmul_any xl yl n1 f1 ix1 iy1 hw1 h1 _).mono ?_); rintro e w' ⟨rfl, hB⟩; have Qa := Box.keep (g := w.heap.size) (x := ⟨true, xl, xh⟩) hB ⟨by go_simp, by go_simp, by go_simp, by go_simp, by go_simp, by go_simp⟩; have Qd := Box.keep (g := w.heap.size + 1) (x := ⟨true, yl, yh⟩) hB ⟨by go_simp, by go_simp, by go_simp, by go_simp, by go_simp, by go_simp⟩; have Qe := Box.keep (g := w.heap.size + 1 + 1) (x := Iv.e) hB ⟨by go_simp, by go_simp, by go_simp, by go_simp, by go_simp, by go_simp⟩; replace hB0 := below_call (w := w) (by first | (with_reducible assumption) | ((try go_grown); (all_goals (repeat' (first | (with_reducible assumption) | (refine below_call ?_ (by assumption); (try go_grown))))); all_goals (first | omega | (simp; omega)))) hB; clear hB; (try clear a0 a1 a2 a3 a4 a5); (try clear d0 d1 d2 d3 d4 d5); (try clear e0 e1 e2 e3 e4 e5); have la0 := Box.lt Qa; have la1 := Nat.lt_succ_of_lt la0; have la2 := Nat.lt_succ_of_lt la1; obtain ⟨a0, a1, a2, a3, a4, a5⟩ := Qa; have ld0 := Box.lt Qd; have ld1 := Nat.lt_succ_of_lt ld0; have ld2 := Nat.lt_succ_of_lt ld1; obtain ⟨d0, d1, d2, d3, d4, d5⟩ := Qd; have le0 := Box.lt Qe; have le1 := Nat.lt_succ_of_lt le0; have le2 := Nat.lt_succ_of_lt le1; obtain ⟨e0, e1, e2, e3, e4, e5⟩ := Qe))
      go_meet
      case rel => exact ⟨rfl, rfl, ⟨by go_simp, by go_simp, by go_simp, by go_simp, by go_simp, by go_simp⟩, ⟨by go_simp, by go_simp, by go_simp, by go_simp, by go_simp, by go_simp⟩, ⟨by go_simp, by go_simp, by go_simp, by go_simp, by go_simp, by go_simp⟩, by first | (with_reducible assumption) | ((try go_grown); (all_goals (repeat' (first | (with_reducible assumption) | (refine below_call ?_ (by assumption); (try go_grown))))); all_goals (first | omega | (simp; omega)))⟩
    case rest =>
      (try clear hB0); (try clear a0 a1 a2 a3 a4 a5); (try clear d0 d1 d2 d3 d4 d5); (try clear e0 e1 e2 e3 e4 e5)
      obtain ⟨rfl, rfl, Qa, Qd, Qe, hB0⟩ := hcut
      have la0 := Box.lt Qa
      obtain ⟨a0, a1, a2, a3, a4, a5⟩ := Qa
      have ld0 := Box.lt Qd
      obtain ⟨d0, d1, d2, d3, d4, d5⟩ := Qd
      have le0 := Box.lt Qe
      obtain ⟨e0, e1, e2, e3, e4, e5⟩ := Qe
      go_upto_region 6 with (fail)
      go_cut [17, 18] (fun v1 v2 wd => v1 = .int .i64 n2 ∧ v2 = .bool f2 ∧ Box wd (w.heap.size) (⟨true, xl, xh⟩) ∧ Box wd (w.heap.size + 1) (⟨true, yl, yh⟩) ∧ Box wd (w.heap.size + 1 + 1) (Iv.e) ∧ Below w.heap.size w wd)
      case first =>
        go_wp2_with ((go_at_call 57; (with_reducible refine (rmul_any xl yh n2 f2 ix1 iy2 hw2 h2 _).mono ?_); rintro e w' ⟨rfl, hB⟩; have Qa := Box.keep (g := w.heap.size) (x := ⟨true, xl, xh⟩) hB ⟨by go_simp, by go_simp, by go_simp, by go_simp, by go_simp, by go_simp⟩; have Qd := Box.keep (g := w.heap.size + 1) (x := ⟨true, yl, yh⟩) hB ⟨by go_simp, by go_simp, by go_simp, by go_simp, by go_simp, by go_simp⟩; have Qe := Box.keep (g := w.heap.size + 1 + 1) (x := Iv.e) hB ⟨by go_simp, by go_simp, by go_simp, by go_simp, by go_simp, by go_simp⟩; replace hB0 := below_call (w := w) (by first | (with_reducible assumption) | ((try go_grown); (all_goals (repeat' (first | (with_reducible assumption) | (refine below_call ?_ (by assumption); (try go_grown))))); all_goals (first | omega | (simp; omega)))) hB; clear hB; (try clear a0 a1 a2 a3 a4 a5); (try clear d0 d1 d2 d3 d4 d5); (try clear e0 e1 e2 e3 e4 e5); have la0 := Box.lt Qa; have la1 := Nat.lt_succ_of_lt la0; have la2 := Nat.lt_succ_of_lt la1; obtain ⟨a0, a1, a2, a3, a4, a5⟩ := Qa; have ld0 := Box.lt Qd; have ld1 := Nat.lt_succ_of_lt ld0; have ld2 := Nat.lt_succ_of_lt ld1; obtain ⟨d0, d1, d2, d3, d4, d5⟩ := Qd; have le0 := Box.lt Qe; have le1 := Nat.lt_succ_of_lt le0; have le2 := Nat.lt_succ_of_lt le1; obtain ⟨e0, e1, e2, e3, e4, e5⟩ := Qe))
        go_meet
        case rel => exact ⟨rfl, rfl, ⟨by go_simp, by go_simp, by go_simp, by go_simp, by go_simp, by go_simp⟩, ⟨by go_simp, by go_simp, by go_simp, by go_simp, by go_simp, by go_simp⟩, ⟨by go_simp, by go_simp, by go_simp, by go_simp, by go_simp, by go_simp⟩, by first | (with_reducible assumption) | ((try go_grown); (all_goals (repeat' (first | (with_reducible assumption) | (refine below_call ?_ (by assumption); (try go_grown))))); all_goals (first | omega | (simp; omega)))⟩
      case rest =>
        (try clear hB0); (try clear a0 a1 a2 a3 a4 a5); (try clear d0 d1 d2 d3 d4 d5); (try clear e0 e1 e2 e3 e4 e5)
        obtain ⟨rfl, rfl, Qa, Qd, Qe, hB0⟩ := hcut
        have la0 := Box.lt Qa
        obtain ⟨a0, a1, a2, a3, a4, a5⟩ := Qa
        have ld0 := Box.lt Qd
        obtain ⟨d0, d1, d2, d3, d4, d5⟩ := Qd
        have le0 := Box.lt Qe
        obtain ⟨e0, e1, e2, e3, e4, e5⟩ := Qe
        go_upto_region 7 with (fail)
        go_cut [19, 20] (fun v1 v2 wd => v1 = .int .i64 n3 ∧ v2 = .bool f3 ∧ Box wd (w.heap.size) (⟨true, xl, xh⟩) ∧ Box wd (w.heap.size + 1) (⟨true, yl, yh⟩) ∧ Box wd (w.heap.size + 1 + 1) (Iv.e) ∧ Below w.heap.size w wd)
        case first =>
          go_wp2_with ((go_at_call 57; (with_reducible refine (rmul_any xh yl n3 f3 ix2 iy1 hw3 h3 _).mono ?_); rintro e w' ⟨rfl, hB⟩; have Qa := Box.keep (g := w.heap.size) (x := ⟨true, xl, xh⟩) hB ⟨by go_simp, by go_simp, by go_simp, by go_simp, by go_simp, by go_simp⟩; have Qd := Box.keep (g := w.heap.size + 1) (x := ⟨true, yl, yh⟩) hB ⟨by go_simp, by go_simp, by go_simp, by go_simp, by go_simp, by go_simp⟩; have Qe := Box.keep (g := w.heap.size + 1 + 1) (x := Iv.e) hB ⟨by go_simp, by go_simp, by go_simp, by go_simp, by go_simp, by go_simp⟩; replace hB0 := below_call (w := w) (by first | (with_reducible assumption) | ((try go_grown); (all_goals (repeat' (first | (with_reducible assumption) | (refine below_call ?_ (by assumption); (try go_grown))))); all_goals (first | omega | (simp; omega)))) hB; clear hB; (try clear a0 a1 a2 a3 a4 a5); (try clear d0 d1 d2 d3 d4 d5); (try clear e0 e1 e2 e3 e4 e5); have la0 := Box.lt Qa; have la1 := Nat.lt_succ_of_lt la0; have la2 := Nat.lt_succ_of_lt la1; obtain ⟨a0, a1, a2, a3, a4, a5⟩ := Qa; have ld0 := Box.lt Qd; have ld1 := Nat.lt_succ_of_lt ld0; have ld2 := Nat.lt_succ_of_lt ld1; obtain ⟨d0, d1, d2, d3, d4, d5⟩ := Qd; have le0 := Box.lt Qe; have le1 := Nat.lt_succ_of_lt le0; have le2 := Nat.lt_succ_of_lt le1; obtain ⟨e0, e1, e2, e3, e4, e5⟩ := Qe))
          go_meet
          case rel => exact ⟨rfl, rfl, ⟨by go_simp, by go_simp, by go_simp, by go_simp, by go_simp, by go_simp⟩, ⟨by go_simp, by go_simp, by go_simp, by go_simp, by go_simp, by go_simp⟩, ⟨by go_simp, by go_simp, by go_simp, by go_simp, by go_simp, by go_simp⟩, by first | (with_reducible assumption) | ((try go_grown); (all_goals (repeat' (first | (with_reducible assumption) | (refine below_call ?_ (by assumption); (try go_grown))))); all_goals (first | omega | (simp; omega)))⟩
        case rest =>
          (try clear hB0); (try clear a0 a1 a2 a3 a4 a5); (try clear d0 d1 d2 d3 d4 d5); (try clear e0 e1 e2 e3 e4 e5)
          obtain ⟨rfl, rfl, Qa, Qd, Qe, hB0⟩ := hcut
          have la0 := Box.lt Qa
          obtain ⟨a0, a1, a2, a3, a4, a5⟩ := Qa
          have ld0 := Box.lt Qd
          obtain ⟨d0, d1, d2, d3, d4, d5⟩ := Qd
          have le0 := Box.lt Qe
          obtain ⟨e0, e1, e2, e3, e4, e5⟩ := Qe
          go_upto_region 8 with (fail)
          go_cut [21, 22] (fun v1 v2 wd => v1 = .int .i64 n4 ∧ v2 = .bool f4 ∧ Box wd (w.heap.size) (⟨true, xl, xh⟩) ∧ Box wd (w.heap.size + 1) (⟨true, yl, yh⟩) ∧ Box wd (w.heap.size + 1 + 1) (Iv.e) ∧ Below w.heap.size w wd)
          case first =>
            go_wp2_with ((go_at_call 57; (with_reducible refine (rmul_any xh yh n4 f4 ix2 iy2 hw4 h4 _).mono ?_); rintro e w' ⟨rfl, hB⟩; have Qa := Box.keep (g := w.heap.size) (x := ⟨true, xl, xh⟩) hB ⟨by go_simp, by go_simp, by go_simp, by go_simp, by go_simp, by go_simp⟩; have Qd := Box.keep (g := w.heap.size + 1) (x := ⟨true, yl, yh⟩) hB ⟨by go_simp, by go_simp, by go_simp, by go_simp, by go_simp, by go_simp⟩; have Qe := Box.keep (g := w.heap.size + 1 + 1) (x := Iv.e) hB ⟨by go_simp, by go_simp, by go_simp, by go_simp, by go_simp, by go_simp⟩; replace hB0 := below_call (w := w) (by first | (with_reducible assumption) | ((try go_grown); (all_goals (repeat' (first | (with_reducible assumption) | (refine below_call ?_ (by assumption); (try go_grown))))); all_goals (first | omega | (simp; omega)))) hB; clear hB; (try clear a0 a1 a2 a3 a4 a5); (try clear d0 d1 d2 d3 d4 d5); (try clear e0 e1 e2 e3 e4 e5); have la0 := Box.lt Qa; have la1 := Nat.lt_succ_of_lt la0; have la2 := Nat.lt_succ_of_lt la1; obtain ⟨a0, a1, a2, a3, a4, a5⟩ := Qa; have ld0 := Box.lt Qd; have ld1 := Nat.lt_succ_of_lt ld0; have ld2 := Nat.lt_succ_of_lt ld1; obtain ⟨d0, d1, d2, d3, d4, d5⟩ := Qd; have le0 := Box.lt Qe; have le1 := Nat.lt_succ_of_lt le0; have le2 := Nat.lt_succ_of_lt le1; obtain ⟨e0, e1, e2, e3, e4, e5⟩ := Qe))
            go_meet
            case rel => exact ⟨rfl, rfl, ⟨by go_simp, by go_simp, by go_simp, by go_simp, by go_simp, by go_simp⟩, ⟨by go_simp, by go_simp, by go_simp, by go_simp, by go_simp, by go_simp⟩, ⟨by go_simp, by go_simp, by go_simp, by go_simp, by go_simp, by go_simp⟩, by first | (with_reducible assumption) | ((try go_grown); (all_goals (repeat' (first | (with_reducible assumption) | (refine below_call ?_ (by assumption); (try go_grown))))); all_goals (first | omega | (simp; omega)))⟩
          case rest =>
            (try clear hB0); (try clear a0 a1 a2 a3 a4 a5); (try clear d0 d1 d2 d3 d4 d5); (try clear e0 e1 e2 e3 e4 e5)
            obtain ⟨rfl, rfl, Qa, Qd, Qe, hB0⟩ := hcut
            have la0 := Box.lt Qa
            obtain ⟨a0, a1, a2, a3, a4, a5⟩ := Qa
            have ld0 := Box.lt Qd
            obtain ⟨d0, d1, d2, d3, d4, d5⟩ := Qd
            have le0 := Box.lt Qe
            obtain ⟨e0, e1, e2, e3, e4, e5⟩ := Qe
            clear ix1 ix2 iy1 iy2 hw1 hw2 hw3 hw4 h1 h2 h3 h4
            by_cases hff : f1 = true ∧ f2 = true ∧ f3 = true ∧ f4 = true
            · have HOF := Lib.hid (hT.out hff)
              obtain ⟨rfl, rfl, rfl, rfl⟩ := hff
              clear hT hF
              go_wp2_with ((go_at_call 22; (with_reducible refine (rof_any _ _ q HOF _).mono ?_); rintro e w' ⟨rfl, hB⟩; obtain ⟨hc, hf, hs⟩ := bcell hB; clear hs; (try simp only [World.size_drew, World.size_alloc] at hc hf); obtain ⟨hz0_0, hz0_1, hz0_2, hz1_0, hz1_1, hz1_2, hz2_0, hz2_1, hz2_2⟩ : w.heap.size < w'.heap.size ∧ w.heap.size < w'.heap.size + 1 ∧ w.heap.size < w'.heap.size + 1 + 1 ∧ w.heap.size + 1 < w'.heap.size ∧ w.heap.size + 1 < w'.heap.size + 1 ∧ w.heap.size + 1 < w'.heap.size + 1 + 1 ∧ w.heap.size + 1 + 1 < w'.heap.size ∧ w.heap.size + 1 + 1 < w'.heap.size + 1 ∧ w.heap.size + 1 + 1 < w'.heap.size + 1 + 1 := by { have := hB.size; (try simp at this); omega }))
              go_wp2_with fail
              refine bodyPost_ret (v := .agg #[.bool q.s, .int .i64 q.lo, .int .i64 q.hi]) (by simp [results, Try.results29, *, go_sem]) rfl ?_
              exact ⟨rfl, by go_grown; repeat (refine below_call ?_ (by assumption); go_grown)⟩
            · have HT := Lib.hid (hF.out hff)
              have hff' : f1 = false ∨ (f1 = true ∧ f2 = false) ∨ (f1 = true ∧ f2 = true ∧ f3 = false) ∨ (f1 = true ∧ f2 = true ∧ f3 = true ∧ f4 = false) := by cases f1 <;> cases f2 <;> cases f3 <;> cases f4 <;> simp_all
              clear hT hF hff
              rcases hff' with rfl | ⟨rfl, rfl⟩ | ⟨rfl, rfl, rfl⟩ | ⟨rfl, rfl, rfl, rfl⟩
              · go_wp2_with ((go_at_call 23; (with_reducible refine (rtop_any q HT _).mono ?_); rintro e w' ⟨rfl, hB⟩; obtain ⟨hc, hf, hs⟩ := bcell hB; clear hs; (try simp only [World.size_drew, World.size_alloc] at hc hf); obtain ⟨hz0_0, hz0_1, hz0_2, hz1_0, hz1_1, hz1_2, hz2_0, hz2_1, hz2_2⟩ : w.heap.size < w'.heap.size ∧ w.heap.size < w'.heap.size + 1 ∧ w.heap.size < w'.heap.size + 1 + 1 ∧ w.heap.size + 1 < w'.heap.size ∧ w.heap.size + 1 < w'.heap.size + 1 ∧ w.heap.size + 1 < w'.heap.size + 1 + 1 ∧ w.heap.size + 1 + 1 < w'.heap.size ∧ w.heap.size + 1 + 1 < w'.heap.size + 1 ∧ w.heap.size + 1 + 1 < w'.heap.size + 1 + 1 := by { have := hB.size; (try simp at this); omega }))
                go_wp2_with fail
                refine bodyPost_ret (v := .agg #[.bool q.s, .int .i64 q.lo, .int .i64 q.hi]) (by simp [results, Try.results29, *, go_sem]) rfl ?_
                exact ⟨rfl, by go_grown; repeat (refine below_call ?_ (by assumption); go_grown)⟩
              · go_wp2_with ((go_at_call 23; (with_reducible refine (rtop_any q HT _).mono ?_); rintro e w' ⟨rfl, hB⟩; obtain ⟨hc, hf, hs⟩ := bcell hB; clear hs; (try simp only [World.size_drew, World.size_alloc] at hc hf); obtain ⟨hz0_0, hz0_1, hz0_2, hz1_0, hz1_1, hz1_2, hz2_0, hz2_1, hz2_2⟩ : w.heap.size < w'.heap.size ∧ w.heap.size < w'.heap.size + 1 ∧ w.heap.size < w'.heap.size + 1 + 1 ∧ w.heap.size + 1 < w'.heap.size ∧ w.heap.size + 1 < w'.heap.size + 1 ∧ w.heap.size + 1 < w'.heap.size + 1 + 1 ∧ w.heap.size + 1 + 1 < w'.heap.size ∧ w.heap.size + 1 + 1 < w'.heap.size + 1 ∧ w.heap.size + 1 + 1 < w'.heap.size + 1 + 1 := by { have := hB.size; (try simp at this); omega }))
                go_wp2_with fail
                refine bodyPost_ret (v := .agg #[.bool q.s, .int .i64 q.lo, .int .i64 q.hi]) (by simp [results, Try.results29, *, go_sem]) rfl ?_
                exact ⟨rfl, by go_grown; repeat (refine below_call ?_ (by assumption); go_grown)⟩
              · go_wp2_with ((go_at_call 23; (with_reducible refine (rtop_any q HT _).mono ?_); rintro e w' ⟨rfl, hB⟩; obtain ⟨hc, hf, hs⟩ := bcell hB; clear hs; (try simp only [World.size_drew, World.size_alloc] at hc hf); obtain ⟨hz0_0, hz0_1, hz0_2, hz1_0, hz1_1, hz1_2, hz2_0, hz2_1, hz2_2⟩ : w.heap.size < w'.heap.size ∧ w.heap.size < w'.heap.size + 1 ∧ w.heap.size < w'.heap.size + 1 + 1 ∧ w.heap.size + 1 < w'.heap.size ∧ w.heap.size + 1 < w'.heap.size + 1 ∧ w.heap.size + 1 < w'.heap.size + 1 + 1 ∧ w.heap.size + 1 + 1 < w'.heap.size ∧ w.heap.size + 1 + 1 < w'.heap.size + 1 ∧ w.heap.size + 1 + 1 < w'.heap.size + 1 + 1 := by { have := hB.size; (try simp at this); omega }))
                go_wp2_with fail
                refine bodyPost_ret (v := .agg #[.bool q.s, .int .i64 q.lo, .int .i64 q.hi]) (by simp [results, Try.results29, *, go_sem]) rfl ?_
                exact ⟨rfl, by go_grown; repeat (refine below_call ?_ (by assumption); go_grown)⟩
              · go_wp2_with ((go_at_call 23; (with_reducible refine (rtop_any q HT _).mono ?_); rintro e w' ⟨rfl, hB⟩; obtain ⟨hc, hf, hs⟩ := bcell hB; clear hs; (try simp only [World.size_drew, World.size_alloc] at hc hf); obtain ⟨hz0_0, hz0_1, hz0_2, hz1_0, hz1_1, hz1_2, hz2_0, hz2_1, hz2_2⟩ : w.heap.size < w'.heap.size ∧ w.heap.size < w'.heap.size + 1 ∧ w.heap.size < w'.heap.size + 1 + 1 ∧ w.heap.size + 1 < w'.heap.size ∧ w.heap.size + 1 < w'.heap.size + 1 ∧ w.heap.size + 1 < w'.heap.size + 1 + 1 ∧ w.heap.size + 1 + 1 < w'.heap.size ∧ w.heap.size + 1 + 1 < w'.heap.size + 1 ∧ w.heap.size + 1 + 1 < w'.heap.size + 1 + 1 := by { have := hB.size; (try simp at this); omega }))
                go_wp2_with fail
                refine bodyPost_ret (v := .agg #[.bool q.s, .int .i64 q.lo, .int .i64 q.hi]) (by simp [results, Try.results29, *, go_sem]) rfl ?_
                exact ⟨rfl, by go_grown; repeat (refine below_call ?_ (by assumption); go_grown)⟩
end Go.Proofs.Ytfnodgpebheinaa.M
