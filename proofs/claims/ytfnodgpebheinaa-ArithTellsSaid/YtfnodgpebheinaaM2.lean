/- Walks of layer 13: sums and differences. -/
import Derived.Test.YtfnodgpebheinaaM1
import Derived.Deep.DeepCutAuto
import Derived.Deep.CutBlock
namespace Go.Proofs.Ytfnodgpebheinaa.M
open Go Go.RowKit
set_option linter.unusedVariables false
set_option linter.unusedSimpArgs false
attribute [local simp, local go_sem] lt_a2 lt_a3 lt_a4 lt_a5 lt_a6 lt_a7 lt_a8
set_option maxHeartbeats 4000000
theorem arith_add (a b x y : Iv) (hx : Hid (nrm a = x)) (hy : Hid (nrm b = y)) (q : Iv) (hq : Hid ((if x.s = true ∧ y.s = true then boundsI (wrap64 (x.lo + y.lo)) (decide (x.lo < (wrap64 (x.lo + y.lo))) == decide (0 < y.lo)) (wrap64 (x.hi + y.hi)) (decide (x.hi < (wrap64 (x.hi + y.hi))) == decide (0 < y.hi)) else Iv.e : Iv) = q)) (w : World) :
    Calls Try.prog 17 #[.agg #[.bool a.s, .int .i64 a.lo, .int .i64 a.hi], .agg #[.bool b.s, .int .i64 b.lo, .int .i64 b.hi]] w (Ret (.agg #[.bool q.s, .int .i64 q.lo, .int .i64 q.hi]) w) := by
  have hu := Try.underlying23
  obtain ⟨xs, xl, xh⟩ := x
  obtain ⟨ys, yl, yh⟩ := y
  go_enter Try.func17, Try.ntmps17
  go_upto_region 1 with (fail)
  go_cut [] (fun wc => Box wc w.heap.size ⟨xs, xl, xh⟩ ∧ Box wc (w.heap.size + 1) ⟨ys, yl, yh⟩ ∧ Box wc (w.heap.size + 1 + 1) Iv.e ∧ Below w.heap.size w wc)
  case first =>
    go_wp2
    go_region_with ((first | (go_at_call 31; (with_reducible refine (clean_any a.s a.lo a.hi ⟨xs, xl, xh⟩ hx _).mono ?_)) | (go_at_call 31; (with_reducible refine (clean_any b.s b.lo b.hi ⟨ys, yl, yh⟩ hy _).mono ?_))); rintro e w' ⟨rfl, hB⟩; obtain ⟨hc, hf, hs⟩ := bcell hB; clear hs; obtain ⟨hz0, hz1, hz2⟩ : w.heap.size < w'.heap.size ∧ w.heap.size + 1 < w'.heap.size ∧ w.heap.size + 1 + 1 < w'.heap.size := by { have := hB.size; (try simp at this); omega })
    all_goals
      go_wp2
      go_meet
      case rel => exact ⟨⟨by go_simp, by go_simp, by go_simp, by go_simp, by go_simp, by go_simp⟩, ⟨by go_simp, by go_simp, by go_simp, by go_simp, by go_simp, by go_simp⟩, ⟨by go_simp, by go_simp, by go_simp, by go_simp, by go_simp, by go_simp⟩, by go_grown; repeat (refine below_call ?_ (by assumption); go_grown)⟩
  case rest =>
    obtain ⟨b0, b1, b2, hB0⟩ := hcut
    have l0 := b0.lt
    have l1 := b1.lt
    have l2 := b2.lt
    obtain ⟨a0, a1, a2, a3, a4, a5⟩ := b0
    obtain ⟨d0, d1, d2, d3, d4, d5⟩ := b1
    obtain ⟨e0, e1, e2, e3, e4, e5⟩ := b2
    have hemp : ¬ (xs = true ∧ ys = true) → Iv.e = q := by
      intro h
      have h2 := hq.out
      rw [if_neg h] at h2
      exact h2
    by_cases hxy : ¬ (xs = true ∧ ys = true)
    · obtain rfl := hemp hxy
      have hxy' : xs = false ∨ xs = true ∧ ys = false := by
        cases xs <;> cases ys <;> simp_all
      rcases hxy' with rfl | ⟨rfl, rfl⟩
      · clear hxy hemp
        go_wp2
        refine bodyPost_ret (v := .agg #[.bool false, .int .i64 0, .int .i64 0]) (by simp [results, Try.results17, *, go_sem]) rfl ?_
        exact ⟨rfl, by go_grown; repeat (refine below_call ?_ (by assumption); go_grown)⟩
      · clear hxy hemp
        go_wp2
        refine bodyPost_ret (v := .agg #[.bool false, .int .i64 0, .int .i64 0]) (by simp [results, Try.results17, *, go_sem]) rfl ?_
        exact ⟨rfl, by go_grown; repeat (refine below_call ?_ (by assumption); go_grown)⟩
    obtain ⟨rfl, rfl⟩ := Classical.not_not.1 hxy
    clear hemp hxy
    have hq2 := hq.out
    rw [if_pos ⟨rfl, rfl⟩] at hq2
    clear hq
    dsimp only at hq2
    obtain ⟨n1, hn1⟩ : ∃ n, wrap64 (xl + yl) = n := ⟨_, rfl⟩
    obtain ⟨n2, hn2⟩ : ∃ n, wrap64 (xh + yh) = n := ⟨_, rfl⟩
    rw [hn1, hn2] at hq2
    obtain ⟨f1, hf1⟩ : ∃ f, (decide (xl < n1) == decide (0 < yl)) = f := ⟨_, rfl⟩
    obtain ⟨f2, hf2⟩ : ∃ f, (decide (xh < n2) == decide (0 < yh)) = f := ⟨_, rfl⟩
    rw [hf1, hf2] at hq2
    have HN1 := Lib.hid hn1
    have HN2 := Lib.hid hn2
    have HF1 := Lib.hid hf1
    have HF2 := Lib.hid hf2
    have HQ := Lib.hid hq2
    clear hn1 hn2 hf1 hf2 hq2
    go_wp2_with (first | (go_at_call 37; (with_reducible refine (add_any _ _ n1 f1 HN1 HF1 _).mono ?_); rintro e w' ⟨rfl, rfl⟩) | (go_at_call 37; (with_reducible refine (add_any _ _ n2 f2 HN2 HF2 _).mono ?_); rintro e w' ⟨rfl, rfl⟩) | (go_at_call 38; (with_reducible refine (bounds_any n1 n2 f1 f2 q HQ _).mono ?_); rintro e w' ⟨rfl, hB⟩; obtain ⟨hc, hf, hs⟩ := bcell hB; clear hs; obtain ⟨hz0, hz1, hz2⟩ : w.heap.size < w'.heap.size ∧ w.heap.size + 1 < w'.heap.size ∧ w.heap.size + 1 + 1 < w'.heap.size := by { have := hB.size; (try simp at this); omega }))
    refine bodyPost_ret (v := .agg #[.bool q.s, .int .i64 q.lo, .int .i64 q.hi]) (by simp [results, Try.results17, *, go_sem]) rfl ?_
    exact ⟨rfl, by go_grown; repeat (refine below_call ?_ (by assumption); go_grown)⟩
theorem arith_sub (a b x y : Iv) (hx : Hid (nrm a = x)) (hy : Hid (nrm b = y)) (q : Iv) (hq : Hid ((if x.s = true ∧ y.s = true then boundsI (wrap64 (x.lo - y.hi)) (decide ((wrap64 (x.lo - y.hi)) < x.lo) == decide (0 < y.hi)) (wrap64 (x.hi - y.lo)) (decide ((wrap64 (x.hi - y.lo)) < x.hi) == decide (0 < y.lo)) else Iv.e : Iv) = q)) (w : World) :
    Calls Try.prog 20 #[.agg #[.bool a.s, .int .i64 a.lo, .int .i64 a.hi], .agg #[.bool b.s, .int .i64 b.lo, .int .i64 b.hi]] w (Ret (.agg #[.bool q.s, .int .i64 q.lo, .int .i64 q.hi]) w) := by
  have hu := Try.underlying23
  obtain ⟨xs, xl, xh⟩ := x
  obtain ⟨ys, yl, yh⟩ := y
  go_enter Try.func20, Try.ntmps20
  go_upto_region 1 with (fail)
  go_cut [] (fun wc => Box wc w.heap.size ⟨xs, xl, xh⟩ ∧ Box wc (w.heap.size + 1) ⟨ys, yl, yh⟩ ∧ Box wc (w.heap.size + 1 + 1) Iv.e ∧ Below w.heap.size w wc)
  case first =>
    go_wp2
    go_region_with ((first | (go_at_call 31; (with_reducible refine (clean_any a.s a.lo a.hi ⟨xs, xl, xh⟩ hx _).mono ?_)) | (go_at_call 31; (with_reducible refine (clean_any b.s b.lo b.hi ⟨ys, yl, yh⟩ hy _).mono ?_))); rintro e w' ⟨rfl, hB⟩; obtain ⟨hc, hf, hs⟩ := bcell hB; clear hs; obtain ⟨hz0, hz1, hz2⟩ : w.heap.size < w'.heap.size ∧ w.heap.size + 1 < w'.heap.size ∧ w.heap.size + 1 + 1 < w'.heap.size := by { have := hB.size; (try simp at this); omega })
    all_goals
      go_wp2
      go_meet
      case rel => exact ⟨⟨by go_simp, by go_simp, by go_simp, by go_simp, by go_simp, by go_simp⟩, ⟨by go_simp, by go_simp, by go_simp, by go_simp, by go_simp, by go_simp⟩, ⟨by go_simp, by go_simp, by go_simp, by go_simp, by go_simp, by go_simp⟩, by go_grown; repeat (refine below_call ?_ (by assumption); go_grown)⟩
  case rest =>
    obtain ⟨b0, b1, b2, hB0⟩ := hcut
    have l0 := b0.lt
    have l1 := b1.lt
    have l2 := b2.lt
    obtain ⟨a0, a1, a2, a3, a4, a5⟩ := b0
    obtain ⟨d0, d1, d2, d3, d4, d5⟩ := b1
    obtain ⟨e0, e1, e2, e3, e4, e5⟩ := b2
    have hemp : ¬ (xs = true ∧ ys = true) → Iv.e = q := by
      intro h
      have h2 := hq.out
      rw [if_neg h] at h2
      exact h2
    by_cases hxy : ¬ (xs = true ∧ ys = true)
    · obtain rfl := hemp hxy
      have hxy' : xs = false ∨ xs = true ∧ ys = false := by
        cases xs <;> cases ys <;> simp_all
      rcases hxy' with rfl | ⟨rfl, rfl⟩
      · clear hxy hemp
        go_wp2
        refine bodyPost_ret (v := .agg #[.bool false, .int .i64 0, .int .i64 0]) (by simp [results, Try.results20, *, go_sem]) rfl ?_
        exact ⟨rfl, by go_grown; repeat (refine below_call ?_ (by assumption); go_grown)⟩
      · clear hxy hemp
        go_wp2
        refine bodyPost_ret (v := .agg #[.bool false, .int .i64 0, .int .i64 0]) (by simp [results, Try.results20, *, go_sem]) rfl ?_
        exact ⟨rfl, by go_grown; repeat (refine below_call ?_ (by assumption); go_grown)⟩
    obtain ⟨rfl, rfl⟩ := Classical.not_not.1 hxy
    clear hemp hxy
    have hq2 := hq.out
    rw [if_pos ⟨rfl, rfl⟩] at hq2
    clear hq
    dsimp only at hq2
    obtain ⟨n1, hn1⟩ : ∃ n, wrap64 (xl - yh) = n := ⟨_, rfl⟩
    obtain ⟨n2, hn2⟩ : ∃ n, wrap64 (xh - yl) = n := ⟨_, rfl⟩
    rw [hn1, hn2] at hq2
    obtain ⟨f1, hf1⟩ : ∃ f, (decide (n1 < xl) == decide (0 < yh)) = f := ⟨_, rfl⟩
    obtain ⟨f2, hf2⟩ : ∃ f, (decide (n2 < xh) == decide (0 < yl)) = f := ⟨_, rfl⟩
    rw [hf1, hf2] at hq2
    have HN1 := Lib.hid hn1
    have HN2 := Lib.hid hn2
    have HF1 := Lib.hid hf1
    have HF2 := Lib.hid hf2
    have HQ := Lib.hid hq2
    clear hn1 hn2 hf1 hf2 hq2
    go_wp2_with (first | (go_at_call 42; (with_reducible refine (sub_any _ _ n1 f1 HN1 HF1 _).mono ?_); rintro e w' ⟨rfl, rfl⟩) | (go_at_call 42; (with_reducible refine (sub_any _ _ n2 f2 HN2 HF2 _).mono ?_); rintro e w' ⟨rfl, rfl⟩) | (go_at_call 38; (with_reducible refine (bounds_any n1 n2 f1 f2 q HQ _).mono ?_); rintro e w' ⟨rfl, hB⟩; obtain ⟨hc, hf, hs⟩ := bcell hB; clear hs; obtain ⟨hz0, hz1, hz2⟩ : w.heap.size < w'.heap.size ∧ w.heap.size + 1 < w'.heap.size ∧ w.heap.size + 1 + 1 < w'.heap.size := by { have := hB.size; (try simp at this); omega }))
    refine bodyPost_ret (v := .agg #[.bool q.s, .int .i64 q.lo, .int .i64 q.hi]) (by simp [results, Try.results20, *, go_sem]) rfl ?_
    exact ⟨rfl, by go_grown; repeat (refine below_call ?_ (by assumption); go_grown)⟩
end Go.Proofs.Ytfnodgpebheinaa.M
