/- Walks: the reference, at empties and at other kinds. -/
import Derived.Test.YtfnodgpebheinaaM21
import Derived.Deep.DeepCutAuto
import Derived.Deep.CutBlock
namespace Go.Proofs.Ytfnodgpebheinaa.M
open Go Go.RowKit
set_option linter.unusedVariables false
set_option linter.unusedSimpArgs false
attribute [local simp, local go_sem] lt_a2 lt_a3 lt_a4 lt_a5 lt_a6 lt_a7 lt_a8
set_option maxHeartbeats 4000000
set_option maxRecDepth 100000 in
theorem rless_empty (k : Int) (a b x y : Iv) (hx : Hid (nrm a = x)) (hy : Hid (nrm b = y)) (hxy : ¬ (x.s = true ∧ y.s = true)) (w : World) :
    Calls Try.prog 28 #[.int .i64 k, .agg #[.bool a.s, .int .i64 a.lo, .int .i64 a.hi], .agg #[.bool b.s, .int .i64 b.lo, .int .i64 b.hi]] w (RetP Iv.e Iv.e w) := by
  have hu := Try.underlying23
  obtain ⟨xs, xl, xh⟩ := x
  obtain ⟨ys, yl, yh⟩ := y
  dsimp only at hxy
  go_enter Try.func28, Try.ntmps28
  go_upto_region 1 with (fail)
  go_cut [] (fun wc => Box wc w.heap.size ⟨xs, xl, xh⟩ ∧ Box wc (w.heap.size + 1) ⟨ys, yl, yh⟩ ∧ Box wc (w.heap.size + 1 + 1) Iv.e ∧ Box wc (w.heap.size + 1 + 1 + 1) Iv.e ∧ Below w.heap.size w wc)
  case first =>
    go_wp2
    go_region_with ((first | (go_at_call 11; (with_reducible refine (rnorm_any a.s a.lo a.hi ⟨xs, xl, xh⟩ hx _).mono ?_)) | (go_at_call 11; (with_reducible refine (rnorm_any b.s b.lo b.hi ⟨ys, yl, yh⟩ hy _).mono ?_))); rintro e w' ⟨rfl, hB⟩; obtain ⟨hc, hf, hs⟩ := bcell hB; clear hs; (try simp only [World.size_drew, World.size_alloc] at hc hf); obtain ⟨hz0_0, hz0_1, hz0_2, hz1_0, hz1_1, hz1_2, hz2_0, hz2_1, hz2_2, hz3_0, hz3_1, hz3_2⟩ : w.heap.size < w'.heap.size ∧ w.heap.size < w'.heap.size + 1 ∧ w.heap.size < w'.heap.size + 1 + 1 ∧ w.heap.size + 1 < w'.heap.size ∧ w.heap.size + 1 < w'.heap.size + 1 ∧ w.heap.size + 1 < w'.heap.size + 1 + 1 ∧ w.heap.size + 1 + 1 < w'.heap.size ∧ w.heap.size + 1 + 1 < w'.heap.size + 1 ∧ w.heap.size + 1 + 1 < w'.heap.size + 1 + 1 ∧ w.heap.size + 1 + 1 + 1 < w'.heap.size ∧ w.heap.size + 1 + 1 + 1 < w'.heap.size + 1 ∧ w.heap.size + 1 + 1 + 1 < w'.heap.size + 1 + 1 := by { have := hB.size; (try simp at this); omega })
    all_goals
      go_wp2
      go_meet
      case rel => exact ⟨⟨by go_simp, by go_simp, by go_simp, by go_simp, by go_simp, by go_simp⟩, ⟨by go_simp, by go_simp, by go_simp, by go_simp, by go_simp, by go_simp⟩, ⟨by go_simp, by go_simp, by go_simp, by go_simp, by go_simp, by go_simp⟩, ⟨by go_simp, by go_simp, by go_simp, by go_simp, by go_simp, by go_simp⟩, by go_grown; repeat (refine below_call ?_ (by assumption); go_grown)⟩
  case rest =>
    obtain ⟨b0, b1, b2, b3, hB0⟩ := hcut
    have l0 := b0.lt
    have l1 := b1.lt
    have l2 := b2.lt
    have l3 := b3.lt
    obtain ⟨a0, a1, a2, a3, a4, a5⟩ := b0
    obtain ⟨d0, d1, d2, d3, d4, d5⟩ := b1
    obtain ⟨e0, e1, e2, e3, e4, e5⟩ := b2
    obtain ⟨r0, r1, r2, r3, r4, r5⟩ := b3
    have hxy' : xs = false ∨ xs = true ∧ ys = false := by
      cases xs <;> cases ys <;> simp_all
    rcases hxy' with rfl | ⟨rfl, rfl⟩
    · clear hxy
      go_wp2_with fail
      refine bodyPost_ret (v := .tuple #[.agg #[.bool false, .int .i64 0, .int .i64 0], .agg #[.bool false, .int .i64 0, .int .i64 0]]) (by simp [results, Try.results28, *, go_sem]) rfl ?_
      exact RetP.none (by rintro ⟨h, _⟩; cases h) rfl (by go_grown; repeat (refine below_call ?_ (by assumption); go_grown))
    · clear hxy
      go_wp2_with fail
      refine bodyPost_ret (v := .tuple #[.agg #[.bool false, .int .i64 0, .int .i64 0], .agg #[.bool false, .int .i64 0, .int .i64 0]]) (by simp [results, Try.results28, *, go_sem]) rfl ?_
      exact RetP.none (by rintro ⟨h, _⟩; cases h) rfl (by go_grown; repeat (refine below_call ?_ (by assumption); go_grown))
set_option maxRecDepth 100000 in
theorem rless_other (k : Int) (a b : Iv) (xl xh yl yh : Int) (hx : Hid (nrm a = ⟨true, xl, xh⟩)) (hy : Hid (nrm b = ⟨true, yl, yh⟩)) (hk : Hid (k < 0 ∨ 5 < k)) (w : World) :
    Calls Try.prog 28 #[.int .i64 k, .agg #[.bool a.s, .int .i64 a.lo, .int .i64 a.hi], .agg #[.bool b.s, .int .i64 b.lo, .int .i64 b.hi]] w (RetP ⟨true, xl, xh⟩ ⟨true, yl, yh⟩ w) := by
  have hu := Try.underlying23
  go_enter Try.func28, Try.ntmps28
  go_upto_region 1 with (fail)
  go_cut [] (fun wc => Box wc w.heap.size ⟨true, xl, xh⟩ ∧ Box wc (w.heap.size + 1) ⟨true, yl, yh⟩ ∧ Box wc (w.heap.size + 1 + 1) Iv.e ∧ Box wc (w.heap.size + 1 + 1 + 1) Iv.e ∧ Below w.heap.size w wc)
  case first =>
    go_wp2
    go_region_with ((first | (go_at_call 11; (with_reducible refine (rnorm_any a.s a.lo a.hi ⟨true, xl, xh⟩ hx _).mono ?_)) | (go_at_call 11; (with_reducible refine (rnorm_any b.s b.lo b.hi ⟨true, yl, yh⟩ hy _).mono ?_))); rintro e w' ⟨rfl, hB⟩; obtain ⟨hc, hf, hs⟩ := bcell hB; clear hs; (try simp only [World.size_drew, World.size_alloc] at hc hf); obtain ⟨hz0_0, hz0_1, hz0_2, hz1_0, hz1_1, hz1_2, hz2_0, hz2_1, hz2_2, hz3_0, hz3_1, hz3_2⟩ : w.heap.size < w'.heap.size ∧ w.heap.size < w'.heap.size + 1 ∧ w.heap.size < w'.heap.size + 1 + 1 ∧ w.heap.size + 1 < w'.heap.size ∧ w.heap.size + 1 < w'.heap.size + 1 ∧ w.heap.size + 1 < w'.heap.size + 1 + 1 ∧ w.heap.size + 1 + 1 < w'.heap.size ∧ w.heap.size + 1 + 1 < w'.heap.size + 1 ∧ w.heap.size + 1 + 1 < w'.heap.size + 1 + 1 ∧ w.heap.size + 1 + 1 + 1 < w'.heap.size ∧ w.heap.size + 1 + 1 + 1 < w'.heap.size + 1 ∧ w.heap.size + 1 + 1 + 1 < w'.heap.size + 1 + 1 := by { have := hB.size; (try simp at this); omega })
    all_goals
      go_wp2
      go_meet
      case rel => exact ⟨⟨by go_simp, by go_simp, by go_simp, by go_simp, by go_simp, by go_simp⟩, ⟨by go_simp, by go_simp, by go_simp, by go_simp, by go_simp, by go_simp⟩, ⟨by go_simp, by go_simp, by go_simp, by go_simp, by go_simp, by go_simp⟩, ⟨by go_simp, by go_simp, by go_simp, by go_simp, by go_simp, by go_simp⟩, by go_grown; repeat (refine below_call ?_ (by assumption); go_grown)⟩
  case rest =>
    obtain ⟨b0, b1, b2, b3, hB0⟩ := hcut
    have l0 := b0.lt
    have l1 := b1.lt
    have l2 := b2.lt
    have l3 := b3.lt
    obtain ⟨a0, a1, a2, a3, a4, a5⟩ := b0
    obtain ⟨d0, d1, d2, d3, d4, d5⟩ := b1
    obtain ⟨e0, e1, e2, e3, e4, e5⟩ := b2
    obtain ⟨r0, r1, r2, r3, r4, r5⟩ := b3
    have hk' := hk.out
    rcases hk' with hk' | hk'
    · have k1 : decide (k < 0) = true := decide_eq_true hk'
      clear hk hk'
      go_wp2_with fail
      go_region_held3 (fun w' => w'.cell? ⟨w.heap.size, 0, none⟩ = some (.bool true) ∧ w'.cell? ⟨w.heap.size, 1, none⟩ = some (.int .i64 xl) ∧ w'.cell? ⟨w.heap.size, 2, none⟩ = some (.int .i64 xh) ∧ w'.cell? ⟨w.heap.size + 1, 0, none⟩ = some (.bool true) ∧ w'.cell? ⟨w.heap.size + 1, 1, none⟩ = some (.int .i64 yl) ∧ w'.cell? ⟨w.heap.size + 1, 2, none⟩ = some (.int .i64 yh)) ((refine ⟨?_, ?_, ?_, ?_, ?_, ?_⟩ <;> go_simp)) (fail)
      go_wp2_with fail
      refine bodyPost_ret (v := .tuple #[.agg #[.bool true, .int .i64 xl, .int .i64 xh], .agg #[.bool true, .int .i64 yl, .int .i64 yh]]) (by simp [results, Try.results28, *, go_sem]) rfl ?_
      exact RetP.both rfl rfl rfl (by go_grown; repeat (refine below_call ?_ (by assumption); go_grown))
    · have k1 : decide (k < 0) = false := decide_eq_false (by omega)
      have k2 : decide (5 < k) = true := decide_eq_true hk'
      clear hk hk'
      go_wp2_with fail
      go_region_held3 (fun w' => w'.cell? ⟨w.heap.size, 0, none⟩ = some (.bool true) ∧ w'.cell? ⟨w.heap.size, 1, none⟩ = some (.int .i64 xl) ∧ w'.cell? ⟨w.heap.size, 2, none⟩ = some (.int .i64 xh) ∧ w'.cell? ⟨w.heap.size + 1, 0, none⟩ = some (.bool true) ∧ w'.cell? ⟨w.heap.size + 1, 1, none⟩ = some (.int .i64 yl) ∧ w'.cell? ⟨w.heap.size + 1, 2, none⟩ = some (.int .i64 yh)) ((refine ⟨?_, ?_, ?_, ?_, ?_, ?_⟩ <;> go_simp)) (fail)
      go_wp2_with fail
      refine bodyPost_ret (v := .tuple #[.agg #[.bool true, .int .i64 xl, .int .i64 xh], .agg #[.bool true, .int .i64 yl, .int .i64 yh]]) (by simp [results, Try.results28, *, go_sem]) rfl ?_
      exact RetP.both rfl rfl rfl (by go_grown; repeat (refine below_call ?_ (by assumption); go_grown))
end Go.Proofs.Ytfnodgpebheinaa.M
