/- Walks: what is left of empties, and of others at other kinds. -/
import Derived.Test.YtfnodgpebheinaaM14
import Derived.Deep.DeepCutAuto
import Derived.Deep.CutBlock
namespace Go.Proofs.Ytfnodgpebheinaa.M
open Go Go.RowKit
set_option linter.unusedVariables false
set_option linter.unusedSimpArgs false
attribute [local simp, local go_sem] lt_a2 lt_a3 lt_a4 lt_a5 lt_a6 lt_a7 lt_a8
set_option maxHeartbeats 4000000
set_option maxRecDepth 100000 in
theorem less_empty (k : Int) (a b x y : Iv) (hx : Hid (nrm a = x)) (hy : Hid (nrm b = y)) (hxy : ¬ (x.s = true ∧ y.s = true)) (w : World) :
    Calls Try.prog 12 #[.int .i64 k, .agg #[.bool a.s, .int .i64 a.lo, .int .i64 a.hi], .agg #[.bool b.s, .int .i64 b.lo, .int .i64 b.hi]] w (RetP Iv.e Iv.e w) := by
  have hu := Try.underlying23
  obtain ⟨xs, xl, xh⟩ := x
  obtain ⟨ys, yl, yh⟩ := y
  dsimp only at hxy
  go_enter Try.func12, Try.ntmps12
  go_upto_region 1 with (fail)
  go_cut [] (fun wc => Box wc w.heap.size ⟨xs, xl, xh⟩ ∧ Box wc (w.heap.size + 1) ⟨ys, yl, yh⟩ ∧ Box wc (w.heap.size + 1 + 1) Iv.e ∧ Box wc (w.heap.size + 1 + 1 + 1) Iv.e ∧ Below w.heap.size w wc)
  case first =>
    go_wp2
    go_region_with ((first | (go_at_call 31; (with_reducible refine (clean_any a.s a.lo a.hi ⟨xs, xl, xh⟩ hx _).mono ?_)) | (go_at_call 31; (with_reducible refine (clean_any b.s b.lo b.hi ⟨ys, yl, yh⟩ hy _).mono ?_))); rintro e w' ⟨rfl, hB⟩; obtain ⟨hc, hf, hs⟩ := bcell hB; clear hs; (try simp only [World.size_drew, World.size_alloc] at hc hf); obtain ⟨hz0_0, hz0_1, hz0_2, hz1_0, hz1_1, hz1_2, hz2_0, hz2_1, hz2_2, hz3_0, hz3_1, hz3_2⟩ : w.heap.size < w'.heap.size ∧ w.heap.size < w'.heap.size + 1 ∧ w.heap.size < w'.heap.size + 1 + 1 ∧ w.heap.size + 1 < w'.heap.size ∧ w.heap.size + 1 < w'.heap.size + 1 ∧ w.heap.size + 1 < w'.heap.size + 1 + 1 ∧ w.heap.size + 1 + 1 < w'.heap.size ∧ w.heap.size + 1 + 1 < w'.heap.size + 1 ∧ w.heap.size + 1 + 1 < w'.heap.size + 1 + 1 ∧ w.heap.size + 1 + 1 + 1 < w'.heap.size ∧ w.heap.size + 1 + 1 + 1 < w'.heap.size + 1 ∧ w.heap.size + 1 + 1 + 1 < w'.heap.size + 1 + 1 := by { have := hB.size; (try simp at this); omega })
    all_goals
      go_wp2
      go_meet
      case rel => exact ⟨⟨by go_simp, by go_simp, by go_simp, by go_simp, by go_simp, by go_simp⟩, ⟨by go_simp, by go_simp, by go_simp, by go_simp, by go_simp, by go_simp⟩, ⟨by go_simp, by go_simp, by go_simp, by go_simp, by go_simp, by go_simp⟩, ⟨by go_simp, by go_simp, by go_simp, by go_simp, by go_simp, by go_simp⟩, by go_grown; repeat (refine below_call ?_ (by assumption); go_grown)⟩
  case rest =>
    obtain ⟨b0, b1, b2, b3, hB0⟩ := hcut
    have l0 := b0.lt
    have l1 := b1.lt
    have l2 := b2.lt
    have l3 := b3.lt
    obtain ⟨a0, a1, a2, a3, a4, a5⟩ := b0
    obtain ⟨d0, d1, d2, d3, d4, d5⟩ := b1
    obtain ⟨e0, e1, e2, e3, e4, e5⟩ := b2
    obtain ⟨r0, r1, r2, r3, r4, r5⟩ := b3
    have hxy' : xs = false ∨ xs = true ∧ ys = false := by
      cases xs <;> cases ys <;> simp_all
    rcases hxy' with rfl | ⟨rfl, rfl⟩
    · clear hxy
      go_wp2_with fail
      refine bodyPost_ret (v := .tuple #[.agg #[.bool false, .int .i64 0, .int .i64 0], .agg #[.bool false, .int .i64 0, .int .i64 0]]) (by simp [results, Try.results12, *, go_sem]) rfl ?_
      exact RetP.none (by rintro ⟨h, _⟩; cases h) rfl (by go_grown; repeat (refine below_call ?_ (by assumption); go_grown))
    · clear hxy
      go_wp2_with fail
      refine bodyPost_ret (v := .tuple #[.agg #[.bool false, .int .i64 0, .int .i64 0], .agg #[.bool false, .int .i64 0, .int .i64 0]]) (by simp [results, Try.results12, *, go_sem]) rfl ?_
      exact RetP.none (by rintro ⟨h, _⟩; cases h) rfl (by go_grown; repeat (refine below_call ?_ (by assumption); go_grown))
set_option maxRecDepth 100000 in
theorem less_other (k : Int) (a b : Iv) (xl xh yl yh : Int) (hx : Hid (nrm a = ⟨true, xl, xh⟩)) (hy : Hid (nrm b = ⟨true, yl, yh⟩)) (hk : Hid (k < 0 ∨ 5 < k)) (w : World) :
    Calls Try.prog 12 #[.int .i64 k, .agg #[.bool a.s, .int .i64 a.lo, .int .i64 a.hi], .agg #[.bool b.s, .int .i64 b.lo, .int .i64 b.hi]] w (RetP ⟨true, xl, xh⟩ ⟨true, yl, yh⟩ w) := by
  have hu := Try.underlying23
  go_enter Try.func12, Try.ntmps12
  go_upto_region 1 with (fail)
  go_cut [] (fun wc => Box wc w.heap.size ⟨true, xl, xh⟩ ∧ Box wc (w.heap.size + 1) ⟨true, yl, yh⟩ ∧ Box wc (w.heap.size + 1 + 1) Iv.e ∧ Box wc (w.heap.size + 1 + 1 + 1) Iv.e ∧ Below w.heap.size w wc)
  case first =>
    go_wp2
    go_region_with ((first | (go_at_call 31; (with_reducible refine (clean_any a.s a.lo a.hi ⟨true, xl, xh⟩ hx _).mono ?_)) | (go_at_call 31; (with_reducible refine (clean_any b.s b.lo b.hi ⟨true, yl, yh⟩ hy _).mono ?_))); rintro e w' ⟨rfl, hB⟩; obtain ⟨hc, hf, hs⟩ := bcell hB; clear hs; (try simp only [World.size_drew, World.size_alloc] at hc hf); obtain ⟨hz0_0, hz0_1, hz0_2, hz1_0, hz1_1, hz1_2, hz2_0, hz2_1, hz2_2, hz3_0, hz3_1, hz3_2⟩ : w.heap.size < w'.heap.size ∧ w.heap.size < w'.heap.size + 1 ∧ w.heap.size < w'.heap.size + 1 + 1 ∧ w.heap.size + 1 < w'.heap.size ∧ w.heap.size + 1 < w'.heap.size + 1 ∧ w.heap.size + 1 < w'.heap.size + 1 + 1 ∧ w.heap.size + 1 + 1 < w'.heap.size ∧ w.heap.size + 1 + 1 < w'.heap.size + 1 ∧ w.heap.size + 1 + 1 < w'.heap.size + 1 + 1 ∧ w.heap.size + 1 + 1 + 1 < w'.heap.size ∧ w.heap.size + 1 + 1 + 1 < w'.heap.size + 1 ∧ w.heap.size + 1 + 1 + 1 < w'.heap.size + 1 + 1 := by { have := hB.size; (try simp at this); omega })
    all_goals
      go_wp2
      go_meet
      case rel => exact ⟨⟨by go_simp, by go_simp, by go_simp, by go_simp, by go_simp, by go_simp⟩, ⟨by go_simp, by go_simp, by go_simp, by go_simp, by go_simp, by go_simp⟩, ⟨by go_simp, by go_simp, by go_simp, by go_simp, by go_simp, by go_simp⟩, ⟨by go_simp, by go_simp, by go_simp, by go_simp, by go_simp, by go_simp⟩, by go_grown; repeat (refine below_call ?_ (by assumption); go_grown)⟩
  case rest =>
    obtain ⟨b0, b1, b2, b3, hB0⟩ := hcut
    have l0 := b0.lt
    have l1 := b1.lt
    have l2 := b2.lt
    have l3 := b3.lt
    obtain ⟨a0, a1, a2, a3, a4, a5⟩ := b0
    obtain ⟨d0, d1, d2, d3, d4, d5⟩ := b1
    obtain ⟨e0, e1, e2, e3, e4, e5⟩ := b2
    obtain ⟨r0, r1, r2, r3, r4, r5⟩ := b3
    go_upto_region 4 with (fail)
    go_cut [8, 9] (fun v8 v9 wd => ∃ g8 g9 : Nat, v8 = .pointer (some ⟨g8, 0, none⟩) ∧ v9 = .pointer (some ⟨g9, 0, none⟩) ∧ Aside (g8 ≠ g9 ∧ w.heap.size + 4 ≤ g8 ∧ w.heap.size + 4 ≤ g9) ∧ Box wd w.heap.size ⟨true, xl, xh⟩ ∧ Box wd (w.heap.size + 1) ⟨true, yl, yh⟩ ∧ Box wd (w.heap.size + 1 + 1) Iv.e ∧ Box wd (w.heap.size + 1 + 1 + 1) Iv.e ∧ Box wd g8 ⟨true, xl, xh⟩ ∧ Box wd g9 ⟨true, yl, yh⟩ ∧ Below w.heap.size w wd)
    case first =>
      go_wp2
      go_region
      all_goals
        go_wp2
        go_meet
        case rel => exact ⟨_, _, rfl, rfl, ⟨by (try simp); (try omega), by (try simp); (try omega), by (try simp); (try omega)⟩, ⟨by go_simp, by go_simp, by go_simp, by go_simp, by go_simp, by go_simp⟩, ⟨by go_simp, by go_simp, by go_simp, by go_simp, by go_simp, by go_simp⟩, ⟨by go_simp, by go_simp, by go_simp, by go_simp, by go_simp, by go_simp⟩, ⟨by go_simp, by go_simp, by go_simp, by go_simp, by go_simp, by go_simp⟩, ⟨by go_simp, by go_simp, by go_simp, by go_simp, by go_simp, by go_simp⟩, ⟨by go_simp, by go_simp, by go_simp, by go_simp, by go_simp, by go_simp⟩, by go_grown; repeat (refine below_call ?_ (by assumption); go_grown)⟩
    case rest =>
      clear a0 a1 a2 a3 a4 a5 d0 d1 d2 d3 d4 d5 e0 e1 e2 e3 e4 e5 r0 r1 r2 r3 r4 r5 l0 l1 l2 l3 hB0
      obtain ⟨g8, g9, rfl, rfl, hg, b0, b1, b2, b3, b4, b5, hB0⟩ := hcut
      have l0 := b0.lt
      have l1 := b1.lt
      have l2 := b2.lt
      have l3 := b3.lt
      have l4 := b4.lt
      have l5 := b5.lt
      have hgo := hg.out
      obtain ⟨n0, n1, n2, n3, n4, n5, n6, n7, n8, n9, n10, n11, n12, n13, n14, n15, n16, n17, n18, n19⟩ : g8 ≠ g9 ∧ g9 ≠ g8 ∧ w.heap.size ≠ g8 ∧ g8 ≠ w.heap.size ∧ w.heap.size ≠ g9 ∧ g9 ≠ w.heap.size ∧ w.heap.size + 1 ≠ g8 ∧ g8 ≠ w.heap.size + 1 ∧ w.heap.size + 1 ≠ g9 ∧ g9 ≠ w.heap.size + 1 ∧ w.heap.size + 1 + 1 ≠ g8 ∧ g8 ≠ w.heap.size + 1 + 1 ∧ w.heap.size + 1 + 1 ≠ g9 ∧ g9 ≠ w.heap.size + 1 + 1 ∧ w.heap.size + 1 + 1 + 1 ≠ g8 ∧ g8 ≠ w.heap.size + 1 + 1 + 1 ∧ w.heap.size + 1 + 1 + 1 ≠ g9 ∧ g9 ≠ w.heap.size + 1 + 1 + 1 ∧ w.heap.size ≤ g8 ∧ w.heap.size ≤ g9 := by omega
      have HG := Lib.hid hgo
      clear hg hgo
      obtain ⟨a0, a1, a2, a3, a4, a5⟩ := b0
      obtain ⟨d0, d1, d2, d3, d4, d5⟩ := b1
      obtain ⟨e0, e1, e2, e3, e4, e5⟩ := b2
      obtain ⟨r0, r1, r2, r3, r4, r5⟩ := b3
      obtain ⟨o0, o1, o2, o3, o4, o5⟩ := b4
      obtain ⟨p0, p1, p2, p3, p4, p5⟩ := b5
      have hk' := hk.out
      have k0 : (k == 0) = false := beq_eq_false_iff_ne.mpr (by omega)
      have k1 : (k == 1) = false := beq_eq_false_iff_ne.mpr (by omega)
      have k2 : (k == 2) = false := beq_eq_false_iff_ne.mpr (by omega)
      have k3 : (k == 3) = false := beq_eq_false_iff_ne.mpr (by omega)
      have k4 : (k == 4) = false := beq_eq_false_iff_ne.mpr (by omega)
      have k5 : (k == 5) = false := beq_eq_false_iff_ne.mpr (by omega)
      clear hk'
      go_wp2_with fail
      go_region_held3 (fun w' => w'.cell? ⟨g8, 0, none⟩ = some (.bool true) ∧ w'.cell? ⟨g8, 1, none⟩ = some (.int .i64 xl) ∧ w'.cell? ⟨g8, 2, none⟩ = some (.int .i64 xh) ∧ w'.cell? ⟨g9, 0, none⟩ = some (.bool true) ∧ w'.cell? ⟨g9, 1, none⟩ = some (.int .i64 yl) ∧ w'.cell? ⟨g9, 2, none⟩ = some (.int .i64 yh)) ((refine ⟨?_, ?_, ?_, ?_, ?_, ?_⟩ <;> go_simp)) (fail)
      go_wp2_with fail
      refine bodyPost_ret (v := .tuple #[.agg #[.bool true, .int .i64 xl, .int .i64 xh], .agg #[.bool true, .int .i64 yl, .int .i64 yh]]) (by simp [results, Try.results12, *, go_sem]) rfl ?_
      exact RetP.both rfl rfl rfl (by go_grown; repeat (refine below_call ?_ (by assumption); go_grown))
end Go.Proofs.Ytfnodgpebheinaa.M
