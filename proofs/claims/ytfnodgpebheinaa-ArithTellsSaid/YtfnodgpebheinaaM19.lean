/- Walks: the reference, at most. -/
import Derived.Test.YtfnodgpebheinaaM21
import Derived.Deep.DeepCutAuto
import Derived.Deep.CutBlock
namespace Go.Proofs.Ytfnodgpebheinaa.M
open Go Go.RowKit
set_option linter.unusedVariables false
set_option linter.unusedSimpArgs false
attribute [local simp, local go_sem] lt_a2 lt_a3 lt_a4 lt_a5 lt_a6 lt_a7 lt_a8
set_option maxHeartbeats 4000000
set_option maxRecDepth 100000 in
theorem rless_le (a b : Iv) (xl xh yl yh : Int) (hx : Hid (nrm a = ⟨true, xl, xh⟩)) (hy : Hid (nrm b = ⟨true, yl, yh⟩)) (ox : Ok ⟨true, xl, xh⟩) (oy : Ok ⟨true, yl, yh⟩) (p q : Iv) (m1 m2 : Iv) (HM1 : Hid (ofI (-9223372036854775808) yh = m1)) (HM2 : Hid (ofI xl 9223372036854775807 = m2)) (om1 : Ok m1) (om2 : Ok m2) (hp : Hid (meetI ⟨true, xl, xh⟩ m1 = p)) (hq : Hid (meetI ⟨true, yl, yh⟩ m2 = q)) (w : World) :
    Calls Try.prog 28 #[.int .i64 3, .agg #[.bool a.s, .int .i64 a.lo, .int .i64 a.hi], .agg #[.bool b.s, .int .i64 b.lo, .int .i64 b.hi]] w (RetP p q w) := by
  have hu := Try.underlying23
  go_enter Try.func28, Try.ntmps28
  go_upto_region 1 with (fail)
  go_cut [] (fun wc => Box wc w.heap.size ⟨true, xl, xh⟩ ∧ Box wc (w.heap.size + 1) ⟨true, yl, yh⟩ ∧ Box wc (w.heap.size + 1 + 1) Iv.e ∧ Box wc (w.heap.size + 1 + 1 + 1) Iv.e ∧ Below w.heap.size w wc)
  case first =>
    go_wp2
    go_region_with ((first | (go_at_call 11; (with_reducible refine (rnorm_any a.s a.lo a.hi ⟨true, xl, xh⟩ hx _).mono ?_)) | (go_at_call 11; (with_reducible refine (rnorm_any b.s b.lo b.hi ⟨true, yl, yh⟩ hy _).mono ?_))); rintro e w' ⟨rfl, hB⟩; obtain ⟨hc, hf, hs⟩ := bcell hB; clear hs; (try simp only [World.size_drew, World.size_alloc] at hc hf); obtain ⟨hz0_0, hz0_1, hz0_2, hz1_0, hz1_1, hz1_2, hz2_0, hz2_1, hz2_2, hz3_0, hz3_1, hz3_2⟩ : w.heap.size < w'.heap.size ∧ w.heap.size < w'.heap.size + 1 ∧ w.heap.size < w'.heap.size + 1 + 1 ∧ w.heap.size + 1 < w'.heap.size ∧ w.heap.size + 1 < w'.heap.size + 1 ∧ w.heap.size + 1 < w'.heap.size + 1 + 1 ∧ w.heap.size + 1 + 1 < w'.heap.size ∧ w.heap.size + 1 + 1 < w'.heap.size + 1 ∧ w.heap.size + 1 + 1 < w'.heap.size + 1 + 1 ∧ w.heap.size + 1 + 1 + 1 < w'.heap.size ∧ w.heap.size + 1 + 1 + 1 < w'.heap.size + 1 ∧ w.heap.size + 1 + 1 + 1 < w'.heap.size + 1 + 1 := by { have := hB.size; (try simp at this); omega })
    all_goals
      go_wp2
      go_meet
      case rel => exact ⟨⟨by go_simp, by go_simp, by go_simp, by go_simp, by go_simp, by go_simp⟩, ⟨by go_simp, by go_simp, by go_simp, by go_simp, by go_simp, by go_simp⟩, ⟨by go_simp, by go_simp, by go_simp, by go_simp, by go_simp, by go_simp⟩, ⟨by go_simp, by go_simp, by go_simp, by go_simp, by go_simp, by go_simp⟩, by go_grown; repeat (refine below_call ?_ (by assumption); go_grown)⟩
  case rest =>
    obtain ⟨b0, b1, b2, b3, hB0⟩ := hcut
    have l0 := b0.lt
    have l1 := b1.lt
    have l2 := b2.lt
    have l3 := b3.lt
    obtain ⟨a0, a1, a2, a3, a4, a5⟩ := b0
    obtain ⟨d0, d1, d2, d3, d4, d5⟩ := b1
    obtain ⟨e0, e1, e2, e3, e4, e5⟩ := b2
    obtain ⟨r0, r1, r2, r3, r4, r5⟩ := b3
    go_upto_region 6 with (fail)
    go_cut [8, 9] (fun v8 v9 wd => ∃ g8 g9 : Nat, v8 = .pointer (some ⟨g8, 0, none⟩) ∧ v9 = .pointer (some ⟨g9, 0, none⟩) ∧ Aside (g8 ≠ g9 ∧ w.heap.size + 4 ≤ g8 ∧ w.heap.size + 4 ≤ g9) ∧ Box wd w.heap.size ⟨true, xl, xh⟩ ∧ Box wd (w.heap.size + 1) ⟨true, yl, yh⟩ ∧ Box wd (w.heap.size + 1 + 1) Iv.e ∧ Box wd (w.heap.size + 1 + 1 + 1) Iv.e ∧ Box wd g8 ⟨true, xl, xh⟩ ∧ Box wd g9 ⟨true, yl, yh⟩ ∧ Below w.heap.size w wd)
    case first =>
      go_wp2
      go_region
      all_goals
        go_wp2
        go_meet
        case rel => exact ⟨_, _, rfl, rfl, ⟨by (try simp); (try omega), by (try simp); (try omega), by (try simp); (try omega)⟩, ⟨by go_simp, by go_simp, by go_simp, by go_simp, by go_simp, by go_simp⟩, ⟨by go_simp, by go_simp, by go_simp, by go_simp, by go_simp, by go_simp⟩, ⟨by go_simp, by go_simp, by go_simp, by go_simp, by go_simp, by go_simp⟩, ⟨by go_simp, by go_simp, by go_simp, by go_simp, by go_simp, by go_simp⟩, ⟨by go_simp, by go_simp, by go_simp, by go_simp, by go_simp, by go_simp⟩, ⟨by go_simp, by go_simp, by go_simp, by go_simp, by go_simp, by go_simp⟩, by go_grown; repeat (refine below_call ?_ (by assumption); go_grown)⟩
    case rest =>
      clear a0 a1 a2 a3 a4 a5 d0 d1 d2 d3 d4 d5 e0 e1 e2 e3 e4 e5 r0 r1 r2 r3 r4 r5 l0 l1 l2 l3 hB0
      obtain ⟨g8, g9, rfl, rfl, hg, b0, b1, b2, b3, b4, b5, hB0⟩ := hcut
      have l0 := b0.lt
      have l1 := b1.lt
      have l2 := b2.lt
      have l3 := b3.lt
      have l4 := b4.lt
      have l5 := b5.lt
      have hgo := hg.out
      obtain ⟨n0, n1, n2, n3, n4, n5, n6, n7, n8, n9, n10, n11, n12, n13, n14, n15, n16, n17, n18, n19⟩ : g8 ≠ g9 ∧ g9 ≠ g8 ∧ w.heap.size ≠ g8 ∧ g8 ≠ w.heap.size ∧ w.heap.size ≠ g9 ∧ g9 ≠ w.heap.size ∧ w.heap.size + 1 ≠ g8 ∧ g8 ≠ w.heap.size + 1 ∧ w.heap.size + 1 ≠ g9 ∧ g9 ≠ w.heap.size + 1 ∧ w.heap.size + 1 + 1 ≠ g8 ∧ g8 ≠ w.heap.size + 1 + 1 ∧ w.heap.size + 1 + 1 ≠ g9 ∧ g9 ≠ w.heap.size + 1 + 1 ∧ w.heap.size + 1 + 1 + 1 ≠ g8 ∧ g8 ≠ w.heap.size + 1 + 1 + 1 ∧ w.heap.size + 1 + 1 + 1 ≠ g9 ∧ g9 ≠ w.heap.size + 1 + 1 + 1 ∧ w.heap.size ≤ g8 ∧ w.heap.size ≤ g9 := by omega
      have HG := Lib.hid hgo
      clear hg hgo
      obtain ⟨a0, a1, a2, a3, a4, a5⟩ := b0
      obtain ⟨d0, d1, d2, d3, d4, d5⟩ := b1
      obtain ⟨e0, e1, e2, e3, e4, e5⟩ := b2
      obtain ⟨r0, r1, r2, r3, r4, r5⟩ := b3
      obtain ⟨o0, o1, o2, o3, o4, o5⟩ := b4
      obtain ⟨p0, p1, p2, p3, p4, p5⟩ := b5
      go_upto_block 0 with (fail)
      go_cut [] (fun we => Box we (w.heap.size + 1 + 1) Iv.e ∧ Box we (w.heap.size + 1 + 1 + 1) Iv.e ∧ Box we g8 p ∧ Box we g9 q ∧ Below w.heap.size w we)
      case first =>
        go_wp2_with fail
        go_region_held3 (fun w' => w'.cell? ⟨w.heap.size, 0, none⟩ = some (.bool true) ∧ w'.cell? ⟨w.heap.size, 1, none⟩ = some (.int .i64 xl) ∧ w'.cell? ⟨w.heap.size, 2, none⟩ = some (.int .i64 xh) ∧ w'.cell? ⟨w.heap.size + 1, 0, none⟩ = some (.bool true) ∧ w'.cell? ⟨w.heap.size + 1, 1, none⟩ = some (.int .i64 yl) ∧ w'.cell? ⟨w.heap.size + 1, 2, none⟩ = some (.int .i64 yh)) ((refine ⟨?_, ?_, ?_, ?_, ?_, ?_⟩ <;> go_simp)) (first | (go_at_call 22; (with_reducible refine (rof_any (-9223372036854775808) yh m1 HM1 _).mono ?_); rintro e w' ⟨rfl, hB⟩; have Qa := Box.keep (g := w.heap.size) (x := ⟨true, xl, xh⟩) hB ⟨by go_simp, by go_simp, by go_simp, by go_simp, by go_simp, by go_simp⟩; have Qd := Box.keep (g := w.heap.size + 1) (x := ⟨true, yl, yh⟩) hB ⟨by go_simp, by go_simp, by go_simp, by go_simp, by go_simp, by go_simp⟩; have Qe := Box.keep (g := w.heap.size + 1 + 1) (x := Iv.e) hB ⟨by go_simp, by go_simp, by go_simp, by go_simp, by go_simp, by go_simp⟩; have Qr := Box.keep (g := w.heap.size + 1 + 1 + 1) (x := Iv.e) hB ⟨by go_simp, by go_simp, by go_simp, by go_simp, by go_simp, by go_simp⟩; have Qo := Box.keep (g := g8) (x := ⟨true, xl, xh⟩) hB ⟨by go_simp, by go_simp, by go_simp, by go_simp, by go_simp, by go_simp⟩; have Qp := Box.keep (g := g9) (x := ⟨true, yl, yh⟩) hB ⟨by go_simp, by go_simp, by go_simp, by go_simp, by go_simp, by go_simp⟩; replace hB0 := below_call (w := w) (by go_grown) hB; clear hB; clear a0 a1 a2 a3 a4 a5 d0 d1 d2 d3 d4 d5 e0 e1 e2 e3 e4 e5 r0 r1 r2 r3 r4 r5 o0 o1 o2 o3 o4 o5 p0 p1 p2 p3 p4 p5; have la0 := Box.lt Qa; have la1 := Nat.lt_succ_of_lt la0; have la2 := Nat.lt_succ_of_lt la1; obtain ⟨a0, a1, a2, a3, a4, a5⟩ := Qa; have ld0 := Box.lt Qd; have ld1 := Nat.lt_succ_of_lt ld0; have ld2 := Nat.lt_succ_of_lt ld1; obtain ⟨d0, d1, d2, d3, d4, d5⟩ := Qd; have le0 := Box.lt Qe; have le1 := Nat.lt_succ_of_lt le0; have le2 := Nat.lt_succ_of_lt le1; obtain ⟨e0, e1, e2, e3, e4, e5⟩ := Qe; have lr0 := Box.lt Qr; have lr1 := Nat.lt_succ_of_lt lr0; have lr2 := Nat.lt_succ_of_lt lr1; obtain ⟨r0, r1, r2, r3, r4, r5⟩ := Qr; have lo0 := Box.lt Qo; have lo1 := Nat.lt_succ_of_lt lo0; have lo2 := Nat.lt_succ_of_lt lo1; obtain ⟨o0, o1, o2, o3, o4, o5⟩ := Qo; have lp0 := Box.lt Qp; have lp1 := Nat.lt_succ_of_lt lp0; have lp2 := Nat.lt_succ_of_lt lp1; obtain ⟨p0, p1, p2, p3, p4, p5⟩ := Qp) | (go_at_call 22; (with_reducible refine (rof_any xl 9223372036854775807 m2 HM2 _).mono ?_); rintro e w' ⟨rfl, hB⟩; have Qa := Box.keep (g := w.heap.size) (x := ⟨true, xl, xh⟩) hB ⟨by go_simp, by go_simp, by go_simp, by go_simp, by go_simp, by go_simp⟩; have Qd := Box.keep (g := w.heap.size + 1) (x := ⟨true, yl, yh⟩) hB ⟨by go_simp, by go_simp, by go_simp, by go_simp, by go_simp, by go_simp⟩; have Qe := Box.keep (g := w.heap.size + 1 + 1) (x := Iv.e) hB ⟨by go_simp, by go_simp, by go_simp, by go_simp, by go_simp, by go_simp⟩; have Qr := Box.keep (g := w.heap.size + 1 + 1 + 1) (x := Iv.e) hB ⟨by go_simp, by go_simp, by go_simp, by go_simp, by go_simp, by go_simp⟩; have Qo := Box.keep (g := g8) (x := ⟨true, xl, xh⟩) hB ⟨by go_simp, by go_simp, by go_simp, by go_simp, by go_simp, by go_simp⟩; have Qp := Box.keep (g := g9) (x := ⟨true, yl, yh⟩) hB ⟨by go_simp, by go_simp, by go_simp, by go_simp, by go_simp, by go_simp⟩; replace hB0 := below_call (w := w) (by go_grown) hB; clear hB; clear a0 a1 a2 a3 a4 a5 d0 d1 d2 d3 d4 d5 e0 e1 e2 e3 e4 e5 r0 r1 r2 r3 r4 r5 o0 o1 o2 o3 o4 o5 p0 p1 p2 p3 p4 p5; have la0 := Box.lt Qa; have la1 := Nat.lt_succ_of_lt la0; have la2 := Nat.lt_succ_of_lt la1; obtain ⟨a0, a1, a2, a3, a4, a5⟩ := Qa; have ld0 := Box.lt Qd; have ld1 := Nat.lt_succ_of_lt ld0; have ld2 := Nat.lt_succ_of_lt ld1; obtain ⟨d0, d1, d2, d3, d4, d5⟩ := Qd; have le0 := Box.lt Qe; have le1 := Nat.lt_succ_of_lt le0; have le2 := Nat.lt_succ_of_lt le1; obtain ⟨e0, e1, e2, e3, e4, e5⟩ := Qe; have lr0 := Box.lt Qr; have lr1 := Nat.lt_succ_of_lt lr0; have lr2 := Nat.lt_succ_of_lt lr1; obtain ⟨r0, r1, r2, r3, r4, r5⟩ := Qr; have lo0 := Box.lt Qo; have lo1 := Nat.lt_succ_of_lt lo0; have lo2 := Nat.lt_succ_of_lt lo1; obtain ⟨o0, o1, o2, o3, o4, o5⟩ := Qo; have lp0 := Box.lt Qp; have lp1 := Nat.lt_succ_of_lt lp0; have lp2 := Nat.lt_succ_of_lt lp1; obtain ⟨p0, p1, p2, p3, p4, p5⟩ := Qp) | (go_at_call 51; refine (rmeet_any _ ⟨true, xl, xh⟩ m1 p ox om1 hp.out _ ?_ ?_ ?_ ?_ ?_ ?_).mono ?_; (focus go_simp); (focus go_simp); (focus go_simp); (focus go_simp); (focus go_simp); (focus go_simp); rintro e w' ⟨rfl, hB⟩; have Qa := Box.keep (g := w.heap.size) (x := ⟨true, xl, xh⟩) hB ⟨by go_simp, by go_simp, by go_simp, by go_simp, by go_simp, by go_simp⟩; have Qd := Box.keep (g := w.heap.size + 1) (x := ⟨true, yl, yh⟩) hB ⟨by go_simp, by go_simp, by go_simp, by go_simp, by go_simp, by go_simp⟩; have Qe := Box.keep (g := w.heap.size + 1 + 1) (x := Iv.e) hB ⟨by go_simp, by go_simp, by go_simp, by go_simp, by go_simp, by go_simp⟩; have Qr := Box.keep (g := w.heap.size + 1 + 1 + 1) (x := Iv.e) hB ⟨by go_simp, by go_simp, by go_simp, by go_simp, by go_simp, by go_simp⟩; have Qo := Box.keep (g := g8) (x := ⟨true, xl, xh⟩) hB ⟨by go_simp, by go_simp, by go_simp, by go_simp, by go_simp, by go_simp⟩; have Qp := Box.keep (g := g9) (x := ⟨true, yl, yh⟩) hB ⟨by go_simp, by go_simp, by go_simp, by go_simp, by go_simp, by go_simp⟩; replace hB0 := below_call (w := w) (by go_grown) hB; clear hB; clear a0 a1 a2 a3 a4 a5 d0 d1 d2 d3 d4 d5 e0 e1 e2 e3 e4 e5 r0 r1 r2 r3 r4 r5 o0 o1 o2 o3 o4 o5 p0 p1 p2 p3 p4 p5; have la0 := Box.lt Qa; have la1 := Nat.lt_succ_of_lt la0; have la2 := Nat.lt_succ_of_lt la1; obtain ⟨a0, a1, a2, a3, a4, a5⟩ := Qa; have ld0 := Box.lt Qd; have ld1 := Nat.lt_succ_of_lt ld0; have ld2 := Nat.lt_succ_of_lt ld1; obtain ⟨d0, d1, d2, d3, d4, d5⟩ := Qd; have le0 := Box.lt Qe; have le1 := Nat.lt_succ_of_lt le0; have le2 := Nat.lt_succ_of_lt le1; obtain ⟨e0, e1, e2, e3, e4, e5⟩ := Qe; have lr0 := Box.lt Qr; have lr1 := Nat.lt_succ_of_lt lr0; have lr2 := Nat.lt_succ_of_lt lr1; obtain ⟨r0, r1, r2, r3, r4, r5⟩ := Qr; have lo0 := Box.lt Qo; have lo1 := Nat.lt_succ_of_lt lo0; have lo2 := Nat.lt_succ_of_lt lo1; obtain ⟨o0, o1, o2, o3, o4, o5⟩ := Qo; have lp0 := Box.lt Qp; have lp1 := Nat.lt_succ_of_lt lp0; have lp2 := Nat.lt_succ_of_lt lp1; obtain ⟨p0, p1, p2, p3, p4, p5⟩ := Qp) | (go_at_call 51; refine (rmeet_any _ ⟨true, yl, yh⟩ m2 q oy om2 hq.out _ ?_ ?_ ?_ ?_ ?_ ?_).mono ?_; (focus go_simp); (focus go_simp); (focus go_simp); (focus go_simp); (focus go_simp); (focus go_simp); rintro e w' ⟨rfl, hB⟩; have Qa := Box.keep (g := w.heap.size) (x := ⟨true, xl, xh⟩) hB ⟨by go_simp, by go_simp, by go_simp, by go_simp, by go_simp, by go_simp⟩; have Qd := Box.keep (g := w.heap.size + 1) (x := ⟨true, yl, yh⟩) hB ⟨by go_simp, by go_simp, by go_simp, by go_simp, by go_simp, by go_simp⟩; have Qe := Box.keep (g := w.heap.size + 1 + 1) (x := Iv.e) hB ⟨by go_simp, by go_simp, by go_simp, by go_simp, by go_simp, by go_simp⟩; have Qr := Box.keep (g := w.heap.size + 1 + 1 + 1) (x := Iv.e) hB ⟨by go_simp, by go_simp, by go_simp, by go_simp, by go_simp, by go_simp⟩; have Qo := Box.keep (g := g8) (x := ⟨true, xl, xh⟩) hB ⟨by go_simp, by go_simp, by go_simp, by go_simp, by go_simp, by go_simp⟩; have Qp := Box.keep (g := g9) (x := ⟨true, yl, yh⟩) hB ⟨by go_simp, by go_simp, by go_simp, by go_simp, by go_simp, by go_simp⟩; replace hB0 := below_call (w := w) (by go_grown) hB; clear hB; clear a0 a1 a2 a3 a4 a5 d0 d1 d2 d3 d4 d5 e0 e1 e2 e3 e4 e5 r0 r1 r2 r3 r4 r5 o0 o1 o2 o3 o4 o5 p0 p1 p2 p3 p4 p5; have la0 := Box.lt Qa; have la1 := Nat.lt_succ_of_lt la0; have la2 := Nat.lt_succ_of_lt la1; obtain ⟨a0, a1, a2, a3, a4, a5⟩ := Qa; have ld0 := Box.lt Qd; have ld1 := Nat.lt_succ_of_lt ld0; have ld2 := Nat.lt_succ_of_lt ld1; obtain ⟨d0, d1, d2, d3, d4, d5⟩ := Qd; have le0 := Box.lt Qe; have le1 := Nat.lt_succ_of_lt le0; have le2 := Nat.lt_succ_of_lt le1; obtain ⟨e0, e1, e2, e3, e4, e5⟩ := Qe; have lr0 := Box.lt Qr; have lr1 := Nat.lt_succ_of_lt lr0; have lr2 := Nat.lt_succ_of_lt lr1; obtain ⟨r0, r1, r2, r3, r4, r5⟩ := Qr; have lo0 := Box.lt Qo; have lo1 := Nat.lt_succ_of_lt lo0; have lo2 := Nat.lt_succ_of_lt lo1; obtain ⟨o0, o1, o2, o3, o4, o5⟩ := Qo; have lp0 := Box.lt Qp; have lp1 := Nat.lt_succ_of_lt lp0; have lp2 := Nat.lt_succ_of_lt lp1; obtain ⟨p0, p1, p2, p3, p4, p5⟩ := Qp))
        go_wp2_with fail
        go_meet
        case rel => exact ⟨Box.far n12 (Box.far n10 ⟨e0, e1, e2, e3, e4, e5⟩), Box.far n16 (Box.far n14 ⟨r0, r1, r2, r3, r4, r5⟩), Box.far n0 (Box.wr (x := ⟨true, xl, xh⟩) ⟨o0, o1, o2, o3, o4, o5⟩), Box.wr (x := ⟨true, yl, yh⟩) (Box.far n1 ⟨p0, p1, p2, p3, p4, p5⟩), by go_grown <;> (dsimp only; omega)⟩
      case rest =>
        clear hB0 l0 l1 l2 l3 l4 l5 a0 a1 a2 a3 a4 a5 d0 d1 d2 d3 d4 d5 e0 e1 e2 e3 e4 e5 r0 r1 r2 r3 r4 r5 o0 o1 o2 o3 o4 o5 p0 p1 p2 p3 p4 p5
        obtain ⟨b2, b3, b4, b5, hB0⟩ := hcut
        have l2 := b2.lt
        have l3 := b3.lt
        have l4 := b4.lt
        have l5 := b5.lt
        obtain ⟨e0, e1, e2, e3, e4, e5⟩ := b2
        obtain ⟨r0, r1, r2, r3, r4, r5⟩ := b3
        obtain ⟨o0, o1, o2, o3, o4, o5⟩ := b4
        obtain ⟨p0, p1, p2, p3, p4, p5⟩ := b5
        obtain ⟨ps, pl, ph⟩ := p
        obtain ⟨qs, ql, qh⟩ := q
        cases ps
        · 
          go_wp2_with fail
          refine bodyPost_ret (v := .tuple #[.agg #[.bool false, .int .i64 0, .int .i64 0], .agg #[.bool false, .int .i64 0, .int .i64 0]]) (by simp [results, Try.results28, *, go_sem]) rfl ?_
          exact RetP.none (by rintro ⟨h, _⟩; cases h) rfl (by go_grown; repeat (refine below_call ?_ (by assumption); go_grown))
        · cases qs
          · 
            go_wp2_with fail
            refine bodyPost_ret (v := .tuple #[.agg #[.bool false, .int .i64 0, .int .i64 0], .agg #[.bool false, .int .i64 0, .int .i64 0]]) (by simp [results, Try.results28, *, go_sem]) rfl ?_
            exact RetP.none (by rintro ⟨_, h⟩; cases h) rfl (by go_grown; repeat (refine below_call ?_ (by assumption); go_grown))
          · 
            go_wp2_with fail
            go_region_held3 (fun w' => w'.cell? ⟨g8, 0, none⟩ = some (.bool true) ∧ w'.cell? ⟨g8, 1, none⟩ = some (.int .i64 pl) ∧ w'.cell? ⟨g8, 2, none⟩ = some (.int .i64 ph) ∧ w'.cell? ⟨g9, 0, none⟩ = some (.bool true) ∧ w'.cell? ⟨g9, 1, none⟩ = some (.int .i64 ql) ∧ w'.cell? ⟨g9, 2, none⟩ = some (.int .i64 qh)) ((refine ⟨?_, ?_, ?_, ?_, ?_, ?_⟩ <;> go_simp)) (fail)
            go_wp2_with fail
            refine bodyPost_ret (v := .tuple #[.agg #[.bool true, .int .i64 pl, .int .i64 ph], .agg #[.bool true, .int .i64 ql, .int .i64 qh]]) (by simp [results, Try.results28, *, go_sem]) rfl ?_
            exact RetP.both rfl rfl rfl (by go_grown; repeat (refine below_call ?_ (by assumption); go_grown))
end Go.Proofs.Ytfnodgpebheinaa.M
