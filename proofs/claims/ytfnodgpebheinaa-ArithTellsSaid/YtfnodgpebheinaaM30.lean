/- Walks: the reference's parts, sizes and rests. -/
import Derived.Test.YtfnodgpebheinaaM29
import Derived.Deep.DeepCutAuto
import Derived.Deep.CutBlock
namespace Go.Proofs.Ytfnodgpebheinaa.M
open Go Go.RowKit
set_option linter.unusedVariables false
set_option linter.unusedSimpArgs false
attribute [local simp, local go_sem] lt_a2 lt_a3 lt_a4 lt_a5 lt_a6 lt_a7 lt_a8
set_option maxHeartbeats 4000000
attribute [local go_sem] maxi mini maxb minb maxd mind
theorem rparts_any (b n p : Iv) (hb : Ok b) (hn : Hid (meetI b ⟨true, -9223372036854775808, -1⟩ = n)) (hp : Hid (meetI b ⟨true, 1, 9223372036854775807⟩ = p)) (w : World) :
    Calls Try.prog 49 #[.agg #[.bool b.s, .int .i64 b.lo, .int .i64 b.hi]] w fun e w' => e = .returned (.tuple #[.agg #[.bool n.s, .int .i64 n.lo, .int .i64 n.hi], .agg #[.bool p.s, .int .i64 p.lo, .int .i64 p.hi]]) ∧ Below w.heap.size w w' := by
  have hu := Try.underlying23
  have o1 : Ok ⟨true, -9223372036854775808, -1⟩ := .inr ⟨rfl, by decide, by decide, by decide⟩
  have o2 : Ok ⟨true, 1, 9223372036854775807⟩ := .inr ⟨rfl, by decide, by decide, by decide⟩
  have e1 : ofI (-9223372036854775808) (-1) = ⟨true, -9223372036854775808, -1⟩ := by decide
  have e2 : ofI 1 9223372036854775807 = ⟨true, 1, 9223372036854775807⟩ := by decide
  go_enter Try.func49, Try.ntmps49
  go_wp2_with fail
  go_region_held3 (fun w' => w'.cell? ⟨w.heap.size, 0, none⟩ = some (.bool b.s) ∧ w'.cell? ⟨w.heap.size, 1, none⟩ = some (.int .i64 b.lo) ∧ w'.cell? ⟨w.heap.size, 2, none⟩ = some (.int .i64 b.hi)) ((refine ⟨?_, ?_, ?_⟩ <;> go_simp)) (first | (go_at_call 22; (with_reducible refine (rof_any (-9223372036854775808) (-1) ⟨true, -9223372036854775808, -1⟩ (Lib.hid e1) _).mono ?_); rintro e w' ⟨rfl, hB⟩; obtain ⟨hc, hf, hs⟩ := bcell hB; clear hs; (try simp only [World.size_drew, World.size_alloc] at hc hf); obtain ⟨hz0_0, hz0_1, hz0_2, hz1_0, hz1_1, hz1_2, hz2_0, hz2_1, hz2_2⟩ : w.heap.size < w'.heap.size ∧ w.heap.size < w'.heap.size + 1 ∧ w.heap.size < w'.heap.size + 1 + 1 ∧ w.heap.size + 1 < w'.heap.size ∧ w.heap.size + 1 < w'.heap.size + 1 ∧ w.heap.size + 1 < w'.heap.size + 1 + 1 ∧ w.heap.size + 1 + 1 < w'.heap.size ∧ w.heap.size + 1 + 1 < w'.heap.size + 1 ∧ w.heap.size + 1 + 1 < w'.heap.size + 1 + 1 := by { have := hB.size; (try simp at this); omega }) | (go_at_call 22; (with_reducible refine (rof_any 1 9223372036854775807 ⟨true, 1, 9223372036854775807⟩ (Lib.hid e2) _).mono ?_); rintro e w' ⟨rfl, hB⟩; obtain ⟨hc, hf, hs⟩ := bcell hB; clear hs; (try simp only [World.size_drew, World.size_alloc] at hc hf); obtain ⟨hz0_0, hz0_1, hz0_2, hz1_0, hz1_1, hz1_2, hz2_0, hz2_1, hz2_2⟩ : w.heap.size < w'.heap.size ∧ w.heap.size < w'.heap.size + 1 ∧ w.heap.size < w'.heap.size + 1 + 1 ∧ w.heap.size + 1 < w'.heap.size ∧ w.heap.size + 1 < w'.heap.size + 1 ∧ w.heap.size + 1 < w'.heap.size + 1 + 1 ∧ w.heap.size + 1 + 1 < w'.heap.size ∧ w.heap.size + 1 + 1 < w'.heap.size + 1 ∧ w.heap.size + 1 + 1 < w'.heap.size + 1 + 1 := by { have := hB.size; (try simp at this); omega }) | (go_at_call 51; refine (rmeet_any _ b ⟨true, -9223372036854775808, -1⟩ n hb o1 hn.out _ ?_ ?_ ?_ ?_ ?_ ?_).mono ?_; (focus go_simp); (focus go_simp); (focus go_simp); (focus go_simp); (focus go_simp); (focus go_simp); rintro e w' ⟨rfl, hB⟩; obtain ⟨hc, hf, hs⟩ := bcell hB; clear hs; (try simp only [World.size_drew, World.size_alloc] at hc hf); obtain ⟨hz0_0, hz0_1, hz0_2, hz1_0, hz1_1, hz1_2, hz2_0, hz2_1, hz2_2⟩ : w.heap.size < w'.heap.size ∧ w.heap.size < w'.heap.size + 1 ∧ w.heap.size < w'.heap.size + 1 + 1 ∧ w.heap.size + 1 < w'.heap.size ∧ w.heap.size + 1 < w'.heap.size + 1 ∧ w.heap.size + 1 < w'.heap.size + 1 + 1 ∧ w.heap.size + 1 + 1 < w'.heap.size ∧ w.heap.size + 1 + 1 < w'.heap.size + 1 ∧ w.heap.size + 1 + 1 < w'.heap.size + 1 + 1 := by { have := hB.size; (try simp at this); omega }) | (go_at_call 51; refine (rmeet_any _ b ⟨true, 1, 9223372036854775807⟩ p hb o2 hp.out _ ?_ ?_ ?_ ?_ ?_ ?_).mono ?_; (focus go_simp); (focus go_simp); (focus go_simp); (focus go_simp); (focus go_simp); (focus go_simp); rintro e w' ⟨rfl, hB⟩; obtain ⟨hc, hf, hs⟩ := bcell hB; clear hs; (try simp only [World.size_drew, World.size_alloc] at hc hf); obtain ⟨hz0_0, hz0_1, hz0_2, hz1_0, hz1_1, hz1_2, hz2_0, hz2_1, hz2_2⟩ : w.heap.size < w'.heap.size ∧ w.heap.size < w'.heap.size + 1 ∧ w.heap.size < w'.heap.size + 1 + 1 ∧ w.heap.size + 1 < w'.heap.size ∧ w.heap.size + 1 < w'.heap.size + 1 ∧ w.heap.size + 1 < w'.heap.size + 1 + 1 ∧ w.heap.size + 1 + 1 < w'.heap.size ∧ w.heap.size + 1 + 1 < w'.heap.size + 1 ∧ w.heap.size + 1 + 1 < w'.heap.size + 1 + 1 := by { have := hB.size; (try simp at this); omega }))
  go_wp2_with fail
  refine bodyPost_ret (v := .tuple #[.agg #[.bool n.s, .int .i64 n.lo, .int .i64 n.hi], .agg #[.bool p.s, .int .i64 p.lo, .int .i64 p.hi]]) (by simp [results, Try.results49, *, go_sem]) rfl ?_
  exact ⟨rfl, by go_grown; repeat (refine below_call ?_ (by assumption); go_grown)⟩
theorem rsize_any (n m : Int) (hi : inr n = true) (hm : Hid ((n.natAbs : Int) - 1 = m)) (w : World) : Calls Try.prog 50 #[.int .i64 n] w fun e w' => e = .returned (.int .i64 m) ∧ w = w' := by
  obtain rfl := hm.out
  have hi' := of_decide_eq_true hi
  clear hm
  by_cases h0 : n = -9223372036854775808
  · subst h0
    clear hi hi'
    go_enter Try.func50, Try.ntmps50
    go_wp2
    go_returns
    exact ⟨rfl, rfl⟩
  have k0 : (n == (-9223372036854775808)) = false := beq_eq_false_iff_ne.mpr h0
  by_cases h1 : n < 0
  · have k1 : decide (n < 0) = true := decide_eq_true h1
    have e1 : wrap64 (-n) = -n := by unfold wrap64; omega
    have e2 : wrap64 (-n - 1) = (n.natAbs : Int) - 1 := by unfold wrap64; omega
    clear h0 hi hi'
    go_enter Try.func50, Try.ntmps50
    go_wp2
    go_returns
    exact ⟨by simp [e1, e2], rfl⟩
  · have k1 : decide (n < 0) = false := decide_eq_false h1
    have e2 : wrap64 (n - 1) = (n.natAbs : Int) - 1 := by unfold wrap64; omega
    clear h0 hi hi'
    go_enter Try.func50, Try.ntmps50
    go_wp2
    go_returns
    exact ⟨by simp [e2], rfl⟩
set_option maxRecDepth 100000 in
theorem ref_mod (a b x y : Iv) (hx : Hid (nrm a = x)) (hy : Hid (nrm b = y)) (ox : Ok x) (oy : Ok y) (q : Iv) (zz : Bool) (hq : Hid (modI x y = q)) (hzz : Hid (modZ x y = zz)) (w : World) :
    Calls Try.prog 27 #[.agg #[.bool a.s, .int .i64 a.lo, .int .i64 a.hi], .agg #[.bool b.s, .int .i64 b.lo, .int .i64 b.hi]] w (fun e w' => e = .returned (.tuple #[.agg #[.bool q.s, .int .i64 q.lo, .int .i64 q.hi], .bool zz]) ∧ Below w.heap.size w w') := by
  have hu := Try.underlying23
  obtain ⟨xs, xl, xh⟩ := x
  obtain ⟨ys, yl, yh⟩ := y
  go_enter Try.func27, Try.ntmps27
  go_upto_region 1 with (fail)
  go_cut [] (fun wc => Box wc w.heap.size ⟨xs, xl, xh⟩ ∧ Box wc (w.heap.size + 1) ⟨ys, yl, yh⟩ ∧ Box wc (w.heap.size + 1 + 1) Iv.e ∧ Below w.heap.size w wc)
  case first =>
    go_wp2
    go_region_with ((first | (go_at_call 11; (with_reducible refine (rnorm_any a.s a.lo a.hi ⟨xs, xl, xh⟩ hx _).mono ?_)) | (go_at_call 11; (with_reducible refine (rnorm_any b.s b.lo b.hi ⟨ys, yl, yh⟩ hy _).mono ?_))); rintro e w' ⟨rfl, hB⟩; obtain ⟨hc, hf, hs⟩ := bcell hB; clear hs; (try simp only [World.size_drew, World.size_alloc] at hc hf); obtain ⟨hz0_0, hz0_1, hz0_2, hz1_0, hz1_1, hz1_2, hz2_0, hz2_1, hz2_2⟩ : w.heap.size < w'.heap.size ∧ w.heap.size < w'.heap.size + 1 ∧ w.heap.size < w'.heap.size + 1 + 1 ∧ w.heap.size + 1 < w'.heap.size ∧ w.heap.size + 1 < w'.heap.size + 1 ∧ w.heap.size + 1 < w'.heap.size + 1 + 1 ∧ w.heap.size + 1 + 1 < w'.heap.size ∧ w.heap.size + 1 + 1 < w'.heap.size + 1 ∧ w.heap.size + 1 + 1 < w'.heap.size + 1 + 1 := by { have := hB.size; (try simp at this); omega })
    all_goals
      go_wp2
      go_meet
      case rel => exact ⟨⟨by go_simp, by go_simp, by go_simp, by go_simp, by go_simp, by go_simp⟩, ⟨by go_simp, by go_simp, by go_simp, by go_simp, by go_simp, by go_simp⟩, ⟨by go_simp, by go_simp, by go_simp, by go_simp, by go_simp, by go_simp⟩, by go_grown; repeat (refine below_call ?_ (by assumption); go_grown)⟩
  case rest =>
    obtain ⟨b0, b1, b2, hB0⟩ := hcut
    have l0 := b0.lt
    have l1 := b1.lt
    have l2 := b2.lt
    obtain ⟨a0, a1, a2, a3, a4, a5⟩ := b0
    obtain ⟨d0, d1, d2, d3, d4, d5⟩ := b1
    obtain ⟨e0, e1, e2, e3, e4, e5⟩ := b2
    by_cases hxy : ¬ (xs = true ∧ ys = true)
    · obtain rfl : Iv.e = q := by have z := hq.out; unfold modI at z; rw [if_neg hxy] at z; exact z
      obtain rfl : false = zz := by have z := hzz.out; unfold modZ at z; cases xs <;> cases ys <;> simp_all
      have hxy' : xs = false ∨ xs = true ∧ ys = false := by
        cases xs <;> cases ys <;> simp_all
      clear hq hzz
      rcases hxy' with rfl | ⟨rfl, rfl⟩
      · clear hxy
        go_wp2_with fail
        refine bodyPost_ret (v := .tuple #[.agg #[.bool false, .int .i64 0, .int .i64 0], .bool false]) (by simp [results, Try.results27, *, go_sem]) rfl ?_
        exact ⟨rfl, by go_grown; repeat (refine below_call ?_ (by assumption); go_grown)⟩
      · clear hxy
        go_wp2_with fail
        refine bodyPost_ret (v := .tuple #[.agg #[.bool false, .int .i64 0, .int .i64 0], .bool false]) (by simp [results, Try.results27, *, go_sem]) rfl ?_
        exact ⟨rfl, by go_grown; repeat (refine below_call ?_ (by assumption); go_grown)⟩
    obtain ⟨rfl, rfl⟩ := Classical.not_not.1 hxy
    clear hxy
    obtain ⟨x1, x2, x3⟩ : -9223372036854775808 ≤ xl ∧ xl ≤ xh ∧ xh ≤ 9223372036854775807 := by
      rcases ox with h | ⟨_, h1, h2, h3⟩
      · cases h
      · exact ⟨h1, h2, h3⟩
    obtain ⟨y1, y2, y3⟩ : -9223372036854775808 ≤ yl ∧ yl ≤ yh ∧ yh ≤ 9223372036854775807 := by
      rcases oy with h | ⟨_, h1, h2, h3⟩
      · cases h
      · exact ⟨h1, h2, h3⟩
    have hz0 : Hid (hasI ⟨true, yl, yh⟩ 0 = zz) := by have z := hzz.out; simp only [modZ, Bool.true_and] at z; exact Lib.hid z
    have iy1 : inr yl = true := decide_eq_true ⟨y1, by omega⟩
    have iy2 : inr yh = true := decide_eq_true ⟨by omega, y3⟩
    have hq' := hq.out
    unfold modI at hq'
    rw [if_pos ⟨rfl, rfl⟩] at hq'
    clear hq hzz
    obtain ⟨n, hn⟩ : ∃ n, Hid (meetI ⟨true, yl, yh⟩ ⟨true, -9223372036854775808, -1⟩ = n) := ⟨_, Lib.hid rfl⟩
    obtain ⟨p, hp⟩ : ∃ n, Hid (meetI ⟨true, yl, yh⟩ ⟨true, 1, 9223372036854775807⟩ = n) := ⟨_, Lib.hid rfl⟩
    have hns : n.s = decide (yl ≤ -1) := by
      obtain rfl := hn.out
      unfold meetI nrm
      by_cases h : yl ≤ -1 <;> simp [h] <;> (repeat' split) <;> simp_all <;> omega
    have hps : p.s = decide (1 ≤ yh) := by
      obtain rfl := hp.out
      unfold meetI nrm
      by_cases h : 1 ≤ yh <;> simp [h] <;> (repeat' split) <;> simp_all <;> omega
    by_cases hyz : yl = 0 ∧ yh = 0
    · rw [if_pos hyz] at hq'
      obtain rfl := hq'
      obtain ⟨rfl, rfl⟩ := hyz
      obtain rfl : true = zz := by have z := hz0.out; simpa [hasI] using z
      have hns : n.s = false := by rw [hns]; decide
      have hps : p.s = false := by rw [hps]; decide
      clear x1 x2 x3 y1 y2 y3 iy1 iy2
      go_wp2_with (first | (go_at_call 49; (with_reducible refine (rparts_any ⟨true, 0, 0⟩ n p oy hn hp _).mono ?_); rintro e w' ⟨rfl, hB⟩; obtain ⟨hc, hf, hs⟩ := bcell hB; clear hs; (try simp only [World.size_drew, World.size_alloc] at hc hf); obtain ⟨hz0_0, hz0_1, hz0_2, hz1_0, hz1_1, hz1_2, hz2_0, hz2_1, hz2_2⟩ : w.heap.size < w'.heap.size ∧ w.heap.size < w'.heap.size + 1 ∧ w.heap.size < w'.heap.size + 1 + 1 ∧ w.heap.size + 1 < w'.heap.size ∧ w.heap.size + 1 < w'.heap.size + 1 ∧ w.heap.size + 1 < w'.heap.size + 1 + 1 ∧ w.heap.size + 1 + 1 < w'.heap.size ∧ w.heap.size + 1 + 1 < w'.heap.size + 1 ∧ w.heap.size + 1 + 1 < w'.heap.size + 1 + 1 := by { have := hB.size; (try simp at this); omega }))
      refine bodyPost_ret (v := .tuple #[.agg #[.bool false, .int .i64 0, .int .i64 0], .bool true]) (by simp [results, Try.results27, *, go_sem]) rfl ?_
      exact ⟨rfl, by go_grown; repeat (refine below_call ?_ (by assumption); go_grown)⟩
    · rw [if_neg hyz] at hq'
      have hnp : n.s = true ∨ n.s = false ∧ p.s = true := by
        rw [hns, hps]
        by_cases h : yl ≤ -1
        · left; simpa using h
        · right; simp; omega
      clear hns hps
      obtain ⟨m, hm⟩ : ∃ m, modM ⟨true, yl, yh⟩ = m := ⟨_, rfl⟩
      rw [hm] at hq'
      have hm' := hm
      unfold modM at hm'
      dsimp only at hm' hq'
      have m0 : 0 ≤ m := by rw [← hm']; split <;> omega
      have m1 : m ≤ 9223372036854775807 := by rw [← hm']; split <;> omega
      clear hyz hm
      go_upto_region 5 with (first | (go_at_call 49; (with_reducible refine (rparts_any ⟨true, yl, yh⟩ n p oy hn hp _).mono ?_); rintro e w' ⟨rfl, hB⟩; obtain ⟨hc, hf, hs⟩ := bcell hB; clear hs; (try simp only [World.size_drew, World.size_alloc] at hc hf); obtain ⟨hz0_0, hz0_1, hz0_2, hz1_0, hz1_1, hz1_2, hz2_0, hz2_1, hz2_2⟩ : w.heap.size < w'.heap.size ∧ w.heap.size < w'.heap.size + 1 ∧ w.heap.size < w'.heap.size + 1 + 1 ∧ w.heap.size + 1 < w'.heap.size ∧ w.heap.size + 1 < w'.heap.size + 1 ∧ w.heap.size + 1 < w'.heap.size + 1 + 1 ∧ w.heap.size + 1 + 1 < w'.heap.size ∧ w.heap.size + 1 + 1 < w'.heap.size + 1 ∧ w.heap.size + 1 + 1 < w'.heap.size + 1 + 1 := by { have := hB.size; (try simp at this); omega }))
      go_cut [36] (fun v wd => v = .bool false ∧ Box wd (w.heap.size) (⟨true, xl, xh⟩) ∧ Box wd (w.heap.size + 1) (⟨true, yl, yh⟩) ∧ Box wd (w.heap.size + 1 + 1) (Iv.e) ∧ Below w.heap.size w wd)
      case first =>
        rcases hnp with hns | ⟨hns, hps⟩
        all_goals
          go_wp2_with fail
          go_meet
          case rel => exact ⟨rfl, ⟨by go_simp, by go_simp, by go_simp, by go_simp, by go_simp, by go_simp⟩, ⟨by go_simp, by go_simp, by go_simp, by go_simp, by go_simp, by go_simp⟩, ⟨by go_simp, by go_simp, by go_simp, by go_simp, by go_simp, by go_simp⟩, by go_grown; repeat (refine below_call ?_ (by assumption); go_grown)⟩
      case rest =>
       clear e0 e1 e2 e3 e4 e5 a0 a1 a2 a3 a4 a5 d0 d1 d2 d3 d4 d5 l0 l1 l2 hB0
       obtain ⟨rfl, b0, b1, b2, hB0⟩ := hcut
       have l0 := b0.lt
       have l1 := b1.lt
       have l2 := b2.lt
       obtain ⟨a0, a1, a2, a3, a4, a5⟩ := b0
       obtain ⟨d0, d1, d2, d3, d4, d5⟩ := b1
       obtain ⟨e0, e1, e2, e3, e4, e5⟩ := b2
       go_upto_region 7 with (fail)
       go_cut [8] (fun v wd => v = .int .i64 m ∧ Box wd (w.heap.size) (⟨true, xl, xh⟩) ∧ Box wd (w.heap.size + 1) (⟨true, yl, yh⟩) ∧ Box wd (w.heap.size + 1 + 1) (Iv.e) ∧ Below w.heap.size w wd)
       case first =>
          go_wp2_with fail
          go_region_held3 (fun w' => w'.cell? ⟨w.heap.size + 1, 0, none⟩ = some (.bool true) ∧ w'.cell? ⟨w.heap.size + 1, 1, none⟩ = some (.int .i64 yl) ∧ w'.cell? ⟨w.heap.size + 1, 2, none⟩ = some (.int .i64 yh)) ((refine ⟨?_, ?_, ?_⟩ <;> go_simp)) (first | (go_at_call 50; (with_reducible refine (rsize_any yl _ iy1 (Lib.hid rfl) _).mono ?_); rintro e w' ⟨rfl, rfl⟩) | (go_at_call 50; (with_reducible refine (rsize_any yh _ iy2 (Lib.hid rfl) _).mono ?_); rintro e w' ⟨rfl, rfl⟩))
          all_goals
            go_wp2
          all_goals
            go_meet
            case rel =>
              refine ⟨?_, ⟨by go_simp, by go_simp, by go_simp, by go_simp, by go_simp, by go_simp⟩, ⟨by go_simp, by go_simp, by go_simp, by go_simp, by go_simp, by go_simp⟩, ⟨by go_simp, by go_simp, by go_simp, by go_simp, by go_simp, by go_simp⟩, by go_grown; repeat (refine below_call ?_ (by assumption); go_grown)⟩
              refine congrArg (Value.int IntKind.i64) ?_
              rw [← hm']; split <;> omega
       case rest =>
        clear e0 e1 e2 e3 e4 e5 a0 a1 a2 a3 a4 a5 d0 d1 d2 d3 d4 d5 l0 l1 l2 hB0
        obtain ⟨rfl, b0, b1, b2, hB0⟩ := hcut
        have l0 := b0.lt
        have l1 := b1.lt
        have l2 := b2.lt
        obtain ⟨a0, a1, a2, a3, a4, a5⟩ := b0
        obtain ⟨d0, d1, d2, d3, d4, d5⟩ := b1
        obtain ⟨e0, e1, e2, e3, e4, e5⟩ := b2
        go_upto_region 8 with (fail)
        go_cut [9, 10] (fun v9 v10 wd => v9 = .int .i64 (if xl < -m then -m else xl) ∧ v10 = .int .i64 (if m < xh then m else xh) ∧ Box wd (w.heap.size) (⟨true, xl, xh⟩) ∧ Box wd (w.heap.size + 1) (⟨true, yl, yh⟩) ∧ Box wd (w.heap.size + 1 + 1) (Iv.e) ∧ Below w.heap.size w wd)
        case first =>
          have wn : wrap64 (-m) = -m := wrap_neg m0 m1
          go_wp2
          go_region
          all_goals
            go_wp2
          all_goals
            go_meet
            case rel => exact ⟨congrArg (Value.int IntKind.i64) (by (repeat' split) <;> omega), congrArg (Value.int IntKind.i64) (by (repeat' split) <;> omega), ⟨by go_simp, by go_simp, by go_simp, by go_simp, by go_simp, by go_simp⟩, ⟨by go_simp, by go_simp, by go_simp, by go_simp, by go_simp, by go_simp⟩, ⟨by go_simp, by go_simp, by go_simp, by go_simp, by go_simp, by go_simp⟩, by go_grown; repeat (refine below_call ?_ (by assumption); go_grown)⟩
        case rest =>
          clear e0 e1 e2 e3 e4 e5 a0 a1 a2 a3 a4 a5 d0 d1 d2 d3 d4 d5 l0 l1 l2 hB0
          obtain ⟨rfl, rfl, b0, b1, b2, hB0⟩ := hcut
          have l0 := b0.lt
          have l1 := b1.lt
          have l2 := b2.lt
          obtain ⟨a0, a1, a2, a3, a4, a5⟩ := b0
          obtain ⟨d0, d1, d2, d3, d4, d5⟩ := b1
          obtain ⟨e0, e1, e2, e3, e4, e5⟩ := b2
          clear hm' iy1 iy2
          obtain ⟨lo, hlo⟩ : ∃ n, (if xl < -m then -m else xl) = n := ⟨_, rfl⟩
          obtain ⟨hi, hhi⟩ : ∃ n, (if m < xh then m else xh) = n := ⟨_, rfl⟩
          rw [hlo, hhi] at hq'
          rw [hlo, hhi]
          clear hlo hhi
          have g1 : 0 ≤ xl ∨ xl < 0 := by omega
          have g2 : xh ≤ 0 ∨ 0 < xh := by omega
          rcases g1 with g1 | g1
          · have j1 : decide (0 ≤ xl) = true := decide_eq_true g1
            rw [if_neg (by omega)] at hq'
            rcases g2 with g2 | g2
            · have j2 : decide (xh ≤ 0) = true := decide_eq_true g2
              rw [if_neg (by omega)] at hq'
              clear g1 g2 x1 x2 x3 y1 y2 y3 m0 m1
              go_wp2_with fail
              go_region_held3 (fun w' => w'.cell? ⟨w.heap.size + 1, 0, none⟩ = some (.bool true) ∧ w'.cell? ⟨w.heap.size + 1, 1, none⟩ = some (.int .i64 yl) ∧ w'.cell? ⟨w.heap.size + 1, 2, none⟩ = some (.int .i64 yh)) ((refine ⟨?_, ?_, ?_⟩ <;> go_simp)) (first | (go_at_call 22; (with_reducible refine (rof_any 0 0 q (Lib.hid hq') _).mono ?_); rintro e w' ⟨rfl, hB⟩; obtain ⟨hc, hf, hs⟩ := bcell hB; clear hs; (try simp only [World.size_drew, World.size_alloc] at hc hf); obtain ⟨hz0_0, hz0_1, hz0_2, hz1_0, hz1_1, hz1_2, hz2_0, hz2_1, hz2_2⟩ : w.heap.size < w'.heap.size ∧ w.heap.size < w'.heap.size + 1 ∧ w.heap.size < w'.heap.size + 1 + 1 ∧ w.heap.size + 1 < w'.heap.size ∧ w.heap.size + 1 < w'.heap.size + 1 ∧ w.heap.size + 1 < w'.heap.size + 1 + 1 ∧ w.heap.size + 1 + 1 < w'.heap.size ∧ w.heap.size + 1 + 1 < w'.heap.size + 1 ∧ w.heap.size + 1 + 1 < w'.heap.size + 1 + 1 := by { have := hB.size; (try simp at this); omega }) | (go_at_call 16; (with_reducible refine (rhas_any ⟨true, yl, yh⟩ 0 zz hz0 _).mono ?_); rintro e w' ⟨rfl, hB⟩; obtain ⟨hc, hf, hs⟩ := bcell hB; clear hs; (try simp only [World.size_drew, World.size_alloc] at hc hf); obtain ⟨hz0_0, hz0_1, hz0_2, hz1_0, hz1_1, hz1_2, hz2_0, hz2_1, hz2_2⟩ : w.heap.size < w'.heap.size ∧ w.heap.size < w'.heap.size + 1 ∧ w.heap.size < w'.heap.size + 1 + 1 ∧ w.heap.size + 1 < w'.heap.size ∧ w.heap.size + 1 < w'.heap.size + 1 ∧ w.heap.size + 1 < w'.heap.size + 1 + 1 ∧ w.heap.size + 1 + 1 < w'.heap.size ∧ w.heap.size + 1 + 1 < w'.heap.size + 1 ∧ w.heap.size + 1 + 1 < w'.heap.size + 1 + 1 := by { have := hB.size; (try simp at this); omega }))
              go_wp2_with fail
              refine bodyPost_ret (v := .tuple #[.agg #[.bool q.s, .int .i64 q.lo, .int .i64 q.hi], .bool zz]) (by simp [results, Try.results27, *, go_sem]) rfl ?_
              exact ⟨rfl, by go_grown; repeat (refine below_call ?_ (by assumption); go_grown)⟩
            · have j2 : decide (xh ≤ 0) = false := decide_eq_false (by omega)
              rw [if_pos (by omega)] at hq'
              clear g1 g2 x1 x2 x3 y1 y2 y3 m0 m1
              go_wp2_with fail
              go_region_held3 (fun w' => w'.cell? ⟨w.heap.size + 1, 0, none⟩ = some (.bool true) ∧ w'.cell? ⟨w.heap.size + 1, 1, none⟩ = some (.int .i64 yl) ∧ w'.cell? ⟨w.heap.size + 1, 2, none⟩ = some (.int .i64 yh)) ((refine ⟨?_, ?_, ?_⟩ <;> go_simp)) (first | (go_at_call 22; (with_reducible refine (rof_any 0 hi q (Lib.hid hq') _).mono ?_); rintro e w' ⟨rfl, hB⟩; obtain ⟨hc, hf, hs⟩ := bcell hB; clear hs; (try simp only [World.size_drew, World.size_alloc] at hc hf); obtain ⟨hz0_0, hz0_1, hz0_2, hz1_0, hz1_1, hz1_2, hz2_0, hz2_1, hz2_2⟩ : w.heap.size < w'.heap.size ∧ w.heap.size < w'.heap.size + 1 ∧ w.heap.size < w'.heap.size + 1 + 1 ∧ w.heap.size + 1 < w'.heap.size ∧ w.heap.size + 1 < w'.heap.size + 1 ∧ w.heap.size + 1 < w'.heap.size + 1 + 1 ∧ w.heap.size + 1 + 1 < w'.heap.size ∧ w.heap.size + 1 + 1 < w'.heap.size + 1 ∧ w.heap.size + 1 + 1 < w'.heap.size + 1 + 1 := by { have := hB.size; (try simp at this); omega }) | (go_at_call 16; (with_reducible refine (rhas_any ⟨true, yl, yh⟩ 0 zz hz0 _).mono ?_); rintro e w' ⟨rfl, hB⟩; obtain ⟨hc, hf, hs⟩ := bcell hB; clear hs; (try simp only [World.size_drew, World.size_alloc] at hc hf); obtain ⟨hz0_0, hz0_1, hz0_2, hz1_0, hz1_1, hz1_2, hz2_0, hz2_1, hz2_2⟩ : w.heap.size < w'.heap.size ∧ w.heap.size < w'.heap.size + 1 ∧ w.heap.size < w'.heap.size + 1 + 1 ∧ w.heap.size + 1 < w'.heap.size ∧ w.heap.size + 1 < w'.heap.size + 1 ∧ w.heap.size + 1 < w'.heap.size + 1 + 1 ∧ w.heap.size + 1 + 1 < w'.heap.size ∧ w.heap.size + 1 + 1 < w'.heap.size + 1 ∧ w.heap.size + 1 + 1 < w'.heap.size + 1 + 1 := by { have := hB.size; (try simp at this); omega }))
              go_wp2_with fail
              refine bodyPost_ret (v := .tuple #[.agg #[.bool q.s, .int .i64 q.lo, .int .i64 q.hi], .bool zz]) (by simp [results, Try.results27, *, go_sem]) rfl ?_
              exact ⟨rfl, by go_grown; repeat (refine below_call ?_ (by assumption); go_grown)⟩
          · have j1 : decide (0 ≤ xl) = false := decide_eq_false (by omega)
            rw [if_pos (by omega)] at hq'
            rcases g2 with g2 | g2
            · have j2 : decide (xh ≤ 0) = true := decide_eq_true g2
              rw [if_neg (by omega)] at hq'
              clear g1 g2 x1 x2 x3 y1 y2 y3 m0 m1
              go_wp2_with fail
              go_region_held3 (fun w' => w'.cell? ⟨w.heap.size + 1, 0, none⟩ = some (.bool true) ∧ w'.cell? ⟨w.heap.size + 1, 1, none⟩ = some (.int .i64 yl) ∧ w'.cell? ⟨w.heap.size + 1, 2, none⟩ = some (.int .i64 yh)) ((refine ⟨?_, ?_, ?_⟩ <;> go_simp)) (first | (go_at_call 22; (with_reducible refine (rof_any lo 0 q (Lib.hid hq') _).mono ?_); rintro e w' ⟨rfl, hB⟩; obtain ⟨hc, hf, hs⟩ := bcell hB; clear hs; (try simp only [World.size_drew, World.size_alloc] at hc hf); obtain ⟨hz0_0, hz0_1, hz0_2, hz1_0, hz1_1, hz1_2, hz2_0, hz2_1, hz2_2⟩ : w.heap.size < w'.heap.size ∧ w.heap.size < w'.heap.size + 1 ∧ w.heap.size < w'.heap.size + 1 + 1 ∧ w.heap.size + 1 < w'.heap.size ∧ w.heap.size + 1 < w'.heap.size + 1 ∧ w.heap.size + 1 < w'.heap.size + 1 + 1 ∧ w.heap.size + 1 + 1 < w'.heap.size ∧ w.heap.size + 1 + 1 < w'.heap.size + 1 ∧ w.heap.size + 1 + 1 < w'.heap.size + 1 + 1 := by { have := hB.size; (try simp at this); omega }) | (go_at_call 16; (with_reducible refine (rhas_any ⟨true, yl, yh⟩ 0 zz hz0 _).mono ?_); rintro e w' ⟨rfl, hB⟩; obtain ⟨hc, hf, hs⟩ := bcell hB; clear hs; (try simp only [World.size_drew, World.size_alloc] at hc hf); obtain ⟨hz0_0, hz0_1, hz0_2, hz1_0, hz1_1, hz1_2, hz2_0, hz2_1, hz2_2⟩ : w.heap.size < w'.heap.size ∧ w.heap.size < w'.heap.size + 1 ∧ w.heap.size < w'.heap.size + 1 + 1 ∧ w.heap.size + 1 < w'.heap.size ∧ w.heap.size + 1 < w'.heap.size + 1 ∧ w.heap.size + 1 < w'.heap.size + 1 + 1 ∧ w.heap.size + 1 + 1 < w'.heap.size ∧ w.heap.size + 1 + 1 < w'.heap.size + 1 ∧ w.heap.size + 1 + 1 < w'.heap.size + 1 + 1 := by { have := hB.size; (try simp at this); omega }))
              go_wp2_with fail
              refine bodyPost_ret (v := .tuple #[.agg #[.bool q.s, .int .i64 q.lo, .int .i64 q.hi], .bool zz]) (by simp [results, Try.results27, *, go_sem]) rfl ?_
              exact ⟨rfl, by go_grown; repeat (refine below_call ?_ (by assumption); go_grown)⟩
            · have j2 : decide (xh ≤ 0) = false := decide_eq_false (by omega)
              rw [if_pos (by omega)] at hq'
              clear g1 g2 x1 x2 x3 y1 y2 y3 m0 m1
              go_wp2_with fail
              go_region_held3 (fun w' => w'.cell? ⟨w.heap.size + 1, 0, none⟩ = some (.bool true) ∧ w'.cell? ⟨w.heap.size + 1, 1, none⟩ = some (.int .i64 yl) ∧ w'.cell? ⟨w.heap.size + 1, 2, none⟩ = some (.int .i64 yh)) ((refine ⟨?_, ?_, ?_⟩ <;> go_simp)) (first | (go_at_call 22; (with_reducible refine (rof_any lo hi q (Lib.hid hq') _).mono ?_); rintro e w' ⟨rfl, hB⟩; obtain ⟨hc, hf, hs⟩ := bcell hB; clear hs; (try simp only [World.size_drew, World.size_alloc] at hc hf); obtain ⟨hz0_0, hz0_1, hz0_2, hz1_0, hz1_1, hz1_2, hz2_0, hz2_1, hz2_2⟩ : w.heap.size < w'.heap.size ∧ w.heap.size < w'.heap.size + 1 ∧ w.heap.size < w'.heap.size + 1 + 1 ∧ w.heap.size + 1 < w'.heap.size ∧ w.heap.size + 1 < w'.heap.size + 1 ∧ w.heap.size + 1 < w'.heap.size + 1 + 1 ∧ w.heap.size + 1 + 1 < w'.heap.size ∧ w.heap.size + 1 + 1 < w'.heap.size + 1 ∧ w.heap.size + 1 + 1 < w'.heap.size + 1 + 1 := by { have := hB.size; (try simp at this); omega }) | (go_at_call 16; (with_reducible refine (rhas_any ⟨true, yl, yh⟩ 0 zz hz0 _).mono ?_); rintro e w' ⟨rfl, hB⟩; obtain ⟨hc, hf, hs⟩ := bcell hB; clear hs; (try simp only [World.size_drew, World.size_alloc] at hc hf); obtain ⟨hz0_0, hz0_1, hz0_2, hz1_0, hz1_1, hz1_2, hz2_0, hz2_1, hz2_2⟩ : w.heap.size < w'.heap.size ∧ w.heap.size < w'.heap.size + 1 ∧ w.heap.size < w'.heap.size + 1 + 1 ∧ w.heap.size + 1 < w'.heap.size ∧ w.heap.size + 1 < w'.heap.size + 1 ∧ w.heap.size + 1 < w'.heap.size + 1 + 1 ∧ w.heap.size + 1 + 1 < w'.heap.size ∧ w.heap.size + 1 + 1 < w'.heap.size + 1 ∧ w.heap.size + 1 + 1 < w'.heap.size + 1 + 1 := by { have := hB.size; (try simp at this); omega }))
              go_wp2_with fail
              refine bodyPost_ret (v := .tuple #[.agg #[.bool q.s, .int .i64 q.lo, .int .i64 q.hi], .bool zz]) (by simp [results, Try.results27, *, go_sem]) rfl ?_
              exact ⟨rfl, by go_grown; repeat (refine below_call ?_ (by assumption); go_grown)⟩
end Go.Proofs.Ytfnodgpebheinaa.M
