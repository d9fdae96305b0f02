/- Walks: the rests. -/
import Derived.Test.YtfnodgpebheinaaM28
import Derived.Deep.DeepCutAuto
import Derived.Deep.CutBlock
namespace Go.Proofs.Ytfnodgpebheinaa.M
open Go Go.RowKit
set_option linter.unusedVariables false
set_option linter.unusedSimpArgs false
attribute [local simp, local go_sem] lt_a2 lt_a3 lt_a4 lt_a5 lt_a6 lt_a7 lt_a8
set_option maxHeartbeats 4000000
attribute [local go_sem] maxi mini maxb minb maxd mind eqIv
/-- The rests: the interval, where both are some. -/
def modM (y : Iv) : Int := (if (y.lo.natAbs : Int) < y.hi.natAbs then (y.hi.natAbs : Int) else y.lo.natAbs) - 1
def modI (x y : Iv) : Iv :=
  if x.s = true ∧ y.s = true then (if y.lo = 0 ∧ y.hi = 0 then Iv.e else
    ofI (if x.lo < 0 then (if x.lo < -modM y then -modM y else x.lo) else 0) (if 0 < x.hi then (if modM y < x.hi then modM y else x.hi) else 0)) else Iv.e
def modZ (x y : Iv) : Bool := x.s && (y.s && hasI y 0)
theorem wrap_m {m : Int} (h1 : 0 ≤ m) (h2 : m ≤ 9223372036854775807) : IntKind.i64.wrap (IntKind.u64.wrap m) = m := by
  have e : IntKind.u64.wrap m = m := by simp only [IntKind.wrap, IntKind.signed, IntKind.bits]; simp; omega
  rw [e]; simp only [IntKind.wrap, IntKind.signed, IntKind.bits]; simp; omega
theorem wrap_neg {m : Int} (h1 : 0 ≤ m) (h2 : m ≤ 9223372036854775807) : wrap64 (-m) = -m := by unfold wrap64; omega
set_option maxRecDepth 100000 in
theorem arith_mod (a b x y : Iv) (hx : Hid (nrm a = x)) (hy : Hid (nrm b = y)) (ox : Ok x) (oy : Ok y) (q : Iv) (zz : Bool) (hq : Hid (modI x y = q)) (hzz : Hid (modZ x y = zz)) (w : World) :
    Calls Try.prog 25 #[.agg #[.bool a.s, .int .i64 a.lo, .int .i64 a.hi], .agg #[.bool b.s, .int .i64 b.lo, .int .i64 b.hi]] w (fun e w' => e = .returned (.tuple #[.agg #[.bool q.s, .int .i64 q.lo, .int .i64 q.hi], .bool zz]) ∧ Below w.heap.size w w') := by
  have hu := Try.underlying23
  obtain ⟨xs, xl, xh⟩ := x
  obtain ⟨ys, yl, yh⟩ := y
  go_enter Try.func25, Try.ntmps25
  go_upto_region 1 with (fail)
  go_cut [] (fun wc => Box wc w.heap.size ⟨xs, xl, xh⟩ ∧ Box wc (w.heap.size + 1) ⟨ys, yl, yh⟩ ∧ Box wc (w.heap.size + 1 + 1) Iv.e ∧ Below w.heap.size w wc)
  case first =>
    go_wp2
    go_region_with ((first | (go_at_call 31; (with_reducible refine (clean_any a.s a.lo a.hi ⟨xs, xl, xh⟩ hx _).mono ?_)) | (go_at_call 31; (with_reducible refine (clean_any b.s b.lo b.hi ⟨ys, yl, yh⟩ hy _).mono ?_))); rintro e w' ⟨rfl, hB⟩; obtain ⟨hc, hf, hs⟩ := bcell hB; clear hs; (try simp only [World.size_drew, World.size_alloc] at hc hf); obtain ⟨hz0_0, hz0_1, hz0_2, hz1_0, hz1_1, hz1_2, hz2_0, hz2_1, hz2_2⟩ : w.heap.size < w'.heap.size ∧ w.heap.size < w'.heap.size + 1 ∧ w.heap.size < w'.heap.size + 1 + 1 ∧ w.heap.size + 1 < w'.heap.size ∧ w.heap.size + 1 < w'.heap.size + 1 ∧ w.heap.size + 1 < w'.heap.size + 1 + 1 ∧ w.heap.size + 1 + 1 < w'.heap.size ∧ w.heap.size + 1 + 1 < w'.heap.size + 1 ∧ w.heap.size + 1 + 1 < w'.heap.size + 1 + 1 := by { have := hB.size; (try simp at this); omega })
    all_goals
      go_wp2
      go_meet
      case rel => exact ⟨⟨by go_simp, by go_simp, by go_simp, by go_simp, by go_simp, by go_simp⟩, ⟨by go_simp, by go_simp, by go_simp, by go_simp, by go_simp, by go_simp⟩, ⟨by go_simp, by go_simp, by go_simp, by go_simp, by go_simp, by go_simp⟩, by go_grown; repeat (refine below_call ?_ (by assumption); go_grown)⟩
  case rest =>
    obtain ⟨b0, b1, b2, hB0⟩ := hcut
    have l0 := b0.lt
    have l1 := b1.lt
    have l2 := b2.lt
    obtain ⟨a0, a1, a2, a3, a4, a5⟩ := b0
    obtain ⟨d0, d1, d2, d3, d4, d5⟩ := b1
    obtain ⟨e0, e1, e2, e3, e4, e5⟩ := b2
    by_cases hxy : ¬ (xs = true ∧ ys = true)
    · obtain rfl : Iv.e = q := by have z := hq.out; unfold modI at z; rw [if_neg hxy] at z; exact z
      obtain rfl : false = zz := by have z := hzz.out; unfold modZ at z; cases xs <;> cases ys <;> simp_all
      have hxy' : xs = false ∨ xs = true ∧ ys = false := by
        cases xs <;> cases ys <;> simp_all
      clear hq hzz
      rcases hxy' with rfl | ⟨rfl, rfl⟩
      · clear hxy
        go_wp2_with fail
        refine bodyPost_ret (v := .tuple #[.agg #[.bool false, .int .i64 0, .int .i64 0], .bool false]) (by simp [results, Try.results25, *, go_sem]) rfl ?_
        exact ⟨rfl, by go_grown; repeat (refine below_call ?_ (by assumption); go_grown)⟩
      · clear hxy
        go_wp2_with fail
        refine bodyPost_ret (v := .tuple #[.agg #[.bool false, .int .i64 0, .int .i64 0], .bool false]) (by simp [results, Try.results25, *, go_sem]) rfl ?_
        exact ⟨rfl, by go_grown; repeat (refine below_call ?_ (by assumption); go_grown)⟩
    obtain ⟨rfl, rfl⟩ := Classical.not_not.1 hxy
    clear hxy
    obtain ⟨x1, x2, x3⟩ : -9223372036854775808 ≤ xl ∧ xl ≤ xh ∧ xh ≤ 9223372036854775807 := by
      rcases ox with h | ⟨_, h1, h2, h3⟩
      · cases h
      · exact ⟨h1, h2, h3⟩
    obtain ⟨y1, y2, y3⟩ : -9223372036854775808 ≤ yl ∧ yl ≤ yh ∧ yh ≤ 9223372036854775807 := by
      rcases oy with h | ⟨_, h1, h2, h3⟩
      · cases h
      · exact ⟨h1, h2, h3⟩
    have hz0 : Hid (hasI ⟨true, yl, yh⟩ 0 = zz) := by have z := hzz.out; simp only [modZ, Bool.true_and] at z; exact Lib.hid z
    have iy1 : inr yl = true := decide_eq_true ⟨y1, by omega⟩
    have iy2 : inr yh = true := decide_eq_true ⟨by omega, y3⟩
    have hq' := hq.out
    unfold modI at hq'
    rw [if_pos ⟨rfl, rfl⟩] at hq'
    clear hq hzz ox oy
    by_cases hyz : yl = 0 ∧ yh = 0
    · rw [if_pos hyz] at hq'
      obtain rfl := hq'
      obtain ⟨rfl, rfl⟩ := hyz
      clear x1 x2 x3 y1 y2 y3 iy1 iy2
      go_wp2_with (first | (go_at_call 44; (with_reducible refine (has_any ⟨true, 0, 0⟩ 0 zz hz0 _).mono ?_); rintro e w' ⟨rfl, hB⟩; obtain ⟨hc, hf, hs⟩ := bcell hB; clear hs; (try simp only [World.size_drew, World.size_alloc] at hc hf); obtain ⟨hz0_0, hz0_1, hz0_2, hz1_0, hz1_1, hz1_2, hz2_0, hz2_1, hz2_2⟩ : w.heap.size < w'.heap.size ∧ w.heap.size < w'.heap.size + 1 ∧ w.heap.size < w'.heap.size + 1 + 1 ∧ w.heap.size + 1 < w'.heap.size ∧ w.heap.size + 1 < w'.heap.size + 1 ∧ w.heap.size + 1 < w'.heap.size + 1 + 1 ∧ w.heap.size + 1 + 1 < w'.heap.size ∧ w.heap.size + 1 + 1 < w'.heap.size + 1 ∧ w.heap.size + 1 + 1 < w'.heap.size + 1 + 1 := by { have := hB.size; (try simp at this); omega }))
      go_region_with ((go_at_call 43; (with_reducible refine (const_any 0 _).mono ?_); rintro e w' ⟨rfl, hB⟩; obtain ⟨hc, hf, hs⟩ := bcell hB; clear hs; (try simp only [World.size_drew, World.size_alloc] at hc hf); obtain ⟨hz0_0, hz0_1, hz0_2, hz1_0, hz1_1, hz1_2, hz2_0, hz2_1, hz2_2⟩ : w.heap.size < w'.heap.size ∧ w.heap.size < w'.heap.size + 1 ∧ w.heap.size < w'.heap.size + 1 + 1 ∧ w.heap.size + 1 < w'.heap.size ∧ w.heap.size + 1 < w'.heap.size + 1 ∧ w.heap.size + 1 < w'.heap.size + 1 + 1 ∧ w.heap.size + 1 + 1 < w'.heap.size ∧ w.heap.size + 1 + 1 < w'.heap.size + 1 ∧ w.heap.size + 1 + 1 < w'.heap.size + 1 + 1 := by { have := hB.size; (try simp at this); omega }))
      all_goals
        go_wp2_with fail
        refine bodyPost_ret (v := .tuple #[.agg #[.bool false, .int .i64 0, .int .i64 0], .bool zz]) (by simp [results, Try.results25, *, go_sem]) rfl ?_
        exact ⟨rfl, by go_grown; repeat (refine below_call ?_ (by assumption); go_grown)⟩
    · rw [if_neg hyz] at hq'
      have e0 : (yl == 0) = false ∨ (yl == 0) = true ∧ (yh == 0) = false := by
        by_cases h : yl = 0
        · exact .inr ⟨beq_iff_eq.mpr h, beq_eq_false_iff_ne.mpr (fun k => hyz ⟨h, k⟩)⟩
        · exact .inl (beq_eq_false_iff_ne.mpr h)
      obtain ⟨m, hm⟩ : ∃ m, modM ⟨true, yl, yh⟩ = m := ⟨_, rfl⟩
      rw [hm] at hq'
      have hm' := hm
      unfold modM at hm'
      dsimp only at hm' hq'
      have m0 : 0 ≤ m := by rw [← hm']; split <;> omega
      have m1 : m ≤ 9223372036854775807 := by rw [← hm']; split <;> omega
      clear hyz
      go_upto_region 5 with (first | (go_at_call 44; (with_reducible refine (has_any ⟨true, yl, yh⟩ 0 zz hz0 _).mono ?_); rintro e w' ⟨rfl, hB⟩; obtain ⟨hc, hf, hs⟩ := bcell hB; clear hs; (try simp only [World.size_drew, World.size_alloc] at hc hf); obtain ⟨hz0_0, hz0_1, hz0_2, hz1_0, hz1_1, hz1_2, hz2_0, hz2_1, hz2_2⟩ : w.heap.size < w'.heap.size ∧ w.heap.size < w'.heap.size + 1 ∧ w.heap.size < w'.heap.size + 1 + 1 ∧ w.heap.size + 1 < w'.heap.size ∧ w.heap.size + 1 < w'.heap.size + 1 ∧ w.heap.size + 1 < w'.heap.size + 1 + 1 ∧ w.heap.size + 1 + 1 < w'.heap.size ∧ w.heap.size + 1 + 1 < w'.heap.size + 1 ∧ w.heap.size + 1 + 1 < w'.heap.size + 1 + 1 := by { have := hB.size; (try simp at this); omega }))
      go_cut [27] (fun v wd => v = .bool false ∧ Box wd w.heap.size ⟨true, xl, xh⟩ ∧ Box wd (w.heap.size + 1) ⟨true, yl, yh⟩ ∧ Box wd (w.heap.size + 1 + 1) Iv.e ∧ Below w.heap.size w wd)
      case first =>
        rcases e0 with e0 | ⟨e0, e1'⟩
        all_goals
          go_wp2
          go_region_with ((go_at_call 43; (with_reducible refine (const_any 0 _).mono ?_); rintro e w' ⟨rfl, hB⟩; obtain ⟨hc, hf, hs⟩ := bcell hB; clear hs; (try simp only [World.size_drew, World.size_alloc] at hc hf); obtain ⟨hz0_0, hz0_1, hz0_2, hz1_0, hz1_1, hz1_2, hz2_0, hz2_1, hz2_2⟩ : w.heap.size < w'.heap.size ∧ w.heap.size < w'.heap.size + 1 ∧ w.heap.size < w'.heap.size + 1 + 1 ∧ w.heap.size + 1 < w'.heap.size ∧ w.heap.size + 1 < w'.heap.size + 1 ∧ w.heap.size + 1 < w'.heap.size + 1 + 1 ∧ w.heap.size + 1 + 1 < w'.heap.size ∧ w.heap.size + 1 + 1 < w'.heap.size + 1 ∧ w.heap.size + 1 + 1 < w'.heap.size + 1 + 1 := by { have := hB.size; (try simp at this); omega }))
          all_goals
            go_wp2
            go_meet
            case rel => exact ⟨rfl, ⟨by go_simp, by go_simp, by go_simp, by go_simp, by go_simp, by go_simp⟩, ⟨by go_simp, by go_simp, by go_simp, by go_simp, by go_simp, by go_simp⟩, ⟨by go_simp, by go_simp, by go_simp, by go_simp, by go_simp, by go_simp⟩, by go_grown; repeat (refine below_call ?_ (by assumption); go_grown)⟩
      case rest =>
        clear e0 e1 e2 e3 e4 e5 a0 a1 a2 a3 a4 a5 d0 d1 d2 d3 d4 d5 l0 l1 l2 hB0
        obtain ⟨rfl, b0, b1, b2, hB0⟩ := hcut
        have l0 := b0.lt
        have l1 := b1.lt
        have l2 := b2.lt
        obtain ⟨a0, a1, a2, a3, a4, a5⟩ := b0
        obtain ⟨d0, d1, d2, d3, d4, d5⟩ := b1
        obtain ⟨e0, e1, e2, e3, e4, e5⟩ := b2
        go_upto_region 7 with (fail)
        go_cut [7] (fun v wd => v = .int .i64 m ∧ Box wd w.heap.size ⟨true, xl, xh⟩ ∧ Box wd (w.heap.size + 1) ⟨true, yl, yh⟩ ∧ Box wd (w.heap.size + 1 + 1) Iv.e ∧ Below w.heap.size w wd)
        case first =>
          go_wp2
          go_region_held3 (fun w' => w'.cell? ⟨w.heap.size + 1, 0, none⟩ = some (.bool true) ∧ w'.cell? ⟨w.heap.size + 1, 1, none⟩ = some (.int .i64 yl) ∧ w'.cell? ⟨w.heap.size + 1, 2, none⟩ = some (.int .i64 yh)) ((refine ⟨?_, ?_, ?_⟩ <;> go_simp)) (first | (go_at_call 48; (with_reducible refine (size_any yl iy1 _ (Lib.hid rfl) _).mono ?_); rintro e w' ⟨rfl, rfl⟩) | (go_at_call 48; (with_reducible refine (size_any yh iy2 _ (Lib.hid rfl) _).mono ?_); rintro e w' ⟨rfl, rfl⟩))
          all_goals
            go_wp2
          all_goals
            go_meet
            case rel =>
              refine ⟨?_, ⟨by go_simp, by go_simp, by go_simp, by go_simp, by go_simp, by go_simp⟩, ⟨by go_simp, by go_simp, by go_simp, by go_simp, by go_simp, by go_simp⟩, ⟨by go_simp, by go_simp, by go_simp, by go_simp, by go_simp, by go_simp⟩, by go_grown; repeat (refine below_call ?_ (by assumption); go_grown)⟩
              refine congrArg (Value.int IntKind.i64) ?_
              first
                | (have k : ((yh.natAbs : Int) - 1) = m := by (rw [← hm']; split <;> omega)
                   rw [k]; exact wrap_m m0 m1)
                | (have k : ((yl.natAbs : Int) - 1) = m := by (rw [← hm']; split <;> omega)
                   rw [k]; exact wrap_m m0 m1)
        case rest =>
          clear e0 e1 e2 e3 e4 e5 a0 a1 a2 a3 a4 a5 d0 d1 d2 d3 d4 d5 l0 l1 l2 hB0
          obtain ⟨rfl, b0, b1, b2, hB0⟩ := hcut
          have l0 := b0.lt
          have l1 := b1.lt
          have l2 := b2.lt
          obtain ⟨a0, a1, a2, a3, a4, a5⟩ := b0
          obtain ⟨d0, d1, d2, d3, d4, d5⟩ := b1
          obtain ⟨e0, e1, e2, e3, e4, e5⟩ := b2
          have wn : wrap64 (-m) = -m := wrap_neg m0 m1
          clear iy1 iy2 hm hm'
          go_wp2_with (first | (go_at_call 36; (with_reducible refine (of_any _ _ q ?_ _).mono ?_); (focus (refine Lib.hid ?_; rw [← hq']; refine congr (congrArg ofI ?_) ?_ <;> ((repeat' split) <;> omega))); rintro e w' ⟨rfl, hB⟩; obtain ⟨hc, hf, hs⟩ := bcell hB; clear hs; (try simp only [World.size_drew, World.size_alloc] at hc hf); obtain ⟨hz0_0, hz0_1, hz0_2, hz1_0, hz1_1, hz1_2, hz2_0, hz2_1, hz2_2⟩ : w.heap.size < w'.heap.size ∧ w.heap.size < w'.heap.size + 1 ∧ w.heap.size < w'.heap.size + 1 + 1 ∧ w.heap.size + 1 < w'.heap.size ∧ w.heap.size + 1 < w'.heap.size + 1 ∧ w.heap.size + 1 < w'.heap.size + 1 + 1 ∧ w.heap.size + 1 + 1 < w'.heap.size ∧ w.heap.size + 1 + 1 < w'.heap.size + 1 ∧ w.heap.size + 1 + 1 < w'.heap.size + 1 + 1 := by { have := hB.size; (try simp at this); omega }))
          all_goals
            refine bodyPost_ret (v := .tuple #[.agg #[.bool q.s, .int .i64 q.lo, .int .i64 q.hi], .bool zz]) (by simp [results, Try.results25, *, go_sem]) rfl ?_
            exact ⟨rfl, by go_grown; repeat (refine below_call ?_ (by assumption); go_grown)⟩
end Go.Proofs.Ytfnodgpebheinaa.M
