/- Walks: in, holds, small, Leq, Neg. -/
import Derived.Test.YtfnodgpebheinaaM28
import Derived.Deep.DeepCutAuto
import Derived.Deep.CutBlock
import Derived.WalkSmall
import Derived.Deep.QuietTactic
import Derived.BigQuiet
namespace Go.Proofs.Ytfnodgpebheinaa.M
open Go Go.RowKit
set_option linter.unusedVariables false
set_option linter.unusedSimpArgs false
attribute [local simp, local go_sem] lt_a2 lt_a3 lt_a4 lt_a5 lt_a6 lt_a7 lt_a8
set_option maxHeartbeats 4000000
/-- A comparison of numbers. -/
def holdsB (k x y : Int) : Bool :=
  if k = 0 then x == y else if k = 1 then !(x == y) else if k = 2 then decide (x < y) else if k = 3 then decide (x ≤ y) else if k = 4 then decide (y < x) else decide (y ≤ x)
theorem holds_any (k x y : Int) (b : Bool) (hb : Hid (holdsB k x y = b)) (w : World) : Calls Try.prog 15 #[.int .i64 k, .int .i64 x, .int .i64 y] w fun e w' => e = .returned (.bool b) ∧ Below w.heap.size w w' := by
  obtain rfl := hb.out
  unfold holdsB
  by_cases k0 : k = 0
  · rw [if_pos k0]; have j0 : (k == 0) = true := beq_iff_eq.mpr k0
    clear k0 hb
    go_enter Try.func15, Try.ntmps15
    go_wp2
    go_returns
    exact ⟨by simp, by go_grown⟩
  have j0 : (k == 0) = false := beq_eq_false_iff_ne.mpr k0
  by_cases k1 : k = 1
  · rw [if_neg k0, if_pos k1]; have j1 : (k == 1) = true := beq_iff_eq.mpr k1
    clear k0 k1 hb
    go_enter Try.func15, Try.ntmps15
    go_wp2
    go_returns
    exact ⟨by simp [bne], by go_grown⟩
  have j1 : (k == 1) = false := beq_eq_false_iff_ne.mpr k1
  by_cases k2 : k = 2
  · rw [if_neg k0, if_neg k1, if_pos k2]; have j2 : (k == 2) = true := beq_iff_eq.mpr k2
    clear k0 k1 k2 hb
    go_enter Try.func15, Try.ntmps15
    go_wp2
    go_returns
    exact ⟨by simp, by go_grown⟩
  have j2 : (k == 2) = false := beq_eq_false_iff_ne.mpr k2
  by_cases k3 : k = 3
  · rw [if_neg k0, if_neg k1, if_neg k2, if_pos k3]; have j3 : (k == 3) = true := beq_iff_eq.mpr k3
    clear k0 k1 k2 k3 hb
    go_enter Try.func15, Try.ntmps15
    go_wp2
    go_returns
    exact ⟨by simp, by go_grown⟩
  have j3 : (k == 3) = false := beq_eq_false_iff_ne.mpr k3
  by_cases k4 : k = 4
  · rw [if_neg k0, if_neg k1, if_neg k2, if_neg k3, if_pos k4]; have j4 : (k == 4) = true := beq_iff_eq.mpr k4
    clear k0 k1 k2 k3 k4 hb
    go_enter Try.func15, Try.ntmps15
    go_wp2
    go_returns
    exact ⟨by simp, by go_grown⟩
  · rw [if_neg k0, if_neg k1, if_neg k2, if_neg k3, if_neg k4]; have j4 : (k == 4) = false := beq_eq_false_iff_ne.mpr k4
    clear k0 k1 k2 k3 k4 hb
    go_enter Try.func15, Try.ntmps15
    go_wp2
    go_returns
    exact ⟨by simp, by go_grown⟩
theorem in_any (x : Iv) (n : Int) (ox : Ok x) (hs : x.s = true) (h0 : 0 ≤ n) (h1 : n ≤ 18446744073709551615) (w : World) :
    Calls Try.prog 14 #[.agg #[.bool x.s, .int .i64 x.lo, .int .i64 x.hi], .int .u64 n] w fun e w' => ∃ z, Hid (x.lo ≤ z ∧ z ≤ x.hi) ∧ e = .returned (.int .i64 z) ∧ Below w.heap.size w w' := by
  have hu := Try.underlying23
  obtain ⟨s, lo, hi⟩ := x
  obtain rfl : s = true := hs
  obtain ⟨x1, x2, x3⟩ : -9223372036854775808 ≤ lo ∧ lo ≤ hi ∧ hi ≤ 9223372036854775807 := by
    rcases ox with h | ⟨_, h1, h2, h3⟩
    · cases h
    · exact ⟨h1, h2, h3⟩
  have e1 : IntKind.u64.wrap (IntKind.u64.wrap hi - IntKind.u64.wrap lo) = hi - lo := by simp only [IntKind.wrap_u64]; omega
  by_cases hw : hi - lo = 18446744073709551615
  · have j : (hi - lo == 18446744073709551615) = true := beq_iff_eq.mpr hw
    have hz : lo ≤ wrap64 n ∧ wrap64 n ≤ hi := by unfold wrap64; omega
    clear ox x1 x2 x3 hw h0 h1
    go_enter Try.func14, Try.ntmps14
    go_wp2_with fail
    go_returns
    exact ⟨wrap64 n, Lib.hid hz, by simp, by go_grown⟩
  · have j : (hi - lo == 18446744073709551615) = false := beq_eq_false_iff_ne.mpr hw
    have e2 : IntKind.u64.wrap (hi - lo + 1) = hi - lo + 1 := by simp only [IntKind.wrap_u64]; omega
    have j2 : (hi - lo + 1 == 0) = false := beq_eq_false_iff_ne.mpr (by omega)
    have j3 : hi - lo + 1 ≠ 0 := by omega
    obtain ⟨r, hr⟩ : ∃ r, Int.tmod n (hi - lo + 1) = r := ⟨_, rfl⟩
    have r0 : 0 ≤ r := by rw [← hr]; exact Int.tmod_nonneg _ h0
    have r1 : r < hi - lo + 1 := by rw [← hr]; exact Int.tmod_lt_of_pos _ (by omega)
    have e3 : IntKind.u64.wrap r = r := by simp only [IntKind.wrap_u64]; omega
    have e4 : wrap64 (IntKind.u64.wrap (IntKind.u64.wrap lo + r)) = lo + r := by simp only [IntKind.wrap_u64]; unfold wrap64; omega
    have hz : lo ≤ lo + r ∧ lo + r ≤ hi := by omega
    clear ox x1 x2 x3 hw h0 h1 r0 r1
    go_enter Try.func14, Try.ntmps14
    go_wp2_with fail
    first | go_quiet (fail) | go_region
    all_goals
      go_wp2_with fail
      go_returns
      exact ⟨lo + r, Lib.hid hz, by simp [e4], by first | (refine below_drewN ?_ _; go_grown; done) | (go_grown; done)⟩
/-- Is one interval within another? -/
def leqI (x y : Iv) : Bool := !x.s || (y.s && (decide (y.lo ≤ x.lo) && decide (x.hi ≤ y.hi)))
theorem leq_any (a b x y : Iv) (hx : Hid (nrm a = x)) (hy : Hid (nrm b = y)) (v : Bool) (hv : Hid (leqI x y = v)) (w : World) :
    Calls Try.prog 13 #[.agg #[.bool a.s, .int .i64 a.lo, .int .i64 a.hi], .agg #[.bool b.s, .int .i64 b.lo, .int .i64 b.hi]] w fun e w' => e = .returned (.bool v) ∧ Below w.heap.size w w' := by
  have hu := Try.underlying23
  obtain ⟨xs, xl, xh⟩ := x
  obtain ⟨ys, yl, yh⟩ := y
  go_enter Try.func13, Try.ntmps13
  go_upto_region 1 with (fail)
  go_cut [] (fun wc => Box wc w.heap.size ⟨xs, xl, xh⟩ ∧ Box wc (w.heap.size + 1) ⟨ys, yl, yh⟩ ∧ Below w.heap.size w wc)
  case first =>
    go_wp2
    go_region_with ((first | (go_at_call 11; (with_reducible refine (rnorm_any a.s a.lo a.hi ⟨xs, xl, xh⟩ hx _).mono ?_)) | (go_at_call 11; (with_reducible refine (rnorm_any b.s b.lo b.hi ⟨ys, yl, yh⟩ hy _).mono ?_))); rintro e w' ⟨rfl, hB⟩; obtain ⟨hc, hf, hs⟩ := bcell hB; clear hs; (try simp only [World.size_drew, World.size_alloc] at hc hf); obtain ⟨hz0_0, hz0_1, hz0_2, hz1_0, hz1_1, hz1_2⟩ : w.heap.size < w'.heap.size ∧ w.heap.size < w'.heap.size + 1 ∧ w.heap.size < w'.heap.size + 1 + 1 ∧ w.heap.size + 1 < w'.heap.size ∧ w.heap.size + 1 < w'.heap.size + 1 ∧ w.heap.size + 1 < w'.heap.size + 1 + 1 := by { have := hB.size; (try simp at this); omega })
    all_goals
      go_wp2
      go_meet
      case rel => exact ⟨⟨by go_simp, by go_simp, by go_simp, by go_simp, by go_simp, by go_simp⟩, ⟨by go_simp, by go_simp, by go_simp, by go_simp, by go_simp, by go_simp⟩, by go_grown; repeat (refine below_call ?_ (by assumption); go_grown)⟩
  case rest =>
    obtain ⟨b0, b1, hB0⟩ := hcut
    have l0 := b0.lt
    have l1 := b1.lt
    obtain ⟨a0, a1, a2, a3, a4, a5⟩ := b0
    obtain ⟨d0, d1, d2, d3, d4, d5⟩ := b1
    have hv' := hv.out
    unfold leqI at hv'
    cases xs
    · go_wp2_with fail
      go_returns
      exact ⟨by rw [← hv']; simp, by go_grown; repeat (refine below_call ?_ (by assumption); go_grown)⟩
    · cases ys
      · go_wp2_with fail
        go_returns
        exact ⟨by rw [← hv']; simp, by go_grown; repeat (refine below_call ?_ (by assumption); go_grown)⟩
      · have hd : decide (yl ≤ xl) = true ∨ decide (yl ≤ xl) = false := by cases decide (yl ≤ xl) <;> simp
        rcases hd with hd | hd
        · go_wp2_with fail
          go_returns
          exact ⟨by rw [← hv']; simp [hd], by go_grown; repeat (refine below_call ?_ (by assumption); go_grown)⟩
        · go_wp2_with fail
          go_returns
          exact ⟨by rw [← hv']; simp [hd], by go_grown; repeat (refine below_call ?_ (by assumption); go_grown)⟩
theorem arith_sub' (a b x y : Iv) (hx : Hid (nrm a = x)) (hy : Hid (nrm b = y)) (q : Iv) (hq : Hid (subI x y = q)) (w : World) : Calls Try.prog 20 #[.agg #[.bool a.s, .int .i64 a.lo, .int .i64 a.hi], .agg #[.bool b.s, .int .i64 b.lo, .int .i64 b.hi]] w (Ret (.agg #[.bool q.s, .int .i64 q.lo, .int .i64 q.hi]) w) := arith_sub a b x y hx hy q hq w
theorem arith_add' (a b x y : Iv) (hx : Hid (nrm a = x)) (hy : Hid (nrm b = y)) (q : Iv) (hq : Hid (addI x y = q)) (w : World) : Calls Try.prog 17 #[.agg #[.bool a.s, .int .i64 a.lo, .int .i64 a.hi], .agg #[.bool b.s, .int .i64 b.lo, .int .i64 b.hi]] w (Ret (.agg #[.bool q.s, .int .i64 q.lo, .int .i64 q.hi]) w) := arith_add a b x y hx hy q hq w
theorem neg_any (a q : Iv) (hq : Hid (subI ⟨true, 0, 0⟩ (nrm a) = q)) (w : World) :
    Calls Try.prog 21 #[.agg #[.bool a.s, .int .i64 a.lo, .int .i64 a.hi]] w (Ret (.agg #[.bool q.s, .int .i64 q.lo, .int .i64 q.hi]) w) := by
  have hu := Try.underlying23
  go_enter Try.func21, Try.ntmps21
  go_wp2_with fail
  go_region_held3 (fun w' => w'.cell? ⟨w.heap.size, 0, none⟩ = some (.bool a.s) ∧ w'.cell? ⟨w.heap.size, 1, none⟩ = some (.int .i64 a.lo) ∧ w'.cell? ⟨w.heap.size, 2, none⟩ = some (.int .i64 a.hi)) ((refine ⟨?_, ?_, ?_⟩ <;> go_simp)) (first | (go_at_call 43; (with_reducible refine (const_any 0 _).mono ?_); rintro e w' ⟨rfl, hB⟩; obtain ⟨hc, hf, hs⟩ := bcell hB; clear hs; (try simp only [World.size_drew, World.size_alloc] at hc hf); obtain ⟨hz0_0, hz0_1, hz0_2, hz1_0, hz1_1, hz1_2⟩ : w.heap.size < w'.heap.size ∧ w.heap.size < w'.heap.size + 1 ∧ w.heap.size < w'.heap.size + 1 + 1 ∧ w.heap.size + 1 < w'.heap.size ∧ w.heap.size + 1 < w'.heap.size + 1 ∧ w.heap.size + 1 < w'.heap.size + 1 + 1 := by { have := hB.size; (try simp at this); omega }) | (go_at_call 20; (with_reducible refine (arith_sub' ⟨true, 0, 0⟩ a ⟨true, 0, 0⟩ (nrm a) (Lib.hid (by decide)) (Lib.hid rfl) q hq _).mono ?_); rintro e w' ⟨rfl, hB⟩; obtain ⟨hc, hf, hs⟩ := bcell hB; clear hs; (try simp only [World.size_drew, World.size_alloc] at hc hf); obtain ⟨hz0_0, hz0_1, hz0_2, hz1_0, hz1_1, hz1_2⟩ : w.heap.size < w'.heap.size ∧ w.heap.size < w'.heap.size + 1 ∧ w.heap.size < w'.heap.size + 1 + 1 ∧ w.heap.size + 1 < w'.heap.size ∧ w.heap.size + 1 < w'.heap.size + 1 ∧ w.heap.size + 1 < w'.heap.size + 1 + 1 := by { have := hB.size; (try simp at this); omega }))
  go_wp2_with fail
  refine bodyPost_ret (v := .agg #[.bool q.s, .int .i64 q.lo, .int .i64 q.hi]) (by simp [results, Try.results21, *, go_sem]) rfl ?_
  exact ⟨rfl, by go_grown; repeat (refine below_call ?_ (by assumption); go_grown)⟩
def smallB (x : Iv) : Bool := decide (-4611686018427387904 < x.lo) && decide (x.hi < 4611686018427387904)
theorem small_any (x : Iv) (b : Bool) (hb : Hid (smallB x = b)) (w : World) : Calls Try.prog 19 #[.agg #[.bool x.s, .int .i64 x.lo, .int .i64 x.hi]] w fun e w' => e = .returned (.bool b) ∧ Below w.heap.size w w' := by
  have hu := Try.underlying23
  obtain rfl := hb.out
  unfold smallB
  obtain ⟨s, lo, hi⟩ := x
  have hd : decide (-4611686018427387904 < lo) = true ∨ decide (-4611686018427387904 < lo) = false := by cases decide (-4611686018427387904 < lo) <;> simp
  rcases hd with hd | hd
  · go_enter Try.func19, Try.ntmps19
    go_wp2_with fail
    go_returns
    exact ⟨by simp [hd], by go_grown⟩
  · go_enter Try.func19, Try.ntmps19
    go_wp2_with fail
    go_returns
    exact ⟨by simp [hd], by go_grown⟩
end Go.Proofs.Ytfnodgpebheinaa.M
