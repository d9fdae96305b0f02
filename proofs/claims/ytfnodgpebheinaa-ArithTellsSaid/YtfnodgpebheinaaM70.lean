/- Walks: the reference's sums and differences. -/
import Derived.Test.YtfnodgpebheinaaM30
import Derived.Test.YtfnodgpebheinaaM51
import Derived.Deep.DeepCutAuto
import Derived.Deep.CutBlock
namespace Go.Proofs.Ytfnodgpebheinaa.M
open Go Go.RowKit
set_option linter.unusedVariables false
set_option linter.unusedSimpArgs false
attribute [local simp, local go_sem] lt_a2 lt_a3 lt_a4 lt_a5 lt_a6 lt_a7 lt_a8
set_option maxHeartbeats 4000000
theorem radd_any_key (a b : Int) (ha2 : -9223372036854775808 ≤ a ∧ a ≤ 9223372036854775807) (hb2 : -9223372036854775808 ≤ b ∧ b ≤ 9223372036854775807) :
    (!((decide (0 < a) && decide (0 < b) && decide (wrap64 (a + b) < 0)) || (decide (a < 0) && decide (b < 0) && decide (0 ≤ wrap64 (a + b))))) = inr (a + b) := by
  rw [Bool.eq_iff_iff]
  simp only [Bool.not_eq_true', Bool.or_eq_false_iff, Bool.and_eq_false_iff, decide_eq_false_iff_not, inr_iff]
  unfold wrap64
  omega
theorem radd_any (a b n : Int) (f : Bool) (ha : inr a = true) (hb : inr b = true) (hn : Hid (wrap64 (a + b) = n)) (hf : Hid (inr (a + b) = f)) (w : World) : Calls Try.prog 55 #[.int .i64 a, .int .i64 b] w (Ret2 n f w) := by
  have key := (radd_any_key a b (of_decide_eq_true ha) (of_decide_eq_true hb)).trans hf.out
  obtain rfl := hn.out
  clear hf hn ha hb
  cases p1 : decide (0 < a) <;> cases p2 : decide (0 < b) <;> cases p3 : decide (wrap64 (a + b) < 0) <;> cases p4 : decide (a < 0) <;> cases p5 : decide (b < 0) <;> cases p6 : decide (0 ≤ wrap64 (a + b))
  all_goals
    first
    | (exfalso; clear key; simp only [decide_eq_true_eq, decide_eq_false_iff_not] at p1 p2 p3 p4 p5 p6; omega)
    | skip
  all_goals
    simp only [p1, p2, p3, p4, p5, p6] at key
    have K := Lib.hid key
    clear key
    go_enter Try.func55, Try.ntmps55
    go_wp2
    go_returns
    exact ⟨by rw [← K.out]; rfl, rfl⟩
theorem rsub_any_key (a b : Int) (ha2 : -9223372036854775808 ≤ a ∧ a ≤ 9223372036854775807) (hb2 : -9223372036854775808 ≤ b ∧ b ≤ 9223372036854775807) :
    (!((decide (0 ≤ a) && decide (b < 0) && decide (wrap64 (a - b) < 0)) || (decide (a < 0) && decide (0 < b) && decide (0 ≤ wrap64 (a - b))))) = inr (a - b) := by
  rw [Bool.eq_iff_iff]
  simp only [Bool.not_eq_true', Bool.or_eq_false_iff, Bool.and_eq_false_iff, decide_eq_false_iff_not, inr_iff]
  unfold wrap64
  omega
theorem rsub_any (a b n : Int) (f : Bool) (ha : inr a = true) (hb : inr b = true) (hn : Hid (wrap64 (a - b) = n)) (hf : Hid (inr (a - b) = f)) (w : World) : Calls Try.prog 56 #[.int .i64 a, .int .i64 b] w (Ret2 n f w) := by
  have key := (rsub_any_key a b (of_decide_eq_true ha) (of_decide_eq_true hb)).trans hf.out
  obtain rfl := hn.out
  clear hf hn ha hb
  cases p1 : decide (0 ≤ a) <;> cases p2 : decide (b < 0) <;> cases p3 : decide (wrap64 (a - b) < 0) <;> cases p4 : decide (a < 0) <;> cases p5 : decide (0 < b) <;> cases p6 : decide (0 ≤ wrap64 (a - b))
  all_goals
    first
    | (exfalso; clear key; simp only [decide_eq_true_eq, decide_eq_false_iff_not] at p1 p2 p3 p4 p5 p6; omega)
    | skip
  all_goals
    simp only [p1, p2, p3, p4, p5, p6] at key
    have K := Lib.hid key
    clear key
    go_enter Try.func56, Try.ntmps56
    go_wp2
    go_returns
    exact ⟨by rw [← K.out]; rfl, rfl⟩
theorem rtop_any (q : Iv) (hq : Hid (Iv.top = q)) (w : World) : Calls Try.prog 23 #[] w (Ret (.agg #[.bool q.s, .int .i64 q.lo, .int .i64 q.hi]) w) := by
  obtain rfl := hq.out
  have hu := Try.underlying23
  have e1 : ofI (-9223372036854775808) 9223372036854775807 = Iv.top := by decide
  go_enter Try.func23, Try.ntmps23
  go_wp2_with (go_at_call 22; (with_reducible refine (rof_any (-9223372036854775808) 9223372036854775807 Iv.top (Lib.hid e1) _).mono ?_); rintro e w' ⟨rfl, hB⟩; obtain ⟨hc, hf, hs⟩ := bcell hB; simp only [World.size_alloc] at hs)
  refine bodyPost_ret (v := .agg #[.bool Iv.top.s, .int .i64 Iv.top.lo, .int .i64 Iv.top.hi]) (by simp [results, Try.results23, hc, hs, go_sem]) rfl ?_
  exact ⟨rfl, by go_grown; refine below_call ?_ hB; go_grown⟩
end Go.Proofs.Ytfnodgpebheinaa.M
