/- Walks: the reference's small functions. -/
import Derived.Test.YtfnodgpebheinaaM5
import Derived.Deep.DeepCutAuto
import Derived.Deep.CutBlock
namespace Go.Proofs.Ytfnodgpebheinaa.M
open Go Go.RowKit
set_option linter.unusedVariables false
set_option linter.unusedSimpArgs false
attribute [local simp, local go_sem] lt_a2 lt_a3 lt_a4 lt_a5 lt_a6 lt_a7 lt_a8
set_option maxHeartbeats 4000000
theorem rnorm_none (s : Bool) (lo hi : Int) (h : s = false ∨ hi < lo) (w : World) :
    Calls Try.prog 11 #[.agg #[.bool s, .int .i64 lo, .int .i64 hi]] w (Ret (.agg #[.bool false, .int .i64 0, .int .i64 0]) w) := by
  have hu := Try.underlying23
  cases s
  · go_enter Try.func11, Try.ntmps11
    go_wp2
    go_returns
    exact ⟨rfl, by go_grown⟩
  · have h' : decide (hi < lo) = true := by rcases h with h | h; cases h; simp; omega
    go_enter Try.func11, Try.ntmps11
    go_wp2
    go_returns
    exact ⟨rfl, by go_grown⟩
theorem rnorm_some (lo hi : Int) (h : lo ≤ hi) (w : World) :
    Calls Try.prog 11 #[.agg #[.bool true, .int .i64 lo, .int .i64 hi]] w (Ret (.agg #[.bool true, .int .i64 lo, .int .i64 hi]) w) := by
  have hu := Try.underlying23
  have h' : decide (hi < lo) = false := by simp; omega
  go_enter Try.func11, Try.ntmps11
  go_wp2
  go_returns
  exact ⟨rfl, by go_grown⟩
theorem rnorm_any (s : Bool) (lo hi : Int) (q : Iv) (hq : Hid (nrm ⟨s, lo, hi⟩ = q)) (w : World) :
    Calls Try.prog 11 #[.agg #[.bool s, .int .i64 lo, .int .i64 hi]] w (Ret (.agg #[.bool q.s, .int .i64 q.lo, .int .i64 q.hi]) w) := by
  obtain rfl := hq.out
  by_cases h : s = true ∧ lo ≤ hi
  · obtain ⟨rfl, h⟩ := h
    rw [nrm_some h]
    exact rnorm_some lo hi h w
  · have h' : s = false ∨ hi < lo := by
      cases s
      · exact .inl rfl
      · exact .inr (by have k : ¬ lo ≤ hi := fun k => h ⟨rfl, k⟩; omega)
    rw [nrm_none h']
    exact rnorm_none s lo hi h' w
theorem rof_any (lo hi : Int) (q : Iv) (hq : Hid (ofI lo hi = q)) (w : World) : Calls Try.prog 22 #[.int .i64 lo, .int .i64 hi] w (Ret (.agg #[.bool q.s, .int .i64 q.lo, .int .i64 q.hi]) w) := by
  obtain rfl := hq.out
  have hu := Try.underlying23
  by_cases h : lo ≤ hi
  · have h' : decide (hi < lo) = false := by simp; omega
    rw [ofI, nrm_some h]
    go_enter Try.func22, Try.ntmps22
    go_wp2
    go_returns
    exact ⟨rfl, by go_grown⟩
  · have h' : decide (hi < lo) = true := by simp; omega
    rw [ofI, nrm_none (.inr (by omega))]
    go_enter Try.func22, Try.ntmps22
    go_wp2
    go_returns
    exact ⟨rfl, by go_grown⟩
theorem upto_any (n : Int) (q : Iv) (hq : Hid (belowI n = q)) (w : World) : Calls Try.prog 53 #[.int .i64 n] w (Ret (.agg #[.bool q.s, .int .i64 q.lo, .int .i64 q.hi]) w) := by
  have hu := Try.underlying23
  by_cases h : n = (-9223372036854775808)
  · obtain rfl := hq.out
    subst h
    have e : belowI (-9223372036854775808) = Iv.e := by unfold belowI; rw [if_pos rfl]
    rw [e]
    clear e hq
    go_enter Try.func53, Try.ntmps53
    go_wp2
    go_returns
    exact ⟨rfl, by go_grown⟩
  · have h1 : (n == (-9223372036854775808)) = false := beq_eq_false_iff_ne.mpr h
    have h2 : Hid (ofI (-9223372036854775808) (wrap64 (n - 1)) = q) := by have z := hq.out; unfold belowI at z; rw [if_neg h] at z; exact z
    clear h hq
    go_enter Try.func53, Try.ntmps53
    go_wp2_with ((go_at_call 22; (with_reducible refine (rof_any _ _ q h2 _).mono ?_); rintro e w' ⟨rfl, hB⟩; obtain ⟨hc, hf, hs⟩ := bcell hB; clear hs; obtain ⟨hz0_0, hz0_1, hz0_2⟩ : w.heap.size < w'.heap.size ∧ w.heap.size < w'.heap.size + 1 ∧ w.heap.size < w'.heap.size + 1 + 1 := by { have := hB.size; (try simp at this); omega }))
    refine bodyPost_ret (v := .agg #[.bool q.s, .int .i64 q.lo, .int .i64 q.hi]) (by simp [results, Try.results53, *, go_sem]) rfl ?_
    exact ⟨rfl, by go_grown; repeat (refine below_call ?_ (by assumption); go_grown)⟩
theorem from_any (n : Int) (q : Iv) (hq : Hid (aboveI n = q)) (w : World) : Calls Try.prog 54 #[.int .i64 n] w (Ret (.agg #[.bool q.s, .int .i64 q.lo, .int .i64 q.hi]) w) := by
  have hu := Try.underlying23
  by_cases h : n = 9223372036854775807
  · obtain rfl := hq.out
    subst h
    have e : aboveI 9223372036854775807 = Iv.e := by unfold aboveI; rw [if_pos rfl]
    rw [e]
    clear e hq
    go_enter Try.func54, Try.ntmps54
    go_wp2
    go_returns
    exact ⟨rfl, by go_grown⟩
  · have h1 : (n == 9223372036854775807) = false := beq_eq_false_iff_ne.mpr h
    have h2 : Hid (ofI (wrap64 (n + 1)) 9223372036854775807 = q) := by have z := hq.out; unfold aboveI at z; rw [if_neg h] at z; exact z
    clear h hq
    go_enter Try.func54, Try.ntmps54
    go_wp2_with ((go_at_call 22; (with_reducible refine (rof_any _ _ q h2 _).mono ?_); rintro e w' ⟨rfl, hB⟩; obtain ⟨hc, hf, hs⟩ := bcell hB; clear hs; obtain ⟨hz0_0, hz0_1, hz0_2⟩ : w.heap.size < w'.heap.size ∧ w.heap.size < w'.heap.size + 1 ∧ w.heap.size < w'.heap.size + 1 + 1 := by { have := hB.size; (try simp at this); omega }))
    refine bodyPost_ret (v := .agg #[.bool q.s, .int .i64 q.lo, .int .i64 q.hi]) (by simp [results, Try.results54, *, go_sem]) rfl ?_
    exact ⟨rfl, by go_grown; repeat (refine below_call ?_ (by assumption); go_grown)⟩
/-- The reference's: without a number that is a bound. -/
def rwithI (al ah n : Int) : Iv := if al = n then (if ah = n then Iv.e else ofI (wrap64 (n + 1)) ah) else if ah = n then ofI al (wrap64 (n - 1)) else ⟨true, al, ah⟩
theorem rwithout_any (al ah n : Int) (q : Iv) (hq : Hid (rwithI al ah n = q)) (w : World) : Calls Try.prog 52 #[.agg #[.bool true, .int .i64 al, .int .i64 ah], .int .i64 n] w (Ret (.agg #[.bool q.s, .int .i64 q.lo, .int .i64 q.hi]) w) := by
  have hu := Try.underlying23
  by_cases h1 : al = n
  · have k1 : (al == n) = true := beq_iff_eq.mpr h1
    by_cases h2 : ah = n
    · have k2 : (ah == n) = true := beq_iff_eq.mpr h2
      obtain rfl := hq.out
      rw [show rwithI al ah n = Iv.e by unfold rwithI; rw [if_pos h1, if_pos h2]]
      clear hq h1 h2
      go_enter Try.func52, Try.ntmps52
      go_wp2_with fail
      go_returns
      exact ⟨rfl, by go_grown⟩
    · have k2 : (ah == n) = false := beq_eq_false_iff_ne.mpr h2
      have h3 : Hid (ofI (wrap64 (n + 1)) ah = q) := by have z := hq.out; unfold rwithI at z; rw [if_pos h1, if_neg h2] at z; exact z
      clear hq h1 h2
      go_enter Try.func52, Try.ntmps52
      go_wp2_with ((go_at_call 22; (with_reducible refine (rof_any _ _ q h3 _).mono ?_); rintro e w' ⟨rfl, hB⟩; obtain ⟨hc, hf, hs⟩ := bcell hB; clear hs; obtain ⟨hz0_0, hz0_1, hz0_2, hz1_0, hz1_1, hz1_2⟩ : w.heap.size < w'.heap.size ∧ w.heap.size < w'.heap.size + 1 ∧ w.heap.size < w'.heap.size + 1 + 1 ∧ w.heap.size + 1 < w'.heap.size ∧ w.heap.size + 1 < w'.heap.size + 1 ∧ w.heap.size + 1 < w'.heap.size + 1 + 1 := by { have := hB.size; (try simp at this); omega }))
      refine bodyPost_ret (v := .agg #[.bool q.s, .int .i64 q.lo, .int .i64 q.hi]) (by simp [results, Try.results52, *, go_sem]) rfl ?_
      exact ⟨rfl, by go_grown; repeat (refine below_call ?_ (by assumption); go_grown)⟩
  · have k1 : (al == n) = false := beq_eq_false_iff_ne.mpr h1
    by_cases h2 : ah = n
    · have k2 : (ah == n) = true := beq_iff_eq.mpr h2
      have h3 : Hid (ofI al (wrap64 (n - 1)) = q) := by have z := hq.out; unfold rwithI at z; rw [if_neg h1, if_pos h2] at z; exact z
      clear hq h1 h2
      go_enter Try.func52, Try.ntmps52
      go_wp2_with ((go_at_call 22; (with_reducible refine (rof_any _ _ q h3 _).mono ?_); rintro e w' ⟨rfl, hB⟩; obtain ⟨hc, hf, hs⟩ := bcell hB; clear hs; obtain ⟨hz0_0, hz0_1, hz0_2, hz1_0, hz1_1, hz1_2⟩ : w.heap.size < w'.heap.size ∧ w.heap.size < w'.heap.size + 1 ∧ w.heap.size < w'.heap.size + 1 + 1 ∧ w.heap.size + 1 < w'.heap.size ∧ w.heap.size + 1 < w'.heap.size + 1 ∧ w.heap.size + 1 < w'.heap.size + 1 + 1 := by { have := hB.size; (try simp at this); omega }))
      refine bodyPost_ret (v := .agg #[.bool q.s, .int .i64 q.lo, .int .i64 q.hi]) (by simp [results, Try.results52, *, go_sem]) rfl ?_
      exact ⟨rfl, by go_grown; repeat (refine below_call ?_ (by assumption); go_grown)⟩
    · have k2 : (ah == n) = false := beq_eq_false_iff_ne.mpr h2
      obtain rfl := hq.out
      rw [show rwithI al ah n = ⟨true, al, ah⟩ by unfold rwithI; rw [if_neg h1, if_neg h2]]
      clear hq h1 h2
      go_enter Try.func52, Try.ntmps52
      go_wp2_with fail
      go_returns
      exact ⟨rfl, by go_grown⟩
end Go.Proofs.Ytfnodgpebheinaa.M
