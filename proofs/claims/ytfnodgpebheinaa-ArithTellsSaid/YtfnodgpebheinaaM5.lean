/- Walks: single numbers, whether a number is within, what lies above and below one. -/
import Derived.Test.YtfnodgpebheinaaM4
import Derived.Deep.DeepCutAuto
import Derived.Deep.CutBlock
namespace Go.Proofs.Ytfnodgpebheinaa.M
open Go Go.RowKit
set_option linter.unusedVariables false
set_option linter.unusedSimpArgs false
attribute [local simp, local go_sem] lt_a2 lt_a3 lt_a4 lt_a5 lt_a6 lt_a7 lt_a8
set_option maxHeartbeats 4000000
theorem const_any (n : Int) (w : World) : Calls Try.prog 43 #[.int .i64 n] w (Ret (.agg #[.bool true, .int .i64 n, .int .i64 n]) w) := by
  have hu := Try.underlying23
  have h' : decide (n < n) = false := by simp
  go_enter Try.func43, Try.ntmps43
  go_wp2
  go_returns
  exact ⟨rfl, by go_grown⟩
theorem top_any (w : World) : Calls Try.prog 41 #[] w (Ret (.agg #[.bool true, .int .i64 (-9223372036854775808), .int .i64 9223372036854775807]) w) := by
  have hu := Try.underlying23
  go_enter Try.func41, Try.ntmps41
  go_wp2
  go_returns
  exact ⟨rfl, by go_grown⟩
def hasI (x : Iv) (n : Int) : Bool := x.s && (decide (x.lo ≤ n) && decide (n ≤ x.hi))
theorem has_any (x : Iv) (n : Int) (b : Bool) (hb : Hid (hasI x n = b)) (w : World) : Calls Try.prog 44 #[.agg #[.bool x.s, .int .i64 x.lo, .int .i64 x.hi], .int .i64 n] w (Ret (.bool b) w) := by
  have hu := Try.underlying23
  obtain ⟨s, lo, hi⟩ := x
  obtain rfl := hb.out
  cases s
  · go_enter Try.func44, Try.ntmps44
    go_wp2
    go_returns
    exact ⟨rfl, by go_grown⟩
  · by_cases h : lo ≤ n
    · have h1 : decide (lo ≤ n) = true := decide_eq_true h
      have e : hasI ⟨true, lo, hi⟩ n = decide (n ≤ hi) := by simp [hasI, h]
      rw [e]
      clear h e
      go_enter Try.func44, Try.ntmps44
      go_wp2
      all_goals
        go_returns
        exact ⟨by simp [*], by go_grown⟩
    · have h1 : decide (lo ≤ n) = false := decide_eq_false h
      have e : hasI ⟨true, lo, hi⟩ n = false := by simp [hasI, h]
      rw [e]
      clear h e
      go_enter Try.func44, Try.ntmps44
      go_wp2
      go_returns
      exact ⟨rfl, by go_grown⟩
theorem rhas_any (x : Iv) (n : Int) (b : Bool) (hb : Hid (hasI x n = b)) (w : World) : Calls Try.prog 16 #[.agg #[.bool x.s, .int .i64 x.lo, .int .i64 x.hi], .int .i64 n] w (Ret (.bool b) w) := by
  have hu := Try.underlying23
  obtain ⟨s, lo, hi⟩ := x
  obtain rfl := hb.out
  cases s
  · go_enter Try.func16, Try.ntmps16
    go_wp2
    go_returns
    exact ⟨rfl, by go_grown⟩
  · by_cases h : lo ≤ n
    · have h1 : decide (lo ≤ n) = true := decide_eq_true h
      have e : hasI ⟨true, lo, hi⟩ n = decide (n ≤ hi) := by simp [hasI, h]
      rw [e]
      clear h e
      go_enter Try.func16, Try.ntmps16
      go_wp2
      all_goals
        go_returns
        exact ⟨by simp [*], by go_grown⟩
    · have h1 : decide (lo ≤ n) = false := decide_eq_false h
      have e : hasI ⟨true, lo, hi⟩ n = false := by simp [hasI, h]
      rw [e]
      clear h e
      go_enter Try.func16, Try.ntmps16
      go_wp2
      go_returns
      exact ⟨rfl, by go_grown⟩
theorem below_any (n : Int) (q : Iv) (hq : Hid (belowI n = q)) (w : World) : Calls Try.prog 34 #[.int .i64 n] w (Ret (.agg #[.bool q.s, .int .i64 q.lo, .int .i64 q.hi]) w) := by
  have hu := Try.underlying23
  by_cases h : n = (-9223372036854775808)
  · obtain rfl := hq.out
    subst h
    have e : belowI (-9223372036854775808) = Iv.e := by unfold belowI; rw [if_pos rfl]
    rw [e]
    clear e hq
    go_enter Try.func34, Try.ntmps34
    go_wp2
    go_returns
    exact ⟨rfl, by go_grown⟩
  · have h1 : (n == (-9223372036854775808)) = false := beq_eq_false_iff_ne.mpr h
    have h2 : Hid (ofI (-9223372036854775808) (wrap64 (n - 1)) = q) := by have z := hq.out; unfold belowI at z; rw [if_neg h] at z; exact z
    clear h hq
    go_enter Try.func34, Try.ntmps34
    go_wp2_with ((go_at_call 36; (with_reducible refine (of_any _ _ q h2 _).mono ?_); rintro e w' ⟨rfl, hB⟩; obtain ⟨hc, hf, hs⟩ := bcell hB; clear hs; obtain ⟨hz0_0, hz0_1, hz0_2⟩ : w.heap.size < w'.heap.size ∧ w.heap.size < w'.heap.size + 1 ∧ w.heap.size < w'.heap.size + 1 + 1 := by { have := hB.size; (try simp at this); omega }))
    refine bodyPost_ret (v := .agg #[.bool q.s, .int .i64 q.lo, .int .i64 q.hi]) (by simp [results, Try.results34, *, go_sem]) rfl ?_
    exact ⟨rfl, by go_grown; repeat (refine below_call ?_ (by assumption); go_grown)⟩
theorem above_any (n : Int) (q : Iv) (hq : Hid (aboveI n = q)) (w : World) : Calls Try.prog 35 #[.int .i64 n] w (Ret (.agg #[.bool q.s, .int .i64 q.lo, .int .i64 q.hi]) w) := by
  have hu := Try.underlying23
  by_cases h : n = 9223372036854775807
  · obtain rfl := hq.out
    subst h
    have e : aboveI 9223372036854775807 = Iv.e := by unfold aboveI; rw [if_pos rfl]
    rw [e]
    clear e hq
    go_enter Try.func35, Try.ntmps35
    go_wp2
    go_returns
    exact ⟨rfl, by go_grown⟩
  · have h1 : (n == 9223372036854775807) = false := beq_eq_false_iff_ne.mpr h
    have h2 : Hid (ofI (wrap64 (n + 1)) 9223372036854775807 = q) := by have z := hq.out; unfold aboveI at z; rw [if_neg h] at z; exact z
    clear h hq
    go_enter Try.func35, Try.ntmps35
    go_wp2_with ((go_at_call 36; (with_reducible refine (of_any _ _ q h2 _).mono ?_); rintro e w' ⟨rfl, hB⟩; obtain ⟨hc, hf, hs⟩ := bcell hB; clear hs; obtain ⟨hz0_0, hz0_1, hz0_2⟩ : w.heap.size < w'.heap.size ∧ w.heap.size < w'.heap.size + 1 ∧ w.heap.size < w'.heap.size + 1 + 1 := by { have := hB.size; (try simp at this); omega }))
    refine bodyPost_ret (v := .agg #[.bool q.s, .int .i64 q.lo, .int .i64 q.hi]) (by simp [results, Try.results35, *, go_sem]) rfl ?_
    exact ⟨rfl, by go_grown; repeat (refine below_call ?_ (by assumption); go_grown)⟩
theorem without_any (al ah : Int) (b q : Iv) (ha : Ok ⟨true, al, ah⟩) (hq : Hid (withI ⟨true, al, ah⟩ b = q)) (w : World) : Calls Try.prog 33 #[.agg #[.bool true, .int .i64 al, .int .i64 ah], .agg #[.bool b.s, .int .i64 b.lo, .int .i64 b.hi]] w (Ret (.agg #[.bool q.s, .int .i64 q.lo, .int .i64 q.hi]) w) := by
  have hu := Try.underlying23
  by_cases h1 : b.lo = b.hi
  · have k1 : (b.lo == b.hi) = true := beq_iff_eq.mpr h1
    have k1' : (b.lo != b.hi) = false := by rw [bne, k1]; rfl
    obtain ⟨r1, r2⟩ : (-9223372036854775808 ≤ al ∧ al ≤ 9223372036854775807) ∧ (-9223372036854775808 ≤ ah ∧ ah ≤ 9223372036854775807) := by
      rcases ha with h | h
      · cases h
      · simp only at h; omega
    by_cases h2 : al = b.lo
    · have k2 : (al == b.lo) = true := beq_iff_eq.mpr h2
      obtain ⟨m, hm⟩ : ∃ m, aboveI al = m := ⟨_, rfl⟩
      have hmo : Ok m := hm ▸ aboveI_ok r1.1 r1.2
      have hq2 : meetI ⟨true, al, ah⟩ m = q := by have z := hq.out; unfold withI at z; rw [if_pos h1, if_pos h2] at z; simp only [hm] at z; exact z
      have HM := Lib.hid hm
      have HQ := Lib.hid hq2
      clear hm hq2 hq h1 h2 r1 r2
      go_enter Try.func33, Try.ntmps33
      go_wp2_with fail
      go_region_held3 (fun w' => w'.cell? ⟨w.heap.size, 0, none⟩ = some (.bool true) ∧ w'.cell? ⟨w.heap.size, 1, none⟩ = some (.int .i64 al) ∧ w'.cell? ⟨w.heap.size, 2, none⟩ = some (.int .i64 ah)) (first | go_keep | (refine ⟨?_, ?_, ?_⟩ <;> go_simp)) (first | (go_at_call 35; (with_reducible refine (above_any _ m HM _).mono ?_); rintro e w' ⟨rfl, hB⟩; obtain ⟨hc, hf, hs⟩ := bcell hB; clear hs; obtain ⟨hz0_0, hz0_1, hz0_2, hz1_0, hz1_1, hz1_2, hz2_0, hz2_1, hz2_2⟩ : w.heap.size < w'.heap.size ∧ w.heap.size < w'.heap.size + 1 ∧ w.heap.size < w'.heap.size + 1 + 1 ∧ w.heap.size + 1 < w'.heap.size ∧ w.heap.size + 1 < w'.heap.size + 1 ∧ w.heap.size + 1 < w'.heap.size + 1 + 1 ∧ w.heap.size + 1 + 1 < w'.heap.size ∧ w.heap.size + 1 + 1 < w'.heap.size + 1 ∧ w.heap.size + 1 + 1 < w'.heap.size + 1 + 1 := by { have := hB.size; (try simp at this); omega }) | (go_at_call 32; refine (meet_any _ ⟨true, al, ah⟩ m q ha hmo HQ.out _ ?_ ?_ ?_ ?_ ?_ ?_).mono ?_; (focus go_simp); (focus go_simp); (focus go_simp); (focus go_simp); (focus go_simp); (focus go_simp); rintro e w' ⟨rfl, hB⟩; obtain ⟨hc, hf, hs⟩ := bcell hB; clear hs; obtain ⟨hz0_0, hz0_1, hz0_2, hz1_0, hz1_1, hz1_2, hz2_0, hz2_1, hz2_2⟩ : w.heap.size < w'.heap.size ∧ w.heap.size < w'.heap.size + 1 ∧ w.heap.size < w'.heap.size + 1 + 1 ∧ w.heap.size + 1 < w'.heap.size ∧ w.heap.size + 1 < w'.heap.size + 1 ∧ w.heap.size + 1 < w'.heap.size + 1 + 1 ∧ w.heap.size + 1 + 1 < w'.heap.size ∧ w.heap.size + 1 + 1 < w'.heap.size + 1 ∧ w.heap.size + 1 + 1 < w'.heap.size + 1 + 1 := by { have := hB.size; (try simp at this); omega }))
      go_wp2_with fail
      refine bodyPost_ret (v := .agg #[.bool q.s, .int .i64 q.lo, .int .i64 q.hi]) (by simp [results, Try.results33, *, go_sem]) rfl ?_
      exact ⟨rfl, by go_grown; repeat (refine below_call ?_ (by assumption); go_grown)⟩
    · have k2 : (al == b.lo) = false := beq_eq_false_iff_ne.mpr h2
      by_cases h3 : ah = b.lo
      · have k3 : (ah == b.lo) = true := beq_iff_eq.mpr h3
        obtain ⟨m, hm⟩ : ∃ m, belowI ah = m := ⟨_, rfl⟩
        have hmo : Ok m := hm ▸ belowI_ok r2.1 r2.2
        have hq2 : meetI ⟨true, al, ah⟩ m = q := by have z := hq.out; unfold withI at z; rw [if_pos h1, if_neg h2, if_pos h3] at z; simp only [hm] at z; exact z
        have HM := Lib.hid hm
        have HQ := Lib.hid hq2
        clear hm hq2 hq h1 h2 h3 r1 r2
        go_enter Try.func33, Try.ntmps33
        go_wp2_with fail
        go_region_held3 (fun w' => w'.cell? ⟨w.heap.size, 0, none⟩ = some (.bool true) ∧ w'.cell? ⟨w.heap.size, 1, none⟩ = some (.int .i64 al) ∧ w'.cell? ⟨w.heap.size, 2, none⟩ = some (.int .i64 ah)) (first | go_keep | (refine ⟨?_, ?_, ?_⟩ <;> go_simp)) (first | (go_at_call 34; (with_reducible refine (below_any _ m HM _).mono ?_); rintro e w' ⟨rfl, hB⟩; obtain ⟨hc, hf, hs⟩ := bcell hB; clear hs; obtain ⟨hz0_0, hz0_1, hz0_2, hz1_0, hz1_1, hz1_2, hz2_0, hz2_1, hz2_2⟩ : w.heap.size < w'.heap.size ∧ w.heap.size < w'.heap.size + 1 ∧ w.heap.size < w'.heap.size + 1 + 1 ∧ w.heap.size + 1 < w'.heap.size ∧ w.heap.size + 1 < w'.heap.size + 1 ∧ w.heap.size + 1 < w'.heap.size + 1 + 1 ∧ w.heap.size + 1 + 1 < w'.heap.size ∧ w.heap.size + 1 + 1 < w'.heap.size + 1 ∧ w.heap.size + 1 + 1 < w'.heap.size + 1 + 1 := by { have := hB.size; (try simp at this); omega }) | (go_at_call 32; refine (meet_any _ ⟨true, al, ah⟩ m q ha hmo HQ.out _ ?_ ?_ ?_ ?_ ?_ ?_).mono ?_; (focus go_simp); (focus go_simp); (focus go_simp); (focus go_simp); (focus go_simp); (focus go_simp); rintro e w' ⟨rfl, hB⟩; obtain ⟨hc, hf, hs⟩ := bcell hB; clear hs; obtain ⟨hz0_0, hz0_1, hz0_2, hz1_0, hz1_1, hz1_2, hz2_0, hz2_1, hz2_2⟩ : w.heap.size < w'.heap.size ∧ w.heap.size < w'.heap.size + 1 ∧ w.heap.size < w'.heap.size + 1 + 1 ∧ w.heap.size + 1 < w'.heap.size ∧ w.heap.size + 1 < w'.heap.size + 1 ∧ w.heap.size + 1 < w'.heap.size + 1 + 1 ∧ w.heap.size + 1 + 1 < w'.heap.size ∧ w.heap.size + 1 + 1 < w'.heap.size + 1 ∧ w.heap.size + 1 + 1 < w'.heap.size + 1 + 1 := by { have := hB.size; (try simp at this); omega }))
        go_wp2_with fail
        refine bodyPost_ret (v := .agg #[.bool q.s, .int .i64 q.lo, .int .i64 q.hi]) (by simp [results, Try.results33, *, go_sem]) rfl ?_
        exact ⟨rfl, by go_grown; repeat (refine below_call ?_ (by assumption); go_grown)⟩
      · have k3 : (ah == b.lo) = false := beq_eq_false_iff_ne.mpr h3
        have e : q = ⟨true, al, ah⟩ := by rw [← hq.out]; unfold withI; rw [if_pos h1, if_neg h2, if_neg h3]
        subst e
        clear hq h1 h2 h3 r1 r2
        go_enter Try.func33, Try.ntmps33
        go_wp2
        go_returns
        exact ⟨by simp [*], by go_grown⟩
  · have k1 : (b.lo != b.hi) = true := by rw [bne, beq_eq_false_iff_ne.mpr h1]; rfl
    have e : q = ⟨true, al, ah⟩ := by rw [← hq.out]; unfold withI; rw [if_neg h1]
    subst e
    clear hq h1
    go_enter Try.func33, Try.ntmps33
    go_wp2
    go_returns
    exact ⟨by simp [*], by go_grown⟩
theorem signs_any (b n p : Iv) (hb : Ok b) (hn : Hid (meetI b ⟨true, -9223372036854775808, -1⟩ = n)) (hp : Hid (meetI b ⟨true, 1, 9223372036854775807⟩ = p)) (w : World) :
    Calls Try.prog 45 #[.agg #[.bool b.s, .int .i64 b.lo, .int .i64 b.hi]] w fun e w' => ∃ g, Hid (w.heap.size ≤ g) ∧ e = .returned (.slice (some ⟨g, 0, none⟩) 2 2) ∧ Below w.heap.size w w' ∧ w'.cell? ⟨g, 0, none⟩ = some (.bool n.s) ∧ w'.cell? ⟨g, 1, none⟩ = some (.int .i64 n.lo) ∧ w'.cell? ⟨g, 2, none⟩ = some (.int .i64 n.hi) ∧ w'.cell? ⟨g, 3, none⟩ = some (.bool p.s) ∧ w'.cell? ⟨g, 4, none⟩ = some (.int .i64 p.lo) ∧ w'.cell? ⟨g, 5, none⟩ = some (.int .i64 p.hi) := by
  have hu := Try.underlying23
  have o1 : Ok ⟨true, -9223372036854775808, -1⟩ := .inr ⟨rfl, by decide, by decide, by decide⟩
  have o2 : Ok ⟨true, 1, 9223372036854775807⟩ := .inr ⟨rfl, by decide, by decide, by decide⟩
  go_enter Try.func45, Try.ntmps45
  go_wp2_with fail
  go_region_held3 (fun w' => w'.cell? ⟨w.heap.size, 0, none⟩ = some (.bool b.s) ∧ w'.cell? ⟨w.heap.size, 1, none⟩ = some (.int .i64 b.lo) ∧ w'.cell? ⟨w.heap.size, 2, none⟩ = some (.int .i64 b.hi)) (first | go_keep | (refine ⟨?_, ?_, ?_⟩ <;> go_simp)) (first | (go_at_call 36; (with_reducible refine (of_some (-9223372036854775808) (-1) (by decide) _).mono ?_); rintro e w' ⟨rfl, hB⟩; obtain ⟨hc, hf, hs⟩ := bcell hB; clear hs; obtain ⟨hz0_0, hz0_1, hz0_2⟩ : w.heap.size < w'.heap.size ∧ w.heap.size < w'.heap.size + 1 ∧ w.heap.size < w'.heap.size + 1 + 1 := by { have := hB.size; (try simp at this); omega }) | (go_at_call 36; (with_reducible refine (of_some 1 9223372036854775807 (by decide) _).mono ?_); rintro e w' ⟨rfl, hB⟩; obtain ⟨hc, hf, hs⟩ := bcell hB; clear hs; obtain ⟨hz0_0, hz0_1, hz0_2⟩ : w.heap.size < w'.heap.size ∧ w.heap.size < w'.heap.size + 1 ∧ w.heap.size < w'.heap.size + 1 + 1 := by { have := hB.size; (try simp at this); omega }) | (go_at_call 32; refine (meet_any _ b ⟨true, -9223372036854775808, -1⟩ n hb o1 hn.out _ ?_ ?_ ?_ ?_ ?_ ?_).mono ?_; (focus go_simp); (focus go_simp); (focus go_simp); (focus go_simp); (focus go_simp); (focus go_simp); rintro e w' ⟨rfl, hB⟩; obtain ⟨hc, hf, hs⟩ := bcell hB; clear hs; obtain ⟨hz0_0, hz0_1, hz0_2⟩ : w.heap.size < w'.heap.size ∧ w.heap.size < w'.heap.size + 1 ∧ w.heap.size < w'.heap.size + 1 + 1 := by { have := hB.size; (try simp at this); omega }) | (go_at_call 32; refine (meet_any _ b ⟨true, 1, 9223372036854775807⟩ p hb o2 hp.out _ ?_ ?_ ?_ ?_ ?_ ?_).mono ?_; (focus go_simp); (focus go_simp); (focus go_simp); (focus go_simp); (focus go_simp); (focus go_simp); rintro e w' ⟨rfl, hB⟩; obtain ⟨hc, hf, hs⟩ := bcell hB; clear hs; obtain ⟨hz0_0, hz0_1, hz0_2⟩ : w.heap.size < w'.heap.size ∧ w.heap.size < w'.heap.size + 1 ∧ w.heap.size < w'.heap.size + 1 + 1 := by { have := hB.size; (try simp at this); omega }))
  go_wp2_with fail
  go_returns
  refine ⟨_, ?_, rfl, by go_grown; repeat (refine below_call ?_ (by assumption); go_grown), ?_⟩
  · refine Lib.hid ?_; first | omega | (simp; omega)
  · refine ⟨?_, ?_, ?_, ?_, ?_, ?_⟩ <;> go_simp
end Go.Proofs.Ytfnodgpebheinaa.M
