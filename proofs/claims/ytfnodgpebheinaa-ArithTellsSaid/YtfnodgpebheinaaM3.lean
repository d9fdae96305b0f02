/- Walks: joins and meets of two intervals, the program's and the reference's. -/
import Derived.Test.YtfnodgpebheinaaM1
import Derived.Deep.DeepCutAuto
import Derived.Deep.CutBlock
namespace Go.Proofs.Ytfnodgpebheinaa.M
open Go Go.RowKit
set_option linter.unusedVariables false
set_option linter.unusedSimpArgs false
attribute [local simp, local go_sem] lt_a2 lt_a3 lt_a4 lt_a5 lt_a6 lt_a7 lt_a8
set_option maxHeartbeats 4000000
theorem join_ee (g : Nat) (w : World) (h0 : w.cell? ⟨g, 0, none⟩ = some (.bool false)) (h1 : w.cell? ⟨g, 1, none⟩ = some (.int .i64 0)) (h2 : w.cell? ⟨g, 2, none⟩ = some (.int .i64 0)) (h3 : w.cell? ⟨g, 3, none⟩ = some (.bool false)) (h4 : w.cell? ⟨g, 4, none⟩ = some (.int .i64 0)) (h5 : w.cell? ⟨g, 5, none⟩ = some (.int .i64 0)) :
    Calls Try.prog 47 #[.slice (some ⟨g, 0, none⟩) 2 2] w (Ret (.agg #[.bool false, .int .i64 0, .int .i64 0]) w) := by
  have hu := Try.underlying23
  have hb0 : g < w.heap.size := World.block_lt_of_cell? w _ h0
  obtain ⟨hb1, hb2, hb3, hb4, hb5, hb6, hb7, hb8, hb9, hb10, hb11, hb12, hb13, hb14, hb15, hb16⟩ := lt16 hb0
  go_enter Try.func47, Try.ntmps47
  go_wp2
  refine wp_loop_rounds 3 ?_
  rw [rounds_succ]
  go_wp2
  rw [rounds_succ]
  go_wp2
  rw [rounds_succ]
  go_wp2
  go_returns
  exact ⟨rfl, by go_grown⟩
theorem join_es (g : Nat) (lo hi : Int) (h : lo ≤ hi) (w : World) (h0 : w.cell? ⟨g, 0, none⟩ = some (.bool false)) (h1 : w.cell? ⟨g, 1, none⟩ = some (.int .i64 0)) (h2 : w.cell? ⟨g, 2, none⟩ = some (.int .i64 0)) (h3 : w.cell? ⟨g, 3, none⟩ = some (.bool true)) (h4 : w.cell? ⟨g, 4, none⟩ = some (.int .i64 lo)) (h5 : w.cell? ⟨g, 5, none⟩ = some (.int .i64 hi)) :
    Calls Try.prog 47 #[.slice (some ⟨g, 0, none⟩) 2 2] w (Ret (.agg #[.bool true, .int .i64 lo, .int .i64 hi]) w) := by
  have hu := Try.underlying23
  have hb0 : g < w.heap.size := World.block_lt_of_cell? w _ h0
  obtain ⟨hb1, hb2, hb3, hb4, hb5, hb6, hb7, hb8, hb9, hb10, hb11, hb12, hb13, hb14, hb15, hb16⟩ := lt16 hb0
  have h' : decide (hi < lo) = false := by simp; omega
  go_enter Try.func47, Try.ntmps47
  go_wp2
  refine wp_loop_rounds 3 ?_
  rw [rounds_succ]
  go_wp2
  rw [rounds_succ]
  go_wp2
  rw [rounds_succ]
  go_wp2
  go_returns
  exact ⟨rfl, by go_grown⟩
theorem join_se (g : Nat) (lo hi : Int) (h : lo ≤ hi) (w : World) (h0 : w.cell? ⟨g, 0, none⟩ = some (.bool true)) (h1 : w.cell? ⟨g, 1, none⟩ = some (.int .i64 lo)) (h2 : w.cell? ⟨g, 2, none⟩ = some (.int .i64 hi)) (h3 : w.cell? ⟨g, 3, none⟩ = some (.bool false)) (h4 : w.cell? ⟨g, 4, none⟩ = some (.int .i64 0)) (h5 : w.cell? ⟨g, 5, none⟩ = some (.int .i64 0)) :
    Calls Try.prog 47 #[.slice (some ⟨g, 0, none⟩) 2 2] w (Ret (.agg #[.bool true, .int .i64 lo, .int .i64 hi]) w) := by
  have hu := Try.underlying23
  have hb0 : g < w.heap.size := World.block_lt_of_cell? w _ h0
  obtain ⟨hb1, hb2, hb3, hb4, hb5, hb6, hb7, hb8, hb9, hb10, hb11, hb12, hb13, hb14, hb15, hb16⟩ := lt16 hb0
  have h' : decide (hi < lo) = false := by simp; omega
  go_enter Try.func47, Try.ntmps47
  go_wp2
  refine wp_loop_rounds 3 ?_
  rw [rounds_succ]
  go_wp2
  rw [rounds_succ]
  go_wp2
  rw [rounds_succ]
  go_wp2
  go_returns
  exact ⟨rfl, by go_grown⟩
theorem join_ss (g : Nat) (lo hi yl yh L H : Int) (h : lo ≤ hi) (hy : yl ≤ yh) (hL : (if yl < lo then yl else lo) = L) (hH : (if hi < yh then yh else hi) = H) (w : World) (h0 : w.cell? ⟨g, 0, none⟩ = some (.bool true)) (h1 : w.cell? ⟨g, 1, none⟩ = some (.int .i64 lo)) (h2 : w.cell? ⟨g, 2, none⟩ = some (.int .i64 hi)) (h3 : w.cell? ⟨g, 3, none⟩ = some (.bool true)) (h4 : w.cell? ⟨g, 4, none⟩ = some (.int .i64 yl)) (h5 : w.cell? ⟨g, 5, none⟩ = some (.int .i64 yh)) :
    Calls Try.prog 47 #[.slice (some ⟨g, 0, none⟩) 2 2] w (Ret (.agg #[.bool true, .int .i64 L, .int .i64 H]) w) := by
  have hu := Try.underlying23
  have hb0 : g < w.heap.size := World.block_lt_of_cell? w _ h0
  obtain ⟨hb1, hb2, hb3, hb4, hb5, hb6, hb7, hb8, hb9, hb10, hb11, hb12, hb13, hb14, hb15, hb16⟩ := lt16 hb0
  have h' : decide (hi < lo) = false := by simp; omega
  have hy' : decide (yh < yl) = false := by simp; omega
  clear hy h
  go_enter Try.func47, Try.ntmps47
  go_wp2
  refine wp_loop_rounds 3 ?_
  rw [rounds_succ]
  go_wp2
  rw [rounds_succ]
  go_wp2
  go_region
  go_wp2
  all_goals
    rw [rounds_succ]
    go_wp2
    go_returns
    exact ⟨rfl, by go_grown⟩
theorem join_any (g : Nat) (x y q : Iv) (hx : nrm x = x) (hy : nrm y = y) (hq : joinI x y = q) (w : World) (h0 : w.cell? ⟨g, 0, none⟩ = some (.bool x.s)) (h1 : w.cell? ⟨g, 1, none⟩ = some (.int .i64 x.lo)) (h2 : w.cell? ⟨g, 2, none⟩ = some (.int .i64 x.hi)) (h3 : w.cell? ⟨g, 3, none⟩ = some (.bool y.s)) (h4 : w.cell? ⟨g, 4, none⟩ = some (.int .i64 y.lo)) (h5 : w.cell? ⟨g, 5, none⟩ = some (.int .i64 y.hi)) :
    Calls Try.prog 47 #[.slice (some ⟨g, 0, none⟩) 2 2] w (Ret (.agg #[.bool q.s, .int .i64 q.lo, .int .i64 q.hi]) w) := by
  obtain ⟨xs, xl, xh⟩ := x
  obtain ⟨ys, yl, yh⟩ := y
  subst hq
  rcases nrm_ok hx with h | ⟨h, hx'⟩
  · cases h
    rcases nrm_ok hy with h | ⟨h, hy'⟩
    · cases h; exact join_ee g w h0 h1 h2 h3 h4 h5
    · simp only at h; subst h; exact join_es g yl yh hy' w h0 h1 h2 h3 h4 h5
  · simp only at h; subst h
    rcases nrm_ok hy with h | ⟨h, hy'⟩
    · cases h; exact join_se g xl xh hx' w h0 h1 h2 h3 h4 h5
    · simp only at h; subst h; exact join_ss g xl xh yl yh _ _ hx' hy' rfl rfl w h0 h1 h2 h3 h4 h5
theorem meet_e (g : Nat) (w : World) (h0 : w.cell? ⟨g, 0, none⟩ = some (.bool false)) (h1 : w.cell? ⟨g, 1, none⟩ = some (.int .i64 0)) (h2 : w.cell? ⟨g, 2, none⟩ = some (.int .i64 0)) :
    Calls Try.prog 32 #[.slice (some ⟨g, 0, none⟩) 2 2] w (Ret (.agg #[.bool false, .int .i64 0, .int .i64 0]) w) := by
  have hu := Try.underlying23
  have hb0 : g < w.heap.size := World.block_lt_of_cell? w _ h0
  obtain ⟨hb1, hb2, hb3, hb4, hb5, hb6, hb7, hb8, hb9, hb10, hb11, hb12, hb13, hb14, hb15, hb16⟩ := lt16 hb0
  go_enter Try.func32, Try.ntmps32
  go_wp2
  refine wp_loop_rounds 3 ?_
  rw [rounds_succ]
  go_wp2
  go_returns
  exact ⟨rfl, by go_grown⟩
theorem meet_se (g : Nat) (lo hi : Int) (h : lo ≤ hi) (ha : -9223372036854775808 ≤ lo) (hb : hi ≤ 9223372036854775807) (w : World) (h0 : w.cell? ⟨g, 0, none⟩ = some (.bool true)) (h1 : w.cell? ⟨g, 1, none⟩ = some (.int .i64 lo)) (h2 : w.cell? ⟨g, 2, none⟩ = some (.int .i64 hi)) (h3 : w.cell? ⟨g, 3, none⟩ = some (.bool false)) (h4 : w.cell? ⟨g, 4, none⟩ = some (.int .i64 0)) (h5 : w.cell? ⟨g, 5, none⟩ = some (.int .i64 0)) :
    Calls Try.prog 32 #[.slice (some ⟨g, 0, none⟩) 2 2] w (Ret (.agg #[.bool false, .int .i64 0, .int .i64 0]) w) := by
  have hu := Try.underlying23
  have hb0 : g < w.heap.size := World.block_lt_of_cell? w _ h0
  obtain ⟨hb1, hb2, hb3, hb4, hb5, hb6, hb7, hb8, hb9, hb10, hb11, hb12, hb13, hb14, hb15, hb16⟩ := lt16 hb0
  have h' : decide (hi < lo) = false := by simp; omega
  have e1 : (if -9223372036854775808 < lo then lo else -9223372036854775808) = lo := by split <;> omega
  have e2 : (if hi < 9223372036854775807 then hi else 9223372036854775807) = hi := by split <;> omega
  clear ha hb h
  go_enter Try.func32, Try.ntmps32
  go_wp2
  refine wp_loop_rounds 3 ?_
  rw [rounds_succ]
  go_wp2
  rw [rounds_succ]
  go_wp2
  go_returns
  exact ⟨rfl, by go_grown⟩
theorem meet_ss (g : Nat) (lo hi yl yh L H : Int) (h : lo ≤ hi) (ha : -9223372036854775808 ≤ lo) (hb : hi ≤ 9223372036854775807) (hy : yl ≤ yh) (hL : (if lo < yl then yl else lo) = L) (hH : (if yh < hi then yh else hi) = H) (b : Bool) (hLH : decide (H < L) = b) (w : World) (h0 : w.cell? ⟨g, 0, none⟩ = some (.bool true)) (h1 : w.cell? ⟨g, 1, none⟩ = some (.int .i64 lo)) (h2 : w.cell? ⟨g, 2, none⟩ = some (.int .i64 hi)) (h3 : w.cell? ⟨g, 3, none⟩ = some (.bool true)) (h4 : w.cell? ⟨g, 4, none⟩ = some (.int .i64 yl)) (h5 : w.cell? ⟨g, 5, none⟩ = some (.int .i64 yh)) :
    Calls Try.prog 32 #[.slice (some ⟨g, 0, none⟩) 2 2] w (Ret (if b = true then .agg #[.bool false, .int .i64 0, .int .i64 0] else .agg #[.bool true, .int .i64 L, .int .i64 H]) w) := by
  have hu := Try.underlying23
  have hb0 : g < w.heap.size := World.block_lt_of_cell? w _ h0
  obtain ⟨hb1, hb2, hb3, hb4, hb5, hb6, hb7, hb8, hb9, hb10, hb11, hb12, hb13, hb14, hb15, hb16⟩ := lt16 hb0
  have h' : decide (hi < lo) = false := by simp; omega
  have hy' : decide (yh < yl) = false := by simp; omega
  have e1 : (if -9223372036854775808 < lo then lo else -9223372036854775808) = lo := by split <;> omega
  have e2 : (if hi < 9223372036854775807 then hi else 9223372036854775807) = hi := by split <;> omega
  clear ha hb h hy
  cases b
  · go_enter Try.func32, Try.ntmps32
    go_wp2
    refine wp_loop_rounds 3 ?_
    rw [rounds_succ]
    go_wp2
    rw [rounds_succ]
    go_wp2
    rw [rounds_succ]
    go_wp2
    go_returns
    exact ⟨rfl, by go_grown⟩
  · go_enter Try.func32, Try.ntmps32
    go_wp2
    refine wp_loop_rounds 3 ?_
    rw [rounds_succ]
    go_wp2
    rw [rounds_succ]
    go_wp2
    rw [rounds_succ]
    go_wp2
    go_returns
    exact ⟨rfl, by go_grown⟩
theorem meet_any (g : Nat) (x y q : Iv) (hx : Ok x) (hy : Ok y) (hq : meetI x y = q) (w : World) (h0 : w.cell? ⟨g, 0, none⟩ = some (.bool x.s)) (h1 : w.cell? ⟨g, 1, none⟩ = some (.int .i64 x.lo)) (h2 : w.cell? ⟨g, 2, none⟩ = some (.int .i64 x.hi)) (h3 : w.cell? ⟨g, 3, none⟩ = some (.bool y.s)) (h4 : w.cell? ⟨g, 4, none⟩ = some (.int .i64 y.lo)) (h5 : w.cell? ⟨g, 5, none⟩ = some (.int .i64 y.hi)) :
    Calls Try.prog 32 #[.slice (some ⟨g, 0, none⟩) 2 2] w (Ret (.agg #[.bool q.s, .int .i64 q.lo, .int .i64 q.hi]) w) := by
  obtain ⟨xs, xl, xh⟩ := x
  obtain ⟨ys, yl, yh⟩ := y
  subst hq
  rcases hx with h | ⟨h, ha, hx', hb⟩
  · cases h; exact meet_e g w h0 h1 h2
  · simp only at h ha hx' hb; subst h
    rcases hy with h | ⟨h, ha2, hy', hb2⟩
    · cases h; exact meet_se g xl xh hx' ha hb w h0 h1 h2 h3 h4 h5
    · simp only at h ha2 hy' hb2; subst h
      have h := meet_ss g xl xh yl yh _ _ hx' ha hb hy' rfl rfl _ rfl w h0 h1 h2 h3 h4 h5
      by_cases hc : (if yh < xh then yh else xh) < (if xl < yl then yl else xl)
      · rw [if_pos (decide_eq_true hc)] at h
        have hm : meetI ⟨true, xl, xh⟩ ⟨true, yl, yh⟩ = Iv.e := by
          unfold meetI; rw [if_pos ⟨rfl, rfl⟩]; exact nrm_none (.inr hc)
        rw [hm]; exact h
      · rw [decide_eq_false hc, if_neg (by decide)] at h
        have hm : meetI ⟨true, xl, xh⟩ ⟨true, yl, yh⟩ = ⟨true, (if xl < yl then yl else xl), (if yh < xh then yh else xh)⟩ := by
          unfold meetI; rw [if_pos ⟨rfl, rfl⟩]; exact nrm_some (Int.not_lt.1 hc)
        rw [hm]; exact h
theorem rjoin_ee (g : Nat) (w : World) (h0 : w.cell? ⟨g, 0, none⟩ = some (.bool false)) (h1 : w.cell? ⟨g, 1, none⟩ = some (.int .i64 0)) (h2 : w.cell? ⟨g, 2, none⟩ = some (.int .i64 0)) (h3 : w.cell? ⟨g, 3, none⟩ = some (.bool false)) (h4 : w.cell? ⟨g, 4, none⟩ = some (.int .i64 0)) (h5 : w.cell? ⟨g, 5, none⟩ = some (.int .i64 0)) :
    Calls Try.prog 30 #[.slice (some ⟨g, 0, none⟩) 2 2] w (Ret (.agg #[.bool false, .int .i64 0, .int .i64 0]) w) := by
  have hu := Try.underlying23
  have hb0 : g < w.heap.size := World.block_lt_of_cell? w _ h0
  obtain ⟨hb1, hb2, hb3, hb4, hb5, hb6, hb7, hb8, hb9, hb10, hb11, hb12, hb13, hb14, hb15, hb16⟩ := lt16 hb0
  go_enter Try.func30, Try.ntmps30
  go_wp2
  refine wp_loop_rounds 3 ?_
  rw [rounds_succ]
  go_wp2
  rw [rounds_succ]
  go_wp2
  rw [rounds_succ]
  go_wp2
  go_returns
  exact ⟨rfl, by go_grown⟩
theorem rjoin_es (g : Nat) (lo hi : Int) (h : lo ≤ hi) (w : World) (h0 : w.cell? ⟨g, 0, none⟩ = some (.bool false)) (h1 : w.cell? ⟨g, 1, none⟩ = some (.int .i64 0)) (h2 : w.cell? ⟨g, 2, none⟩ = some (.int .i64 0)) (h3 : w.cell? ⟨g, 3, none⟩ = some (.bool true)) (h4 : w.cell? ⟨g, 4, none⟩ = some (.int .i64 lo)) (h5 : w.cell? ⟨g, 5, none⟩ = some (.int .i64 hi)) :
    Calls Try.prog 30 #[.slice (some ⟨g, 0, none⟩) 2 2] w (Ret (.agg #[.bool true, .int .i64 lo, .int .i64 hi]) w) := by
  have hu := Try.underlying23
  have hb0 : g < w.heap.size := World.block_lt_of_cell? w _ h0
  obtain ⟨hb1, hb2, hb3, hb4, hb5, hb6, hb7, hb8, hb9, hb10, hb11, hb12, hb13, hb14, hb15, hb16⟩ := lt16 hb0
  have h' : decide (hi < lo) = false := by simp; omega
  go_enter Try.func30, Try.ntmps30
  go_wp2
  refine wp_loop_rounds 3 ?_
  rw [rounds_succ]
  go_wp2
  rw [rounds_succ]
  go_wp2
  rw [rounds_succ]
  go_wp2
  go_returns
  exact ⟨rfl, by go_grown⟩
theorem rjoin_se (g : Nat) (lo hi : Int) (h : lo ≤ hi) (w : World) (h0 : w.cell? ⟨g, 0, none⟩ = some (.bool true)) (h1 : w.cell? ⟨g, 1, none⟩ = some (.int .i64 lo)) (h2 : w.cell? ⟨g, 2, none⟩ = some (.int .i64 hi)) (h3 : w.cell? ⟨g, 3, none⟩ = some (.bool false)) (h4 : w.cell? ⟨g, 4, none⟩ = some (.int .i64 0)) (h5 : w.cell? ⟨g, 5, none⟩ = some (.int .i64 0)) :
    Calls Try.prog 30 #[.slice (some ⟨g, 0, none⟩) 2 2] w (Ret (.agg #[.bool true, .int .i64 lo, .int .i64 hi]) w) := by
  have hu := Try.underlying23
  have hb0 : g < w.heap.size := World.block_lt_of_cell? w _ h0
  obtain ⟨hb1, hb2, hb3, hb4, hb5, hb6, hb7, hb8, hb9, hb10, hb11, hb12, hb13, hb14, hb15, hb16⟩ := lt16 hb0
  have h' : decide (hi < lo) = false := by simp; omega
  go_enter Try.func30, Try.ntmps30
  go_wp2
  refine wp_loop_rounds 3 ?_
  rw [rounds_succ]
  go_wp2
  rw [rounds_succ]
  go_wp2
  rw [rounds_succ]
  go_wp2
  go_returns
  exact ⟨rfl, by go_grown⟩
theorem rjoin_ss (g : Nat) (lo hi yl yh L H : Int) (h : lo ≤ hi) (hy : yl ≤ yh) (hL : (if yl < lo then yl else lo) = L) (hH : (if hi < yh then yh else hi) = H) (w : World) (h0 : w.cell? ⟨g, 0, none⟩ = some (.bool true)) (h1 : w.cell? ⟨g, 1, none⟩ = some (.int .i64 lo)) (h2 : w.cell? ⟨g, 2, none⟩ = some (.int .i64 hi)) (h3 : w.cell? ⟨g, 3, none⟩ = some (.bool true)) (h4 : w.cell? ⟨g, 4, none⟩ = some (.int .i64 yl)) (h5 : w.cell? ⟨g, 5, none⟩ = some (.int .i64 yh)) :
    Calls Try.prog 30 #[.slice (some ⟨g, 0, none⟩) 2 2] w (Ret (.agg #[.bool true, .int .i64 L, .int .i64 H]) w) := by
  have hu := Try.underlying23
  have hb0 : g < w.heap.size := World.block_lt_of_cell? w _ h0
  obtain ⟨hb1, hb2, hb3, hb4, hb5, hb6, hb7, hb8, hb9, hb10, hb11, hb12, hb13, hb14, hb15, hb16⟩ := lt16 hb0
  have h' : decide (hi < lo) = false := by simp; omega
  have hy' : decide (yh < yl) = false := by simp; omega
  have hLH : decide (H < L) = false := by rw [← hL, ← hH]; simp; (repeat' split) <;> omega
  clear hy h
  go_enter Try.func30, Try.ntmps30
  go_wp2
  refine wp_loop_rounds 3 ?_
  rw [rounds_succ]
  go_wp2
  rw [rounds_succ]
  go_wp2
  rw [rounds_succ]
  go_wp2
  go_returns
  exact ⟨rfl, by go_grown⟩
theorem rjoin_any (g : Nat) (x y q : Iv) (hx : nrm x = x) (hy : nrm y = y) (hq : joinI x y = q) (w : World) (h0 : w.cell? ⟨g, 0, none⟩ = some (.bool x.s)) (h1 : w.cell? ⟨g, 1, none⟩ = some (.int .i64 x.lo)) (h2 : w.cell? ⟨g, 2, none⟩ = some (.int .i64 x.hi)) (h3 : w.cell? ⟨g, 3, none⟩ = some (.bool y.s)) (h4 : w.cell? ⟨g, 4, none⟩ = some (.int .i64 y.lo)) (h5 : w.cell? ⟨g, 5, none⟩ = some (.int .i64 y.hi)) :
    Calls Try.prog 30 #[.slice (some ⟨g, 0, none⟩) 2 2] w (Ret (.agg #[.bool q.s, .int .i64 q.lo, .int .i64 q.hi]) w) := by
  obtain ⟨xs, xl, xh⟩ := x
  obtain ⟨ys, yl, yh⟩ := y
  subst hq
  rcases nrm_ok hx with h | ⟨h, hx'⟩
  · cases h
    rcases nrm_ok hy with h | ⟨h, hy'⟩
    · cases h; exact rjoin_ee g w h0 h1 h2 h3 h4 h5
    · simp only at h; subst h; exact rjoin_es g yl yh hy' w h0 h1 h2 h3 h4 h5
  · simp only at h; subst h
    rcases nrm_ok hy with h | ⟨h, hy'⟩
    · cases h; exact rjoin_se g xl xh hx' w h0 h1 h2 h3 h4 h5
    · simp only at h; subst h; exact rjoin_ss g xl xh yl yh _ _ hx' hy' rfl rfl w h0 h1 h2 h3 h4 h5
theorem rmeet_e (g : Nat) (w : World) (h0 : w.cell? ⟨g, 0, none⟩ = some (.bool false)) (h1 : w.cell? ⟨g, 1, none⟩ = some (.int .i64 0)) (h2 : w.cell? ⟨g, 2, none⟩ = some (.int .i64 0)) :
    Calls Try.prog 51 #[.slice (some ⟨g, 0, none⟩) 2 2] w (Ret (.agg #[.bool false, .int .i64 0, .int .i64 0]) w) := by
  have hu := Try.underlying23
  have hb0 : g < w.heap.size := World.block_lt_of_cell? w _ h0
  obtain ⟨hb1, hb2, hb3, hb4, hb5, hb6, hb7, hb8, hb9, hb10, hb11, hb12, hb13, hb14, hb15, hb16⟩ := lt16 hb0
  go_enter Try.func51, Try.ntmps51
  go_wp2
  refine wp_loop_rounds 3 ?_
  rw [rounds_succ]
  go_wp2
  go_returns
  exact ⟨rfl, by go_grown⟩
theorem rmeet_se (g : Nat) (lo hi : Int) (h : lo ≤ hi) (ha : -9223372036854775808 ≤ lo) (hb : hi ≤ 9223372036854775807) (w : World) (h0 : w.cell? ⟨g, 0, none⟩ = some (.bool true)) (h1 : w.cell? ⟨g, 1, none⟩ = some (.int .i64 lo)) (h2 : w.cell? ⟨g, 2, none⟩ = some (.int .i64 hi)) (h3 : w.cell? ⟨g, 3, none⟩ = some (.bool false)) (h4 : w.cell? ⟨g, 4, none⟩ = some (.int .i64 0)) (h5 : w.cell? ⟨g, 5, none⟩ = some (.int .i64 0)) :
    Calls Try.prog 51 #[.slice (some ⟨g, 0, none⟩) 2 2] w (Ret (.agg #[.bool false, .int .i64 0, .int .i64 0]) w) := by
  have hu := Try.underlying23
  have hb0 : g < w.heap.size := World.block_lt_of_cell? w _ h0
  obtain ⟨hb1, hb2, hb3, hb4, hb5, hb6, hb7, hb8, hb9, hb10, hb11, hb12, hb13, hb14, hb15, hb16⟩ := lt16 hb0
  have h' : decide (hi < lo) = false := by simp; omega
  have e1 : (if -9223372036854775808 < lo then lo else -9223372036854775808) = lo := by split <;> omega
  have e2 : (if hi < 9223372036854775807 then hi else 9223372036854775807) = hi := by split <;> omega
  clear ha hb h
  go_enter Try.func51, Try.ntmps51
  go_wp2
  refine wp_loop_rounds 3 ?_
  rw [rounds_succ]
  go_wp2
  rw [rounds_succ]
  go_wp2
  go_returns
  exact ⟨rfl, by go_grown⟩
theorem rmeet_ss (g : Nat) (lo hi yl yh L H : Int) (h : lo ≤ hi) (ha : -9223372036854775808 ≤ lo) (hb : hi ≤ 9223372036854775807) (hy : yl ≤ yh) (hL : (if lo < yl then yl else lo) = L) (hH : (if yh < hi then yh else hi) = H) (b : Bool) (hLH : decide (H < L) = b) (w : World) (h0 : w.cell? ⟨g, 0, none⟩ = some (.bool true)) (h1 : w.cell? ⟨g, 1, none⟩ = some (.int .i64 lo)) (h2 : w.cell? ⟨g, 2, none⟩ = some (.int .i64 hi)) (h3 : w.cell? ⟨g, 3, none⟩ = some (.bool true)) (h4 : w.cell? ⟨g, 4, none⟩ = some (.int .i64 yl)) (h5 : w.cell? ⟨g, 5, none⟩ = some (.int .i64 yh)) :
    Calls Try.prog 51 #[.slice (some ⟨g, 0, none⟩) 2 2] w (Ret (if b = true then .agg #[.bool false, .int .i64 0, .int .i64 0] else .agg #[.bool true, .int .i64 L, .int .i64 H]) w) := by
  have hu := Try.underlying23
  have hb0 : g < w.heap.size := World.block_lt_of_cell? w _ h0
  obtain ⟨hb1, hb2, hb3, hb4, hb5, hb6, hb7, hb8, hb9, hb10, hb11, hb12, hb13, hb14, hb15, hb16⟩ := lt16 hb0
  have h' : decide (hi < lo) = false := by simp; omega
  have hy' : decide (yh < yl) = false := by simp; omega
  have e1 : (if -9223372036854775808 < lo then lo else -9223372036854775808) = lo := by split <;> omega
  have e2 : (if hi < 9223372036854775807 then hi else 9223372036854775807) = hi := by split <;> omega
  clear ha hb h hy
  cases b
  · go_enter Try.func51, Try.ntmps51
    go_wp2
    refine wp_loop_rounds 3 ?_
    rw [rounds_succ]
    go_wp2
    rw [rounds_succ]
    go_wp2
    rw [rounds_succ]
    go_wp2
    go_returns
    exact ⟨rfl, by go_grown⟩
  · go_enter Try.func51, Try.ntmps51
    go_wp2
    refine wp_loop_rounds 3 ?_
    rw [rounds_succ]
    go_wp2
    rw [rounds_succ]
    go_wp2
    rw [rounds_succ]
    go_wp2
    go_returns
    exact ⟨rfl, by go_grown⟩
theorem rmeet_any (g : Nat) (x y q : Iv) (hx : Ok x) (hy : Ok y) (hq : meetI x y = q) (w : World) (h0 : w.cell? ⟨g, 0, none⟩ = some (.bool x.s)) (h1 : w.cell? ⟨g, 1, none⟩ = some (.int .i64 x.lo)) (h2 : w.cell? ⟨g, 2, none⟩ = some (.int .i64 x.hi)) (h3 : w.cell? ⟨g, 3, none⟩ = some (.bool y.s)) (h4 : w.cell? ⟨g, 4, none⟩ = some (.int .i64 y.lo)) (h5 : w.cell? ⟨g, 5, none⟩ = some (.int .i64 y.hi)) :
    Calls Try.prog 51 #[.slice (some ⟨g, 0, none⟩) 2 2] w (Ret (.agg #[.bool q.s, .int .i64 q.lo, .int .i64 q.hi]) w) := by
  obtain ⟨xs, xl, xh⟩ := x
  obtain ⟨ys, yl, yh⟩ := y
  subst hq
  rcases hx with h | ⟨h, ha, hx', hb⟩
  · cases h; exact rmeet_e g w h0 h1 h2
  · simp only at h ha hx' hb; subst h
    rcases hy with h | ⟨h, ha2, hy', hb2⟩
    · cases h; exact rmeet_se g xl xh hx' ha hb w h0 h1 h2 h3 h4 h5
    · simp only at h ha2 hy' hb2; subst h
      have h := rmeet_ss g xl xh yl yh _ _ hx' ha hb hy' rfl rfl _ rfl w h0 h1 h2 h3 h4 h5
      by_cases hc : (if yh < xh then yh else xh) < (if xl < yl then yl else xl)
      · rw [if_pos (decide_eq_true hc)] at h
        have hm : meetI ⟨true, xl, xh⟩ ⟨true, yl, yh⟩ = Iv.e := by
          unfold meetI; rw [if_pos ⟨rfl, rfl⟩]; exact nrm_none (.inr hc)
        rw [hm]; exact h
      · rw [decide_eq_false hc, if_neg (by decide)] at h
        have hm : meetI ⟨true, xl, xh⟩ ⟨true, yl, yh⟩ = ⟨true, (if xl < yl then yl else xl), (if yh < xh then yh else xh)⟩ := by
          unfold meetI; rw [if_pos ⟨rfl, rfl⟩]; exact nrm_some (Int.not_lt.1 hc)
        rw [hm]; exact h
end Go.Proofs.Ytfnodgpebheinaa.M
