/- Walks: the reference's Join of two that are raw. -/
import Derived.Test.YtfnodgpebheinaaM42
import Derived.Test.YtfnodgpebheinaaM26
import Derived.Deep.DeepCutAuto
import Derived.Deep.CutBlock
namespace Go.Proofs.Ytfnodgpebheinaa.M
open Go Go.RowKit
set_option linter.unusedVariables false
set_option linter.unusedSimpArgs false
attribute [local simp, local go_sem] lt_a2 lt_a3 lt_a4 lt_a5 lt_a6 lt_a7 lt_a8
set_option maxHeartbeats 4000000
theorem rj_nn (g : Nat) (xl xh yl yh : Int) (w : World) (h0 : w.cell? ⟨g, 0, none⟩ = some (.bool false)) (h1 : w.cell? ⟨g, 1, none⟩ = some (.int .i64 xl)) (h2 : w.cell? ⟨g, 2, none⟩ = some (.int .i64 xh)) (h3 : w.cell? ⟨g, 3, none⟩ = some (.bool false)) (h4 : w.cell? ⟨g, 4, none⟩ = some (.int .i64 yl)) (h5 : w.cell? ⟨g, 5, none⟩ = some (.int .i64 yh)) :
    Calls Try.prog 30 #[.slice (some ⟨g, 0, none⟩) 2 2] w (Ret (.agg #[.bool false, .int .i64 0, .int .i64 0]) w) := by
  have hu := Try.underlying23
  have hb0 : g < w.heap.size := World.block_lt_of_cell? w _ h0
  obtain ⟨hb1, hb2, hb3, hb4, hb5, hb6, hb7, hb8, hb9, hb10, hb11, hb12, hb13, hb14, hb15, hb16⟩ := lt16 hb0
  go_enter Try.func30, Try.ntmps30
  go_wp2
  refine wp_loop_rounds 3 ?_
  rw [rounds_succ]
  go_wp2
  rw [rounds_succ]
  go_wp2
  rw [rounds_succ]
  go_wp2
  go_returns
  exact ⟨rfl, by go_grown⟩
theorem rj_nm (g : Nat) (xl xh yl yh : Int) (hy : Hid (yh < yl)) (w : World) (h0 : w.cell? ⟨g, 0, none⟩ = some (.bool false)) (h1 : w.cell? ⟨g, 1, none⟩ = some (.int .i64 xl)) (h2 : w.cell? ⟨g, 2, none⟩ = some (.int .i64 xh)) (h3 : w.cell? ⟨g, 3, none⟩ = some (.bool true)) (h4 : w.cell? ⟨g, 4, none⟩ = some (.int .i64 yl)) (h5 : w.cell? ⟨g, 5, none⟩ = some (.int .i64 yh)) :
    Calls Try.prog 30 #[.slice (some ⟨g, 0, none⟩) 2 2] w (Ret (.agg #[.bool false, .int .i64 0, .int .i64 0]) w) := by
  have hu := Try.underlying23
  have hb0 : g < w.heap.size := World.block_lt_of_cell? w _ h0
  obtain ⟨hb1, hb2, hb3, hb4, hb5, hb6, hb7, hb8, hb9, hb10, hb11, hb12, hb13, hb14, hb15, hb16⟩ := lt16 hb0
  have ky : decide (yh < yl) = true := decide_eq_true hy.out
  go_enter Try.func30, Try.ntmps30
  go_wp2
  refine wp_loop_rounds 3 ?_
  rw [rounds_succ]
  go_wp2
  rw [rounds_succ]
  go_wp2
  rw [rounds_succ]
  go_wp2
  go_returns
  exact ⟨rfl, by go_grown⟩
theorem rj_ns (g : Nat) (xl xh yl yh : Int) (hy : Hid (yl ≤ yh)) (w : World) (h0 : w.cell? ⟨g, 0, none⟩ = some (.bool false)) (h1 : w.cell? ⟨g, 1, none⟩ = some (.int .i64 xl)) (h2 : w.cell? ⟨g, 2, none⟩ = some (.int .i64 xh)) (h3 : w.cell? ⟨g, 3, none⟩ = some (.bool true)) (h4 : w.cell? ⟨g, 4, none⟩ = some (.int .i64 yl)) (h5 : w.cell? ⟨g, 5, none⟩ = some (.int .i64 yh)) :
    Calls Try.prog 30 #[.slice (some ⟨g, 0, none⟩) 2 2] w (Ret (.agg #[.bool true, .int .i64 yl, .int .i64 yh]) w) := by
  have hu := Try.underlying23
  have hb0 : g < w.heap.size := World.block_lt_of_cell? w _ h0
  obtain ⟨hb1, hb2, hb3, hb4, hb5, hb6, hb7, hb8, hb9, hb10, hb11, hb12, hb13, hb14, hb15, hb16⟩ := lt16 hb0
  have ky : decide (yh < yl) = false := by have := hy.out; simp; omega
  go_enter Try.func30, Try.ntmps30
  go_wp2
  refine wp_loop_rounds 3 ?_
  rw [rounds_succ]
  go_wp2
  rw [rounds_succ]
  go_wp2
  rw [rounds_succ]
  go_wp2
  go_returns
  exact ⟨rfl, by go_grown⟩
theorem rj_mn (g : Nat) (xl xh yl yh : Int) (hx : Hid (xh < xl)) (w : World) (h0 : w.cell? ⟨g, 0, none⟩ = some (.bool true)) (h1 : w.cell? ⟨g, 1, none⟩ = some (.int .i64 xl)) (h2 : w.cell? ⟨g, 2, none⟩ = some (.int .i64 xh)) (h3 : w.cell? ⟨g, 3, none⟩ = some (.bool false)) (h4 : w.cell? ⟨g, 4, none⟩ = some (.int .i64 yl)) (h5 : w.cell? ⟨g, 5, none⟩ = some (.int .i64 yh)) :
    Calls Try.prog 30 #[.slice (some ⟨g, 0, none⟩) 2 2] w (Ret (.agg #[.bool false, .int .i64 0, .int .i64 0]) w) := by
  have hu := Try.underlying23
  have hb0 : g < w.heap.size := World.block_lt_of_cell? w _ h0
  obtain ⟨hb1, hb2, hb3, hb4, hb5, hb6, hb7, hb8, hb9, hb10, hb11, hb12, hb13, hb14, hb15, hb16⟩ := lt16 hb0
  have kx : decide (xh < xl) = true := decide_eq_true hx.out
  go_enter Try.func30, Try.ntmps30
  go_wp2
  refine wp_loop_rounds 3 ?_
  rw [rounds_succ]
  go_wp2
  rw [rounds_succ]
  go_wp2
  rw [rounds_succ]
  go_wp2
  go_returns
  exact ⟨rfl, by go_grown⟩
theorem rj_mm (g : Nat) (xl xh yl yh : Int) (hx : Hid (xh < xl)) (hy : Hid (yh < yl)) (w : World) (h0 : w.cell? ⟨g, 0, none⟩ = some (.bool true)) (h1 : w.cell? ⟨g, 1, none⟩ = some (.int .i64 xl)) (h2 : w.cell? ⟨g, 2, none⟩ = some (.int .i64 xh)) (h3 : w.cell? ⟨g, 3, none⟩ = some (.bool true)) (h4 : w.cell? ⟨g, 4, none⟩ = some (.int .i64 yl)) (h5 : w.cell? ⟨g, 5, none⟩ = some (.int .i64 yh)) :
    Calls Try.prog 30 #[.slice (some ⟨g, 0, none⟩) 2 2] w (Ret (.agg #[.bool false, .int .i64 0, .int .i64 0]) w) := by
  have hu := Try.underlying23
  have hb0 : g < w.heap.size := World.block_lt_of_cell? w _ h0
  obtain ⟨hb1, hb2, hb3, hb4, hb5, hb6, hb7, hb8, hb9, hb10, hb11, hb12, hb13, hb14, hb15, hb16⟩ := lt16 hb0
  have kx : decide (xh < xl) = true := decide_eq_true hx.out
  have ky : decide (yh < yl) = true := decide_eq_true hy.out
  go_enter Try.func30, Try.ntmps30
  go_wp2
  refine wp_loop_rounds 3 ?_
  rw [rounds_succ]
  go_wp2
  rw [rounds_succ]
  go_wp2
  rw [rounds_succ]
  go_wp2
  go_returns
  exact ⟨rfl, by go_grown⟩
theorem rj_ms (g : Nat) (xl xh yl yh : Int) (hx : Hid (xh < xl)) (hy : Hid (yl ≤ yh)) (w : World) (h0 : w.cell? ⟨g, 0, none⟩ = some (.bool true)) (h1 : w.cell? ⟨g, 1, none⟩ = some (.int .i64 xl)) (h2 : w.cell? ⟨g, 2, none⟩ = some (.int .i64 xh)) (h3 : w.cell? ⟨g, 3, none⟩ = some (.bool true)) (h4 : w.cell? ⟨g, 4, none⟩ = some (.int .i64 yl)) (h5 : w.cell? ⟨g, 5, none⟩ = some (.int .i64 yh)) :
    Calls Try.prog 30 #[.slice (some ⟨g, 0, none⟩) 2 2] w (Ret (.agg #[.bool true, .int .i64 yl, .int .i64 yh]) w) := by
  have hu := Try.underlying23
  have hb0 : g < w.heap.size := World.block_lt_of_cell? w _ h0
  obtain ⟨hb1, hb2, hb3, hb4, hb5, hb6, hb7, hb8, hb9, hb10, hb11, hb12, hb13, hb14, hb15, hb16⟩ := lt16 hb0
  have kx : decide (xh < xl) = true := decide_eq_true hx.out
  have ky : decide (yh < yl) = false := by have := hy.out; simp; omega
  go_enter Try.func30, Try.ntmps30
  go_wp2
  refine wp_loop_rounds 3 ?_
  rw [rounds_succ]
  go_wp2
  rw [rounds_succ]
  go_wp2
  rw [rounds_succ]
  go_wp2
  go_returns
  exact ⟨rfl, by go_grown⟩
theorem rj_sn (g : Nat) (xl xh yl yh : Int) (hx : Hid (xl ≤ xh)) (w : World) (h0 : w.cell? ⟨g, 0, none⟩ = some (.bool true)) (h1 : w.cell? ⟨g, 1, none⟩ = some (.int .i64 xl)) (h2 : w.cell? ⟨g, 2, none⟩ = some (.int .i64 xh)) (h3 : w.cell? ⟨g, 3, none⟩ = some (.bool false)) (h4 : w.cell? ⟨g, 4, none⟩ = some (.int .i64 yl)) (h5 : w.cell? ⟨g, 5, none⟩ = some (.int .i64 yh)) :
    Calls Try.prog 30 #[.slice (some ⟨g, 0, none⟩) 2 2] w (Ret (.agg #[.bool true, .int .i64 xl, .int .i64 xh]) w) := by
  have hu := Try.underlying23
  have hb0 : g < w.heap.size := World.block_lt_of_cell? w _ h0
  obtain ⟨hb1, hb2, hb3, hb4, hb5, hb6, hb7, hb8, hb9, hb10, hb11, hb12, hb13, hb14, hb15, hb16⟩ := lt16 hb0
  have kx : decide (xh < xl) = false := by have := hx.out; simp; omega
  go_enter Try.func30, Try.ntmps30
  go_wp2
  refine wp_loop_rounds 3 ?_
  rw [rounds_succ]
  go_wp2
  rw [rounds_succ]
  go_wp2
  rw [rounds_succ]
  go_wp2
  go_returns
  exact ⟨rfl, by go_grown⟩
theorem rj_sm (g : Nat) (xl xh yl yh : Int) (hx : Hid (xl ≤ xh)) (hy : Hid (yh < yl)) (w : World) (h0 : w.cell? ⟨g, 0, none⟩ = some (.bool true)) (h1 : w.cell? ⟨g, 1, none⟩ = some (.int .i64 xl)) (h2 : w.cell? ⟨g, 2, none⟩ = some (.int .i64 xh)) (h3 : w.cell? ⟨g, 3, none⟩ = some (.bool true)) (h4 : w.cell? ⟨g, 4, none⟩ = some (.int .i64 yl)) (h5 : w.cell? ⟨g, 5, none⟩ = some (.int .i64 yh)) :
    Calls Try.prog 30 #[.slice (some ⟨g, 0, none⟩) 2 2] w (Ret (.agg #[.bool true, .int .i64 xl, .int .i64 xh]) w) := by
  have hu := Try.underlying23
  have hb0 : g < w.heap.size := World.block_lt_of_cell? w _ h0
  obtain ⟨hb1, hb2, hb3, hb4, hb5, hb6, hb7, hb8, hb9, hb10, hb11, hb12, hb13, hb14, hb15, hb16⟩ := lt16 hb0
  have kx : decide (xh < xl) = false := by have := hx.out; simp; omega
  have ky : decide (yh < yl) = true := decide_eq_true hy.out
  go_enter Try.func30, Try.ntmps30
  go_wp2
  refine wp_loop_rounds 3 ?_
  rw [rounds_succ]
  go_wp2
  rw [rounds_succ]
  go_wp2
  rw [rounds_succ]
  go_wp2
  go_returns
  exact ⟨rfl, by go_grown⟩
theorem rjoin_raw (g : Nat) (a c q : Iv) (hq : Hid (joinI (nrm a) (nrm c) = q)) (w : World) (h0 : w.cell? ⟨g, 0, none⟩ = some (.bool a.s)) (h1 : w.cell? ⟨g, 1, none⟩ = some (.int .i64 a.lo)) (h2 : w.cell? ⟨g, 2, none⟩ = some (.int .i64 a.hi)) (h3 : w.cell? ⟨g, 3, none⟩ = some (.bool c.s)) (h4 : w.cell? ⟨g, 4, none⟩ = some (.int .i64 c.lo)) (h5 : w.cell? ⟨g, 5, none⟩ = some (.int .i64 c.hi)) :
    Calls Try.prog 30 #[.slice (some ⟨g, 0, none⟩) 2 2] w (Ret (.agg #[.bool q.s, .int .i64 q.lo, .int .i64 q.hi]) w) := by
  obtain rfl := hq.out
  obtain ⟨sa, al, ah⟩ := a
  obtain ⟨sc, cl, ch⟩ := c
  by_cases ha : al ≤ ah <;> by_cases hc : cl ≤ ch <;> cases sa <;> cases sc <;> simp only [nrm, ha, hc, and_true, and_false, true_and, false_and, if_true, if_false, Bool.false_eq_true, joinI, Iv.e_s]
  · exact rj_nn g al ah cl ch w h0 h1 h2 h3 h4 h5
  · exact rj_ns g al ah cl ch (Lib.hid (by omega)) w h0 h1 h2 h3 h4 h5
  · exact rj_sn g al ah cl ch (Lib.hid (by omega)) w h0 h1 h2 h3 h4 h5
  · exact rjoin_ss g _ _ _ _ _ _ ha hc rfl rfl w h0 h1 h2 h3 h4 h5
  · exact rj_nn g al ah cl ch w h0 h1 h2 h3 h4 h5
  · exact rj_nm g al ah cl ch (Lib.hid (by omega)) w h0 h1 h2 h3 h4 h5
  · exact rj_sn g al ah cl ch (Lib.hid (by omega)) w h0 h1 h2 h3 h4 h5
  · exact rj_sm g al ah cl ch (Lib.hid (by omega)) (Lib.hid (by omega)) w h0 h1 h2 h3 h4 h5
  · exact rj_nn g al ah cl ch w h0 h1 h2 h3 h4 h5
  · exact rj_ns g al ah cl ch (Lib.hid (by omega)) w h0 h1 h2 h3 h4 h5
  · exact rj_mn g al ah cl ch (Lib.hid (by omega)) w h0 h1 h2 h3 h4 h5
  · exact rj_ms g al ah cl ch (Lib.hid (by omega)) (Lib.hid (by omega)) w h0 h1 h2 h3 h4 h5
  · exact rj_nn g al ah cl ch w h0 h1 h2 h3 h4 h5
  · exact rj_nm g al ah cl ch (Lib.hid (by omega)) w h0 h1 h2 h3 h4 h5
  · exact rj_mn g al ah cl ch (Lib.hid (by omega)) w h0 h1 h2 h3 h4 h5
  · exact rj_mm g al ah cl ch (Lib.hid (by omega)) (Lib.hid (by omega)) w h0 h1 h2 h3 h4 h5
end Go.Proofs.Ytfnodgpebheinaa.M
