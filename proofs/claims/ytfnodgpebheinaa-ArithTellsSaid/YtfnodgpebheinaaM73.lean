/- Walks: the reference's Join of slices that were appended to. -/
import Derived.Test.YtfnodgpebheinaaM30
import Derived.WalkKit
import Derived.Laws.AppendOwn
import Derived.Deep.DeepCutAuto
import Derived.Deep.CutBlock
namespace Go.Proofs.Ytfnodgpebheinaa.M
open Go Go.RowKit
set_option linter.unusedVariables false
set_option linter.unusedSimpArgs false
attribute [local simp, local go_sem] lt_a2 lt_a3 lt_a4 lt_a5 lt_a6 lt_a7 lt_a8
set_option maxHeartbeats 4000000
theorem rjs0 (w : World) : Calls Try.prog 30 #[.slice none 0 0] w (Ret (.agg #[.bool false, .int .i64 0, .int .i64 0]) w) := by
  have hu := Try.underlying23
  go_enter Try.func30, Try.ntmps30
  go_wp2
  refine wp_loop_rounds 1 ?_
  rw [rounds_succ]
  go_wp2
  go_returns
  exact ⟨rfl, by go_grown⟩
theorem rjs0' (g c : Nat) (w : World) : Calls Try.prog 30 #[.slice (some ⟨g, 0, none⟩) 0 c] w (Ret (.agg #[.bool false, .int .i64 0, .int .i64 0]) w) := by
  have hu := Try.underlying23
  go_enter Try.func30, Try.ntmps30
  go_wp2
  refine wp_loop_rounds 1 ?_
  rw [rounds_succ]
  go_wp2
  go_returns
  exact ⟨rfl, by go_grown⟩
theorem rjs1 (g c : Nat) (lo hi : Int) (h : lo ≤ hi) (w : World) (h0 : w.cell? ⟨g, 0, none⟩ = some (.bool true)) (h1 : w.cell? ⟨g, 1, none⟩ = some (.int .i64 lo)) (h2 : w.cell? ⟨g, 2, none⟩ = some (.int .i64 hi)) :
    Calls Try.prog 30 #[.slice (some ⟨g, 0, none⟩) 1 c] w (Ret (.agg #[.bool true, .int .i64 lo, .int .i64 hi]) w) := by
  have hu := Try.underlying23
  have hb0 : g < w.heap.size := World.block_lt_of_cell? w _ h0
  obtain ⟨hb1, hb2, hb3, hb4, hb5, hb6, hb7, hb8, hb9, hb10, hb11, hb12, hb13, hb14, hb15, hb16⟩ := lt16 hb0
  have h' : decide (hi < lo) = false := by simp; omega
  go_enter Try.func30, Try.ntmps30
  go_wp2
  refine wp_loop_rounds 2 ?_
  rw [rounds_succ]
  go_wp2
  rw [rounds_succ]
  go_wp2
  go_returns
  exact ⟨rfl, by go_grown⟩
theorem rjs2 (g c : Nat) (lo hi yl yh L H : Int) (h : lo ≤ hi) (hy : yl ≤ yh) (hL : (if yl < lo then yl else lo) = L) (hH : (if hi < yh then yh else hi) = H) (w : World) (h0 : w.cell? ⟨g, 0, none⟩ = some (.bool true)) (h1 : w.cell? ⟨g, 1, none⟩ = some (.int .i64 lo)) (h2 : w.cell? ⟨g, 2, none⟩ = some (.int .i64 hi)) (h3 : w.cell? ⟨g, 3, none⟩ = some (.bool true)) (h4 : w.cell? ⟨g, 4, none⟩ = some (.int .i64 yl)) (h5 : w.cell? ⟨g, 5, none⟩ = some (.int .i64 yh)) :
    Calls Try.prog 30 #[.slice (some ⟨g, 0, none⟩) 2 c] w (Ret (.agg #[.bool true, .int .i64 L, .int .i64 H]) w) := by
  have hu := Try.underlying23
  have hb0 : g < w.heap.size := World.block_lt_of_cell? w _ h0
  obtain ⟨hb1, hb2, hb3, hb4, hb5, hb6, hb7, hb8, hb9, hb10, hb11, hb12, hb13, hb14, hb15, hb16⟩ := lt16 hb0
  have h' : decide (hi < lo) = false := by simp; omega
  have hy' : decide (yh < yl) = false := by simp; omega
  have hLH : decide (H < L) = false := by rw [← hL, ← hH]; simp; (repeat' split) <;> omega
  clear hy h
  go_enter Try.func30, Try.ntmps30
  go_wp2
  refine wp_loop_rounds 3 ?_
  rw [rounds_succ]
  go_wp2
  rw [rounds_succ]
  go_wp2
  rw [rounds_succ]
  go_wp2
  go_returns
  exact ⟨rfl, by go_grown⟩
def cellsI (q : Iv) : List Value := [.bool q.s, .int .i64 q.lo, .int .i64 q.hi]
def Some (q : Iv) : Prop := q.s = true ∧ q.lo ≤ q.hi
/-- A slice of intervals that the call made itself. -/
def Own (w : World) (base : Nat) (v : Value) (l : List Iv) : Prop := w.ownsRow base 23 3 v l.length (l.flatMap cellsI)
theorem Own.nil (w : World) (base : Nat) : Own w base (.slice none 0 0) [] := World.ownsRow_nil w base 23 3
theorem Own.kept {w w' : World} {base : Nat} {v : Value} {l : List Iv} (h : Own w base v l) (hg : ∀ k, k < w.heap.size → w'.heap[k]? = w.heap[k]?) : Own w' base v l := by
  refine ⟨h.1, ?_⟩
  rcases h.2 with hn | ⟨g, cap, cur, rfl, hb, hgg, rest⟩
  · exact .inl hn
  · refine .inr ⟨g, cap, cur, rfl, hb, ?_, rest⟩
    rw [hg g (Array.getElem?_eq_some_iff.1 hgg).1]
    exact hgg
theorem Own.call {w w' : World} {base : Nat} {v : Value} {l : List Iv} (h : Own w base v l) (hB : Below w.heap.size w w') : Own w' base v l := h.kept hB.block
theorem Own.fresh {w : World} {base : Nat} {v : Value} {l : List Iv} (h : Own w base v l) (o : Obj) (u0 u1 u2 : Value) :
    Own ((((w.alloc o).setCell ⟨w.heap.size, 0, none⟩ u0).setCell ⟨w.heap.size, 1, none⟩ u1).setCell ⟨w.heap.size, 2, none⟩ u2) base v l :=
  h.kept (by
    have hB : Below w.heap.size w ((((w.alloc o).setCell ⟨w.heap.size, 0, none⟩ u0).setCell ⟨w.heap.size, 1, none⟩ u1).setCell ⟨w.heap.size, 2, none⟩ u2) := by go_grown
    exact hB.block)
theorem Own.row {w : World} {base : Nat} {v : Value} {l : List Iv} (h : Own w base v l) : (v = .slice none 0 0 ∧ l = []) ∨ ∃ g cap, v = .slice (some ⟨g, 0, none⟩) l.length cap ∧ base ≤ g ∧ g < w.heap.size ∧ ∀ j u, (l.flatMap cellsI)[j]? = some u → w.cell? ⟨g, j, none⟩ = some u := by
  rcases h.2 with ⟨rfl, hn⟩ | ⟨g, cap, cur, rfl, hb, hg, rest⟩
  · exact .inl ⟨rfl, List.eq_nil_of_length_eq_zero hn⟩
  · refine .inr ⟨g, cap, rfl, hb, (Array.getElem?_eq_some_iff.1 hg).1, fun j u hj => ?_⟩
    have := World.ownsRow.cells h (g := g) rfl j u hj
    have e : (⟨g, 0, none⟩ : Addr).add j = ⟨g, j, none⟩ := by unfold Addr.add; split <;> simp_all
    rwa [e] at this
def joinL (l : List Iv) : Iv := l.foldl joinI Iv.e
theorem rjoin_own {w : World} {base : Nat} {v : Value} {l : List Iv} (h : Own w base v l) (hl : l.length ≤ 2) (hs : ∀ q ∈ l, Some q) (q : Iv) (hq : Hid (joinL l = q)) :
    Calls Try.prog 30 #[v] w (Ret (.agg #[.bool q.s, .int .i64 q.lo, .int .i64 q.hi]) w) := by
  obtain rfl := hq.out
  match l, h, hl, hs with
  | [], h, _, _ =>
    rcases h.row with ⟨rfl, _⟩ | ⟨g, cap, rfl, _, hg, _⟩
    · exact rjs0 w
    · exact rjs0' g cap w
  | [x], h, _, hs =>
    rcases h.row with ⟨_, e⟩ | ⟨g, cap, rfl, _, _, hc⟩
    · cases e
    · obtain ⟨xs, xl, xh⟩ := x
      obtain ⟨k1, k2⟩ := hs _ (List.mem_cons_self ..)
      dsimp only at k1 k2
      subst k1
      exact rjs1 g cap xl xh k2 w (hc 0 _ rfl) (hc 1 _ rfl) (hc 2 _ rfl)
  | [x, y], h, _, hs =>
    rcases h.row with ⟨_, e⟩ | ⟨g, cap, rfl, _, _, hc⟩
    · cases e
    · obtain ⟨xs, xl, xh⟩ := x
      obtain ⟨ys, yl, yh⟩ := y
      obtain ⟨k1, k2⟩ := hs _ (List.mem_cons_self ..)
      obtain ⟨m1, m2⟩ := hs _ (List.mem_cons_of_mem _ (List.mem_cons_self ..))
      dsimp only at k1 k2 m1 m2
      subst k1 m1
      exact rjs2 g cap xl xh yl yh _ _ k2 m2 rfl rfl w (hc 0 _ rfl) (hc 1 _ rfl) (hc 2 _ rfl) (hc 3 _ rfl) (hc 4 _ rfl) (hc 5 _ rfl)
theorem info23 : (Try.prog.info? 23).map (fun i => (i.zero, i.size, i.bytes)) = some (some (.agg #[.bool false, .int .i64 0, .int .i64 0]), 3, 24) := by kernel_rfl
theorem wpl_app {ops : Array Oper} {rest : List Oper} {o : Oper} {a : Act} {Q : Exit → Act → World → Prop} {w : World} (hgd : o.guard = none) (s x : Operand)
    (ho : o.op = .call { callee := .builtin .append, args := #[s, x], argTypes := #[47, 47] }) (base : Nat) (v : Value) (l : List Iv) (hs : a.eval s = v) (hown : Own w base v l) (g : Nat) (q : Iv)
    (hx : a.eval x = .slice (some ⟨g, 0, none⟩) 1 1) (h0 : w.cell? ⟨g, 0, none⟩ = some (.bool q.s)) (h1 : w.cell? ⟨g, 1, none⟩ = some (.int .i64 q.lo)) (h2 : w.cell? ⟨g, 2, none⟩ = some (.int .i64 q.hi))
    (hl : l.length ≤ 5) (hb : base ≤ w.heap.size) (h : ∀ v' w', Own w' base v' (l ++ [q]) → Below base w w' → wpList Try.prog ops Q rest (a.put o.dst v') w') : wpList Try.prog ops Q (o :: rest) a w := by
  obtain ⟨i, hi, hz, hsz, hby⟩ := info_parts info23
  refine wpList_append_own w hgd s x 47 ho base 23 i _ 3 24 Try.underlying47 hi hz hsz hby rfl (by decide) v l.length (l.flatMap cellsI) hs hown ⟨g, 0, none⟩ 1 1 (cellsI q) hx rfl ?_ ?_ ?_ ?_ hb ?_
  · intro j u hj
    rcases j with _ | _ | _ | j
    all_goals first | (simp [cellsI] at hj; done) | (simp [cellsI] at hj; subst hj; simpa [Addr.add])
  · intro u hu
    simp [cellsI] at hu
    rcases hu with rfl | rfl | rfl <;> rfl
  · unfold maxLen; omega
  · omega
  · intro v' w' ho' hg _
    refine h v' w' ?_ ?_
    · unfold Own
      rw [List.length_append, List.flatMap_append, List.flatMap_singleton]
      exact ho'
    · exact Below.grown (Below.refl base w) hg hb (fun k hk => (World.ownsRow.lt hown k hk).1)
end Go.Proofs.Ytfnodgpebheinaa.M
