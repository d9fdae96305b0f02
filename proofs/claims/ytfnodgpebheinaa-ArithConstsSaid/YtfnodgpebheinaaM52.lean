/- Plain laws of intervals: what numbers come to lies in what the intervals come to. -/
import Derived.Test.YtfnodgpebheinaaM51
import Derived.Test.YtfnodgpebheinaaM29
namespace Go.Proofs.Ytfnodgpebheinaa.M
open Go Go.RowKit
set_option linter.unusedVariables false
set_option linter.unusedSimpArgs false
theorem has_top {n : Int} (h : inr n = true) : hasI Iv.top n = true := by
  rw [inr_iff] at h; rw [has_iff]; exact ⟨rfl, h.1, h.2⟩
theorem inr_wrap (n : Int) : inr (wrap64 n) = true := by rw [inr_iff]; exact wrap_in n
theorem add_sound {x y : Iv} {u v : Int} (ox : Ok x) (oy : Ok y) (hu : hasI x u = true) (hv : hasI y v = true) : hasI (addI x y) (wrap64 (u + v)) = true := by
  rw [has_iff] at hu hv
  rw [addI_eq ox oy hu.1 hv.1]
  split
  · rename_i h
    rw [inr_iff, inr_iff] at h
    rw [wrap_id (by rw [inr_iff]; omega), has_iff]
    exact ⟨rfl, by simp only; omega, by simp only; omega⟩
  · exact has_top (inr_wrap _)
theorem sub_sound {x y : Iv} {u v : Int} (ox : Ok x) (oy : Ok y) (hu : hasI x u = true) (hv : hasI y v = true) : hasI (subI x y) (wrap64 (u - v)) = true := by
  rw [has_iff] at hu hv
  rw [subI_eq ox oy hu.1 hv.1]
  split
  · rename_i h
    rw [inr_iff, inr_iff] at h
    rw [wrap_id (by rw [inr_iff]; omega), has_iff]
    exact ⟨rfl, by simp only; omega, by simp only; omega⟩
  · exact has_top (inr_wrap _)
theorem mul_line (a : Int) {l n h : Int} (h1 : l ≤ n) (h2 : n ≤ h) : (a * l ≤ a * n ∧ a * n ≤ a * h) ∨ (a * h ≤ a * n ∧ a * n ≤ a * l) := by
  by_cases c : 0 ≤ a
  · exact .inl ⟨Int.mul_le_mul_of_nonneg_left h1 c, Int.mul_le_mul_of_nonneg_left h2 c⟩
  · exact .inr ⟨Int.mul_le_mul_of_nonpos_left (by omega) h2, Int.mul_le_mul_of_nonpos_left (by omega) h1⟩
theorem mul_between {xl u xh yl v yh : Int} (h1 : xl ≤ u) (h2 : u ≤ xh) (h3 : yl ≤ v) (h4 : v ≤ yh) :
    min4 (xl * yl) (xl * yh) (xh * yl) (xh * yh) ≤ u * v ∧ u * v ≤ max4 (xl * yl) (xl * yh) (xh * yl) (xh * yh) := by
  have a1 := mul_line v h1 h2
  rw [Int.mul_comm v xl, Int.mul_comm v u, Int.mul_comm v xh] at a1
  have a2 := mul_line xl h3 h4
  have a3 := mul_line xh h3 h4
  have m1 := min4_le (xl * yl) (xl * yh) (xh * yl) (xh * yh)
  have m2 := le_max4 (xl * yl) (xl * yh) (xh * yl) (xh * yh)
  generalize xl * yl = c1 at *
  generalize xl * yh = c2 at *
  generalize xh * yl = c3 at *
  generalize xh * yh = c4 at *
  generalize xl * v = c5 at *
  generalize xh * v = c6 at *
  generalize u * v = c7 at *
  omega
theorem inr_four {a b c d n : Int} (h : inr a = true ∧ inr b = true ∧ inr c = true ∧ inr d = true) (h1 : min4 a b c d ≤ n) (h2 : n ≤ max4 a b c d) : inr n = true := by
  simp only [inr_iff] at h ⊢
  have k1 := min4_or a b c d
  have k2 := max4_or a b c d
  omega
theorem mul_sound {x y : Iv} {u v : Int} (hu : hasI x u = true) (hv : hasI y v = true) : hasI (mulI x y) (wrap64 (u * v)) = true := by
  rw [has_iff] at hu hv
  rw [mulI_eq hu.1 hv.1]
  have b := mul_between hu.2.1 hu.2.2 hv.2.1 hv.2.2
  split
  · rename_i h
    rw [wrap_id (inr_four h b.1 b.2), has_iff]
    exact ⟨rfl, b.1, b.2⟩
  · exact has_top (inr_wrap _)
theorem tdiv_den_pos {u l n : Int} (hu : 0 ≤ u) (hl : 0 < l) (h : l ≤ n) : u.tdiv n ≤ u.tdiv l := by
  rw [Int.tdiv_eq_ediv_of_nonneg hu, Int.tdiv_eq_ediv_of_nonneg hu, Int.le_ediv_iff_mul_le hl]
  have h1 : u / n * n ≤ u := Int.ediv_mul_le u (by omega)
  have h2 : 0 ≤ u / n := Int.ediv_nonneg hu (by omega)
  exact Int.le_trans (Int.mul_le_mul_of_nonneg_left h h2) h1
theorem tdiv_den (u : Int) {l n h : Int} (hl : 0 < l) (h1 : l ≤ n) (h2 : n ≤ h) : (u.tdiv h ≤ u.tdiv n ∧ u.tdiv n ≤ u.tdiv l) ∨ (u.tdiv l ≤ u.tdiv n ∧ u.tdiv n ≤ u.tdiv h) := by
  by_cases c : 0 ≤ u
  · exact .inl ⟨tdiv_den_pos c (by omega) h2, tdiv_den_pos c hl h1⟩
  · have k1 := tdiv_den_pos (u := -u) (by omega) hl h1
    have k2 := tdiv_den_pos (u := -u) (by omega) (show 0 < n by omega) h2
    rw [Int.neg_tdiv, Int.neg_tdiv] at k1 k2
    right; omega
theorem div_between_pos {xl u xh pl v ph : Int} (h1 : xl ≤ u) (h2 : u ≤ xh) (h0 : 0 < pl) (h3 : pl ≤ v) (h4 : v ≤ ph) :
    min4 (xl.tdiv pl) (xl.tdiv ph) (xh.tdiv pl) (xh.tdiv ph) ≤ u.tdiv v ∧ u.tdiv v ≤ max4 (xl.tdiv pl) (xl.tdiv ph) (xh.tdiv pl) (xh.tdiv ph) := by
  have a1 := Int.tdiv_le_tdiv (c := v) (by omega) h1
  have a2 := Int.tdiv_le_tdiv (c := v) (by omega) h2
  have a3 := tdiv_den xl h0 h3 h4
  have a4 := tdiv_den xh h0 h3 h4
  have m1 := min4_le (xl.tdiv pl) (xl.tdiv ph) (xh.tdiv pl) (xh.tdiv ph)
  have m2 := le_max4 (xl.tdiv pl) (xl.tdiv ph) (xh.tdiv pl) (xh.tdiv ph)
  generalize xl.tdiv pl = c1 at *
  generalize xl.tdiv ph = c2 at *
  generalize xh.tdiv pl = c3 at *
  generalize xh.tdiv ph = c4 at *
  generalize xl.tdiv v = c5 at *
  generalize xh.tdiv v = c6 at *
  generalize u.tdiv v = c7 at *
  omega
theorem div_between_neg {xl u xh pl v ph : Int} (h1 : xl ≤ u) (h2 : u ≤ xh) (h0 : ph < 0) (h3 : pl ≤ v) (h4 : v ≤ ph) :
    min4 (xl.tdiv pl) (xl.tdiv ph) (xh.tdiv pl) (xh.tdiv ph) ≤ u.tdiv v ∧ u.tdiv v ≤ max4 (xl.tdiv pl) (xl.tdiv ph) (xh.tdiv pl) (xh.tdiv ph) := by
  have a1 := Int.tdiv_le_tdiv (c := -v) (by omega) h1
  have a2 := Int.tdiv_le_tdiv (c := -v) (by omega) h2
  have a3 := tdiv_den xl (l := -ph) (n := -v) (h := -pl) (by omega) (by omega) (by omega)
  have a4 := tdiv_den xh (l := -ph) (n := -v) (h := -pl) (by omega) (by omega) (by omega)
  simp only [Int.tdiv_neg] at a1 a2 a3 a4
  have m1 := min4_le (xl.tdiv pl) (xl.tdiv ph) (xh.tdiv pl) (xh.tdiv ph)
  have m2 := le_max4 (xl.tdiv pl) (xl.tdiv ph) (xh.tdiv pl) (xh.tdiv ph)
  generalize xl.tdiv pl = c1 at *
  generalize xl.tdiv ph = c2 at *
  generalize xh.tdiv pl = c3 at *
  generalize xh.tdiv ph = c4 at *
  generalize xl.tdiv v = c5 at *
  generalize xh.tdiv v = c6 at *
  generalize u.tdiv v = c7 at *
  omega
theorem inr_quo {u v : Int} (hu : inr u = true) (h : ¬ (u = -9223372036854775808 ∧ v = -1)) : inr (u.tdiv v) = true := by
  rw [inr_iff] at hu ⊢
  have e := Int.natAbs_tdiv u v
  by_cases v1 : v = 1
  · subst v1; rw [Int.tdiv_one]; omega
  by_cases v2 : v = -1
  · subst v2
    rw [Int.tdiv_neg, Int.tdiv_one]; omega
  by_cases v0 : v = 0
  · subst v0; rw [Int.tdiv_zero]; omega
  have k : 2 ≤ v.natAbs := by omega
  have k2 : u.natAbs.div v.natAbs ≤ u.natAbs / 2 := Nat.div_le_div_left k (by omega)
  have k3 : u.natAbs ≤ 9223372036854775808 := by omega
  have k4 : u.natAbs / 2 ≤ 4611686018427387904 := by omega
  omega
theorem has_join {a b : Iv} {n : Int} (h : hasI a n = true ∨ hasI b n = true) : hasI (joinI a b) n = true := by
  unfold joinI
  simp only [has_iff] at h
  split
  · rename_i hb
    split
    · rename_i ha
      rw [has_iff]
      refine ⟨rfl, ?_, ?_⟩
      · show (if b.lo < a.lo then b.lo else a.lo) ≤ n; split <;> rcases h with h | h <;> omega
      · show n ≤ (if a.hi < b.hi then b.hi else a.hi); split <;> rcases h with h | h <;> omega
    · rename_i ha
      rcases h with h | h
      · exact absurd h.1 ha
      · rw [has_iff]; exact h
  · rename_i hb
    rcases h with h | h
    · rw [has_iff]; exact h
    · exact absurd h.1 hb
/-- The corners of the quotients, where none wraps. -/
theorem quoJ_eq {x p : Iv} (hx : inr x.lo = true ∧ inr x.hi = true) (h : ∀ i j, ¬ (two x.lo x.hi i = -9223372036854775808 ∧ two p.lo p.hi j = -1)) :
    quoJ x p = ⟨true, min4 (x.lo.tdiv p.lo) (x.lo.tdiv p.hi) (x.hi.tdiv p.lo) (x.hi.tdiv p.hi), max4 (x.lo.tdiv p.lo) (x.lo.tdiv p.hi) (x.hi.tdiv p.lo) (x.hi.tdiv p.hi)⟩ := by
  unfold quoJ
  rw [cornerJ_eq]
  have m : ∀ i j, quoN x p i j = wrap64 (Int.tdiv (two x.lo x.hi i) (two p.lo p.hi j)) := fun _ _ => rfl
  have e00 : quoN x p 0 0 = x.lo.tdiv p.lo := by rw [m]; exact wrap_id (inr_quo hx.1 (h 0 0))
  have e01 : quoN x p 0 1 = x.lo.tdiv p.hi := by rw [m]; exact wrap_id (inr_quo hx.1 (h 0 1))
  have e10 : quoN x p 1 0 = x.hi.tdiv p.lo := by rw [m]; exact wrap_id (inr_quo hx.2 (h 1 0))
  have e11 : quoN x p 1 1 = x.hi.tdiv p.hi := by rw [m]; exact wrap_id (inr_quo hx.2 (h 1 1))
  rw [e00, e01, e10, e11]
/-- The parts below and above 0. -/
theorem negP_eq {y : Iv} (oy : Ok y) (hs : y.s = true) : negP y = if y.lo ≤ -1 then ⟨true, y.lo, if -1 < y.hi then -1 else y.hi⟩ else Iv.e := by
  have b := oy.bounds hs
  unfold negP meetI nrm
  rw [if_pos ⟨hs, rfl⟩]
  have e1 : (if y.lo < -9223372036854775808 then (-9223372036854775808 : Int) else y.lo) = y.lo := by split <;> omega
  simp only [e1, true_and]
  by_cases h : y.lo ≤ -1
  · rw [if_pos h, if_pos (by split <;> omega)]
  · rw [if_neg h, if_neg (by split <;> omega)]
theorem posP_eq {y : Iv} (oy : Ok y) (hs : y.s = true) : posP y = if 1 ≤ y.hi then ⟨true, if y.lo < 1 then 1 else y.lo, y.hi⟩ else Iv.e := by
  have b := oy.bounds hs
  unfold posP meetI nrm
  rw [if_pos ⟨hs, rfl⟩]
  have e1 : (if (9223372036854775807 : Int) < y.hi then (9223372036854775807 : Int) else y.hi) = y.hi := by split <;> omega
  simp only [e1, true_and]
  by_cases h : 1 ≤ y.hi
  · rw [if_pos h, if_pos (by split <;> omega)]
  · rw [if_neg h, if_neg (by split <;> omega)]
theorem corner_no {x y p : Iv} (ox : Ok x) (hx : x.s = true) (hp : Sub p y) (hps : p.s = true) (hpo : p.lo ≤ p.hi) (h : ¬ (hasI x (-9223372036854775808) = true ∧ hasI y (-1) = true)) (i j : Nat) :
    ¬ (two x.lo x.hi i = -9223372036854775808 ∧ two p.lo p.hi j = -1) := by
  rintro ⟨h1, h2⟩
  have b := ox.bounds hx
  obtain ⟨s1, s2, s3⟩ := hp hps
  refine h ⟨?_, ?_⟩
  · rw [has_iff]; unfold two at h1; split at h1 <;> exact ⟨hx, by omega, by omega⟩
  · rw [has_iff]; unfold two at h2; split at h2 <;> exact ⟨s1, by omega, by omega⟩
theorem div_sound {x y : Iv} {u v : Int} (ox : Ok x) (oy : Ok y) (hu : hasI x u = true) (hv : hasI y v = true) (h0 : v ≠ 0) : hasI (divI x y) (wrap64 (u.tdiv v)) = true := by
  have ku := (has_iff x u).1 hu
  have kv := (has_iff y v).1 hv
  have bx := ox.bounds ku.1
  have by_ := oy.bounds kv.1
  unfold divI
  rw [if_pos ⟨ku.1, kv.1⟩]
  split
  · exact has_top (inr_wrap _)
  rename_i hno
  have hi : inr (u.tdiv v) = true := inr_quo (by rw [inr_iff]; omega) (by rintro ⟨rfl, rfl⟩; exact hno ⟨hu, hv⟩)
  rw [wrap_id hi]
  have ir := ox.inrs ku.1
  by_cases hn : v < 0
  · have e := negP_eq oy kv.1
    rw [if_pos (by omega)] at e
    have c := corner_no ox ku.1 (p := negP y) (meet_sub y _).1 (by rw [e]) (by rw [e]; simp only; split <;> omega) hno
    have hq := quoJ_eq ir c
    have hin : hasI (quoJ x (negP y)) (u.tdiv v) = true := by
      rw [hq, has_iff, e]
      have d := div_between_neg (pl := y.lo) (ph := if -1 < y.hi then -1 else y.hi) ku.2.1 ku.2.2 (by split <;> omega) kv.2.1 (by split <;> omega)
      exact ⟨rfl, d.1, d.2⟩
    have st : hasI (divStep x Iv.e (negP y)) (u.tdiv v) = true := by
      unfold divStep
      rw [if_pos (by rw [e])]
      exact has_join (.inr hin)
    unfold divStep
    split
    · exact has_join (.inl st)
    · exact st
  · have e := posP_eq oy kv.1
    rw [if_pos (by omega)] at e
    have c := corner_no ox ku.1 (p := posP y) (meet_sub y _).1 (by rw [e]) (by rw [e]; simp only; split <;> omega) hno
    have hq := quoJ_eq ir c
    have hin : hasI (quoJ x (posP y)) (u.tdiv v) = true := by
      rw [hq, has_iff, e]
      have d := div_between_pos (pl := if y.lo < 1 then 1 else y.lo) (ph := y.hi) ku.2.1 ku.2.2 (by split <;> omega) (by split <;> omega) kv.2.2
      exact ⟨rfl, d.1, d.2⟩
    unfold divStep
    rw [if_pos (by rw [e])]
    exact has_join (.inr hin)
theorem tmod_facts (u : Int) {v : Int} (h : v ≠ 0) : (u.tmod v).natAbs < v.natAbs ∧ (u.tmod v).natAbs ≤ u.natAbs ∧ (0 ≤ u → 0 ≤ u.tmod v) ∧ (u ≤ 0 → u.tmod v ≤ 0) := by
  have e := Int.natAbs_tmod u v
  refine ⟨?_, ?_, fun k => Int.tmod_nonneg v k, fun k => ?_⟩
  · rw [e]; exact Nat.mod_lt _ (by omega)
  · rw [e]; exact Nat.mod_le _ _
  · have := Int.tmod_nonneg v (show 0 ≤ -u by omega)
    rw [Int.neg_tmod] at this; omega
theorem mod_sound {x y : Iv} {u v : Int} (ox : Ok x) (oy : Ok y) (hu : hasI x u = true) (hv : hasI y v = true) (h0 : v ≠ 0) : hasI (modI x y) (u.tmod v) = true := by
  have ku := (has_iff x u).1 hu
  have kv := (has_iff y v).1 hv
  have bx := ox.bounds ku.1
  have by_ := oy.bounds kv.1
  obtain ⟨f1, f2, f3, f4⟩ := tmod_facts u h0
  unfold modI
  rw [if_pos ⟨ku.1, kv.1⟩, if_neg (by omega), has_of]
  have hm : ((u.tmod v).natAbs : Int) ≤ modM y := by unfold modM; split <;> omega
  have hm0 : 0 ≤ modM y := by unfold modM; split <;> omega
  generalize modM y = m at hm hm0 ⊢
  generalize u.tmod v = r at *
  constructor
  · split
    · split <;> omega
    · have := f3 (by omega); omega
  · split
    · split <;> omega
    · have := f4 (by omega); omega
theorem divZ_sound {x y : Iv} (hx : x.s = true) (hv : hasI y 0 = true) : divZ x y = true := by
  unfold divZ
  rw [hx, ((has_iff y 0).1 hv).1, hv]; rfl
end Go.Proofs.Ytfnodgpebheinaa.M
