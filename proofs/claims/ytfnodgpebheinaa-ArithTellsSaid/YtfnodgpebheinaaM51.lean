/- Plain laws of intervals: sums, differences, products. -/
import Derived.Test.YtfnodgpebheinaaM50
namespace Go.Proofs.Ytfnodgpebheinaa.M
open Go Go.RowKit
set_option linter.unusedVariables false
set_option linter.unusedSimpArgs false
theorem inr_iff (n : Int) : inr n = true ↔ -9223372036854775808 ≤ n ∧ n ≤ 9223372036854775807 := by unfold inr; simp
theorem wrap_in (n : Int) : -9223372036854775808 ≤ wrap64 n ∧ wrap64 n ≤ 9223372036854775807 := by unfold wrap64; omega
theorem wrap_id {n : Int} (h : inr n = true) : wrap64 n = n := by rw [inr_iff] at h; unfold wrap64; omega
theorem add_flag {a b : Int} (ha : inr a = true) (hb : inr b = true) : (decide (a < wrap64 (a + b)) == decide (0 < b)) = inr (a + b) := by
  rw [inr_iff] at ha hb
  rw [Bool.eq_iff_iff, inr_iff, beq_iff_eq, decide_eq_decide]
  unfold wrap64
  omega
theorem sub_flag {a b : Int} (ha : inr a = true) (hb : inr b = true) : (decide (wrap64 (a - b) < a) == decide (0 < b)) = inr (a - b) := by
  rw [inr_iff] at ha hb
  rw [Bool.eq_iff_iff, inr_iff, beq_iff_eq, decide_eq_decide]
  unfold wrap64
  omega
theorem Ok.inrs {x : Iv} (h : Ok x) (hs : x.s = true) : inr x.lo = true ∧ inr x.hi = true := by
  obtain ⟨h1, h2, h3⟩ := h.bounds hs
  rw [inr_iff, inr_iff]; omega
theorem of_eq {lo hi : Int} (h : lo ≤ hi) : ofI lo hi = ⟨true, lo, hi⟩ := by
  unfold ofI nrm; rw [if_pos ⟨rfl, h⟩]
theorem addI_eq {x y : Iv} (ox : Ok x) (oy : Ok y) (hx : x.s = true) (hy : y.s = true) : addI x y = if inr (x.lo + y.lo) = true ∧ inr (x.hi + y.hi) = true then ⟨true, x.lo + y.lo, x.hi + y.hi⟩ else Iv.top := by
  obtain ⟨i1, i2⟩ := ox.inrs hx
  obtain ⟨j1, j2⟩ := oy.inrs hy
  have b1 := ox.bounds hx
  have b2 := oy.bounds hy
  unfold addI boundsI
  rw [if_pos ⟨hx, hy⟩, add_flag i1 j1, add_flag i2 j2]
  split
  · rename_i h
    rw [wrap_id h.1, wrap_id h.2, of_eq (by omega)]
  · rfl
theorem subI_eq {x y : Iv} (ox : Ok x) (oy : Ok y) (hx : x.s = true) (hy : y.s = true) : subI x y = if inr (x.lo - y.hi) = true ∧ inr (x.hi - y.lo) = true then ⟨true, x.lo - y.hi, x.hi - y.lo⟩ else Iv.top := by
  obtain ⟨i1, i2⟩ := ox.inrs hx
  obtain ⟨j1, j2⟩ := oy.inrs hy
  have b1 := ox.bounds hx
  have b2 := oy.bounds hy
  unfold subI boundsI
  rw [if_pos ⟨hx, hy⟩, sub_flag i1 j2, sub_flag i2 j1]
  split
  · rename_i h
    rw [wrap_id h.1, wrap_id h.2, of_eq (by omega)]
  · rfl
theorem ok_top : Ok Iv.top := .inr ⟨rfl, by decide, by decide, by decide⟩
theorem ok_e : Ok Iv.e := .inl rfl
theorem addI_ok {x y : Iv} (ox : Ok x) (oy : Ok y) : Ok (addI x y) := by
  by_cases h : x.s = true ∧ y.s = true
  · rw [addI_eq ox oy h.1 h.2]
    have b1 := ox.bounds h.1
    have b2 := oy.bounds h.2
    split
    · rename_i k; rw [inr_iff, inr_iff] at k; exact .inr ⟨rfl, k.1.1, by simp only; omega, k.2.2⟩
    · exact ok_top
  · unfold addI; rw [if_neg h]; exact ok_e
theorem subI_ok {x y : Iv} (ox : Ok x) (oy : Ok y) : Ok (subI x y) := by
  by_cases h : x.s = true ∧ y.s = true
  · rw [subI_eq ox oy h.1 h.2]
    have b1 := ox.bounds h.1
    have b2 := oy.bounds h.2
    split
    · rename_i k; rw [inr_iff, inr_iff] at k; exact .inr ⟨rfl, k.1.1, by simp only; omega, k.2.2⟩
    · exact ok_top
  · unfold subI; rw [if_neg h]; exact ok_e
theorem addI_comm {x y : Iv} (ox : Ok x) (oy : Ok y) : addI x y = addI y x := by
  by_cases h : x.s = true ∧ y.s = true
  · rw [addI_eq ox oy h.1 h.2, addI_eq oy ox h.2 h.1, Int.add_comm x.lo, Int.add_comm x.hi]
  · unfold addI; rw [if_neg h, if_neg (fun k => h ⟨k.2, k.1⟩)]
/-- The least and the greatest of four. -/
def min4 (a b c d : Int) : Int := if d < (if c < (if b < a then b else a) then c else (if b < a then b else a)) then d else (if c < (if b < a then b else a) then c else (if b < a then b else a))
def max4 (a b c d : Int) : Int := if (if (if a < b then b else a) < c then c else (if a < b then b else a)) < d then d else (if (if a < b then b else a) < c then c else (if a < b then b else a))
theorem cornerJ_eq (n : Nat → Nat → Int) : cornerJ n 4 = ⟨true, min4 (n 0 0) (n 0 1) (n 1 0) (n 1 1), max4 (n 0 0) (n 0 1) (n 1 0) (n 1 1)⟩ := rfl
theorem min4_le (a b c d : Int) : min4 a b c d ≤ a ∧ min4 a b c d ≤ b ∧ min4 a b c d ≤ c ∧ min4 a b c d ≤ d := by
  unfold min4; (repeat' split) <;> omega
theorem le_max4 (a b c d : Int) : a ≤ max4 a b c d ∧ b ≤ max4 a b c d ∧ c ≤ max4 a b c d ∧ d ≤ max4 a b c d := by
  unfold max4; (repeat' split) <;> omega
theorem min4_or (a b c d : Int) : min4 a b c d = a ∨ min4 a b c d = b ∨ min4 a b c d = c ∨ min4 a b c d = d := by
  unfold min4; (repeat' split) <;> simp
theorem max4_or (a b c d : Int) : max4 a b c d = a ∨ max4 a b c d = b ∨ max4 a b c d = c ∨ max4 a b c d = d := by
  unfold max4; (repeat' split) <;> simp
theorem min4_comm (a b c d : Int) : min4 a b c d = min4 a c b d := by
  have h1 := min4_le a b c d
  have h2 := min4_le a c b d
  have k1 := min4_or a b c d
  have k2 := min4_or a c b d
  omega
theorem max4_comm (a b c d : Int) : max4 a b c d = max4 a c b d := by
  have h1 := le_max4 a b c d
  have h2 := le_max4 a c b d
  have k1 := max4_or a b c d
  have k2 := max4_or a c b d
  omega
/-- The products, in plain words. -/
theorem mulI_eq {x y : Iv} (hx : x.s = true) (hy : y.s = true) : mulI x y =
    if inr (x.lo * y.lo) = true ∧ inr (x.lo * y.hi) = true ∧ inr (x.hi * y.lo) = true ∧ inr (x.hi * y.hi) = true then
      ⟨true, min4 (x.lo * y.lo) (x.lo * y.hi) (x.hi * y.lo) (x.hi * y.hi), max4 (x.lo * y.lo) (x.lo * y.hi) (x.hi * y.lo) (x.hi * y.hi)⟩ else Iv.top := by
  unfold mulI
  rw [if_pos ⟨hx, hy⟩]
  have e : allOk x y = true ↔ inr (x.lo * y.lo) = true ∧ inr (x.lo * y.hi) = true ∧ inr (x.hi * y.lo) = true ∧ inr (x.hi * y.hi) = true := by
    unfold allOk mulOk two
    simp [Bool.and_eq_true]
  by_cases h : allOk x y = true
  · have k := e.1 h
    rw [if_pos h, if_pos k, cornerJ_eq]
    have m : ∀ i j, mulN x y i j = wrap64 (two x.lo x.hi i * two y.lo y.hi j) := fun _ _ => rfl
    rw [m, m, m, m]
    simp only [two, if_true, if_neg (by decide : ¬ (1 : Nat) = 0)]
    rw [wrap_id k.1, wrap_id k.2.1, wrap_id k.2.2.1, wrap_id k.2.2.2]
  · rw [if_neg h, if_neg (fun k => h (e.2 k))]
theorem mulI_comm (x y : Iv) : mulI x y = mulI y x := by
  by_cases h : x.s = true ∧ y.s = true
  · rw [mulI_eq h.1 h.2, mulI_eq h.2 h.1, Int.mul_comm y.lo x.lo, Int.mul_comm y.lo x.hi, Int.mul_comm y.hi x.lo, Int.mul_comm y.hi x.hi, min4_comm, max4_comm]
    by_cases k : inr (x.lo * y.lo) = true ∧ inr (x.lo * y.hi) = true ∧ inr (x.hi * y.lo) = true ∧ inr (x.hi * y.hi) = true
    · rw [if_pos k, if_pos ⟨k.1, k.2.2.1, k.2.1, k.2.2.2⟩]
    · rw [if_neg k, if_neg (fun z => k ⟨z.1, z.2.2.1, z.2.1, z.2.2.2⟩)]
  · unfold mulI; rw [if_neg h, if_neg (fun k => h ⟨k.2, k.1⟩)]
theorem nrm_or (a : Iv) : nrm a = Iv.e ∨ (nrm a = a ∧ a.s = true ∧ a.lo ≤ a.hi) := by
  unfold nrm
  split
  · rename_i h; exact .inr ⟨rfl, h.1, h.2⟩
  · exact .inl rfl
theorem smallB_iff (a : Iv) : smallB a = true ↔ -4611686018427387904 < a.lo ∧ a.hi < 4611686018427387904 := by unfold smallB; simp
theorem negI_eq {y : Iv} (oy : Ok y) (hy : y.s = true) (h1 : -9223372036854775808 < y.lo) : subI ⟨true, 0, 0⟩ y = ⟨true, -y.hi, -y.lo⟩ := by
  have b := oy.bounds hy
  rw [subI_eq (.inr ⟨rfl, by decide, by decide, by decide⟩) oy rfl hy, if_pos (by rw [inr_iff, inr_iff]; constructor <;> simp only <;> omega)]
  simp
theorem sub_is_add {a b : Iv} (ra : inR a = true) (rb : inR b = true) (ha : smallB a = true) (hb : smallB b = true) : subI (nrm a) (nrm b) = addI (nrm a) (nrm (subI ⟨true, 0, 0⟩ (nrm b))) := by
  rw [smallB_iff] at ha hb
  have ox := inR_ok ra
  have oy := inR_ok rb
  rcases nrm_or b with e | ⟨e, s2, l2⟩
  · rw [e]
    rcases nrm_or a with e1 | ⟨e1, s1, l1⟩
    · rw [e1]; rfl
    · rw [e1]; unfold subI addI; simp [nrm]
  · rw [e] at oy ⊢
    rw [negI_eq oy s2 (by omega), nrm_some (show -b.hi ≤ -b.lo by omega)]
    rcases nrm_or a with e1 | ⟨e1, s1, l1⟩
    · rw [e1]; unfold subI addI; simp
    · rw [e1] at ox ⊢
      have b1 := ox.bounds s1
      have b2 := oy.bounds s2
      rw [subI_eq ox oy s1 s2, addI_eq ox (.inr ⟨rfl, by simp only; omega, by simp only; omega, by simp only; omega⟩) s1 rfl, if_pos (by rw [inr_iff, inr_iff]; omega), if_pos (by rw [inr_iff, inr_iff]; simp only; omega)]
      simp only [Iv.mk.injEq, true_and]; omega
theorem neg_neg {a : Iv} (ra : inR a = true) (ha : smallB a = true) : subI ⟨true, 0, 0⟩ (nrm (subI ⟨true, 0, 0⟩ (nrm a))) = nrm a := by
  rw [smallB_iff] at ha
  have ox := inR_ok ra
  rcases nrm_or a with e1 | ⟨e1, s1, l1⟩
  · rw [e1]; rfl
  · rw [e1] at ox ⊢
    have b1 := ox.bounds s1
    rw [negI_eq ox s1 (by omega), nrm_some (show -a.hi ≤ -a.lo by omega), negI_eq (.inr ⟨rfl, by simp only; omega, by simp only; omega, by simp only; omega⟩) rfl (by simp only; omega)]
    obtain ⟨s, lo, hi⟩ := a
    obtain rfl : s = true := s1
    simp
/-- Less with its sides exchanged. -/
def turnK (j : Int) : Int := if j = 2 then 4 else if j = 3 then 5 else if j = 4 then 2 else if j = 5 then 3 else j
theorem meetI_comm (x y : Iv) : meetI x y = meetI y x := by
  unfold meetI
  by_cases h : x.s = true ∧ y.s = true
  · rw [if_pos h, if_pos h.symm]
    congr 2
    · split <;> split <;> omega
    · split <;> split <;> omega
  · rw [if_neg h, if_neg (fun k => h ⟨k.2, k.1⟩)]
theorem leftP_turn {j : Int} (hj : 0 ≤ j ∧ j ≤ 5) (x y : Iv) : leftP (turnK j) y x = ((leftP j x y).2, (leftP j x y).1) := by
  have h : j = 0 ∨ j = 1 ∨ j = 2 ∨ j = 3 ∨ j = 4 ∨ j = 5 := by omega
  rcases h with rfl | rfl | rfl | rfl | rfl | rfl
  · show (meetI y x, meetI y x) = (meetI x y, meetI x y)
    rw [meetI_comm]
  all_goals rfl
theorem pairP_swap (p : Iv × Iv) : pairP (p.2, p.1) = ((pairP p).2, (pairP p).1) := by
  unfold pairP
  by_cases h : p.1.s = true ∧ p.2.s = true
  · rw [if_pos h, if_pos h.symm]
  · rw [if_neg h, if_neg (fun k => h ⟨k.2, k.1⟩)]
theorem less_turn {j : Int} (hj : 0 ≤ j ∧ j ≤ 5) (x y : Iv) : lessI (turnK j) y x = ((lessI j x y).2, (lessI j x y).1) := by
  unfold lessI
  by_cases h : x.s = true ∧ y.s = true
  · rw [if_pos h, if_pos h.symm, leftP_turn hj, pairP_swap]
  · rw [if_neg h, if_neg (fun k => h ⟨k.2, k.1⟩)]
end Go.Proofs.Ytfnodgpebheinaa.M
