/- Plain laws of intervals: what each one holds. -/
import Derived.Test.YtfnodgpebheinaaM26
import Derived.Test.YtfnodgpebheinaaM41
namespace Go.Proofs.Ytfnodgpebheinaa.M
open Go Go.RowKit
set_option linter.unusedVariables false
set_option linter.unusedSimpArgs false
theorem has_iff (x : Iv) (n : Int) : hasI x n = true ↔ x.s = true ∧ x.lo ≤ n ∧ n ≤ x.hi := by
  unfold hasI
  simp only [Bool.and_eq_true, decide_eq_true_eq]
theorem has_e (n : Int) : hasI Iv.e n = false := rfl
theorem has_nrm (x : Iv) (n : Int) : hasI (nrm x) n = true ↔ x.s = true ∧ x.lo ≤ n ∧ n ≤ x.hi := by
  unfold nrm
  split
  · exact has_iff x n
  · rename_i h
    constructor
    · intro k; cases k
    · rintro ⟨h1, h2, h3⟩; exact absurd ⟨h1, by omega⟩ h
theorem has_of (lo hi n : Int) : hasI (ofI lo hi) n = true ↔ lo ≤ n ∧ n ≤ hi := by
  unfold ofI; rw [has_nrm]; simp
theorem has_meet (x y : Iv) (n : Int) : hasI (meetI x y) n = true ↔ hasI x n = true ∧ hasI y n = true := by
  unfold meetI
  split
  · rename_i h
    rw [has_nrm, has_iff, has_iff]
    simp only [h.1, h.2, true_and]
    constructor
    · rintro ⟨h1, h2⟩
      split at h1 <;> split at h2 <;> omega
    · rintro ⟨h1, h2⟩
      split <;> split <;> omega
  · rename_i h
    rw [has_iff x, has_iff y]
    constructor
    · intro k; cases k
    · rintro ⟨h1, h2⟩; exact absurd ⟨h1.1, h2.1⟩ h
theorem has_below (hi n : Int) (h1 : -9223372036854775808 ≤ hi) (h2 : hi ≤ 9223372036854775807) : hasI (belowI hi) n = true ↔ -9223372036854775808 ≤ n ∧ n < hi := by
  unfold belowI
  split
  · constructor
    · intro k; cases k
    · intro k; omega
  · rw [has_of]; unfold wrap64; omega
theorem has_above (lo n : Int) (h1 : -9223372036854775808 ≤ lo) (h2 : lo ≤ 9223372036854775807) : hasI (aboveI lo) n = true ↔ lo < n ∧ n ≤ 9223372036854775807 := by
  unfold aboveI
  split
  · constructor
    · intro k; cases k
    · intro k; omega
  · rw [has_of]; unfold wrap64; omega
/-- Bounds of what is some. -/
theorem Ok.bounds {x : Iv} (h : Ok x) (hs : x.s = true) : -9223372036854775808 ≤ x.lo ∧ x.lo ≤ x.hi ∧ x.hi ≤ 9223372036854775807 := by
  rcases h with rfl | ⟨_, h1, h2, h3⟩
  · cases hs
  · exact ⟨h1, h2, h3⟩
theorem has_with {x y : Iv} {u : Int} (ox : Ok x) (oy : Ok y) (hu : hasI x u = true) (hys : y.s = true) (h : y.lo = y.hi → u ≠ y.lo) : hasI (withI x y) u = true := by
  have k := (has_iff x u).1 hu
  have bx := ox.bounds k.1
  unfold withI
  split
  · rename_i h1
    have h2 := h h1
    split
    · rw [has_meet, has_above _ _ (by omega) (by omega)]; exact ⟨hu, by omega⟩
    · split
      · rw [has_meet, has_below _ _ (by omega) (by omega)]; exact ⟨hu, by omega⟩
      · exact hu
  · exact hu
/-- One interval lies within another. -/
def Sub (p x : Iv) : Prop := p.s = true → x.s = true ∧ x.lo ≤ p.lo ∧ p.hi ≤ x.hi
theorem Sub.refl (x : Iv) : Sub x x := fun h => ⟨h, by omega, by omega⟩
theorem Sub.e (x : Iv) : Sub Iv.e x := fun h => by cases h
theorem Sub.trans {x y z : Iv} (h : Sub x y) (k : Sub y z) : Sub x z := fun hs => by
  obtain ⟨h1, h2, h3⟩ := h hs
  obtain ⟨k1, k2, k3⟩ := k h1
  exact ⟨k1, by omega, by omega⟩
theorem nrm_sub (x : Iv) : Sub (nrm x) x := by
  unfold nrm
  split
  · exact Sub.refl x
  · exact Sub.e x
theorem meet_sub (x y : Iv) : Sub (meetI x y) x ∧ Sub (meetI x y) y := by
  unfold meetI
  split
  · rename_i h
    refine ⟨(nrm_sub _).trans ?_, (nrm_sub _).trans ?_⟩
    · intro _
      refine ⟨h.1, ?_, ?_⟩
      · show x.lo ≤ (if x.lo < y.lo then y.lo else x.lo); split <;> omega
      · show (if y.hi < x.hi then y.hi else x.hi) ≤ x.hi; split <;> omega
    · intro _
      refine ⟨h.2, ?_, ?_⟩
      · show y.lo ≤ (if x.lo < y.lo then y.lo else x.lo); split <;> omega
      · show (if y.hi < x.hi then y.hi else x.hi) ≤ y.hi; split <;> omega
  · exact ⟨Sub.e x, Sub.e y⟩
theorem with_sub (x y : Iv) : Sub (withI x y) x := by
  unfold withI
  split
  · split
    · exact (meet_sub x _).1
    · split
      · exact (meet_sub x _).1
      · exact Sub.refl x
  · exact Sub.refl x
theorem nrm_e : nrm Iv.e = Iv.e := rfl
theorem nrm_meet (x y : Iv) : nrm (meetI x y) = meetI x y := by
  unfold meetI
  split
  · exact nrm_nrm _
  · rfl
theorem nrm_with {x y : Iv} (h : nrm x = x) : nrm (withI x y) = withI x y := by
  unfold withI
  split
  · split
    · exact nrm_meet _ _
    · split
      · exact nrm_meet _ _
      · exact h
  · exact h
theorem leftP_sub (k : Int) (x y : Iv) : Sub (leftP k x y).1 x ∧ Sub (leftP k x y).2 y := by
  unfold leftP
  split
  · exact ⟨(meet_sub x y).1, (meet_sub x y).2⟩
  split
  · exact ⟨with_sub x y, with_sub y x⟩
  split
  · exact ⟨(meet_sub x _).1, (meet_sub y _).1⟩
  split
  · exact ⟨(meet_sub x _).1, (meet_sub y _).1⟩
  split
  · exact ⟨(meet_sub x _).1, (meet_sub y _).1⟩
  split
  · exact ⟨(meet_sub x _).1, (meet_sub y _).1⟩
  exact ⟨Sub.refl x, Sub.refl y⟩
theorem leftP_nrm (k : Int) {x y : Iv} (hx : nrm x = x) (hy : nrm y = y) : nrm (leftP k x y).1 = (leftP k x y).1 ∧ nrm (leftP k x y).2 = (leftP k x y).2 := by
  unfold leftP
  split
  · exact ⟨nrm_meet x y, nrm_meet x y⟩
  split
  · exact ⟨nrm_with hx, nrm_with hy⟩
  split
  · exact ⟨nrm_meet _ _, nrm_meet _ _⟩
  split
  · exact ⟨nrm_meet _ _, nrm_meet _ _⟩
  split
  · exact ⟨nrm_meet _ _, nrm_meet _ _⟩
  split
  · exact ⟨nrm_meet _ _, nrm_meet _ _⟩
  exact ⟨hx, hy⟩
theorem pairP_sub {p : Iv × Iv} {x y : Iv} (h : Sub p.1 x ∧ Sub p.2 y) : Sub (pairP p).1 x ∧ Sub (pairP p).2 y := by
  unfold pairP
  split
  · exact h
  · exact ⟨Sub.e x, Sub.e y⟩
theorem pairP_s (p : Iv × Iv) : (pairP p).1.s = (pairP p).2.s := by
  unfold pairP
  split
  · rename_i h; rw [h.1, h.2]
  · rfl
theorem pairP_nrm {p : Iv × Iv} (h : nrm p.1 = p.1 ∧ nrm p.2 = p.2) : nrm (pairP p).1 = (pairP p).1 ∧ nrm (pairP p).2 = (pairP p).2 := by
  unfold pairP
  split
  · exact h
  · exact ⟨rfl, rfl⟩
theorem less_sub (k : Int) (x y : Iv) : Sub (lessI k x y).1 x ∧ Sub (lessI k x y).2 y := by
  unfold lessI
  split
  · exact pairP_sub (leftP_sub k x y)
  · exact ⟨Sub.e x, Sub.e y⟩
theorem less_s (k : Int) (x y : Iv) : (lessI k x y).1.s = (lessI k x y).2.s := by
  unfold lessI
  split
  · exact pairP_s _
  · rfl
theorem less_nrm (k : Int) {x y : Iv} (hx : nrm x = x) (hy : nrm y = y) : nrm (lessI k x y).1 = (lessI k x y).1 ∧ nrm (lessI k x y).2 = (lessI k x y).2 := by
  unfold lessI
  split
  · exact pairP_nrm (leftP_nrm k hx hy)
  · exact ⟨rfl, rfl⟩
theorem less_none (k : Int) {x y : Iv} (h : ¬ (x.s = true ∧ y.s = true)) : lessI k x y = (Iv.e, Iv.e) := by
  unfold lessI; rw [if_neg h]
theorem leq_of_sub {p x : Iv} (h : Sub p x) : leqI p x = true := by
  unfold leqI
  cases hs : p.s
  · rfl
  · obtain ⟨h1, h2, h3⟩ := h hs
    simp [h1, h2, h3]
theorem less_has {k u v : Int} {x y : Iv} (ox : Ok x) (oy : Ok y) (hu : hasI x u = true) (hv : hasI y v = true) (hk : 0 ≤ k ∧ k ≤ 5) (h : holdsB k u v = true) : hasI (lessI k x y).1 u = true ∧ hasI (lessI k x y).2 v = true := by
  have ku := (has_iff x u).1 hu
  have kv := (has_iff y v).1 hv
  have bx := ox.bounds ku.1
  have bys := oy.bounds kv.1
  have key : hasI (leftP k x y).1 u = true ∧ hasI (leftP k x y).2 v = true := by
    unfold leftP
    unfold holdsB at h
    by_cases k0 : k = 0
    · rw [if_pos k0] at h ⊢
      have e := eq_of_beq h
      subst e
      exact ⟨(has_meet _ _ _).2 ⟨hu, hv⟩, (has_meet _ _ _).2 ⟨hu, hv⟩⟩
    rw [if_neg k0] at h ⊢
    by_cases k1 : k = 1
    · rw [if_pos k1] at h ⊢
      have e : u ≠ v := by simpa using h
      exact ⟨has_with ox oy hu kv.1 (fun e1 e2 => e (by omega)), has_with oy ox hv ku.1 (fun e1 e2 => e (by omega))⟩
    rw [if_neg k1] at h ⊢
    by_cases k2 : k = 2
    · rw [if_pos k2] at h ⊢
      have e := of_decide_eq_true h
      exact ⟨(has_meet _ _ _).2 ⟨hu, (has_below _ _ (by omega) (by omega)).2 (by omega)⟩, (has_meet _ _ _).2 ⟨hv, (has_above _ _ (by omega) (by omega)).2 (by omega)⟩⟩
    rw [if_neg k2] at h ⊢
    by_cases k3 : k = 3
    · rw [if_pos k3] at h ⊢
      have e := of_decide_eq_true h
      exact ⟨(has_meet _ _ _).2 ⟨hu, (has_of _ _ _).2 (by omega)⟩, (has_meet _ _ _).2 ⟨hv, (has_of _ _ _).2 (by omega)⟩⟩
    rw [if_neg k3] at h ⊢
    by_cases k4 : k = 4
    · rw [if_pos k4] at h ⊢
      have e := of_decide_eq_true h
      exact ⟨(has_meet _ _ _).2 ⟨hu, (has_above _ _ (by omega) (by omega)).2 (by omega)⟩, (has_meet _ _ _).2 ⟨hv, (has_below _ _ (by omega) (by omega)).2 (by omega)⟩⟩
    rw [if_neg k4] at h ⊢
    have k5 : k = 5 := by omega
    rw [if_pos k5]
    have e := of_decide_eq_true h
    exact ⟨(has_meet _ _ _).2 ⟨hu, (has_of _ _ _).2 (by omega)⟩, (has_meet _ _ _).2 ⟨hv, (has_of _ _ _).2 (by omega)⟩⟩
  unfold lessI
  rw [if_pos ⟨ku.1, kv.1⟩]
  unfold pairP
  rw [if_pos ⟨((has_iff _ _).1 key.1).1, ((has_iff _ _).1 key.2).1⟩]
  exact key
end Go.Proofs.Ytfnodgpebheinaa.M
