/- Plain laws of intervals: of more comes no less. -/
import Derived.Test.YtfnodgpebheinaaM52
namespace Go.Proofs.Ytfnodgpebheinaa.M
open Go Go.RowKit
set_option linter.unusedVariables false
set_option linter.unusedSimpArgs false
theorem sub_top {p : Iv} (h : Ok p) : Sub p Iv.top := fun hs => by
  have b := h.bounds hs
  exact ⟨rfl, b.1, b.2.2⟩
theorem sub_of_none {p q : Iv} (h : p.s = false) : Sub p q := fun hs => by rw [h] at hs; cases hs
theorem joinI_ok {a b : Iv} (ha : Ok a) (hb : Ok b) : Ok (joinI a b) := by
  unfold joinI
  split
  · rename_i h2
    split
    · rename_i h1
      have k1 := ha.bounds h1
      have k2 := hb.bounds h2
      refine .inr ⟨rfl, ?_, ?_, ?_⟩
      · show -9223372036854775808 ≤ (if b.lo < a.lo then b.lo else a.lo); split <;> omega
      · show (if b.lo < a.lo then b.lo else a.lo) ≤ (if a.hi < b.hi then b.hi else a.hi); split <;> split <;> omega
      · show (if a.hi < b.hi then b.hi else a.hi) ≤ 9223372036854775807; split <;> omega
    · exact hb
  · exact ha
theorem join_sub_left {a b : Iv} (ha : Ok a) (hb : Ok b) : Sub a (joinI a b) := fun hs => by
  unfold joinI
  split
  · (try rw [if_pos hs])
    refine ⟨rfl, ?_, ?_⟩
    · show (if b.lo < a.lo then b.lo else a.lo) ≤ a.lo; split <;> omega
    · show a.hi ≤ (if a.hi < b.hi then b.hi else a.hi); split <;> omega
  · exact ⟨hs, by omega, by omega⟩
theorem join_sub_right {a b : Iv} (ha : Ok a) (hb : Ok b) : Sub b (joinI a b) := fun hs => by
  unfold joinI
  rw [if_pos hs]
  split
  · refine ⟨rfl, ?_, ?_⟩
    · show (if b.lo < a.lo then b.lo else a.lo) ≤ b.lo; split <;> omega
    · show b.hi ≤ (if a.hi < b.hi then b.hi else a.hi); split <;> omega
  · exact ⟨hs, by omega, by omega⟩
theorem join_least {a b c : Iv} (ha : Sub a c) (hb : Sub b c) : Sub (joinI a b) c := by
  unfold joinI
  split
  · rename_i h2
    split
    · rename_i h1
      obtain ⟨a1, a2, a3⟩ := ha h1
      obtain ⟨b1, b2, b3⟩ := hb h2
      intro _
      refine ⟨a1, ?_, ?_⟩
      · show c.lo ≤ (if b.lo < a.lo then b.lo else a.lo); split <;> omega
      · show (if a.hi < b.hi then b.hi else a.hi) ≤ c.hi; split <;> omega
    · exact hb
  · exact ha
theorem join_mono {a b c d : Iv} (hc : Ok c) (hd : Ok d) (h1 : Sub a c) (h2 : Sub b d) : Sub (joinI a b) (joinI c d) :=
  join_least (h1.trans (join_sub_left hc hd)) (h2.trans (join_sub_right hc hd))
theorem add_mono {x y X Y : Iv} (ox : Ok x) (oy : Ok y) (oX : Ok X) (oY : Ok Y) (h1 : Sub x X) (h2 : Sub y Y) : Sub (addI x y) (addI X Y) := by
  by_cases hs : x.s = true ∧ y.s = true
  · obtain ⟨s1, a1, a2⟩ := h1 hs.1
    obtain ⟨s2, b1, b2⟩ := h2 hs.2
    have bx := ox.bounds hs.1
    have by_ := oy.bounds hs.2
    rw [addI_eq oX oY s1 s2]
    split
    · rename_i k
      rw [addI_eq ox oy hs.1 hs.2]
      rw [inr_iff, inr_iff] at k
      rw [if_pos (by rw [inr_iff, inr_iff]; omega)]
      exact fun _ => ⟨rfl, by simp only; omega, by simp only; omega⟩
    · exact sub_top (addI_ok ox oy)
  · unfold addI; rw [if_neg hs]; exact Sub.e _
theorem sub_mono {x y X Y : Iv} (ox : Ok x) (oy : Ok y) (oX : Ok X) (oY : Ok Y) (h1 : Sub x X) (h2 : Sub y Y) : Sub (subI x y) (subI X Y) := by
  by_cases hs : x.s = true ∧ y.s = true
  · obtain ⟨s1, a1, a2⟩ := h1 hs.1
    obtain ⟨s2, b1, b2⟩ := h2 hs.2
    have bx := ox.bounds hs.1
    have by_ := oy.bounds hs.2
    rw [subI_eq oX oY s1 s2]
    split
    · rename_i k
      rw [subI_eq ox oy hs.1 hs.2]
      rw [inr_iff, inr_iff] at k
      rw [if_pos (by rw [inr_iff, inr_iff]; omega)]
      exact fun _ => ⟨rfl, by simp only; omega, by simp only; omega⟩
    · exact sub_top (subI_ok ox oy)
  · unfold subI; rw [if_neg hs]; exact Sub.e _
theorem mulI_ok {x y : Iv} : Ok (mulI x y) := by
  by_cases hs : x.s = true ∧ y.s = true
  · rw [mulI_eq hs.1 hs.2]
    split
    · rename_i k
      have l1 := inr_four k (Int.le_refl _) (Int.le_trans (min4_le _ _ _ _).1 (le_max4 _ _ _ _).1)
      have l2 := inr_four k (Int.le_trans (min4_le _ _ _ _).1 (le_max4 _ _ _ _).1) (Int.le_refl _)
      rw [inr_iff] at l1 l2
      exact .inr ⟨rfl, l1.1, Int.le_trans (min4_le _ _ _ _).1 (le_max4 _ _ _ _).1, l2.2⟩
    · exact ok_top
  · unfold mulI; rw [if_neg hs]; exact ok_e
theorem four_within {a b c d l h : Int} (k : (l ≤ a ∧ a ≤ h) ∧ (l ≤ b ∧ b ≤ h) ∧ (l ≤ c ∧ c ≤ h) ∧ (l ≤ d ∧ d ≤ h)) : l ≤ min4 a b c d ∧ max4 a b c d ≤ h := by
  have k1 := min4_or a b c d
  have k2 := max4_or a b c d
  omega
theorem mul_mono {x y X Y : Iv} (ox : Ok x) (oy : Ok y) (h1 : Sub x X) (h2 : Sub y Y) : Sub (mulI x y) (mulI X Y) := by
  by_cases hs : x.s = true ∧ y.s = true
  · obtain ⟨s1, a1, a2⟩ := h1 hs.1
    obtain ⟨s2, b1, b2⟩ := h2 hs.2
    have bx := ox.bounds hs.1
    have by_ := oy.bounds hs.2
    rw [mulI_eq s1 s2]
    split
    · rename_i k
      have c1 := mul_between (xl := X.lo) (u := x.lo) (xh := X.hi) (yl := Y.lo) (v := y.lo) (yh := Y.hi) (by omega) (by omega) (by omega) (by omega)
      have c2 := mul_between (xl := X.lo) (u := x.lo) (xh := X.hi) (yl := Y.lo) (v := y.hi) (yh := Y.hi) (by omega) (by omega) (by omega) (by omega)
      have c3 := mul_between (xl := X.lo) (u := x.hi) (xh := X.hi) (yl := Y.lo) (v := y.lo) (yh := Y.hi) (by omega) (by omega) (by omega) (by omega)
      have c4 := mul_between (xl := X.lo) (u := x.hi) (xh := X.hi) (yl := Y.lo) (v := y.hi) (yh := Y.hi) (by omega) (by omega) (by omega) (by omega)
      rw [mulI_eq hs.1 hs.2, if_pos ⟨inr_four k c1.1 c1.2, inr_four k c2.1 c2.2, inr_four k c3.1 c3.2, inr_four k c4.1 c4.2⟩]
      have w := four_within ⟨c1, c2, c3, c4⟩
      exact fun _ => ⟨rfl, w.1, w.2⟩
    · exact sub_top mulI_ok
  · unfold mulI; rw [if_neg hs]; exact Sub.e _
theorem quoJ_ok (x p : Iv) : Ok (quoJ x p) := by
  unfold quoJ
  rw [cornerJ_eq]
  have k : inr (quoN x p 0 0) = true ∧ inr (quoN x p 0 1) = true ∧ inr (quoN x p 1 0) = true ∧ inr (quoN x p 1 1) = true := ⟨inr_wrap _, inr_wrap _, inr_wrap _, inr_wrap _⟩
  have l1 := inr_four k (Int.le_refl _) (Int.le_trans (min4_le _ _ _ _).1 (le_max4 _ _ _ _).1)
  have l2 := inr_four k (Int.le_trans (min4_le _ _ _ _).1 (le_max4 _ _ _ _).1) (Int.le_refl _)
  rw [inr_iff] at l1 l2
  exact .inr ⟨rfl, l1.1, Int.le_trans (min4_le _ _ _ _).1 (le_max4 _ _ _ _).1, l2.2⟩
theorem divStep_ok {x o p : Iv} (h : Ok o) : Ok (divStep x o p) := by
  unfold divStep
  split
  · exact joinI_ok h (quoJ_ok x p)
  · exact h
theorem divI_ok (x y : Iv) : Ok (divI x y) := by
  unfold divI
  split
  · split
    · exact ok_top
    · exact divStep_ok (divStep_ok ok_e)
  · exact ok_e
theorem divStep_mono {x o p X O P : Iv} (oO : Ok O) (h1 : Sub o O) (h2 : p.s = true → P.s = true) (h3 : p.s = true → Sub (quoJ x p) (quoJ X P)) : Sub (divStep x o p) (divStep X O P) := by
  unfold divStep
  by_cases hp : p.s = true
  · rw [if_pos hp, if_pos (h2 hp)]
    exact join_mono oO (quoJ_ok X P) h1 (h3 hp)
  · rw [if_neg hp]
    split
    · exact h1.trans (join_sub_left oO (quoJ_ok X P))
    · exact h1
theorem div_mono {x y X Y : Iv} (ox : Ok x) (oy : Ok y) (oX : Ok X) (oY : Ok Y) (h1 : Sub x X) (h2 : Sub y Y) : Sub (divI x y) (divI X Y) := by
  by_cases hs : x.s = true ∧ y.s = true
  · obtain ⟨s1, a1, a2⟩ := h1 hs.1
    obtain ⟨s2, b1, b2⟩ := h2 hs.2
    have bx := ox.bounds hs.1
    have by_ := oy.bounds hs.2
    have bX := oX.bounds s1
    have bY := oY.bounds s2
    by_cases ht : hasI X (-9223372036854775808) = true ∧ hasI Y (-1) = true
    · have e : divI X Y = Iv.top := by unfold divI; rw [if_pos ⟨s1, s2⟩, if_pos ht]
      rw [e]; exact sub_top (divI_ok x y)
    · have ht2 : ¬ (hasI x (-9223372036854775808) = true ∧ hasI y (-1) = true) := by
        rintro ⟨k1, k2⟩
        rw [has_iff] at k1 k2
        exact ht ⟨by rw [has_iff]; exact ⟨s1, by omega, by omega⟩, by rw [has_iff]; exact ⟨s2, by omega, by omega⟩⟩
      have e : divI X Y = divStep X (divStep X Iv.e (negP Y)) (posP Y) := by unfold divI; rw [if_pos ⟨s1, s2⟩, if_neg ht]
      have e2 : divI x y = divStep x (divStep x Iv.e (negP y)) (posP y) := by unfold divI; rw [if_pos hs, if_neg ht2]
      rw [e, e2]
      have nX := negP_eq oY s2
      have nx := negP_eq oy hs.2
      have pX := posP_eq oY s2
      have px := posP_eq oy hs.2
      have iX := oX.inrs s1
      have ix := ox.inrs hs.1
      refine divStep_mono (divStep_ok ok_e) (divStep_mono ok_e (Sub.refl _) ?_ ?_) ?_ ?_
      · intro k
        by_cases c : y.lo ≤ -1
        · rw [nX, if_pos (by omega)]
        · rw [nx, if_neg c] at k; cases k
      · intro k
        by_cases c : y.lo ≤ -1
        · rw [if_pos c] at nx
          rw [if_pos (by omega)] at nX
          have c1 := corner_no oX s1 (p := negP Y) (meet_sub Y _).1 (by rw [nX]) (by rw [nX]; simp only; split <;> omega) ht
          have c2 := corner_no ox hs.1 (p := negP y) (meet_sub y _).1 (by rw [nx]) (by rw [nx]; simp only; split <;> omega) ht2
          rw [quoJ_eq iX c1, quoJ_eq ix c2, nX, nx]
          have d : ∀ u v, x.lo ≤ u → u ≤ x.hi → y.lo ≤ v → v ≤ (if -1 < y.hi then -1 else y.hi) → _ := fun u v g1 g2 g3 g4 => div_between_neg (xl := X.lo) (u := u) (xh := X.hi) (pl := Y.lo) (v := v) (ph := if -1 < Y.hi then -1 else Y.hi) (by omega) (by omega) (by split <;> omega) (by omega) (by revert g4; split <;> split <;> omega)
          have hh : y.lo ≤ (if -1 < y.hi then -1 else y.hi) := by split <;> omega
          have w := four_within ⟨d x.lo y.lo (by omega) (by omega) (by omega) hh, d x.lo _ (by omega) (by omega) hh (by omega), d x.hi y.lo (by omega) (by omega) (by omega) hh, d x.hi _ (by omega) (by omega) hh (by omega)⟩
          exact fun _ => ⟨rfl, w.1, w.2⟩
        · rw [nx, if_neg c] at k; cases k
      · intro k
        by_cases c : 1 ≤ y.hi
        · rw [pX, if_pos (by omega)]
        · rw [px, if_neg c] at k; cases k
      · intro k
        by_cases c : 1 ≤ y.hi
        · rw [if_pos c] at px
          rw [if_pos (by omega)] at pX
          have c1 := corner_no oX s1 (p := posP Y) (meet_sub Y _).1 (by rw [pX]) (by rw [pX]; simp only; split <;> omega) ht
          have c2 := corner_no ox hs.1 (p := posP y) (meet_sub y _).1 (by rw [px]) (by rw [px]; simp only; split <;> omega) ht2
          rw [quoJ_eq iX c1, quoJ_eq ix c2, pX, px]
          have d : ∀ u v, x.lo ≤ u → u ≤ x.hi → (if y.lo < 1 then 1 else y.lo) ≤ v → v ≤ y.hi → _ := fun u v g1 g2 g3 g4 => div_between_pos (xl := X.lo) (u := u) (xh := X.hi) (pl := if Y.lo < 1 then 1 else Y.lo) (v := v) (ph := Y.hi) (by omega) (by omega) (by split <;> omega) (by revert g3; split <;> split <;> omega) (by omega)
          have hh : (if y.lo < 1 then 1 else y.lo) ≤ y.hi := by split <;> omega
          have w := four_within ⟨d x.lo _ (by omega) (by omega) (by omega) hh, d x.lo y.hi (by omega) (by omega) hh (by omega), d x.hi _ (by omega) (by omega) (by omega) hh, d x.hi y.hi (by omega) (by omega) hh (by omega)⟩
          exact fun _ => ⟨rfl, w.1, w.2⟩
        · rw [px, if_neg c] at k; cases k
  · unfold divI; rw [if_neg hs]; exact Sub.e _
theorem modM_pos {y : Iv} (h : y.lo ≤ y.hi) (h0 : ¬ (y.lo = 0 ∧ y.hi = 0)) : 0 ≤ modM y := by
  unfold modM; split <;> omega
theorem modI_ok {x y : Iv} (ox : Ok x) (oy : Ok y) : Ok (modI x y) := by
  unfold modI
  split
  · rename_i hs
    have bx := ox.bounds hs.1
    have by_ := oy.bounds hs.2
    split
    · exact ok_e
    · rename_i h0
      have m0 := modM_pos by_.2.1 h0
      generalize modM y = m at *
      exact ofI_ok (by (repeat' split) <;> omega) (by (repeat' split) <;> omega)
  · exact ok_e
theorem mod_mono {x y X Y : Iv} (ox : Ok x) (oy : Ok y) (oX : Ok X) (oY : Ok Y) (h1 : Sub x X) (h2 : Sub y Y) : Sub (modI x y) (modI X Y) := by
  by_cases hs : x.s = true ∧ y.s = true
  · obtain ⟨s1, a1, a2⟩ := h1 hs.1
    obtain ⟨s2, b1, b2⟩ := h2 hs.2
    have bx := ox.bounds hs.1
    have by_ := oy.bounds hs.2
    have bX := oX.bounds s1
    have bY := oY.bounds s2
    by_cases h0 : y.lo = 0 ∧ y.hi = 0
    · have e : modI x y = Iv.e := by unfold modI; rw [if_pos hs, if_pos h0]
      rw [e]; exact Sub.e _
    · have H0 : ¬ (Y.lo = 0 ∧ Y.hi = 0) := by omega
      have e : modI x y = ofI (if x.lo < 0 then if x.lo < -modM y then -modM y else x.lo else 0) (if 0 < x.hi then if modM y < x.hi then modM y else x.hi else 0) := by unfold modI; rw [if_pos hs, if_neg h0]
      have E : modI X Y = ofI (if X.lo < 0 then if X.lo < -modM Y then -modM Y else X.lo else 0) (if 0 < X.hi then if modM Y < X.hi then modM Y else X.hi else 0) := by unfold modI; rw [if_pos ⟨s1, s2⟩, if_neg H0]
      rw [e, E]
      have m0 := modM_pos by_.2.1 h0
      have mm : modM y ≤ modM Y := by unfold modM; split <;> split <;> omega
      generalize modM y = m at *
      generalize modM Y = M at *
      rw [of_eq (by (repeat' split) <;> omega), of_eq (by (repeat' split) <;> omega)]
      intro _
      refine ⟨rfl, ?_, ?_⟩
      · simp only; (repeat' split) <;> omega
      · simp only; (repeat' split) <;> omega
  · unfold modI; rw [if_neg hs]; exact Sub.e _
theorem divZ_mono {x y X Y : Iv} (h1 : Sub x X) (h2 : Sub y Y) (h : divZ x y = true) : divZ X Y = true := by
  unfold divZ at h ⊢
  simp only [Bool.and_eq_true, has_iff] at h ⊢
  obtain ⟨k1, k2, k3, k4, k5⟩ := h
  obtain ⟨s1, _, _⟩ := h1 k1
  obtain ⟨s2, _, _⟩ := h2 k2
  exact ⟨s1, s2, s2, by omega, by omega⟩
end Go.Proofs.Ytfnodgpebheinaa.M
