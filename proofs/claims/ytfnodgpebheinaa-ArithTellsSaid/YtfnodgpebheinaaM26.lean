/- The contracts of clean, Add, Sub, Mul, Div, Less and the reference's Less, as functions of plain data. -/
import Derived.Test.YtfnodgpebheinaaM27
import Derived.Test.YtfnodgpebheinaaM9
import Derived.Test.YtfnodgpebheinaaM11
import Derived.Test.YtfnodgpebheinaaM12
import Derived.Test.YtfnodgpebheinaaM13
import Derived.Test.YtfnodgpebheinaaM15
import Derived.Test.YtfnodgpebheinaaM16
import Derived.Test.YtfnodgpebheinaaM18
import Derived.Test.YtfnodgpebheinaaM19
import Derived.Test.YtfnodgpebheinaaM20
import Derived.Test.YtfnodgpebheinaaM22
import Derived.Test.YtfnodgpebheinaaM23
import Derived.Test.YtfnodgpebheinaaM24
import Derived.Test.YtfnodgpebheinaaM25
namespace Go.Proofs.Ytfnodgpebheinaa.M
open Go Go.RowKit
set_option linter.unusedVariables false
set_option linter.unusedSimpArgs false
/-- What is left of two that both are some, before the last question. -/
def leftP (k : Int) (x y : Iv) : Iv × Iv :=
  if k = 0 then (meetI x y, meetI x y)
  else if k = 1 then (withI x y, withI y x)
  else if k = 2 then (meetI x (belowI y.hi), meetI y (aboveI x.lo))
  else if k = 3 then (meetI x (ofI (-9223372036854775808) y.hi), meetI y (ofI x.lo 9223372036854775807))
  else if k = 4 then (meetI x (aboveI y.lo), meetI y (belowI x.hi))
  else if k = 5 then (meetI x (ofI y.lo 9223372036854775807), meetI y (ofI (-9223372036854775808) x.hi))
  else (x, y)
def rleftP (k : Int) (x y : Iv) : Iv × Iv :=
  if k = 1 then ((if y.lo = y.hi then rwithI x.lo x.hi y.lo else x), (if x.lo = x.hi then rwithI y.lo y.hi x.lo else y)) else leftP k x y
def pairP (p : Iv × Iv) : Iv × Iv := if p.1.s = true ∧ p.2.s = true then p else (Iv.e, Iv.e)
def lessI (k : Int) (x y : Iv) : Iv × Iv := if x.s = true ∧ y.s = true then pairP (leftP k x y) else (Iv.e, Iv.e)
def rlessI (k : Int) (x y : Iv) : Iv × Iv := if x.s = true ∧ y.s = true then pairP (rleftP k x y) else (Iv.e, Iv.e)
theorem RetP.tell {p q : Iv} {P : Iv × Iv} (hP : pairP (p, q) = P) {w w' : World} {e : Ending} (h : RetP p q w e w') : e = .returned (.tuple #[.agg #[.bool P.1.s, .int .i64 P.1.lo, .int .i64 P.1.hi], .agg #[.bool P.2.s, .int .i64 P.2.lo, .int .i64 P.2.hi]]) ∧ Below w.heap.size w w' := by
  obtain rfl := hP
  have h2 := RetP.alt h
  unfold pairP
  by_cases hc : p.s = true ∧ q.s = true
  · simpa only [if_pos hc, Ret] using h2
  · simpa only [if_neg hc, Ret] using h2
theorem nrm_nrm (x : Iv) : nrm (nrm x) = nrm x := by
  by_cases h : x.s = true ∧ x.lo ≤ x.hi
  · have e : nrm x = x := by unfold nrm; rw [if_pos h]
    rw [e, e]
  · have e : nrm x = Iv.e := by unfold nrm; rw [if_neg h]
    rw [e]; rfl
theorem both_swap {p q : Iv} {P : Iv × Iv} (h : pairP (p, q) = P) : pairP (q, p) = (P.2, P.1) := by
  obtain rfl := h
  unfold pairP
  by_cases hc : p.s = true ∧ q.s = true
  · rw [if_pos hc, if_pos hc.symm]
  · rw [if_neg hc, if_neg (fun k => hc ⟨k.2, k.1⟩)]
theorem both_both {p q : Iv} {P : Iv × Iv} (h : pairP (p, q) = P) : pairP (P.1, P.2) = P := by
  obtain rfl := h
  unfold pairP
  by_cases hc : p.s = true ∧ q.s = true
  · rw [if_pos hc, if_pos hc]
  · rw [if_neg hc]; rfl
theorem less_any (k : Int) (a b : Iv) (ha : inR a = true) (hb : inR b = true) (P : Iv × Iv) (hP : lessI k (nrm a) (nrm b) = P) (w : World) :
    Calls Try.prog 12 #[.int .i64 k, .agg #[.bool a.s, .int .i64 a.lo, .int .i64 a.hi], .agg #[.bool b.s, .int .i64 b.lo, .int .i64 b.hi]] w fun e w' => e = .returned (.tuple #[.agg #[.bool P.1.s, .int .i64 P.1.lo, .int .i64 P.1.hi], .agg #[.bool P.2.s, .int .i64 P.2.lo, .int .i64 P.2.hi]]) ∧ Below w.heap.size w w' := by
  have ox := inR_ok ha
  have oy := inR_ok hb
  by_cases hs : ¬ ((nrm a).s = true ∧ (nrm b).s = true)
  · unfold lessI at hP
    rw [if_neg hs] at hP
    refine (less_empty k a b (nrm a) (nrm b) (Lib.hid rfl) (Lib.hid rfl) hs w).mono (fun e w' h => RetP.tell ?_ h)
    rw [← hP]; rfl
  have hs := Classical.not_not.1 hs
  unfold lessI at hP
  rw [if_pos hs] at hP
  have hxx : nrm (nrm a) = nrm a := nrm_nrm a
  have hyy : nrm (nrm b) = nrm b := nrm_nrm b
  obtain ⟨x, hx⟩ : ∃ x, nrm a = x := ⟨_, rfl⟩
  obtain ⟨y, hy⟩ : ∃ y, nrm b = y := ⟨_, rfl⟩
  rw [hx] at hs hP ox hxx
  rw [hy] at hs hP oy hyy
  obtain ⟨xs, xl, xh⟩ := x
  obtain ⟨ys, yl, yh⟩ := y
  obtain ⟨rfl, rfl⟩ : xs = true ∧ ys = true := hs
  have bx : -9223372036854775808 ≤ xl ∧ xl ≤ xh ∧ xh ≤ 9223372036854775807 := by
    rcases ox with h | ⟨_, h1, h2, h3⟩
    · cases h
    · exact ⟨h1, h2, h3⟩
  have by_ : -9223372036854775808 ≤ yl ∧ yl ≤ yh ∧ yh ≤ 9223372036854775807 := by
    rcases oy with h | ⟨_, h1, h2, h3⟩
    · cases h
    · exact ⟨h1, h2, h3⟩
  by_cases k0 : k = 0
  · subst k0
    refine (less_eq a b xl xh yl yh (Lib.hid hx) (Lib.hid hy) ox oy _ Iv.e (Lib.hid rfl) w).mono (fun e w' h => RetP.tell ?_ h)
    rw [← hP]; rfl
  by_cases k1 : k = 1
  · subst k1
    refine (less_ne a b xl xh yl yh (Lib.hid hx) (Lib.hid hy) ox oy _ _ (Lib.hid rfl) (Lib.hid rfl) w).mono (fun e w' h => RetP.tell ?_ h)
    rw [← hP]; rfl
  unfold leftP at hP
  rw [if_neg k0, if_neg k1] at hP
  by_cases k2 : k = 2
  · subst k2
    refine (less_lt a b xl xh yl yh (Lib.hid hx) (Lib.hid hy) ox oy _ _ _ _ (Lib.hid rfl) (Lib.hid rfl) (belowI_ok (by omega) (by omega)) (aboveI_ok (by omega) (by omega)) (Lib.hid rfl) (Lib.hid rfl) w).mono (fun e w' h => RetP.tell ?_ h)
    rw [← hP]; rfl
  rw [if_neg k2] at hP
  by_cases k3 : k = 3
  · subst k3
    refine (less_le a b xl xh yl yh (Lib.hid hx) (Lib.hid hy) ox oy _ _ _ _ (Lib.hid rfl) (Lib.hid rfl) (ofI_ok (by omega) (by omega)) (ofI_ok (by omega) (by omega)) (Lib.hid rfl) (Lib.hid rfl) w).mono (fun e w' h => RetP.tell ?_ h)
    rw [← hP]; rfl
  rw [if_neg k3] at hP
  by_cases k4 : k = 4
  · subst k4
    refine (less_gt a b xl xh yl yh (Lib.hid hx) (Lib.hid hy) ox oy P.1 P.2 (Lib.hid (fun W => (less_lt ⟨true, yl, yh⟩ ⟨true, xl, xh⟩ yl yh xl xh (Lib.hid hyy) (Lib.hid hxx) oy ox _ _ _ _ (Lib.hid rfl) (Lib.hid rfl) (belowI_ok (by omega) (by omega)) (aboveI_ok (by omega) (by omega)) (Lib.hid rfl) (Lib.hid rfl) W).mono (fun e w' h => RetP.tell (P := (P.2, P.1)) ?_ h))) w).mono (fun e w' h => RetP.tell ?_ h)
    · exact both_swap hP
    · exact both_both hP
  rw [if_neg k4] at hP
  by_cases k5 : k = 5
  · subst k5
    refine (less_ge a b xl xh yl yh (Lib.hid hx) (Lib.hid hy) ox oy P.1 P.2 (Lib.hid (fun W => (less_le ⟨true, yl, yh⟩ ⟨true, xl, xh⟩ yl yh xl xh (Lib.hid hyy) (Lib.hid hxx) oy ox _ _ _ _ (Lib.hid rfl) (Lib.hid rfl) (ofI_ok (by omega) (by omega)) (ofI_ok (by omega) (by omega)) (Lib.hid rfl) (Lib.hid rfl) W).mono (fun e w' h => RetP.tell (P := (P.2, P.1)) ?_ h))) w).mono (fun e w' h => RetP.tell ?_ h)
    · exact both_swap hP
    · exact both_both hP
  rw [if_neg k5] at hP
  refine (less_other k a b xl xh yl yh (Lib.hid hx) (Lib.hid hy) (Lib.hid (by omega)) w).mono (fun e w' h => RetP.tell ?_ h)
  rw [← hP]
theorem rless_any (k : Int) (a b : Iv) (ha : inR a = true) (hb : inR b = true) (P : Iv × Iv) (hP : rlessI k (nrm a) (nrm b) = P) (w : World) :
    Calls Try.prog 28 #[.int .i64 k, .agg #[.bool a.s, .int .i64 a.lo, .int .i64 a.hi], .agg #[.bool b.s, .int .i64 b.lo, .int .i64 b.hi]] w fun e w' => e = .returned (.tuple #[.agg #[.bool P.1.s, .int .i64 P.1.lo, .int .i64 P.1.hi], .agg #[.bool P.2.s, .int .i64 P.2.lo, .int .i64 P.2.hi]]) ∧ Below w.heap.size w w' := by
  have ox := inR_ok ha
  have oy := inR_ok hb
  by_cases hs : ¬ ((nrm a).s = true ∧ (nrm b).s = true)
  · unfold rlessI at hP
    rw [if_neg hs] at hP
    refine (rless_empty k a b (nrm a) (nrm b) (Lib.hid rfl) (Lib.hid rfl) hs w).mono (fun e w' h => RetP.tell ?_ h)
    rw [← hP]; rfl
  have hs := Classical.not_not.1 hs
  unfold rlessI at hP
  rw [if_pos hs] at hP
  have hxx : nrm (nrm a) = nrm a := nrm_nrm a
  have hyy : nrm (nrm b) = nrm b := nrm_nrm b
  obtain ⟨x, hx⟩ : ∃ x, nrm a = x := ⟨_, rfl⟩
  obtain ⟨y, hy⟩ : ∃ y, nrm b = y := ⟨_, rfl⟩
  rw [hx] at hs hP ox hxx
  rw [hy] at hs hP oy hyy
  obtain ⟨xs, xl, xh⟩ := x
  obtain ⟨ys, yl, yh⟩ := y
  obtain ⟨rfl, rfl⟩ : xs = true ∧ ys = true := hs
  have bx : -9223372036854775808 ≤ xl ∧ xl ≤ xh ∧ xh ≤ 9223372036854775807 := by
    rcases ox with h | ⟨_, h1, h2, h3⟩
    · cases h
    · exact ⟨h1, h2, h3⟩
  have by_ : -9223372036854775808 ≤ yl ∧ yl ≤ yh ∧ yh ≤ 9223372036854775807 := by
    rcases oy with h | ⟨_, h1, h2, h3⟩
    · cases h
    · exact ⟨h1, h2, h3⟩
  unfold rleftP at hP
  by_cases k0 : k = 0
  · subst k0
    refine (rless_eq a b xl xh yl yh (Lib.hid hx) (Lib.hid hy) ox oy _ Iv.e (Lib.hid rfl) w).mono (fun e w' h => RetP.tell ?_ h)
    rw [← hP]; rfl
  by_cases k1 : k = 1
  · subst k1
    refine (rless_ne a b xl xh yl yh (Lib.hid hx) (Lib.hid hy) ox oy _ _ (Lib.hid rfl) (Lib.hid rfl) w).mono (fun e w' h => RetP.tell ?_ h)
    rw [← hP]; rfl
  rw [if_neg k1] at hP
  unfold leftP at hP
  rw [if_neg k0, if_neg k1] at hP
  by_cases k2 : k = 2
  · subst k2
    refine (rless_lt a b xl xh yl yh (Lib.hid hx) (Lib.hid hy) ox oy _ _ _ _ (Lib.hid rfl) (Lib.hid rfl) (belowI_ok (by omega) (by omega)) (aboveI_ok (by omega) (by omega)) (Lib.hid rfl) (Lib.hid rfl) w).mono (fun e w' h => RetP.tell ?_ h)
    rw [← hP]; rfl
  rw [if_neg k2] at hP
  by_cases k3 : k = 3
  · subst k3
    refine (rless_le a b xl xh yl yh (Lib.hid hx) (Lib.hid hy) ox oy _ _ _ _ (Lib.hid rfl) (Lib.hid rfl) (ofI_ok (by omega) (by omega)) (ofI_ok (by omega) (by omega)) (Lib.hid rfl) (Lib.hid rfl) w).mono (fun e w' h => RetP.tell ?_ h)
    rw [← hP]; rfl
  rw [if_neg k3] at hP
  by_cases k4 : k = 4
  · subst k4
    refine (rless_gt a b xl xh yl yh (Lib.hid hx) (Lib.hid hy) ox oy P.1 P.2 (Lib.hid (fun W => (rless_lt ⟨true, yl, yh⟩ ⟨true, xl, xh⟩ yl yh xl xh (Lib.hid hyy) (Lib.hid hxx) oy ox _ _ _ _ (Lib.hid rfl) (Lib.hid rfl) (belowI_ok (by omega) (by omega)) (aboveI_ok (by omega) (by omega)) (Lib.hid rfl) (Lib.hid rfl) W).mono (fun e w' h => RetP.tell (P := (P.2, P.1)) ?_ h))) w).mono (fun e w' h => RetP.tell ?_ h)
    · exact both_swap hP
    · exact both_both hP
  rw [if_neg k4] at hP
  by_cases k5 : k = 5
  · subst k5
    refine (rless_ge a b xl xh yl yh (Lib.hid hx) (Lib.hid hy) ox oy P.1 P.2 (Lib.hid (fun W => (rless_le ⟨true, yl, yh⟩ ⟨true, xl, xh⟩ yl yh xl xh (Lib.hid hyy) (Lib.hid hxx) oy ox _ _ _ _ (Lib.hid rfl) (Lib.hid rfl) (ofI_ok (by omega) (by omega)) (ofI_ok (by omega) (by omega)) (Lib.hid rfl) (Lib.hid rfl) W).mono (fun e w' h => RetP.tell (P := (P.2, P.1)) ?_ h))) w).mono (fun e w' h => RetP.tell ?_ h)
    · exact both_swap hP
    · exact both_both hP
  rw [if_neg k5] at hP
  refine (rless_other k a b xl xh yl yh (Lib.hid hx) (Lib.hid hy) (Lib.hid (by omega)) w).mono (fun e w' h => RetP.tell ?_ h)
  rw [← hP]
def mulF (a0_0 : Bool) (a0_1 : Int) (a0_2 : Int) (a1_0 : Bool) (a1_1 : Int) (a1_2 : Int) : Option (Bool × Int × Int) := if inR (⟨a0_0, a0_1, a0_2⟩ : Iv) = true ∧ inR (⟨a1_0, a1_1, a1_2⟩ : Iv) = true then r1 (mulI (nrm ⟨a0_0, a0_1, a0_2⟩) (nrm ⟨a1_0, a1_1, a1_2⟩)) else none
theorem mul_calls (a0_0 : Bool) (a0_1 : Int) (a0_2 : Int) (a1_0 : Bool) (a1_1 : Int) (a1_2 : Int) (r1 : Bool) (r2 : Int) (r3 : Int) (w : World) (h : mulF a0_0 a0_1 a0_2 a1_0 a1_1 a1_2 = some (r1, r2, r3)) :
    Calls Try.prog 18 #[.agg #[.bool a0_0, .int .i64 a0_1, .int .i64 a0_2], .agg #[.bool a1_0, .int .i64 a1_1, .int .i64 a1_2]] w fun e w' => e = .returned (.agg #[.bool r1, .int .i64 r2, .int .i64 r3]) ∧ Below w.heap.size w w' := by
  unfold mulF at h
  split at h
  · rename_i g
    injection h with h
    injection h with h1 h
    injection h with h2 h3
    subst h1 h2 h3
    exact arith_mul ⟨a0_0, a0_1, a0_2⟩ ⟨a1_0, a1_1, a1_2⟩ _ _ (Lib.hid rfl) (Lib.hid rfl) (inR_ok g.1) (inR_ok g.2) _ (Lib.hid rfl) w
  · cases h
def divF (a0_0 : Bool) (a0_1 : Int) (a0_2 : Int) (a1_0 : Bool) (a1_1 : Int) (a1_2 : Int) : Option (Bool × Int × Int × Bool) := if inR (⟨a0_0, a0_1, a0_2⟩ : Iv) = true ∧ inR (⟨a1_0, a1_1, a1_2⟩ : Iv) = true then some ((divI (nrm ⟨a0_0, a0_1, a0_2⟩) (nrm ⟨a1_0, a1_1, a1_2⟩)).s, (divI (nrm ⟨a0_0, a0_1, a0_2⟩) (nrm ⟨a1_0, a1_1, a1_2⟩)).lo, (divI (nrm ⟨a0_0, a0_1, a0_2⟩) (nrm ⟨a1_0, a1_1, a1_2⟩)).hi, divZ (nrm ⟨a0_0, a0_1, a0_2⟩) (nrm ⟨a1_0, a1_1, a1_2⟩)) else none
theorem div_calls (a0_0 : Bool) (a0_1 : Int) (a0_2 : Int) (a1_0 : Bool) (a1_1 : Int) (a1_2 : Int) (r1 : Bool) (r2 : Int) (r3 : Int) (r4 : Bool) (w : World) (h : divF a0_0 a0_1 a0_2 a1_0 a1_1 a1_2 = some (r1, r2, r3, r4)) :
    Calls Try.prog 24 #[.agg #[.bool a0_0, .int .i64 a0_1, .int .i64 a0_2], .agg #[.bool a1_0, .int .i64 a1_1, .int .i64 a1_2]] w fun e w' => e = .returned (.tuple #[.agg #[.bool r1, .int .i64 r2, .int .i64 r3], .bool r4]) ∧ Below w.heap.size w w' := by
  unfold divF at h
  split at h
  · rename_i g
    injection h with h
    injection h with h1 h
    injection h with h2 h
    injection h with h3 h4
    subst h1 h2 h3 h4
    exact arith_div ⟨a0_0, a0_1, a0_2⟩ ⟨a1_0, a1_1, a1_2⟩ _ _ (Lib.hid rfl) (Lib.hid rfl) (inR_ok g.1) (inR_ok g.2) _ _ (Lib.hid rfl) (Lib.hid rfl) w
  · cases h
def lessF (a0 : Int) (a1_0 : Bool) (a1_1 : Int) (a1_2 : Int) (a2_0 : Bool) (a2_1 : Int) (a2_2 : Int) : Option (Bool × Int × Int × Bool × Int × Int) := if inR (⟨a1_0, a1_1, a1_2⟩ : Iv) = true ∧ inR (⟨a2_0, a2_1, a2_2⟩ : Iv) = true then r2 (lessI a0 (nrm ⟨a1_0, a1_1, a1_2⟩) (nrm ⟨a2_0, a2_1, a2_2⟩)).1 (lessI a0 (nrm ⟨a1_0, a1_1, a1_2⟩) (nrm ⟨a2_0, a2_1, a2_2⟩)).2 else none
theorem less_calls (a0 : Int) (a1_0 : Bool) (a1_1 : Int) (a1_2 : Int) (a2_0 : Bool) (a2_1 : Int) (a2_2 : Int) (r1 : Bool) (r2 : Int) (r3 : Int) (r4 : Bool) (r5 : Int) (r6 : Int) (w : World) (h : lessF a0 a1_0 a1_1 a1_2 a2_0 a2_1 a2_2 = some (r1, r2, r3, r4, r5, r6)) :
    Calls Try.prog 12 #[.int .i64 a0, .agg #[.bool a1_0, .int .i64 a1_1, .int .i64 a1_2], .agg #[.bool a2_0, .int .i64 a2_1, .int .i64 a2_2]] w fun e w' => e = .returned (.tuple #[.agg #[.bool r1, .int .i64 r2, .int .i64 r3], .agg #[.bool r4, .int .i64 r5, .int .i64 r6]]) ∧ Below w.heap.size w w' := by
  unfold lessF at h
  split at h
  · rename_i g
    injection h with h
    injection h with h1 h
    injection h with h2 h
    injection h with h3 h
    injection h with h4 h
    injection h with h5 h6
    subst h1 h2 h3 h4 h5 h6
    exact less_any a0 ⟨a1_0, a1_1, a1_2⟩ ⟨a2_0, a2_1, a2_2⟩ g.1 g.2 _ rfl w
  · cases h
def rlessF (a0 : Int) (a1_0 : Bool) (a1_1 : Int) (a1_2 : Int) (a2_0 : Bool) (a2_1 : Int) (a2_2 : Int) : Option (Bool × Int × Int × Bool × Int × Int) := if inR (⟨a1_0, a1_1, a1_2⟩ : Iv) = true ∧ inR (⟨a2_0, a2_1, a2_2⟩ : Iv) = true then r2 (rlessI a0 (nrm ⟨a1_0, a1_1, a1_2⟩) (nrm ⟨a2_0, a2_1, a2_2⟩)).1 (rlessI a0 (nrm ⟨a1_0, a1_1, a1_2⟩) (nrm ⟨a2_0, a2_1, a2_2⟩)).2 else none
theorem rless_calls (a0 : Int) (a1_0 : Bool) (a1_1 : Int) (a1_2 : Int) (a2_0 : Bool) (a2_1 : Int) (a2_2 : Int) (r1 : Bool) (r2 : Int) (r3 : Int) (r4 : Bool) (r5 : Int) (r6 : Int) (w : World) (h : rlessF a0 a1_0 a1_1 a1_2 a2_0 a2_1 a2_2 = some (r1, r2, r3, r4, r5, r6)) :
    Calls Try.prog 28 #[.int .i64 a0, .agg #[.bool a1_0, .int .i64 a1_1, .int .i64 a1_2], .agg #[.bool a2_0, .int .i64 a2_1, .int .i64 a2_2]] w fun e w' => e = .returned (.tuple #[.agg #[.bool r1, .int .i64 r2, .int .i64 r3], .agg #[.bool r4, .int .i64 r5, .int .i64 r6]]) ∧ Below w.heap.size w w' := by
  unfold rlessF at h
  split at h
  · rename_i g
    injection h with h
    injection h with h1 h
    injection h with h2 h
    injection h with h3 h
    injection h with h4 h
    injection h with h5 h6
    subst h1 h2 h3 h4 h5 h6
    exact rless_any a0 ⟨a1_0, a1_1, a1_2⟩ ⟨a2_0, a2_1, a2_2⟩ g.1 g.2 _ rfl w
  · cases h
end Go.Proofs.Ytfnodgpebheinaa.M
