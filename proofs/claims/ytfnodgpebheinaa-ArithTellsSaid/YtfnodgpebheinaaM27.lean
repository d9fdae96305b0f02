/- The contracts of clean, Add and Sub, as functions of plain data. -/
import Derived.Test.YtfnodgpebheinaaM2
import Derived.Test.YtfnodgpebheinaaM4
namespace Go.Proofs.Ytfnodgpebheinaa.M
open Go Go.RowKit
set_option linter.unusedVariables false
set_option linter.unusedSimpArgs false
def r1 (q : Iv) : Option (Bool × Int × Int) := some (q.s, q.lo, q.hi)
def r2 (p q : Iv) : Option (Bool × Int × Int × Bool × Int × Int) := some (p.s, p.lo, p.hi, q.s, q.lo, q.hi)
def inR (x : Iv) : Bool := inr x.lo && inr x.hi
theorem inR_ok {x : Iv} (h : inR x = true) : Ok (nrm x) := by
  unfold inR at h
  rw [Bool.and_eq_true] at h
  have h1 := of_decide_eq_true h.1
  have h2 := of_decide_eq_true h.2
  exact nrm_ok' h1.1 h2.2
def addI (x y : Iv) : Iv := if x.s = true ∧ y.s = true then boundsI (wrap64 (x.lo + y.lo)) (decide (x.lo < (wrap64 (x.lo + y.lo))) == decide (0 < y.lo)) (wrap64 (x.hi + y.hi)) (decide (x.hi < (wrap64 (x.hi + y.hi))) == decide (0 < y.hi)) else Iv.e
def subI (x y : Iv) : Iv := if x.s = true ∧ y.s = true then boundsI (wrap64 (x.lo - y.hi)) (decide ((wrap64 (x.lo - y.hi)) < x.lo) == decide (0 < y.hi)) (wrap64 (x.hi - y.lo)) (decide ((wrap64 (x.hi - y.lo)) < x.hi) == decide (0 < y.lo)) else Iv.e
def cleanF (a0_0 : Bool) (a0_1 : Int) (a0_2 : Int) : Option (Bool × Int × Int) := r1 (nrm ⟨a0_0, a0_1, a0_2⟩)
theorem clean_calls (a0_0 : Bool) (a0_1 : Int) (a0_2 : Int) (r1 : Bool) (r2 : Int) (r3 : Int) (w : World) (h : cleanF a0_0 a0_1 a0_2 = some (r1, r2, r3)) :
    Calls Try.prog 31 #[.agg #[.bool a0_0, .int .i64 a0_1, .int .i64 a0_2]] w fun e w' => e = .returned (.agg #[.bool r1, .int .i64 r2, .int .i64 r3]) ∧ Below w.heap.size w w' := by
  injection h with h
  injection h with h1 h
  injection h with h2 h3
  subst h1 h2 h3
  exact clean_any a0_0 a0_1 a0_2 _ (Lib.hid rfl) w
def addF (a0_0 : Bool) (a0_1 : Int) (a0_2 : Int) (a1_0 : Bool) (a1_1 : Int) (a1_2 : Int) : Option (Bool × Int × Int) := r1 (addI (nrm ⟨a0_0, a0_1, a0_2⟩) (nrm ⟨a1_0, a1_1, a1_2⟩))
theorem add_calls (a0_0 : Bool) (a0_1 : Int) (a0_2 : Int) (a1_0 : Bool) (a1_1 : Int) (a1_2 : Int) (r1 : Bool) (r2 : Int) (r3 : Int) (w : World) (h : addF a0_0 a0_1 a0_2 a1_0 a1_1 a1_2 = some (r1, r2, r3)) :
    Calls Try.prog 17 #[.agg #[.bool a0_0, .int .i64 a0_1, .int .i64 a0_2], .agg #[.bool a1_0, .int .i64 a1_1, .int .i64 a1_2]] w fun e w' => e = .returned (.agg #[.bool r1, .int .i64 r2, .int .i64 r3]) ∧ Below w.heap.size w w' := by
  injection h with h
  injection h with h1 h
  injection h with h2 h3
  subst h1 h2 h3
  exact arith_add ⟨a0_0, a0_1, a0_2⟩ ⟨a1_0, a1_1, a1_2⟩ _ _ (Lib.hid rfl) (Lib.hid rfl) _ (Lib.hid rfl) w
def subF (a0_0 : Bool) (a0_1 : Int) (a0_2 : Int) (a1_0 : Bool) (a1_1 : Int) (a1_2 : Int) : Option (Bool × Int × Int) := r1 (subI (nrm ⟨a0_0, a0_1, a0_2⟩) (nrm ⟨a1_0, a1_1, a1_2⟩))
theorem sub_calls (a0_0 : Bool) (a0_1 : Int) (a0_2 : Int) (a1_0 : Bool) (a1_1 : Int) (a1_2 : Int) (r1 : Bool) (r2 : Int) (r3 : Int) (w : World) (h : subF a0_0 a0_1 a0_2 a1_0 a1_1 a1_2 = some (r1, r2, r3)) :
    Calls Try.prog 20 #[.agg #[.bool a0_0, .int .i64 a0_1, .int .i64 a0_2], .agg #[.bool a1_0, .int .i64 a1_1, .int .i64 a1_2]] w fun e w' => e = .returned (.agg #[.bool r1, .int .i64 r2, .int .i64 r3]) ∧ Below w.heap.size w w' := by
  injection h with h
  injection h with h1 h
  injection h with h2 h3
  subst h1 h2 h3
  exact arith_sub ⟨a0_0, a0_1, a0_2⟩ ⟨a1_0, a1_1, a1_2⟩ _ _ (Lib.hid rfl) (Lib.hid rfl) _ (Lib.hid rfl) w
end Go.Proofs.Ytfnodgpebheinaa.M
