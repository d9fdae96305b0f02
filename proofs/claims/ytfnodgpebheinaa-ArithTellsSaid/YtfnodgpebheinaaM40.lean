/- An interval that comes in: opened and shut. -/
import Derived.Test.YtfnodgpebheinaaM28
import Derived.Deep.Strs
import Derived.WalkKit
import Derived.ProofKit
import Derived.OpenShut
import Derived.ShutString
import Derived.ChangeOld
import Derived.SizedLaws
namespace Go.Proofs.Ytfnodgpebheinaa.M
open Go Go.ChangeShapes Go.WideShapes Go.ChangeAt Go.RowKit
set_option linter.unusedVariables false
set_option linter.unusedSimpArgs false
theorem open_iv {W : World} {H : Type} {enc : TypeId × Value → H} {base b0 : Nat} {sp : Nat → Bool} {v : Value} {d : DataW H} {ps : List MemPlace} (hval : Value.okWide Try.prog W .any b0 23 v) (h : DataW.Trod enc Try.prog W base sp true 23 v d ps) :
    ∃ x : Iv, v = .agg #[.bool x.s, .int .i64 x.lo, .int .i64 x.hi] ∧ d = .agg [.lit (.bool x.s), .lit (.int .i64 x.lo), .lit (.int .i64 x.hi)] ∧ ps = [] ∧ (Lit.int .i64 x.lo).wf = true ∧ (Lit.int .i64 x.hi).wf = true := by
  have hc : Try.prog.cellsOf 23 = 3 := by kernel_rfl
  have hc4 : Try.prog.cellsOf 4 = 1 := by kernel_rfl
  have hc2 : Try.prog.cellsOf 2 = 1 := by kernel_rfl
  obtain ⟨cs, rfl, hsz⟩ := okWide_struct Try.underlying23 hval
  rw [hc] at hsz
  obtain ⟨l⟩ := cs
  match l, hsz with
  | [c0, c1, c2], _ =>
  obtain ⟨fuel, hf⟩ := h
  obtain ⟨y0, y1, y2, m, hx, _, hy0, hy1, hy2⟩ := Go.Deep.trod_struct3 Try.underlying23 hf
  simp [Value.cells, hc4, hc2] at hy0 hy1 hy2
  have hb : ∃ b, c0 = .bool b ∧ y0 = (.lit (.bool b), []) := by
    cases m with
    | zero => simp [DataW.trod] at hy0
    | succ n =>
      simp only [DataW.trod, Try.underlying4] at hy0
      split at hy0 <;> simp_all
  obtain ⟨b, rfl, rfl⟩ := hb
  obtain ⟨n1, e1, rfl, w1⟩ := DataW.trod_int Try.underlying2 hy1
  obtain ⟨n2, e2, rfl, w2⟩ := DataW.trod_int Try.underlying2 hy2
  simp at e1 e2
  subst e1 e2
  simp only [Prod.mk.injEq] at hx
  obtain ⟨rfl, rfl⟩ := hx
  exact ⟨⟨b, n1, n2⟩, rfl, rfl, rfl, w1, w2⟩
theorem shut_iv {W : World} {H : Type} {enc : TypeId × Value → H} {base : Nat} {sp : Nat → Bool} {x : Iv} (w1 : (Lit.int .i64 x.lo).wf = true) (w2 : (Lit.int .i64 x.hi).wf = true) :
    DataW.Trod enc Try.prog W base sp true 23 (.agg #[.bool x.s, .int .i64 x.lo, .int .i64 x.hi]) (.agg [.lit (.bool x.s), .lit (.int .i64 x.lo), .lit (.int .i64 x.hi)]) [] := by
  have hc : Try.prog.cellsOf 23 = 3 := by kernel_rfl
  have hc4 : Try.prog.cellsOf 4 = 1 := by kernel_rfl
  have hc2 : Try.prog.cellsOf 2 = 1 := by kernel_rfl
  refine ⟨2, ?_⟩
  have f0 : DataW.trod enc Try.prog W base sp true 1 4 [.bool x.s] = some (.lit (.bool x.s), []) := by simp [DataW.trod, Try.underlying4]
  have f1 : DataW.trod enc Try.prog W base sp true 1 2 [.int .i64 x.lo] = some (.lit (.int .i64 x.lo), []) := by simp [DataW.trod, Try.underlying2, w1]
  have f2 : DataW.trod enc Try.prog W base sp true 1 2 [.int .i64 x.hi] = some (.lit (.int .i64 x.hi), []) := by simp [DataW.trod, Try.underlying2, w2]
  have := Go.Deep.trod_struct3_mk (enc := enc) (w := W) (base := base) (spare := sp) (held := true) (n := 1) (cs := [.bool x.s, .int .i64 x.lo, .int .i64 x.hi]) Try.underlying23 (by simp [hc]) (by simpa [hc4] using f0) (by simpa [hc2] using f1) (by simpa [hc2] using f2)
  simpa [Value.cells] using this
theorem wf_in {n : Int} (h : (Lit.int .i64 n).wf = true) : -9223372036854775808 ≤ n ∧ n ≤ 9223372036854775807 := by
  simp [Lit.wf, IntKind.min, IntKind.max, IntKind.signed, IntKind.bits] at h
  omega
theorem wf_inR {x : Iv} (h1 : (Lit.int .i64 x.lo).wf = true) (h2 : (Lit.int .i64 x.hi).wf = true) : inR x = true := by
  unfold inR inr
  rw [decide_eq_true (wf_in h1), decide_eq_true (wf_in h2)]; rfl
end Go.Proofs.Ytfnodgpebheinaa.M
