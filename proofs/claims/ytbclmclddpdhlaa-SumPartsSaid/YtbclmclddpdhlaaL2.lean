/- For Crc parts may be cut anywhere, and for Print they are told with their lengths (the statement SumParts). The conditions: none. -/
import Derived.Test.YtbclmclddpdhlaaRows
import Derived.Test.YtbclmclddpdhlaaS0
import Derived.Test.YtbclmclddpdhlaaS5
import Derived.Test.YtbclmclddpdhlaaS6
import Derived.Test.YtbclmclddpdhlaaS7
import Derived.WalkKit
import Derived.ProofKit
import Derived.OpenShut
import Derived.ShutString
import Derived.ChangeOld
import Derived.Below
import Derived.SizedLaws
import Derived.Test.YtbclmclddpdhlaaWSized
namespace Go.Proofs.Ytbclmclddpdhlaa.sumParts
open Go Go.ChangeShapes Go.WideShapes Go.ChangeAt Go.RowKit
open Go.ChangeMaps (open_string shut_string)
set_option linter.unusedVariables false
theorem own : ownKnob Try.prog.godebug = none := by kernel_rfl
theorem laidOut : laidOutB Try.prog = true := by kernel_rfl
open Go.Proofs.YtbclmclddpdhlaaW.PrintWords in
/-- A long one is let go; a short one by the three walks. -/
theorem any (A : Option Addr) (len cap : Nat) (l : List Int) (at_ : Int) (w : World) (hlen : len = l.length) (hc : l.length ≤ cap) (hr : Kd.C (Kd.int .u8) w A l.length l) (hn : A = none → cap = 0) :
    Calls Try.prog 4 #[.slice A len cap, .int .i64 at_] w fun e w' => e = .returned (.bool true) ∧ Below w.heap.size w w' := by
  subst hlen
  by_cases hl : l.length ≤ 1000
  · cases A with
    | none =>
      obtain rfl : cap = 0 := hn rfl
      obtain rfl : l = [] := List.eq_nil_of_length_eq_zero (by omega)
      exact S.parts_nil at_ w
    | some ad =>
      obtain ⟨t, ht⟩ : ∃ t, Int.tmod at_ ((l.length : Int) + 1) = t := ⟨_, rfl⟩
      have hb1 : t < (l.length : Int) + 1 := by rw [← ht]; exact Int.tmod_lt_of_pos _ (by omega)
      have hb2 : -((l.length : Int) + 1) < t := by
        have := Int.tmod_lt_of_pos (-at_) (show (0 : Int) < (l.length : Int) + 1 by omega)
        rw [Int.neg_tmod, ht] at this; omega
      obtain ⟨k, hk⟩ : ∃ k : Nat, (k : Int) = if t < 0 then -t else t := ⟨(if t < 0 then -t else t).toNat, by split <;> omega⟩
      have hkl : k ≤ l.length := by split at hk <;> omega
      by_cases hck : cap = k
      · exact S.parts_full ad cap l t k hk hkl at_ ht hck w hr hl hc
      · exact S.parts_some ad cap l t k hk hkl at_ ht hck w hr hl hc
  · have g1 : decide ((1000 : Int) < (l.length : Int)) = true := decide_eq_true (by omega)
    go_enter Try.func4, Try.ntmps4
    go_wp2_with (first | (go_at_call 7; (with_reducible refine (H.known_any _).mono ?_); rintro e w1 ⟨rfl, hB1⟩))
    go_returns
    exact ⟨by simp, hB1⟩
set_option maxRecDepth 100000 in
theorem lifted (os : Os) (started : os.Started) (H : Type) (enc : TypeId × Value → H) :
    ReturnsInHanded {} Try.checked os 4 .any (Rows.sumPartsSpec.pre6 enc Try.prog Try.f4 Rows.sumPartsRow.domain false) (Rows.sumPartsSpec.post enc Try.prog Try.f4 false true false false) := by
  refine returnsInHanded_of_change_sized (C := Try.checked) own started (by kernel_rfl) Try.func4
    (ChangeSpec.witness6 (enc := enc) (C := Try.checked) false ⟨#[], #[.slice none 0 0, .int .i64 0], []⟩ 8 (by kernel_rfl) (by kernel_rfl) (by kernel_rfl) (by kernel_rfl)) ?_
  intro W base args ds gs before hval0 hW hcnd hsz0 _
  have hsz : (DataW.weightsEach Try.prog (Try.f4.params.toList ++ Rows.sumPartsSpec.plain.varTypes Try.prog) (ds ++ gs)).all (· ≤ reachBytes) = true := hsz0
  have hval : ∀ (j : Nat) t v, Try.f4.params[j]? = some t → args[j]? = some v → Value.okWide Try.prog W .any base t v := hval0
  have hW' := hW
  obtain ⟨p, q, hA0, hV, rfl, hfz, hnd⟩ := hW
  have hA : DataW.TrodAll enc Try.prog W 0 (fun _ => true) true Try.f4.params.toList args.toList ds p := hA0
  rw [Try.params4] at hA hval hsz
  obtain ⟨v0, vs0, d0, ds0, p0, q0, hargs, rfl, rfl, h0, r0⟩ := trodAll_cons hA
  obtain ⟨v1, vs1, d1, ds1, p1, q1, rfl, rfl, rfl, h1, r1⟩ := trodAll_cons r0
  obtain ⟨rfl, rfl, rfl⟩ := trodAll_nil r1
  obtain rfl : args = #[v0, v1] := by cases args; simp_all
  obtain ⟨rfl, rfl⟩ := trodVars_none hV
  obtain ⟨a0, len0, cap0, rfl⟩ := okWide_slice Try.underlying33 (hval 0 33 v0 rfl rfl)
  have k0 := h0
  have lt0 : ∀ x ∈ p0, x.block < W.heap.size := by obtain ⟨m, hm⟩ := k0; exact DataW.trod_lt m _ _ _ hm
  obtain ⟨l, e0, hc, hC, hn⟩ : ∃ l : List Int, len0 = l.length ∧ l.length ≤ cap0 ∧ Go.Proofs.YtbclmclddpdhlaaW.PrintWords.Kd.C (Go.Proofs.YtbclmclddpdhlaaW.PrintWords.Kd.int .u8) W a0 l.length l ∧ (a0 = none → cap0 = 0) := by
    obtain ⟨fuel, hf⟩ := h0
    have hf' : DataW.trod enc Try.prog W 0 (fun _ => true) true fuel 33 [.slice a0 len0 cap0] = some (d0, p0) := by simpa [Value.cells] using hf
    have hn : a0 = none → cap0 = 0 := by
      rintro rfl
      rcases open_ints Try.underlying33 Try.underlying5 (by kernel_rfl) hf' with ⟨hcs, _⟩ | ⟨a, len, cap, zs, hcs, _⟩
      · simp at hcs; exact hcs.2
      · simp at hcs
    obtain ⟨l, ⟨A, c, e, h2, h3⟩, _⟩ := S.open_one hf'
    simp at e
    obtain ⟨rfl, rfl, rfl⟩ := e
    exact ⟨l, rfl, h2, h3, hn⟩
  obtain ⟨a1, rfl, rfl, rfl, w1⟩ := open_int Try.underlying3 (hval 1 3 v1 rfl rfl) h1
  clear hA0 hval0 hsz0 hsz
  refine (any a0 len0 cap0 l a1 W e0 hc hC hn).mono fun e W' ⟨he, bel⟩ => ?_
  subst he
  exact ⟨_, rfl, _, _, _, [], _, [], hW', trodAll_mk1 (shut_bool Try.underlying4 _), (trodAll_cons_mk (Below.trod laidOut (by kernel_rfl) (of_decide_eq_true (by kernel_rfl)) k0 bel lt0) (trodAll_cons_mk (shut_int Try.underlying3 w1) trodAll_mk0)), rfl, bel.frame _, fun h => by cases h⟩
theorem over : Rows.sumPartsRow.holds Try.pinned (OpenSpec.ofChange Rows.sumPartsSpec) :=
  OpenClaim.holds_of_wide 4 Try.f4 rfl rfl rfl rfl rfl rfl rfl ⟨rfl, rfl, rfl, rfl, rfl⟩ rfl rfl rfl rfl rfl (by kernel_rfl) Try.func4 (by kernel_rfl)
    (of_decide_eq_true (by kernel_rfl)) (by unfold Func.isWrapper; first | (rw [if_pos (by decide +kernel)]; kernel_rfl) | (rw [if_neg (by decide +kernel)]; exact ⟨rfl, rfl⟩))
    (fun os started H enc _ => lifted os started H enc)
end Go.Proofs.Ytbclmclddpdhlaa.sumParts
namespace Go.Proofs.Ytbclmclddpdhlaa
/-- The row, under a short name, for the claim. -/
theorem SumParts_holds : Rows.SumPartsSaid := sumParts.over
#print axioms SumParts_holds
end Go.Proofs.Ytbclmclddpdhlaa
