/- Sums of many parts of any bytes, long ones too, are the document's, and empty parts count for Print alone (the statement SumLong). The conditions: none. -/
import Derived.Test.YtbclmclddpdhlaaRows
import Derived.Test.YtbclmclddpdhlaaS0
import Derived.Test.YtbclmclddpdhlaaS11
import Derived.WalkKit
import Derived.ProofKit
import Derived.OpenShut
import Derived.ShutString
import Derived.ChangeOld
import Derived.Below
import Derived.SizedLaws
import Derived.Test.YtbclmclddpdhlaaWSized
namespace Go.Proofs.Ytbclmclddpdhlaa.sumLong
open Go Go.ChangeShapes Go.WideShapes Go.ChangeAt Go.RowKit
open Go.ChangeMaps (open_string shut_string)
set_option linter.unusedVariables false
theorem own : ownKnob Try.prog.godebug = none := by kernel_rfl
theorem laidOut : laidOutB Try.prog = true := by kernel_rfl
open Go.Proofs.YtbclmclddpdhlaaW.PrintWords in
/-- A long one is let go; a short one by the walk. -/
theorem any (A : Option Addr) (len cap : Nat) (l : List Int) (t m : Int) (ht : 0 ≤ t ∧ t ≤ 255) (hm : 0 ≤ m ∧ m ≤ 255) (w : World) (hlen : len = l.length) (hc : l.length ≤ cap) (hr : Kd.C (Kd.int .u8) w A l.length l) :
    Calls Try.prog 6 #[.slice A len cap, .int .u8 t, .int .u8 m] w fun e w' => e = .returned (.bool true) ∧ Below w.heap.size w w' := by
  subst hlen
  by_cases hl : l.length ≤ 50
  · obtain ⟨T, rfl⟩ : ∃ T : Nat, t = (T : Int) := ⟨t.toNat, by omega⟩
    have hmm : Int.tmod m 4 = ((m % 4).toNat : Int) := by rw [Int.tmod_eq_emod_of_nonneg hm.1]; omega
    exact S.long_walk A cap l T (m % 4).toNat m (by omega) (by omega) hmm w hl hc hr
  · have g1 : decide ((50 : Int) < (l.length : Int)) = true := decide_eq_true (by omega)
    clear hl ht hm
    go_enter Try.func6, Try.ntmps6
    go_wp2_with (first | (go_at_call 7; (with_reducible refine (H.known_any _).mono ?_); rintro e w1 ⟨rfl, hB1⟩))
    go_returns
    exact ⟨by simp, hB1⟩
set_option maxRecDepth 100000 in
theorem lifted (os : Os) (started : os.Started) (H : Type) (enc : TypeId × Value → H) :
    ReturnsInHanded {} Try.checked os 6 .any (Rows.sumLongSpec.pre6 enc Try.prog Try.f6 Rows.sumLongRow.domain false) (Rows.sumLongSpec.post enc Try.prog Try.f6 false true false false) := by
  refine returnsInHanded_of_change_sized (C := Try.checked) own started (by kernel_rfl) Try.func6
    (ChangeSpec.witness6 (enc := enc) (C := Try.checked) false ⟨#[], #[.slice none 0 0, .int .u8 0, .int .u8 0], []⟩ 8 (by kernel_rfl) (by kernel_rfl) (by kernel_rfl) (by kernel_rfl)) ?_
  intro W base args ds gs before hval0 hW hcnd hsz0 _
  have hsz : (DataW.weightsEach Try.prog (Try.f6.params.toList ++ Rows.sumLongSpec.plain.varTypes Try.prog) (ds ++ gs)).all (· ≤ reachBytes) = true := hsz0
  have hval : ∀ (j : Nat) t v, Try.f6.params[j]? = some t → args[j]? = some v → Value.okWide Try.prog W .any base t v := hval0
  have hW' := hW
  obtain ⟨p, q, hA0, hV, rfl, hfz, hnd⟩ := hW
  have hA : DataW.TrodAll enc Try.prog W 0 (fun _ => true) true Try.f6.params.toList args.toList ds p := hA0
  rw [Try.params6] at hA hval hsz
  obtain ⟨v0, vs0, d0, ds0, p0, q0, hargs, rfl, rfl, h0, r0⟩ := trodAll_cons hA
  obtain ⟨v1, vs1, d1, ds1, p1, q1, rfl, rfl, rfl, h1, r1⟩ := trodAll_cons r0
  obtain ⟨v2, vs2, d2, ds2, p2, q2, rfl, rfl, rfl, h2, r2⟩ := trodAll_cons r1
  obtain ⟨rfl, rfl, rfl⟩ := trodAll_nil r2
  obtain rfl : args = #[v0, v1, v2] := by cases args; simp_all
  obtain ⟨rfl, rfl⟩ := trodVars_none hV
  obtain ⟨a0, len0, cap0, rfl⟩ := okWide_slice Try.underlying33 (hval 0 33 v0 rfl rfl)
  have k0 := h0
  have lt0 : ∀ x ∈ p0, x.block < W.heap.size := by obtain ⟨m, hm⟩ := k0; exact DataW.trod_lt m _ _ _ hm
  obtain ⟨l, e0, hc, hC, _⟩ : ∃ l : List Int, len0 = l.length ∧ l.length ≤ cap0 ∧ Go.Proofs.YtbclmclddpdhlaaW.PrintWords.Kd.C (Go.Proofs.YtbclmclddpdhlaaW.PrintWords.Kd.int .u8) W a0 l.length l ∧ True := by
    obtain ⟨fuel, hf⟩ := h0
    have hf' : DataW.trod enc Try.prog W 0 (fun _ => true) true fuel 33 [.slice a0 len0 cap0] = some (d0, p0) := by simpa [Value.cells] using hf
    obtain ⟨l, ⟨A, c, e, h2, h3⟩, _⟩ := S.open_one hf'
    simp at e
    obtain ⟨rfl, rfl, rfl⟩ := e
    exact ⟨l, rfl, h2, h3, trivial⟩
  obtain ⟨a1, rfl, rfl, rfl, w1⟩ := open_int Try.underlying5 (hval 1 5 v1 rfl rfl) h1
  obtain ⟨a2, rfl, rfl, rfl, w2⟩ := open_int Try.underlying5 (hval 2 5 v2 rfl rfl) h2
  clear hA0 hval0 hsz0 hsz
  refine (any a0 len0 cap0 l a1 a2 (S.wf_u8 w1) (S.wf_u8 w2) W e0 hc hC).mono fun e W' ⟨he, bel⟩ => ?_
  subst he
  exact ⟨_, rfl, _, _, _, [], _, [], hW', trodAll_mk1 (shut_bool Try.underlying4 _), (trodAll_cons_mk (Below.trod laidOut (by kernel_rfl) (of_decide_eq_true (by kernel_rfl)) k0 bel lt0) (trodAll_cons_mk (shut_int Try.underlying5 w1) (trodAll_cons_mk (shut_int Try.underlying5 w2) trodAll_mk0))), rfl, bel.frame _, fun h => by cases h⟩
theorem over : Rows.sumLongRow.holds Try.pinned (OpenSpec.ofChange Rows.sumLongSpec) :=
  OpenClaim.holds_of_wide 6 Try.f6 rfl rfl rfl rfl rfl rfl rfl ⟨rfl, rfl, rfl, rfl, rfl⟩ rfl rfl rfl rfl rfl (by kernel_rfl) Try.func6 (by kernel_rfl)
    (of_decide_eq_true (by kernel_rfl)) (by unfold Func.isWrapper; first | (rw [if_pos (by decide +kernel)]; kernel_rfl) | (rw [if_neg (by decide +kernel)]; exact ⟨rfl, rfl⟩))
    (fun os started H enc _ => lifted os started H enc)
end Go.Proofs.Ytbclmclddpdhlaa.sumLong
namespace Go.Proofs.Ytbclmclddpdhlaa
/-- The row, under a short name, for the claim. -/
theorem SumLong_holds : Rows.SumLongSaid := sumLong.over
#print axioms SumLong_holds
end Go.Proofs.Ytbclmclddpdhlaa
