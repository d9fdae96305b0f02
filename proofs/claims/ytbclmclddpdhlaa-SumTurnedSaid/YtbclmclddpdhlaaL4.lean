/- A bit that is turned, and up to three of them, change what Crc tells, and any change what Print is told of changes it as the document says (the statement SumTurned). The conditions: none. -/
import Derived.Test.YtbclmclddpdhlaaRows
import Derived.Test.YtbclmclddpdhlaaS0
import Derived.Test.YtbclmclddpdhlaaS16
import Derived.WalkKit
import Derived.ProofKit
import Derived.OpenShut
import Derived.ShutString
import Derived.ChangeOld
import Derived.Below
import Derived.SizedLaws
import Derived.Test.YtbclmclddpdhlaaWSized
namespace Go.Proofs.Ytbclmclddpdhlaa.sumTurned
open Go Go.ChangeShapes Go.WideShapes Go.ChangeAt Go.RowKit
open Go.ChangeMaps (open_string shut_string)
set_option linter.unusedVariables false
theorem own : ownKnob Try.prog.godebug = none := by kernel_rfl
theorem laidOut : laidOutB Try.prog = true := by kernel_rfl
open Go.Proofs.YtbclmclddpdhlaaW.PrintWords in
theorem wf_u16 {n : Int} (h : (Lit.int .u16 n).wf = true) : 0 ≤ n ∧ n ≤ 65535 := by
  simp [Lit.wf, IntKind.min, IntKind.max, IntKind.signed, IntKind.bits] at h
  omega
theorem is_ints : ∀ (l : List Int), (∀ x ∈ l, 0 ≤ x ∧ x ≤ 255) → ∃ ys : List Nat, S.ints ys = l ∧ ∀ y ∈ ys, y < 256
  | [], _ => ⟨[], rfl, fun y h => by cases h⟩
  | x :: l, h => by
    obtain ⟨ys, e, hy⟩ := is_ints l (fun z hz => h z (List.mem_cons_of_mem _ hz))
    have hx := h x (List.mem_cons_self ..)
    refine ⟨x.toNat :: ys, ?_, fun y hm => ?_⟩
    · show ((x.toNat : Int) :: S.ints ys) = x :: l
      rw [e]; congr 1; omega
    · rcases List.mem_cons.1 hm with rfl | hm
      · omega
      · exact hy y hm
open Go.Proofs.YtbclmclddpdhlaaW.PrintWords in
/-- A long one or none is let go; another by the walk. -/
theorem any (A : Option Addr) (len cap : Nat) (l : List Int) (hl8 : ∀ x ∈ l, 0 ≤ x ∧ x ≤ 255) (i j k : Int) (hi : 0 ≤ i ∧ i ≤ 65535) (hj : 0 ≤ j ∧ j ≤ 65535) (hk : 0 ≤ k ∧ k ≤ 65535) (w : World) (hlen : len = l.length) (hc : l.length ≤ cap) (hr : Kd.C (Kd.int .u8) w A l.length l) :
    Calls Try.prog 5 #[.slice A len cap, .int .u16 i, .int .u16 j, .int .u16 k] w fun e w' => e = .returned (.bool true) ∧ Below w.heap.size w w' := by
  subst hlen
  by_cases h0 : l.length = 0
  · have g0 : ((l.length : Int) == 0) = true := beq_iff_eq.mpr (by omega)
    have g2 : (l.length : Int) = 0 := by omega
    clear hi hj hk
    go_enter Try.func5, Try.ntmps5
    go_wp2_with (first | (go_at_call 7; (with_reducible refine (H.known_any _).mono ?_); rintro e w1 ⟨rfl, hB1⟩))
    go_returns
    exact ⟨by simp, hB1⟩
  · have g0 : ((l.length : Int) == 0) = false := beq_eq_false_iff_ne.mpr (by omega)
    have g2 : ¬ (l.length : Int) = 0 := by omega
    by_cases hl : l.length ≤ 500
    · obtain ⟨ys, rfl, hy⟩ := is_ints l hl8
      have hlen : (S.ints ys).length = ys.length := by unfold S.ints; rw [List.length_map]
      rw [hlen] at hr h0 hl hc ⊢
      obtain ⟨ad, rfl, _⟩ := hr.2.2 (by omega)
      exact S.turned_walk ad cap ys hy i j k hi hj hk w hl (by omega) hc hr
    · have g1 : decide ((500 : Int) < (l.length : Int)) = true := decide_eq_true (by omega)
      clear hi hj hk
      go_enter Try.func5, Try.ntmps5
      go_wp2_with (first | (go_at_call 7; (with_reducible refine (H.known_any _).mono ?_); rintro e w1 ⟨rfl, hB1⟩))
      go_returns
      exact ⟨by simp, hB1⟩
set_option maxRecDepth 100000 in
theorem lifted (os : Os) (started : os.Started) (H : Type) (enc : TypeId × Value → H) :
    ReturnsInHanded {} Try.checked os 5 .any (Rows.sumTurnedSpec.pre6 enc Try.prog Try.f5 Rows.sumTurnedRow.domain false) (Rows.sumTurnedSpec.post enc Try.prog Try.f5 false true false false) := by
  refine returnsInHanded_of_change_sized (C := Try.checked) own started (by kernel_rfl) Try.func5
    (ChangeSpec.witness6 (enc := enc) (C := Try.checked) false ⟨#[], #[.slice none 0 0, .int .u16 0, .int .u16 0, .int .u16 0], []⟩ 8 (by kernel_rfl) (by kernel_rfl) (by kernel_rfl) (by kernel_rfl)) ?_
  intro W base args ds gs before hval0 hW hcnd hsz0 _
  have hsz : (DataW.weightsEach Try.prog (Try.f5.params.toList ++ Rows.sumTurnedSpec.plain.varTypes Try.prog) (ds ++ gs)).all (· ≤ reachBytes) = true := hsz0
  have hval : ∀ (j : Nat) t v, Try.f5.params[j]? = some t → args[j]? = some v → Value.okWide Try.prog W .any base t v := hval0
  have hW' := hW
  obtain ⟨p, q, hA0, hV, rfl, hfz, hnd⟩ := hW
  have hA : DataW.TrodAll enc Try.prog W 0 (fun _ => true) true Try.f5.params.toList args.toList ds p := hA0
  rw [Try.params5] at hA hval hsz
  obtain ⟨v0, vs0, d0, ds0, p0, q0, hargs, rfl, rfl, h0, r0⟩ := trodAll_cons hA
  obtain ⟨v1, vs1, d1, ds1, p1, q1, rfl, rfl, rfl, h1, r1⟩ := trodAll_cons r0
  obtain ⟨v2, vs2, d2, ds2, p2, q2, rfl, rfl, rfl, h2, r2⟩ := trodAll_cons r1
  obtain ⟨v3, vs3, d3, ds3, p3, q3, rfl, rfl, rfl, h3, r3⟩ := trodAll_cons r2
  obtain ⟨rfl, rfl, rfl⟩ := trodAll_nil r3
  obtain rfl : args = #[v0, v1, v2, v3] := by cases args; simp_all
  obtain ⟨rfl, rfl⟩ := trodVars_none hV
  obtain ⟨a0, len0, cap0, rfl⟩ := okWide_slice Try.underlying33 (hval 0 33 v0 rfl rfl)
  have k0 := h0
  have lt0 : ∀ x ∈ p0, x.block < W.heap.size := by obtain ⟨m, hm⟩ := k0; exact DataW.trod_lt m _ _ _ hm
  obtain ⟨l, e0, hc, hC, hR8⟩ : ∃ l : List Int, len0 = l.length ∧ l.length ≤ cap0 ∧ Go.Proofs.YtbclmclddpdhlaaW.PrintWords.Kd.C (Go.Proofs.YtbclmclddpdhlaaW.PrintWords.Kd.int .u8) W a0 l.length l ∧ (∀ x ∈ l, 0 ≤ x ∧ x ≤ 255) := by
    obtain ⟨fuel, hf⟩ := h0
    have hf' : DataW.trod enc Try.prog W 0 (fun _ => true) true fuel 33 [.slice a0 len0 cap0] = some (d0, p0) := by simpa [Value.cells] using hf
    obtain ⟨l, ⟨A, c, e, h2, h3⟩, hR⟩ := S.open_one hf'
    simp at e
    obtain ⟨rfl, rfl, rfl⟩ := e
    exact ⟨l, rfl, h2, h3, hR⟩
  obtain ⟨a1, rfl, rfl, rfl, w1⟩ := open_int Try.underlying35 (hval 1 35 v1 rfl rfl) h1
  obtain ⟨a2, rfl, rfl, rfl, w2⟩ := open_int Try.underlying35 (hval 2 35 v2 rfl rfl) h2
  obtain ⟨a3, rfl, rfl, rfl, w3⟩ := open_int Try.underlying35 (hval 3 35 v3 rfl rfl) h3
  clear hA0 hval0 hsz0 hsz
  refine (any a0 len0 cap0 l hR8 a1 a2 a3 (wf_u16 w1) (wf_u16 w2) (wf_u16 w3) W e0 hc hC).mono fun e W' ⟨he, bel⟩ => ?_
  subst he
  exact ⟨_, rfl, _, _, _, [], _, [], hW', trodAll_mk1 (shut_bool Try.underlying4 _), (trodAll_cons_mk (Below.trod laidOut (by kernel_rfl) (of_decide_eq_true (by kernel_rfl)) k0 bel lt0) (trodAll_cons_mk (shut_int Try.underlying35 w1) (trodAll_cons_mk (shut_int Try.underlying35 w2) (trodAll_cons_mk (shut_int Try.underlying35 w3) trodAll_mk0)))), rfl, bel.frame _, fun h => by cases h⟩
theorem over : Rows.sumTurnedRow.holds Try.pinned (OpenSpec.ofChange Rows.sumTurnedSpec) :=
  OpenClaim.holds_of_wide 5 Try.f5 rfl rfl rfl rfl rfl rfl rfl ⟨rfl, rfl, rfl, rfl, rfl⟩ rfl rfl rfl rfl rfl (by kernel_rfl) Try.func5 (by kernel_rfl)
    (of_decide_eq_true (by kernel_rfl)) (by unfold Func.isWrapper; first | (rw [if_pos (by decide +kernel)]; kernel_rfl) | (rw [if_neg (by decide +kernel)]; exact ⟨rfl, rfl⟩))
    (fun os started H enc _ => lifted os started H enc)
end Go.Proofs.Ytbclmclddpdhlaa.sumTurned
namespace Go.Proofs.Ytbclmclddpdhlaa
/-- The row, under a short name, for the claim. -/
theorem SumTurned_holds : Rows.SumTurnedSaid := sumTurned.over
#print axioms SumTurned_holds
end Go.Proofs.Ytbclmclddpdhlaa
