/- The law: what is reckoned is the document's. -/
import Derived.Test.YtfnodgpebheinaaM61
import Derived.Test.YtfnodgpebheinaaM71
import Derived.Test.YtfnodgpebheinaaM72
import Derived.Test.YtfnodgpebheinaaM74
import Derived.Test.YtfnodgpebheinaaQ0
import Derived.Deep.DeepCutAuto
import Derived.Deep.CutBlock
namespace Go.Proofs.Ytfnodgpebheinaa.M
open Go Go.RowKit Go.Proofs.Ytfnodgpebheinaa
set_option linter.unusedVariables false
set_option linter.unusedSimpArgs false
attribute [local simp, local go_sem] lt_a2 lt_a3 lt_a4 lt_a5 lt_a6 lt_a7 lt_a8
set_option maxHeartbeats 4000000
attribute [local go_sem] eqIv
theorem with_eq {x y : Iv} (ox : Ok x) (hx : x.s = true) : withI x y = if y.lo = y.hi then rwithI x.lo x.hi y.lo else x := by
  obtain ⟨b1, b2, b3⟩ := ox.bounds hx
  obtain ⟨xs, al, ah⟩ := x
  dsimp only at hx b1 b2 b3 ⊢
  subst hx
  obtain ⟨n, hn⟩ : ∃ n, y.lo = n := ⟨_, rfl⟩
  unfold withI rwithI
  rw [hn]
  by_cases h : n = y.hi
  · rw [if_pos h, if_pos h]
    dsimp only
    by_cases h1 : al = n
    · subst h1
      rw [if_pos rfl, if_pos rfl]
      by_cases h2 : ah = al
      · subst h2
        rw [if_pos rfl]
        unfold aboveI
        by_cases h3 : ah = 9223372036854775807
        · rw [if_pos h3]; unfold meetI; rw [if_neg (by simp)]
        · have e : wrap64 (ah + 1) = ah + 1 := by unfold wrap64; omega
          rw [if_neg h3, e, of_eq (by omega)]
          unfold meetI
          rw [if_pos ⟨rfl, rfl⟩]
          dsimp only
          rw [nrm_none (.inr (by (repeat' split) <;> omega))]
      · have e : wrap64 (al + 1) = al + 1 := by unfold wrap64; omega
        rw [if_neg h2, e]
        unfold aboveI
        rw [if_neg (by omega), e, of_eq (by omega), of_eq (by omega)]
        unfold meetI
        rw [if_pos ⟨rfl, rfl⟩]
        dsimp only
        rw [if_pos (by omega), if_neg (by omega), nrm_some (by omega)]
    · rw [if_neg h1, if_neg h1]
      by_cases h2 : ah = n
      · subst h2
        have e : wrap64 (ah - 1) = ah - 1 := by unfold wrap64; omega
        rw [if_pos rfl, if_pos rfl, e]
        unfold belowI
        rw [if_neg (by omega), e, of_eq (by omega), of_eq (by omega)]
        unfold meetI
        rw [if_pos ⟨rfl, rfl⟩]
        dsimp only
        rw [if_neg (by omega), if_pos (by omega), nrm_some (by omega)]
      · rw [if_neg h2, if_neg h2]
  · rw [if_neg h, if_neg h]
theorem rlessI_eq {k : Int} {x y : Iv} (ox : Ok x) (oy : Ok y) : rlessI k x y = lessI k x y := by
  unfold rlessI lessI
  by_cases h : x.s = true ∧ y.s = true
  · rw [if_pos h, if_pos h]
    congr 1
    unfold rleftP
    by_cases hk : k = 1
    · subst hk
      rw [if_pos rfl]
      show _ = (withI x y, withI y x)
      rw [with_eq ox h.1, with_eq oy h.2]
    · rw [if_neg hk]
  · rw [if_neg h, if_neg h]
theorem mod_z_eq (x y : Iv) : modZ x y = divZ x y := rfl
set_option maxRecDepth 100000 in
theorem law_tells (a b : Iv) (k : Int) (ra : inR a = true) (rb : inR b = true) (w : World) : Calls Try.prog 7 #[.agg #[.bool a.s, .int .i64 a.lo, .int .i64 a.hi], .agg #[.bool b.s, .int .i64 b.lo, .int .i64 b.hi], .int .i64 k] w fun e w' => e = .returned (.bool true) ∧ Below w.heap.size w w' := by
  have hu := Try.underlying23
  have ox := inR_ok ra
  have oy := inR_ok rb
  have hR0 := rlessI_eq (k := k) ox oy
  have hx0 : Hid (nrm ⟨true, 0, 0⟩ = ⟨true, 0, 0⟩) := Lib.hid rfl
  have ox0 : Hid (Ok ⟨true, 0, 0⟩) := Lib.hid (.inr ⟨rfl, by decide, by decide, by decide⟩)
  have ho0 : Hid (ofI 0 0 = ⟨true, 0, 0⟩) := Lib.hid rfl
  obtain ⟨P, hP⟩ : ∃ P, Hid (lessI k (nrm a) (nrm b) = P) := ⟨_, Lib.hid rfl⟩
  obtain ⟨p, q⟩ := P
  have hR : Hid (rlessI k (nrm a) (nrm b) = (p, q)) := Lib.hid (hR0.trans hP.out)
  obtain ⟨s4, h4'⟩ : ∃ q, Hid (subI ⟨true, 0, 0⟩ (nrm a) = q) := ⟨_, Lib.hid rfl⟩
  obtain ⟨x, hx⟩ : ∃ x, Hid (nrm a = x) := ⟨_, Lib.hid rfl⟩
  obtain ⟨y, hy⟩ : ∃ y, Hid (nrm b = y) := ⟨_, Lib.hid rfl⟩
  rw [hx.out] at ox
  rw [hy.out] at oy
  have h4 : Hid (subI ⟨true, 0, 0⟩ x = s4) := Lib.hid (by rw [← hx.out]; exact h4'.out)
  obtain ⟨s1, h1⟩ : ∃ q, Hid (addI x y = q) := ⟨_, Lib.hid rfl⟩
  obtain ⟨s2, h2⟩ : ∃ q, Hid (subI x y = q) := ⟨_, Lib.hid rfl⟩
  obtain ⟨s3, h3⟩ : ∃ q, Hid (mulI x y = q) := ⟨_, Lib.hid rfl⟩
  obtain ⟨s5, h5⟩ : ∃ q, Hid (divI x y = q) := ⟨_, Lib.hid rfl⟩
  obtain ⟨z5, k5⟩ : ∃ q, Hid (divZ x y = q) := ⟨_, Lib.hid rfl⟩
  obtain ⟨s6, h6⟩ : ∃ q, Hid (modI x y = q) := ⟨_, Lib.hid rfl⟩
  have k6 : Hid (modZ x y = z5) := k5
  replace ox := Lib.hid ox
  replace oy := Lib.hid oy
  clear hR0
  go_enter Try.func7, Try.ntmps7
  go_upto_region 3 with (first | (go_at_call 10; (with_reducible refine (known_any _).mono ?_); rintro e w' ⟨rfl, hB⟩; have Qa := Box.keep (g := w.heap.size) (x := a) hB ⟨by go_simp, by go_simp, by go_simp, by go_simp, by go_simp, by go_simp⟩; have Qd := Box.keep (g := w.heap.size + 1) (x := b) hB ⟨by go_simp, by go_simp, by go_simp, by go_simp, by go_simp, by go_simp⟩; replace hB0 := below_call (w := w) (by first | (with_reducible assumption) | ((try go_grown); (all_goals (repeat' (first | (with_reducible assumption) | (refine below_call ?_ (by assumption); (try go_grown))))); all_goals (first | omega | (simp; omega)))) hB; clear hB; (try clear a0 a1 a2 a3 a4 a5); (try clear d0 d1 d2 d3 d4 d5); have la0 := Box.lt Qa; have la1 := Nat.lt_succ_of_lt la0; have la2 := Nat.lt_succ_of_lt la1; obtain ⟨a0, a1, a2, a3, a4, a5⟩ := Qa; have ld0 := Box.lt Qd; have ld1 := Nat.lt_succ_of_lt ld0; have ld2 := Nat.lt_succ_of_lt ld1; obtain ⟨d0, d1, d2, d3, d4, d5⟩ := Qd))
  go_upto_region 3 with (fail)
  go_cut [7, 8] (fun v1 v2 wd => ∃ g7 : Nat, v1 = .pointer (some ⟨g7, 0, none⟩) ∧ v2 = .bool z5 ∧ Box wd (w.heap.size) (a) ∧ Box wd (w.heap.size + 1) (b) ∧ Box wd (g7) (s5) ∧ Below w.heap.size w wd)
  case first =>
    go_wp2_with (first | (go_at_call 24; (with_reducible refine (arith_div a b x y hx hy ox.out oy.out s5 z5 h5 k5 _).mono ?_); rintro e w' ⟨rfl, hB⟩; have Qa := Box.keep (g := w.heap.size) (x := a) hB ⟨by go_simp, by go_simp, by go_simp, by go_simp, by go_simp, by go_simp⟩; have Qd := Box.keep (g := w.heap.size + 1) (x := b) hB ⟨by go_simp, by go_simp, by go_simp, by go_simp, by go_simp, by go_simp⟩; replace hB0 := below_call (w := w) (by first | (with_reducible assumption) | ((try go_grown); (all_goals (repeat' (first | (with_reducible assumption) | (refine below_call ?_ (by assumption); (try go_grown))))); all_goals (first | omega | (simp; omega)))) hB; clear hB; (try clear a0 a1 a2 a3 a4 a5); (try clear d0 d1 d2 d3 d4 d5); have la0 := Box.lt Qa; have la1 := Nat.lt_succ_of_lt la0; have la2 := Nat.lt_succ_of_lt la1; obtain ⟨a0, a1, a2, a3, a4, a5⟩ := Qa; have ld0 := Box.lt Qd; have ld1 := Nat.lt_succ_of_lt ld0; have ld2 := Nat.lt_succ_of_lt ld1; obtain ⟨d0, d1, d2, d3, d4, d5⟩ := Qd))
    go_meet
    case rel => exact ⟨_, rfl, rfl, ⟨by go_simp, by go_simp, by go_simp, by go_simp, by go_simp, by go_simp⟩, ⟨by go_simp, by go_simp, by go_simp, by go_simp, by go_simp, by go_simp⟩, ⟨by go_simp, by go_simp, by go_simp, by go_simp, by go_simp, by go_simp⟩, by first | (with_reducible assumption) | ((try go_grown); (all_goals (repeat' (first | (with_reducible assumption) | (refine below_call ?_ (by assumption); (try go_grown))))); all_goals (first | omega | (simp; omega)))⟩
  case rest =>
    (try clear hB0); (try clear a0 a1 a2 a3 a4 a5); (try clear d0 d1 d2 d3 d4 d5)
    obtain ⟨g7, rfl, rfl, Qa, Qd, Qe, hB0⟩ := hcut
    have la0 := Box.lt Qa
    obtain ⟨a0, a1, a2, a3, a4, a5⟩ := Qa
    have ld0 := Box.lt Qd
    obtain ⟨d0, d1, d2, d3, d4, d5⟩ := Qd
    have le0 := Box.lt Qe
    obtain ⟨e0, e1, e2, e3, e4, e5⟩ := Qe
    go_upto_region 4 with (fail)
    go_cut [9, 10] (fun v1 v2 wd => ∃ g9 : Nat, v1 = .pointer (some ⟨g9, 0, none⟩) ∧ v2 = .bool z5 ∧ Box wd (w.heap.size) (a) ∧ Box wd (w.heap.size + 1) (b) ∧ Box wd (g7) (s5) ∧ Box wd (g9) (s5) ∧ Below w.heap.size w wd)
    case first =>
      go_wp2_with (first | (go_at_call 26; (with_reducible refine (ref_div a b x y hx hy ox.out oy.out s5 z5 h5 k5 _).mono ?_); rintro e w' ⟨rfl, hB⟩; have Qa := Box.keep (g := w.heap.size) (x := a) hB ⟨by go_simp, by go_simp, by go_simp, by go_simp, by go_simp, by go_simp⟩; have Qd := Box.keep (g := w.heap.size + 1) (x := b) hB ⟨by go_simp, by go_simp, by go_simp, by go_simp, by go_simp, by go_simp⟩; have Qe := Box.keep (g := g7) (x := s5) hB ⟨by go_simp, by go_simp, by go_simp, by go_simp, by go_simp, by go_simp⟩; replace hB0 := below_call (w := w) (by first | (with_reducible assumption) | ((try go_grown); (all_goals (repeat' (first | (with_reducible assumption) | (refine below_call ?_ (by assumption); (try go_grown))))); all_goals (first | omega | (simp; omega)))) hB; clear hB; (try clear a0 a1 a2 a3 a4 a5); (try clear d0 d1 d2 d3 d4 d5); (try clear e0 e1 e2 e3 e4 e5); have la0 := Box.lt Qa; have la1 := Nat.lt_succ_of_lt la0; have la2 := Nat.lt_succ_of_lt la1; obtain ⟨a0, a1, a2, a3, a4, a5⟩ := Qa; have ld0 := Box.lt Qd; have ld1 := Nat.lt_succ_of_lt ld0; have ld2 := Nat.lt_succ_of_lt ld1; obtain ⟨d0, d1, d2, d3, d4, d5⟩ := Qd; have le0 := Box.lt Qe; have le1 := Nat.lt_succ_of_lt le0; have le2 := Nat.lt_succ_of_lt le1; obtain ⟨e0, e1, e2, e3, e4, e5⟩ := Qe))
      go_meet
      case rel => exact ⟨_, rfl, rfl, ⟨by go_simp, by go_simp, by go_simp, by go_simp, by go_simp, by go_simp⟩, ⟨by go_simp, by go_simp, by go_simp, by go_simp, by go_simp, by go_simp⟩, ⟨by go_simp, by go_simp, by go_simp, by go_simp, by go_simp, by go_simp⟩, ⟨by go_simp, by go_simp, by go_simp, by go_simp, by go_simp, by go_simp⟩, by first | (with_reducible assumption) | ((try go_grown); (all_goals (repeat' (first | (with_reducible assumption) | (refine below_call ?_ (by assumption); (try go_grown))))); all_goals (first | omega | (simp; omega)))⟩
    case rest =>
      (try clear hB0); (try clear a0 a1 a2 a3 a4 a5); (try clear d0 d1 d2 d3 d4 d5); (try clear e0 e1 e2 e3 e4 e5)
      obtain ⟨g9, rfl, rfl, Qa, Qd, Qe, Qf, hB0⟩ := hcut
      have la0 := Box.lt Qa
      obtain ⟨a0, a1, a2, a3, a4, a5⟩ := Qa
      have ld0 := Box.lt Qd
      obtain ⟨d0, d1, d2, d3, d4, d5⟩ := Qd
      have le0 := Box.lt Qe
      obtain ⟨e0, e1, e2, e3, e4, e5⟩ := Qe
      have lf0 := Box.lt Qf
      obtain ⟨f0, f1, f2, f3, f4, f5⟩ := Qf
      go_upto_region 5 with (fail)
      go_cut [11, 12] (fun v1 v2 wd => ∃ g11 : Nat, v1 = .pointer (some ⟨g11, 0, none⟩) ∧ v2 = .bool z5 ∧ Box wd (w.heap.size) (a) ∧ Box wd (w.heap.size + 1) (b) ∧ Box wd (g7) (s5) ∧ Box wd (g9) (s5) ∧ Box wd (g11) (s6) ∧ Below w.heap.size w wd)
      case first =>
        go_wp2_with (first | (go_at_call 25; (with_reducible refine (arith_mod a b x y hx hy ox.out oy.out s6 z5 h6 k6 _).mono ?_); rintro e w' ⟨rfl, hB⟩; have Qa := Box.keep (g := w.heap.size) (x := a) hB ⟨by go_simp, by go_simp, by go_simp, by go_simp, by go_simp, by go_simp⟩; have Qd := Box.keep (g := w.heap.size + 1) (x := b) hB ⟨by go_simp, by go_simp, by go_simp, by go_simp, by go_simp, by go_simp⟩; have Qe := Box.keep (g := g7) (x := s5) hB ⟨by go_simp, by go_simp, by go_simp, by go_simp, by go_simp, by go_simp⟩; have Qf := Box.keep (g := g9) (x := s5) hB ⟨by go_simp, by go_simp, by go_simp, by go_simp, by go_simp, by go_simp⟩; replace hB0 := below_call (w := w) (by first | (with_reducible assumption) | ((try go_grown); (all_goals (repeat' (first | (with_reducible assumption) | (refine below_call ?_ (by assumption); (try go_grown))))); all_goals (first | omega | (simp; omega)))) hB; clear hB; (try clear a0 a1 a2 a3 a4 a5); (try clear d0 d1 d2 d3 d4 d5); (try clear e0 e1 e2 e3 e4 e5); (try clear f0 f1 f2 f3 f4 f5); have la0 := Box.lt Qa; have la1 := Nat.lt_succ_of_lt la0; have la2 := Nat.lt_succ_of_lt la1; obtain ⟨a0, a1, a2, a3, a4, a5⟩ := Qa; have ld0 := Box.lt Qd; have ld1 := Nat.lt_succ_of_lt ld0; have ld2 := Nat.lt_succ_of_lt ld1; obtain ⟨d0, d1, d2, d3, d4, d5⟩ := Qd; have le0 := Box.lt Qe; have le1 := Nat.lt_succ_of_lt le0; have le2 := Nat.lt_succ_of_lt le1; obtain ⟨e0, e1, e2, e3, e4, e5⟩ := Qe; have lf0 := Box.lt Qf; have lf1 := Nat.lt_succ_of_lt lf0; have lf2 := Nat.lt_succ_of_lt lf1; obtain ⟨f0, f1, f2, f3, f4, f5⟩ := Qf))
        go_meet
        case rel => exact ⟨_, rfl, rfl, ⟨by go_simp, by go_simp, by go_simp, by go_simp, by go_simp, by go_simp⟩, ⟨by go_simp, by go_simp, by go_simp, by go_simp, by go_simp, by go_simp⟩, ⟨by go_simp, by go_simp, by go_simp, by go_simp, by go_simp, by go_simp⟩, ⟨by go_simp, by go_simp, by go_simp, by go_simp, by go_simp, by go_simp⟩, ⟨by go_simp, by go_simp, by go_simp, by go_simp, by go_simp, by go_simp⟩, by first | (with_reducible assumption) | ((try go_grown); (all_goals (repeat' (first | (with_reducible assumption) | (refine below_call ?_ (by assumption); (try go_grown))))); all_goals (first | omega | (simp; omega)))⟩
      case rest =>
        (try clear hB0); (try clear a0 a1 a2 a3 a4 a5); (try clear d0 d1 d2 d3 d4 d5); (try clear e0 e1 e2 e3 e4 e5); (try clear f0 f1 f2 f3 f4 f5)
        obtain ⟨g11, rfl, rfl, Qa, Qd, Qe, Qf, Qm, hB0⟩ := hcut
        have la0 := Box.lt Qa
        obtain ⟨a0, a1, a2, a3, a4, a5⟩ := Qa
        have ld0 := Box.lt Qd
        obtain ⟨d0, d1, d2, d3, d4, d5⟩ := Qd
        have le0 := Box.lt Qe
        obtain ⟨e0, e1, e2, e3, e4, e5⟩ := Qe
        have lf0 := Box.lt Qf
        obtain ⟨f0, f1, f2, f3, f4, f5⟩ := Qf
        have lm0 := Box.lt Qm
        obtain ⟨m0, m1, m2, m3, m4, m5⟩ := Qm
        go_upto_region 6 with (fail)
        go_cut [13, 14] (fun v1 v2 wd => ∃ g13 : Nat, v1 = .pointer (some ⟨g13, 0, none⟩) ∧ v2 = .bool z5 ∧ Box wd (w.heap.size) (a) ∧ Box wd (w.heap.size + 1) (b) ∧ Box wd (g7) (s5) ∧ Box wd (g9) (s5) ∧ Box wd (g11) (s6) ∧ Box wd (g13) (s6) ∧ Below w.heap.size w wd)
        case first =>
          go_wp2_with (first | (go_at_call 27; (with_reducible refine (ref_mod a b x y hx hy ox.out oy.out s6 z5 h6 k6 _).mono ?_); rintro e w' ⟨rfl, hB⟩; have Qa := Box.keep (g := w.heap.size) (x := a) hB ⟨by go_simp, by go_simp, by go_simp, by go_simp, by go_simp, by go_simp⟩; have Qd := Box.keep (g := w.heap.size + 1) (x := b) hB ⟨by go_simp, by go_simp, by go_simp, by go_simp, by go_simp, by go_simp⟩; have Qe := Box.keep (g := g7) (x := s5) hB ⟨by go_simp, by go_simp, by go_simp, by go_simp, by go_simp, by go_simp⟩; have Qf := Box.keep (g := g9) (x := s5) hB ⟨by go_simp, by go_simp, by go_simp, by go_simp, by go_simp, by go_simp⟩; have Qm := Box.keep (g := g11) (x := s6) hB ⟨by go_simp, by go_simp, by go_simp, by go_simp, by go_simp, by go_simp⟩; replace hB0 := below_call (w := w) (by first | (with_reducible assumption) | ((try go_grown); (all_goals (repeat' (first | (with_reducible assumption) | (refine below_call ?_ (by assumption); (try go_grown))))); all_goals (first | omega | (simp; omega)))) hB; clear hB; (try clear a0 a1 a2 a3 a4 a5); (try clear d0 d1 d2 d3 d4 d5); (try clear e0 e1 e2 e3 e4 e5); (try clear f0 f1 f2 f3 f4 f5); (try clear m0 m1 m2 m3 m4 m5); have la0 := Box.lt Qa; have la1 := Nat.lt_succ_of_lt la0; have la2 := Nat.lt_succ_of_lt la1; obtain ⟨a0, a1, a2, a3, a4, a5⟩ := Qa; have ld0 := Box.lt Qd; have ld1 := Nat.lt_succ_of_lt ld0; have ld2 := Nat.lt_succ_of_lt ld1; obtain ⟨d0, d1, d2, d3, d4, d5⟩ := Qd; have le0 := Box.lt Qe; have le1 := Nat.lt_succ_of_lt le0; have le2 := Nat.lt_succ_of_lt le1; obtain ⟨e0, e1, e2, e3, e4, e5⟩ := Qe; have lf0 := Box.lt Qf; have lf1 := Nat.lt_succ_of_lt lf0; have lf2 := Nat.lt_succ_of_lt lf1; obtain ⟨f0, f1, f2, f3, f4, f5⟩ := Qf; have lm0 := Box.lt Qm; have lm1 := Nat.lt_succ_of_lt lm0; have lm2 := Nat.lt_succ_of_lt lm1; obtain ⟨m0, m1, m2, m3, m4, m5⟩ := Qm))
          go_meet
          case rel => exact ⟨_, rfl, rfl, ⟨by go_simp, by go_simp, by go_simp, by go_simp, by go_simp, by go_simp⟩, ⟨by go_simp, by go_simp, by go_simp, by go_simp, by go_simp, by go_simp⟩, ⟨by go_simp, by go_simp, by go_simp, by go_simp, by go_simp, by go_simp⟩, ⟨by go_simp, by go_simp, by go_simp, by go_simp, by go_simp, by go_simp⟩, ⟨by go_simp, by go_simp, by go_simp, by go_simp, by go_simp, by go_simp⟩, ⟨by go_simp, by go_simp, by go_simp, by go_simp, by go_simp, by go_simp⟩, by first | (with_reducible assumption) | ((try go_grown); (all_goals (repeat' (first | (with_reducible assumption) | (refine below_call ?_ (by assumption); (try go_grown))))); all_goals (first | omega | (simp; omega)))⟩
        case rest =>
          (try clear hB0); (try clear a0 a1 a2 a3 a4 a5); (try clear d0 d1 d2 d3 d4 d5); (try clear e0 e1 e2 e3 e4 e5); (try clear f0 f1 f2 f3 f4 f5); (try clear m0 m1 m2 m3 m4 m5)
          obtain ⟨g13, rfl, rfl, Qa, Qd, Qe, Qf, Qm, Qn, hB0⟩ := hcut
          have la0 := Box.lt Qa
          obtain ⟨a0, a1, a2, a3, a4, a5⟩ := Qa
          have ld0 := Box.lt Qd
          obtain ⟨d0, d1, d2, d3, d4, d5⟩ := Qd
          have le0 := Box.lt Qe
          obtain ⟨e0, e1, e2, e3, e4, e5⟩ := Qe
          have lf0 := Box.lt Qf
          obtain ⟨f0, f1, f2, f3, f4, f5⟩ := Qf
          have lm0 := Box.lt Qm
          obtain ⟨m0, m1, m2, m3, m4, m5⟩ := Qm
          have ln0 := Box.lt Qn
          obtain ⟨n0, n1, n2, n3, n4, n5⟩ := Qn
          go_upto_region 7 with (fail)
          go_cut [15, 16] (fun v1 v2 wd => ∃ g15 g16 : Nat, v1 = .pointer (some ⟨g15, 0, none⟩) ∧ v2 = .pointer (some ⟨g16, 0, none⟩) ∧ Box wd (w.heap.size) (a) ∧ Box wd (w.heap.size + 1) (b) ∧ Box wd (g7) (s5) ∧ Box wd (g9) (s5) ∧ Box wd (g11) (s6) ∧ Box wd (g13) (s6) ∧ Box wd (g15) (p) ∧ Box wd (g16) (q) ∧ Below w.heap.size w wd)
          case first =>
            go_wp2_with (first | (go_at_call 12; (with_reducible refine (less_any k a b ra rb (p, q) hP.out _).mono ?_); rintro e w' ⟨rfl, hB⟩; have Qa := Box.keep (g := w.heap.size) (x := a) hB ⟨by go_simp, by go_simp, by go_simp, by go_simp, by go_simp, by go_simp⟩; have Qd := Box.keep (g := w.heap.size + 1) (x := b) hB ⟨by go_simp, by go_simp, by go_simp, by go_simp, by go_simp, by go_simp⟩; have Qe := Box.keep (g := g7) (x := s5) hB ⟨by go_simp, by go_simp, by go_simp, by go_simp, by go_simp, by go_simp⟩; have Qf := Box.keep (g := g9) (x := s5) hB ⟨by go_simp, by go_simp, by go_simp, by go_simp, by go_simp, by go_simp⟩; have Qm := Box.keep (g := g11) (x := s6) hB ⟨by go_simp, by go_simp, by go_simp, by go_simp, by go_simp, by go_simp⟩; have Qn := Box.keep (g := g13) (x := s6) hB ⟨by go_simp, by go_simp, by go_simp, by go_simp, by go_simp, by go_simp⟩; replace hB0 := below_call (w := w) (by first | (with_reducible assumption) | ((try go_grown); (all_goals (repeat' (first | (with_reducible assumption) | (refine below_call ?_ (by assumption); (try go_grown))))); all_goals (first | omega | (simp; omega)))) hB; clear hB; (try clear a0 a1 a2 a3 a4 a5); (try clear d0 d1 d2 d3 d4 d5); (try clear e0 e1 e2 e3 e4 e5); (try clear f0 f1 f2 f3 f4 f5); (try clear m0 m1 m2 m3 m4 m5); (try clear n0 n1 n2 n3 n4 n5); have la0 := Box.lt Qa; have la1 := Nat.lt_succ_of_lt la0; have la2 := Nat.lt_succ_of_lt la1; obtain ⟨a0, a1, a2, a3, a4, a5⟩ := Qa; have ld0 := Box.lt Qd; have ld1 := Nat.lt_succ_of_lt ld0; have ld2 := Nat.lt_succ_of_lt ld1; obtain ⟨d0, d1, d2, d3, d4, d5⟩ := Qd; have le0 := Box.lt Qe; have le1 := Nat.lt_succ_of_lt le0; have le2 := Nat.lt_succ_of_lt le1; obtain ⟨e0, e1, e2, e3, e4, e5⟩ := Qe; have lf0 := Box.lt Qf; have lf1 := Nat.lt_succ_of_lt lf0; have lf2 := Nat.lt_succ_of_lt lf1; obtain ⟨f0, f1, f2, f3, f4, f5⟩ := Qf; have lm0 := Box.lt Qm; have lm1 := Nat.lt_succ_of_lt lm0; have lm2 := Nat.lt_succ_of_lt lm1; obtain ⟨m0, m1, m2, m3, m4, m5⟩ := Qm; have ln0 := Box.lt Qn; have ln1 := Nat.lt_succ_of_lt ln0; have ln2 := Nat.lt_succ_of_lt ln1; obtain ⟨n0, n1, n2, n3, n4, n5⟩ := Qn))
            go_meet
            case rel => exact ⟨_, _, rfl, rfl, ⟨by go_simp, by go_simp, by go_simp, by go_simp, by go_simp, by go_simp⟩, ⟨by go_simp, by go_simp, by go_simp, by go_simp, by go_simp, by go_simp⟩, ⟨by go_simp, by go_simp, by go_simp, by go_simp, by go_simp, by go_simp⟩, ⟨by go_simp, by go_simp, by go_simp, by go_simp, by go_simp, by go_simp⟩, ⟨by go_simp, by go_simp, by go_simp, by go_simp, by go_simp, by go_simp⟩, ⟨by go_simp, by go_simp, by go_simp, by go_simp, by go_simp, by go_simp⟩, ⟨by go_simp, by go_simp, by go_simp, by go_simp, by go_simp, by go_simp⟩, ⟨by go_simp, by go_simp, by go_simp, by go_simp, by go_simp, by go_simp⟩, by first | (with_reducible assumption) | ((try go_grown); (all_goals (repeat' (first | (with_reducible assumption) | (refine below_call ?_ (by assumption); (try go_grown))))); all_goals (first | omega | (simp; omega)))⟩
          case rest =>
            (try clear hB0); (try clear a0 a1 a2 a3 a4 a5); (try clear d0 d1 d2 d3 d4 d5); (try clear e0 e1 e2 e3 e4 e5); (try clear f0 f1 f2 f3 f4 f5); (try clear m0 m1 m2 m3 m4 m5); (try clear n0 n1 n2 n3 n4 n5)
            obtain ⟨g15, g16, rfl, rfl, Qa, Qd, Qe, Qf, Qm, Qn, Qi, Qj, hB0⟩ := hcut
            have la0 := Box.lt Qa
            obtain ⟨a0, a1, a2, a3, a4, a5⟩ := Qa
            have ld0 := Box.lt Qd
            obtain ⟨d0, d1, d2, d3, d4, d5⟩ := Qd
            have le0 := Box.lt Qe
            obtain ⟨e0, e1, e2, e3, e4, e5⟩ := Qe
            have lf0 := Box.lt Qf
            obtain ⟨f0, f1, f2, f3, f4, f5⟩ := Qf
            have lm0 := Box.lt Qm
            obtain ⟨m0, m1, m2, m3, m4, m5⟩ := Qm
            have ln0 := Box.lt Qn
            obtain ⟨n0, n1, n2, n3, n4, n5⟩ := Qn
            have li0 := Box.lt Qi
            obtain ⟨i0, i1, i2, i3, i4, i5⟩ := Qi
            have lj0 := Box.lt Qj
            obtain ⟨j0, j1, j2, j3, j4, j5⟩ := Qj
            go_upto_region 8 with (fail)
            go_cut [17, 18] (fun v1 v2 wd => ∃ g17 g18 : Nat, v1 = .pointer (some ⟨g17, 0, none⟩) ∧ v2 = .pointer (some ⟨g18, 0, none⟩) ∧ Box wd (w.heap.size) (a) ∧ Box wd (w.heap.size + 1) (b) ∧ Box wd (g7) (s5) ∧ Box wd (g9) (s5) ∧ Box wd (g11) (s6) ∧ Box wd (g13) (s6) ∧ Box wd (g15) (p) ∧ Box wd (g16) (q) ∧ Box wd (g17) (p) ∧ Box wd (g18) (q) ∧ Below w.heap.size w wd)
            case first =>
              go_wp2_with (first | (go_at_call 28; (with_reducible refine (rless_any k a b ra rb (p, q) hR.out _).mono ?_); rintro e w' ⟨rfl, hB⟩; have Qa := Box.keep (g := w.heap.size) (x := a) hB ⟨by go_simp, by go_simp, by go_simp, by go_simp, by go_simp, by go_simp⟩; have Qd := Box.keep (g := w.heap.size + 1) (x := b) hB ⟨by go_simp, by go_simp, by go_simp, by go_simp, by go_simp, by go_simp⟩; have Qe := Box.keep (g := g7) (x := s5) hB ⟨by go_simp, by go_simp, by go_simp, by go_simp, by go_simp, by go_simp⟩; have Qf := Box.keep (g := g9) (x := s5) hB ⟨by go_simp, by go_simp, by go_simp, by go_simp, by go_simp, by go_simp⟩; have Qm := Box.keep (g := g11) (x := s6) hB ⟨by go_simp, by go_simp, by go_simp, by go_simp, by go_simp, by go_simp⟩; have Qn := Box.keep (g := g13) (x := s6) hB ⟨by go_simp, by go_simp, by go_simp, by go_simp, by go_simp, by go_simp⟩; have Qi := Box.keep (g := g15) (x := p) hB ⟨by go_simp, by go_simp, by go_simp, by go_simp, by go_simp, by go_simp⟩; have Qj := Box.keep (g := g16) (x := q) hB ⟨by go_simp, by go_simp, by go_simp, by go_simp, by go_simp, by go_simp⟩; replace hB0 := below_call (w := w) (by first | (with_reducible assumption) | ((try go_grown); (all_goals (repeat' (first | (with_reducible assumption) | (refine below_call ?_ (by assumption); (try go_grown))))); all_goals (first | omega | (simp; omega)))) hB; clear hB; (try clear a0 a1 a2 a3 a4 a5); (try clear d0 d1 d2 d3 d4 d5); (try clear e0 e1 e2 e3 e4 e5); (try clear f0 f1 f2 f3 f4 f5); (try clear m0 m1 m2 m3 m4 m5); (try clear n0 n1 n2 n3 n4 n5); (try clear i0 i1 i2 i3 i4 i5); (try clear j0 j1 j2 j3 j4 j5); have la0 := Box.lt Qa; have la1 := Nat.lt_succ_of_lt la0; have la2 := Nat.lt_succ_of_lt la1; obtain ⟨a0, a1, a2, a3, a4, a5⟩ := Qa; have ld0 := Box.lt Qd; have ld1 := Nat.lt_succ_of_lt ld0; have ld2 := Nat.lt_succ_of_lt ld1; obtain ⟨d0, d1, d2, d3, d4, d5⟩ := Qd; have le0 := Box.lt Qe; have le1 := Nat.lt_succ_of_lt le0; have le2 := Nat.lt_succ_of_lt le1; obtain ⟨e0, e1, e2, e3, e4, e5⟩ := Qe; have lf0 := Box.lt Qf; have lf1 := Nat.lt_succ_of_lt lf0; have lf2 := Nat.lt_succ_of_lt lf1; obtain ⟨f0, f1, f2, f3, f4, f5⟩ := Qf; have lm0 := Box.lt Qm; have lm1 := Nat.lt_succ_of_lt lm0; have lm2 := Nat.lt_succ_of_lt lm1; obtain ⟨m0, m1, m2, m3, m4, m5⟩ := Qm; have ln0 := Box.lt Qn; have ln1 := Nat.lt_succ_of_lt ln0; have ln2 := Nat.lt_succ_of_lt ln1; obtain ⟨n0, n1, n2, n3, n4, n5⟩ := Qn; have li0 := Box.lt Qi; have li1 := Nat.lt_succ_of_lt li0; have li2 := Nat.lt_succ_of_lt li1; obtain ⟨i0, i1, i2, i3, i4, i5⟩ := Qi; have lj0 := Box.lt Qj; have lj1 := Nat.lt_succ_of_lt lj0; have lj2 := Nat.lt_succ_of_lt lj1; obtain ⟨j0, j1, j2, j3, j4, j5⟩ := Qj))
              go_meet
              case rel => exact ⟨_, _, rfl, rfl, ⟨by go_simp, by go_simp, by go_simp, by go_simp, by go_simp, by go_simp⟩, ⟨by go_simp, by go_simp, by go_simp, by go_simp, by go_simp, by go_simp⟩, ⟨by go_simp, by go_simp, by go_simp, by go_simp, by go_simp, by go_simp⟩, ⟨by go_simp, by go_simp, by go_simp, by go_simp, by go_simp, by go_simp⟩, ⟨by go_simp, by go_simp, by go_simp, by go_simp, by go_simp, by go_simp⟩, ⟨by go_simp, by go_simp, by go_simp, by go_simp, by go_simp, by go_simp⟩, ⟨by go_simp, by go_simp, by go_simp, by go_simp, by go_simp, by go_simp⟩, ⟨by go_simp, by go_simp, by go_simp, by go_simp, by go_simp, by go_simp⟩, ⟨by go_simp, by go_simp, by go_simp, by go_simp, by go_simp, by go_simp⟩, ⟨by go_simp, by go_simp, by go_simp, by go_simp, by go_simp, by go_simp⟩, by first | (with_reducible assumption) | ((try go_grown); (all_goals (repeat' (first | (with_reducible assumption) | (refine below_call ?_ (by assumption); (try go_grown))))); all_goals (first | omega | (simp; omega)))⟩
            case rest =>
              (try clear hB0); (try clear a0 a1 a2 a3 a4 a5); (try clear d0 d1 d2 d3 d4 d5); (try clear e0 e1 e2 e3 e4 e5); (try clear f0 f1 f2 f3 f4 f5); (try clear m0 m1 m2 m3 m4 m5); (try clear n0 n1 n2 n3 n4 n5); (try clear i0 i1 i2 i3 i4 i5); (try clear j0 j1 j2 j3 j4 j5)
              obtain ⟨g17, g18, rfl, rfl, Qa, Qd, Qe, Qf, Qm, Qn, Qi, Qj, Qt, Qv, hB0⟩ := hcut
              have la0 := Box.lt Qa
              obtain ⟨a0, a1, a2, a3, a4, a5⟩ := Qa
              have ld0 := Box.lt Qd
              obtain ⟨d0, d1, d2, d3, d4, d5⟩ := Qd
              have le0 := Box.lt Qe
              obtain ⟨e0, e1, e2, e3, e4, e5⟩ := Qe
              have lf0 := Box.lt Qf
              obtain ⟨f0, f1, f2, f3, f4, f5⟩ := Qf
              have lm0 := Box.lt Qm
              obtain ⟨m0, m1, m2, m3, m4, m5⟩ := Qm
              have ln0 := Box.lt Qn
              obtain ⟨n0, n1, n2, n3, n4, n5⟩ := Qn
              have li0 := Box.lt Qi
              obtain ⟨i0, i1, i2, i3, i4, i5⟩ := Qi
              have lj0 := Box.lt Qj
              obtain ⟨j0, j1, j2, j3, j4, j5⟩ := Qj
              have lt0 := Box.lt Qt
              obtain ⟨t0, t1, t2, t3, t4, t5⟩ := Qt
              have lv0 := Box.lt Qv
              obtain ⟨v0, v1, v2, v3, v4, v5⟩ := Qv
              go_wp2_with fail
              refine Calm.wp_calm (by kernel_rfl) _ ((Calm.isV (.agg #[.bool a.s, .int .i64 a.lo, .int .i64 a.hi])) :: (Calm.isV (.agg #[.bool b.s, .int .i64 b.lo, .int .i64 b.hi])) :: (Calm.isV (.agg #[.bool s1.s, .int .i64 s1.lo, .int .i64 s1.hi])) :: (Calm.isV (.agg #[.bool a.s, .int .i64 a.lo, .int .i64 a.hi])) :: (Calm.isV (.agg #[.bool b.s, .int .i64 b.lo, .int .i64 b.hi])) :: (Calm.isV (.agg #[.bool s1.s, .int .i64 s1.lo, .int .i64 s1.hi])) :: (Calm.isV (.bool true)) :: (Calm.isV (.bool true)) :: (Calm.isV (.agg #[.bool a.s, .int .i64 a.lo, .int .i64 a.hi])) :: (Calm.isV (.agg #[.bool b.s, .int .i64 b.lo, .int .i64 b.hi])) :: (Calm.isV (.agg #[.bool s2.s, .int .i64 s2.lo, .int .i64 s2.hi])) :: (Calm.isV (.agg #[.bool a.s, .int .i64 a.lo, .int .i64 a.hi])) :: (Calm.isV (.agg #[.bool b.s, .int .i64 b.lo, .int .i64 b.hi])) :: (Calm.isV (.agg #[.bool s2.s, .int .i64 s2.lo, .int .i64 s2.hi])) :: (Calm.isV (.bool true)) :: (Calm.isV (.bool true)) :: (Calm.isV (.bool true)) :: (Calm.isV (.agg #[.bool a.s, .int .i64 a.lo, .int .i64 a.hi])) :: (Calm.isV (.agg #[.bool b.s, .int .i64 b.lo, .int .i64 b.hi])) :: (Calm.isV (.agg #[.bool s3.s, .int .i64 s3.lo, .int .i64 s3.hi])) :: (Calm.isV (.agg #[.bool a.s, .int .i64 a.lo, .int .i64 a.hi])) :: (Calm.isV (.agg #[.bool b.s, .int .i64 b.lo, .int .i64 b.hi])) :: (Calm.isV (.agg #[.bool s3.s, .int .i64 s3.lo, .int .i64 s3.hi])) :: (Calm.isV (.bool true)) :: (Calm.isV (.bool true)) :: (Calm.isV (.bool true)) :: (Calm.isV (.agg #[.bool a.s, .int .i64 a.lo, .int .i64 a.hi])) :: (Calm.isV (.agg #[.bool s4.s, .int .i64 s4.lo, .int .i64 s4.hi])) :: (Calm.isV (.agg #[.bool true, .int .i64 0, .int .i64 0])) :: (Calm.isV (.agg #[.bool a.s, .int .i64 a.lo, .int .i64 a.hi])) :: (Calm.isV (.agg #[.bool s4.s, .int .i64 s4.lo, .int .i64 s4.hi])) :: (Calm.isV (.bool true)) :: (Calm.isV (.bool true)) :: (Calm.isV (.bool true)) :: (Calm.isV (.agg #[.bool s5.s, .int .i64 s5.lo, .int .i64 s5.hi])) :: (Calm.isV (.agg #[.bool s5.s, .int .i64 s5.lo, .int .i64 s5.hi])) :: (Calm.isV (.bool true)) :: (Calm.isV (.bool true)) :: (Calm.isV (.bool true)) :: (Calm.isV (.bool z5)) :: (Calm.isV (.bool z5)) :: (Calm.isV (.bool true)) :: (Calm.isV (.bool true)) :: (Calm.isV (.bool true)) :: (Calm.isV (.agg #[.bool s6.s, .int .i64 s6.lo, .int .i64 s6.hi])) :: (Calm.isV (.agg #[.bool s6.s, .int .i64 s6.lo, .int .i64 s6.hi])) :: (Calm.isV (.bool true)) :: (Calm.isV (.bool true)) :: (Calm.isV (.bool true)) :: (Calm.isV (.bool z5)) :: (Calm.isV (.bool z5)) :: (Calm.isV (.bool true)) :: (Calm.isV (.bool true)) :: (Calm.isV (.bool true)) :: (Calm.isV (.agg #[.bool p.s, .int .i64 p.lo, .int .i64 p.hi])) :: (Calm.isV (.agg #[.bool p.s, .int .i64 p.lo, .int .i64 p.hi])) :: (Calm.isV (.bool true)) :: (Calm.isV (.bool true)) :: (Calm.isV (.bool true)) :: (Calm.isV (.agg #[.bool q.s, .int .i64 q.lo, .int .i64 q.hi])) :: (Calm.isV (.agg #[.bool q.s, .int .i64 q.lo, .int .i64 q.hi])) :: (Calm.isV (.bool true)) :: (Calm.isV (.bool true)) :: (Calm.isV (.bool true)) :: []) ?hL (by kernel_rfl) (by kernel_rfl) (Below.refl _ _) ?step ?fin
              case hL => repeat' (first | exact List.forall_mem_nil _ | refine List.forall_mem_cons.2 ⟨by first | exact Calm.stable_is _ | exact Calm.stable_row _ _ | exact Calm.stable_any | exact Calm.stable_var _ _ | exact Calm.stable_if _ _, ?_⟩)
              case step =>
                refine Calm.Steps.cons (Calm.step_plain rfl ?_) ?_
                · intro a_ w1 hS hsz hold hdep K hK
                  have h3 : a_.tmps[3]? = some (.pointer (some ⟨w.heap.size, 0, none⟩)) := (hold 3 (by kernel_rfl)).trans rfl
                  have e3 := Calm.at_getD h3
                  clear hsz hold hdep
                  have hcl := fun (b o : Nat) (h : b < _) => Below.cell hS (p := ⟨b, o, none⟩) h
                  go_simp
                  exact hK _ _ (Below.refl _ _) rfl
                refine Calm.Steps.cons (Calm.step_plain rfl ?_) ?_
                · intro a_ w1 hS hsz hold hdep K hK
                  have h4 : a_.tmps[4]? = some (.pointer (some ⟨w.heap.size + 1, 0, none⟩)) := (hold 4 (by kernel_rfl)).trans rfl
                  have e4 := Calm.at_getD h4
                  clear hsz hold hdep
                  have hcl := fun (b o : Nat) (h : b < _) => Below.cell hS (p := ⟨b, o, none⟩) h
                  go_simp
                  exact hK _ _ (Below.refl _ _) rfl
                refine Calm.Steps.cons (Calm.step_plain rfl ?_) ?_
                · intro a_ w1 hS hsz hold hdep K hK
                  have h59 := Calm.is_at (x := .agg #[.bool a.s, .int .i64 a.lo, .int .i64 a.hi]) hdep (k := 0) (by kernel_rfl) rfl rfl (fun _ _ h => h)
                  have e59 := Calm.at_getD h59
                  have h60 := Calm.is_at (x := .agg #[.bool b.s, .int .i64 b.lo, .int .i64 b.hi]) hdep (k := 1) (by kernel_rfl) rfl rfl (fun _ _ h => h)
                  have e60 := Calm.at_getD h60
                  clear hsz hold hdep
                  go_simp
                  refine (arith_add' a b x y hx hy s1 h1 _).mono ?_; rintro e w' ⟨rfl, hB⟩
                  exact hK _ _ hB rfl
                refine Calm.Steps.cons (Calm.step_plain rfl ?_) ?_
                · intro a_ w1 hS hsz hold hdep K hK
                  have h3 : a_.tmps[3]? = some (.pointer (some ⟨w.heap.size, 0, none⟩)) := (hold 3 (by kernel_rfl)).trans rfl
                  have e3 := Calm.at_getD h3
                  clear hsz hold hdep
                  have hcl := fun (b o : Nat) (h : b < _) => Below.cell hS (p := ⟨b, o, none⟩) h
                  go_simp
                  exact hK _ _ (Below.refl _ _) rfl
                refine Calm.Steps.cons (Calm.step_plain rfl ?_) ?_
                · intro a_ w1 hS hsz hold hdep K hK
                  have h4 : a_.tmps[4]? = some (.pointer (some ⟨w.heap.size + 1, 0, none⟩)) := (hold 4 (by kernel_rfl)).trans rfl
                  have e4 := Calm.at_getD h4
                  clear hsz hold hdep
                  have hcl := fun (b o : Nat) (h : b < _) => Below.cell hS (p := ⟨b, o, none⟩) h
                  go_simp
                  exact hK _ _ (Below.refl _ _) rfl
                refine Calm.Steps.cons (Calm.step_plain rfl ?_) ?_
                · intro a_ w1 hS hsz hold hdep K hK
                  have h62 := Calm.is_at (x := .agg #[.bool a.s, .int .i64 a.lo, .int .i64 a.hi]) hdep (k := 3) (by kernel_rfl) rfl rfl (fun _ _ h => h)
                  have e62 := Calm.at_getD h62
                  have h63 := Calm.is_at (x := .agg #[.bool b.s, .int .i64 b.lo, .int .i64 b.hi]) hdep (k := 4) (by kernel_rfl) rfl rfl (fun _ _ h => h)
                  have e63 := Calm.at_getD h63
                  clear hsz hold hdep
                  go_simp
                  refine (rarith_add a b x y hx hy ox.out oy.out s1 h1 _).mono ?_; rintro e w' ⟨rfl, hB⟩
                  exact hK _ _ hB rfl
                refine Calm.Steps.cons (Calm.step_plain rfl ?_) ?_
                · intro a_ w1 hS hsz hold hdep K hK
                  have h61 := Calm.is_at (x := .agg #[.bool s1.s, .int .i64 s1.lo, .int .i64 s1.hi]) hdep (k := 2) (by kernel_rfl) rfl rfl (fun _ _ h => h)
                  have e61 := Calm.at_getD h61
                  have h64 := Calm.is_at (x := .agg #[.bool s1.s, .int .i64 s1.lo, .int .i64 s1.hi]) hdep (k := 5) (by kernel_rfl) rfl rfl (fun _ _ h => h)
                  have e64 := Calm.at_getD h64
                  clear hsz hold hdep
                  have hcl := fun (b o : Nat) (h : b < _) => Below.cell hS (p := ⟨b, o, none⟩) h
                  go_simp
                  exact hK _ _ (Below.refl _ _) rfl
                refine Calm.Steps.cons (Calm.step_plain rfl ?_) ?_
                · intro a_ w1 hS hsz hold hdep K hK
                  have h65 := Calm.is_at (x := .bool true) hdep (k := 6) (by kernel_rfl) rfl rfl (fun _ _ h => h)
                  have e65 := Calm.at_getD h65
                  clear hsz hold hdep
                  have hcl := fun (b o : Nat) (h : b < _) => Below.cell hS (p := ⟨b, o, none⟩) h
                  go_simp
                  exact hK _ _ (Below.refl _ _) rfl
                refine Calm.Steps.cons (Calm.step_wanted (b := true) rfl rfl rfl (by kernel_rfl) (fun _ _ h => h) ?_) ?_
                · intro a_ w1 hS hsz hold hdep K hK
                  have h3 : a_.tmps[3]? = some (.pointer (some ⟨w.heap.size, 0, none⟩)) := (hold 3 (by kernel_rfl)).trans rfl
                  have e3 := Calm.at_getD h3
                  clear hsz hold hdep
                  have hcl := fun (b o : Nat) (h : b < _) => Below.cell hS (p := ⟨b, o, none⟩) h
                  go_simp
                  exact hK _ _ (Below.refl _ _) rfl
                refine Calm.Steps.cons (Calm.step_wanted (b := true) rfl rfl rfl (by kernel_rfl) (fun _ _ h => h) ?_) ?_
                · intro a_ w1 hS hsz hold hdep K hK
                  have h4 : a_.tmps[4]? = some (.pointer (some ⟨w.heap.size + 1, 0, none⟩)) := (hold 4 (by kernel_rfl)).trans rfl
                  have e4 := Calm.at_getD h4
                  clear hsz hold hdep
                  have hcl := fun (b o : Nat) (h : b < _) => Below.cell hS (p := ⟨b, o, none⟩) h
                  go_simp
                  exact hK _ _ (Below.refl _ _) rfl
                refine Calm.Steps.cons (Calm.step_wanted (b := true) rfl rfl rfl (by kernel_rfl) (fun _ _ h => h) ?_) ?_
                · intro a_ w1 hS hsz hold hdep K hK
                  have h67 := Calm.is_at (x := .agg #[.bool a.s, .int .i64 a.lo, .int .i64 a.hi]) hdep (k := 8) (by kernel_rfl) rfl rfl (fun _ _ h => h)
                  have e67 := Calm.at_getD h67
                  have h68 := Calm.is_at (x := .agg #[.bool b.s, .int .i64 b.lo, .int .i64 b.hi]) hdep (k := 9) (by kernel_rfl) rfl rfl (fun _ _ h => h)
                  have e68 := Calm.at_getD h68
                  clear hsz hold hdep
                  go_simp
                  refine (arith_sub' a b x y hx hy s2 h2 _).mono ?_; rintro e w' ⟨rfl, hB⟩
                  exact hK _ _ hB rfl
                refine Calm.Steps.cons (Calm.step_wanted (b := true) rfl rfl rfl (by kernel_rfl) (fun _ _ h => h) ?_) ?_
                · intro a_ w1 hS hsz hold hdep K hK
                  have h3 : a_.tmps[3]? = some (.pointer (some ⟨w.heap.size, 0, none⟩)) := (hold 3 (by kernel_rfl)).trans rfl
                  have e3 := Calm.at_getD h3
                  clear hsz hold hdep
                  have hcl := fun (b o : Nat) (h : b < _) => Below.cell hS (p := ⟨b, o, none⟩) h
                  go_simp
                  exact hK _ _ (Below.refl _ _) rfl
                refine Calm.Steps.cons (Calm.step_wanted (b := true) rfl rfl rfl (by kernel_rfl) (fun _ _ h => h) ?_) ?_
                · intro a_ w1 hS hsz hold hdep K hK
                  have h4 : a_.tmps[4]? = some (.pointer (some ⟨w.heap.size + 1, 0, none⟩)) := (hold 4 (by kernel_rfl)).trans rfl
                  have e4 := Calm.at_getD h4
                  clear hsz hold hdep
                  have hcl := fun (b o : Nat) (h : b < _) => Below.cell hS (p := ⟨b, o, none⟩) h
                  go_simp
                  exact hK _ _ (Below.refl _ _) rfl
                refine Calm.Steps.cons (Calm.step_wanted (b := true) rfl rfl rfl (by kernel_rfl) (fun _ _ h => h) ?_) ?_
                · intro a_ w1 hS hsz hold hdep K hK
                  have h70 := Calm.is_at (x := .agg #[.bool a.s, .int .i64 a.lo, .int .i64 a.hi]) hdep (k := 11) (by kernel_rfl) rfl rfl (fun _ _ h => h)
                  have e70 := Calm.at_getD h70
                  have h71 := Calm.is_at (x := .agg #[.bool b.s, .int .i64 b.lo, .int .i64 b.hi]) hdep (k := 12) (by kernel_rfl) rfl rfl (fun _ _ h => h)
                  have e71 := Calm.at_getD h71
                  clear hsz hold hdep
                  go_simp
                  refine (rarith_sub a b x y hx hy ox.out oy.out s2 h2 _).mono ?_; rintro e w' ⟨rfl, hB⟩
                  exact hK _ _ hB rfl
                refine Calm.Steps.cons (Calm.step_wanted (b := true) rfl rfl rfl (by kernel_rfl) (fun _ _ h => h) ?_) ?_
                · intro a_ w1 hS hsz hold hdep K hK
                  have h69 := Calm.is_at (x := .agg #[.bool s2.s, .int .i64 s2.lo, .int .i64 s2.hi]) hdep (k := 10) (by kernel_rfl) rfl rfl (fun _ _ h => h)
                  have e69 := Calm.at_getD h69
                  have h72 := Calm.is_at (x := .agg #[.bool s2.s, .int .i64 s2.lo, .int .i64 s2.hi]) hdep (k := 13) (by kernel_rfl) rfl rfl (fun _ _ h => h)
                  have e72 := Calm.at_getD h72
                  clear hsz hold hdep
                  have hcl := fun (b o : Nat) (h : b < _) => Below.cell hS (p := ⟨b, o, none⟩) h
                  go_simp
                  exact hK _ _ (Below.refl _ _) rfl
                refine Calm.Steps.cons (Calm.step_plain rfl ?_) ?_
                · intro a_ w1 hS hsz hold hdep K hK
                  have h66 := Calm.is_at (x := .bool true) hdep (k := 7) (by kernel_rfl) rfl rfl (fun _ _ h => h)
                  have e66 := Calm.at_getD h66
                  have h73 := Calm.is_at (x := .bool true) hdep (k := 14) (by kernel_rfl) rfl rfl (fun _ _ h => h)
                  have e73 := Calm.at_getD h73
                  clear hsz hold hdep
                  have hcl := fun (b o : Nat) (h : b < _) => Below.cell hS (p := ⟨b, o, none⟩) h
                  go_simp
                  exact hK _ _ (Below.refl _ _) rfl
                refine Calm.Steps.cons (Calm.step_plain rfl ?_) ?_
                · intro a_ w1 hS hsz hold hdep K hK
                  have h74 := Calm.is_at (x := .bool true) hdep (k := 15) (by kernel_rfl) rfl rfl (fun _ _ h => h)
                  have e74 := Calm.at_getD h74
                  clear hsz hold hdep
                  have hcl := fun (b o : Nat) (h : b < _) => Below.cell hS (p := ⟨b, o, none⟩) h
                  go_simp
                  exact hK _ _ (Below.refl _ _) rfl
                refine Calm.Steps.cons (Calm.step_wanted (b := true) rfl rfl rfl (by kernel_rfl) (fun _ _ h => h) ?_) ?_
                · intro a_ w1 hS hsz hold hdep K hK
                  have h3 : a_.tmps[3]? = some (.pointer (some ⟨w.heap.size, 0, none⟩)) := (hold 3 (by kernel_rfl)).trans rfl
                  have e3 := Calm.at_getD h3
                  clear hsz hold hdep
                  have hcl := fun (b o : Nat) (h : b < _) => Below.cell hS (p := ⟨b, o, none⟩) h
                  go_simp
                  exact hK _ _ (Below.refl _ _) rfl
                refine Calm.Steps.cons (Calm.step_wanted (b := true) rfl rfl rfl (by kernel_rfl) (fun _ _ h => h) ?_) ?_
                · intro a_ w1 hS hsz hold hdep K hK
                  have h4 : a_.tmps[4]? = some (.pointer (some ⟨w.heap.size + 1, 0, none⟩)) := (hold 4 (by kernel_rfl)).trans rfl
                  have e4 := Calm.at_getD h4
                  clear hsz hold hdep
                  have hcl := fun (b o : Nat) (h : b < _) => Below.cell hS (p := ⟨b, o, none⟩) h
                  go_simp
                  exact hK _ _ (Below.refl _ _) rfl
                refine Calm.Steps.cons (Calm.step_wanted (b := true) rfl rfl rfl (by kernel_rfl) (fun _ _ h => h) ?_) ?_
                · intro a_ w1 hS hsz hold hdep K hK
                  have h76 := Calm.is_at (x := .agg #[.bool a.s, .int .i64 a.lo, .int .i64 a.hi]) hdep (k := 17) (by kernel_rfl) rfl rfl (fun _ _ h => h)
                  have e76 := Calm.at_getD h76
                  have h77 := Calm.is_at (x := .agg #[.bool b.s, .int .i64 b.lo, .int .i64 b.hi]) hdep (k := 18) (by kernel_rfl) rfl rfl (fun _ _ h => h)
                  have e77 := Calm.at_getD h77
                  clear hsz hold hdep
                  go_simp
                  refine (arith_mul a b x y hx hy ox.out oy.out s3 h3 _).mono ?_; rintro e w' ⟨rfl, hB⟩
                  exact hK _ _ hB rfl
                refine Calm.Steps.cons (Calm.step_wanted (b := true) rfl rfl rfl (by kernel_rfl) (fun _ _ h => h) ?_) ?_
                · intro a_ w1 hS hsz hold hdep K hK
                  have h3 : a_.tmps[3]? = some (.pointer (some ⟨w.heap.size, 0, none⟩)) := (hold 3 (by kernel_rfl)).trans rfl
                  have e3 := Calm.at_getD h3
                  clear hsz hold hdep
                  have hcl := fun (b o : Nat) (h : b < _) => Below.cell hS (p := ⟨b, o, none⟩) h
                  go_simp
                  exact hK _ _ (Below.refl _ _) rfl
                refine Calm.Steps.cons (Calm.step_wanted (b := true) rfl rfl rfl (by kernel_rfl) (fun _ _ h => h) ?_) ?_
                · intro a_ w1 hS hsz hold hdep K hK
                  have h4 : a_.tmps[4]? = some (.pointer (some ⟨w.heap.size + 1, 0, none⟩)) := (hold 4 (by kernel_rfl)).trans rfl
                  have e4 := Calm.at_getD h4
                  clear hsz hold hdep
                  have hcl := fun (b o : Nat) (h : b < _) => Below.cell hS (p := ⟨b, o, none⟩) h
                  go_simp
                  exact hK _ _ (Below.refl _ _) rfl
                refine Calm.Steps.cons (Calm.step_wanted (b := true) rfl rfl rfl (by kernel_rfl) (fun _ _ h => h) ?_) ?_
                · intro a_ w1 hS hsz hold hdep K hK
                  have h79 := Calm.is_at (x := .agg #[.bool a.s, .int .i64 a.lo, .int .i64 a.hi]) hdep (k := 20) (by kernel_rfl) rfl rfl (fun _ _ h => h)
                  have e79 := Calm.at_getD h79
                  have h80 := Calm.is_at (x := .agg #[.bool b.s, .int .i64 b.lo, .int .i64 b.hi]) hdep (k := 21) (by kernel_rfl) rfl rfl (fun _ _ h => h)
                  have e80 := Calm.at_getD h80
                  clear hsz hold hdep
                  go_simp
                  refine (rarith_mul a b x y hx hy ox.out oy.out s3 h3 _).mono ?_; rintro e w' ⟨rfl, hB⟩
                  exact hK _ _ hB rfl
                refine Calm.Steps.cons (Calm.step_wanted (b := true) rfl rfl rfl (by kernel_rfl) (fun _ _ h => h) ?_) ?_
                · intro a_ w1 hS hsz hold hdep K hK
                  have h78 := Calm.is_at (x := .agg #[.bool s3.s, .int .i64 s3.lo, .int .i64 s3.hi]) hdep (k := 19) (by kernel_rfl) rfl rfl (fun _ _ h => h)
                  have e78 := Calm.at_getD h78
                  have h81 := Calm.is_at (x := .agg #[.bool s3.s, .int .i64 s3.lo, .int .i64 s3.hi]) hdep (k := 22) (by kernel_rfl) rfl rfl (fun _ _ h => h)
                  have e81 := Calm.at_getD h81
                  clear hsz hold hdep
                  have hcl := fun (b o : Nat) (h : b < _) => Below.cell hS (p := ⟨b, o, none⟩) h
                  go_simp
                  exact hK _ _ (Below.refl _ _) rfl
                refine Calm.Steps.cons (Calm.step_plain rfl ?_) ?_
                · intro a_ w1 hS hsz hold hdep K hK
                  have h75 := Calm.is_at (x := .bool true) hdep (k := 16) (by kernel_rfl) rfl rfl (fun _ _ h => h)
                  have e75 := Calm.at_getD h75
                  have h82 := Calm.is_at (x := .bool true) hdep (k := 23) (by kernel_rfl) rfl rfl (fun _ _ h => h)
                  have e82 := Calm.at_getD h82
                  clear hsz hold hdep
                  have hcl := fun (b o : Nat) (h : b < _) => Below.cell hS (p := ⟨b, o, none⟩) h
                  go_simp
                  exact hK _ _ (Below.refl _ _) rfl
                refine Calm.Steps.cons (Calm.step_plain rfl ?_) ?_
                · intro a_ w1 hS hsz hold hdep K hK
                  have h83 := Calm.is_at (x := .bool true) hdep (k := 24) (by kernel_rfl) rfl rfl (fun _ _ h => h)
                  have e83 := Calm.at_getD h83
                  clear hsz hold hdep
                  have hcl := fun (b o : Nat) (h : b < _) => Below.cell hS (p := ⟨b, o, none⟩) h
                  go_simp
                  exact hK _ _ (Below.refl _ _) rfl
                refine Calm.Steps.cons (Calm.step_wanted (b := true) rfl rfl rfl (by kernel_rfl) (fun _ _ h => h) ?_) ?_
                · intro a_ w1 hS hsz hold hdep K hK
                  have h3 : a_.tmps[3]? = some (.pointer (some ⟨w.heap.size, 0, none⟩)) := (hold 3 (by kernel_rfl)).trans rfl
                  have e3 := Calm.at_getD h3
                  clear hsz hold hdep
                  have hcl := fun (b o : Nat) (h : b < _) => Below.cell hS (p := ⟨b, o, none⟩) h
                  go_simp
                  exact hK _ _ (Below.refl _ _) rfl
                refine Calm.Steps.cons (Calm.step_wanted (b := true) rfl rfl rfl (by kernel_rfl) (fun _ _ h => h) ?_) ?_
                · intro a_ w1 hS hsz hold hdep K hK
                  have h85 := Calm.is_at (x := .agg #[.bool a.s, .int .i64 a.lo, .int .i64 a.hi]) hdep (k := 26) (by kernel_rfl) rfl rfl (fun _ _ h => h)
                  have e85 := Calm.at_getD h85
                  clear hsz hold hdep
                  go_simp
                  refine (neg_any a s4 h4' _).mono ?_; rintro e w' ⟨rfl, hB⟩
                  exact hK _ _ hB rfl
                refine Calm.Steps.cons (Calm.step_wanted (b := true) rfl rfl rfl (by kernel_rfl) (fun _ _ h => h) ?_) ?_
                · intro a_ w1 hS hsz hold hdep K hK
                  clear hsz hold hdep
                  go_simp
                  refine (rof_any 0 0 ⟨true, 0, 0⟩ ho0 _).mono ?_; rintro e w' ⟨rfl, hB⟩
                  exact hK _ _ hB rfl
                refine Calm.Steps.cons (Calm.step_wanted (b := true) rfl rfl rfl (by kernel_rfl) (fun _ _ h => h) ?_) ?_
                · intro a_ w1 hS hsz hold hdep K hK
                  have h3 : a_.tmps[3]? = some (.pointer (some ⟨w.heap.size, 0, none⟩)) := (hold 3 (by kernel_rfl)).trans rfl
                  have e3 := Calm.at_getD h3
                  clear hsz hold hdep
                  have hcl := fun (b o : Nat) (h : b < _) => Below.cell hS (p := ⟨b, o, none⟩) h
                  go_simp
                  exact hK _ _ (Below.refl _ _) rfl
                refine Calm.Steps.cons (Calm.step_wanted (b := true) rfl rfl rfl (by kernel_rfl) (fun _ _ h => h) ?_) ?_
                · intro a_ w1 hS hsz hold hdep K hK
                  have h87 := Calm.is_at (x := .agg #[.bool true, .int .i64 0, .int .i64 0]) hdep (k := 28) (by kernel_rfl) rfl rfl (fun _ _ h => h)
                  have e87 := Calm.at_getD h87
                  have h88 := Calm.is_at (x := .agg #[.bool a.s, .int .i64 a.lo, .int .i64 a.hi]) hdep (k := 29) (by kernel_rfl) rfl rfl (fun _ _ h => h)
                  have e88 := Calm.at_getD h88
                  clear hsz hold hdep
                  go_simp
                  refine (rarith_sub ⟨true, 0, 0⟩ a ⟨true, 0, 0⟩ x hx0 hx ox0.out ox.out s4 h4 _).mono ?_; rintro e w' ⟨rfl, hB⟩
                  exact hK _ _ hB rfl
                refine Calm.Steps.cons (Calm.step_wanted (b := true) rfl rfl rfl (by kernel_rfl) (fun _ _ h => h) ?_) ?_
                · intro a_ w1 hS hsz hold hdep K hK
                  have h86 := Calm.is_at (x := .agg #[.bool s4.s, .int .i64 s4.lo, .int .i64 s4.hi]) hdep (k := 27) (by kernel_rfl) rfl rfl (fun _ _ h => h)
                  have e86 := Calm.at_getD h86
                  have h89 := Calm.is_at (x := .agg #[.bool s4.s, .int .i64 s4.lo, .int .i64 s4.hi]) hdep (k := 30) (by kernel_rfl) rfl rfl (fun _ _ h => h)
                  have e89 := Calm.at_getD h89
                  clear hsz hold hdep
                  have hcl := fun (b o : Nat) (h : b < _) => Below.cell hS (p := ⟨b, o, none⟩) h
                  go_simp
                  exact hK _ _ (Below.refl _ _) rfl
                refine Calm.Steps.cons (Calm.step_plain rfl ?_) ?_
                · intro a_ w1 hS hsz hold hdep K hK
                  have h84 := Calm.is_at (x := .bool true) hdep (k := 25) (by kernel_rfl) rfl rfl (fun _ _ h => h)
                  have e84 := Calm.at_getD h84
                  have h90 := Calm.is_at (x := .bool true) hdep (k := 31) (by kernel_rfl) rfl rfl (fun _ _ h => h)
                  have e90 := Calm.at_getD h90
                  clear hsz hold hdep
                  have hcl := fun (b o : Nat) (h : b < _) => Below.cell hS (p := ⟨b, o, none⟩) h
                  go_simp
                  exact hK _ _ (Below.refl _ _) rfl
                refine Calm.Steps.cons (Calm.step_plain rfl ?_) ?_
                · intro a_ w1 hS hsz hold hdep K hK
                  have h91 := Calm.is_at (x := .bool true) hdep (k := 32) (by kernel_rfl) rfl rfl (fun _ _ h => h)
                  have e91 := Calm.at_getD h91
                  clear hsz hold hdep
                  have hcl := fun (b o : Nat) (h : b < _) => Below.cell hS (p := ⟨b, o, none⟩) h
                  go_simp
                  exact hK _ _ (Below.refl _ _) rfl
                refine Calm.Steps.cons (Calm.step_wanted (b := true) rfl rfl rfl (by kernel_rfl) (fun _ _ h => h) ?_) ?_
                · intro a_ w1 hS hsz hold hdep K hK
                  have h7 : a_.tmps[7]? = some (.pointer (some ⟨g7, 0, none⟩)) := (hold 7 (by kernel_rfl)).trans rfl
                  have e7 := Calm.at_getD h7
                  clear hsz hold hdep
                  have hcl := fun (b o : Nat) (h : b < _) => Below.cell hS (p := ⟨b, o, none⟩) h
                  go_simp
                  exact hK _ _ (Below.refl _ _) rfl
                refine Calm.Steps.cons (Calm.step_wanted (b := true) rfl rfl rfl (by kernel_rfl) (fun _ _ h => h) ?_) ?_
                · intro a_ w1 hS hsz hold hdep K hK
                  have h9 : a_.tmps[9]? = some (.pointer (some ⟨g9, 0, none⟩)) := (hold 9 (by kernel_rfl)).trans rfl
                  have e9 := Calm.at_getD h9
                  clear hsz hold hdep
                  have hcl := fun (b o : Nat) (h : b < _) => Below.cell hS (p := ⟨b, o, none⟩) h
                  go_simp
                  exact hK _ _ (Below.refl _ _) rfl
                refine Calm.Steps.cons (Calm.step_wanted (b := true) rfl rfl rfl (by kernel_rfl) (fun _ _ h => h) ?_) ?_
                · intro a_ w1 hS hsz hold hdep K hK
                  have h93 := Calm.is_at (x := .agg #[.bool s5.s, .int .i64 s5.lo, .int .i64 s5.hi]) hdep (k := 34) (by kernel_rfl) rfl rfl (fun _ _ h => h)
                  have e93 := Calm.at_getD h93
                  have h94 := Calm.is_at (x := .agg #[.bool s5.s, .int .i64 s5.lo, .int .i64 s5.hi]) hdep (k := 35) (by kernel_rfl) rfl rfl (fun _ _ h => h)
                  have e94 := Calm.at_getD h94
                  clear hsz hold hdep
                  have hcl := fun (b o : Nat) (h : b < _) => Below.cell hS (p := ⟨b, o, none⟩) h
                  go_simp
                  exact hK _ _ (Below.refl _ _) rfl
                refine Calm.Steps.cons (Calm.step_plain rfl ?_) ?_
                · intro a_ w1 hS hsz hold hdep K hK
                  have h92 := Calm.is_at (x := .bool true) hdep (k := 33) (by kernel_rfl) rfl rfl (fun _ _ h => h)
                  have e92 := Calm.at_getD h92
                  have h95 := Calm.is_at (x := .bool true) hdep (k := 36) (by kernel_rfl) rfl rfl (fun _ _ h => h)
                  have e95 := Calm.at_getD h95
                  clear hsz hold hdep
                  have hcl := fun (b o : Nat) (h : b < _) => Below.cell hS (p := ⟨b, o, none⟩) h
                  go_simp
                  exact hK _ _ (Below.refl _ _) rfl
                refine Calm.Steps.cons (Calm.step_plain rfl ?_) ?_
                · intro a_ w1 hS hsz hold hdep K hK
                  have h96 := Calm.is_at (x := .bool true) hdep (k := 37) (by kernel_rfl) rfl rfl (fun _ _ h => h)
                  have e96 := Calm.at_getD h96
                  clear hsz hold hdep
                  have hcl := fun (b o : Nat) (h : b < _) => Below.cell hS (p := ⟨b, o, none⟩) h
                  go_simp
                  exact hK _ _ (Below.refl _ _) rfl
                refine Calm.Steps.cons (Calm.step_wanted (b := true) rfl rfl rfl (by kernel_rfl) (fun _ _ h => h) ?_) ?_
                · intro a_ w1 hS hsz hold hdep K hK
                  have h8 : a_.tmps[8]? = some (.bool z5) := (hold 8 (by kernel_rfl)).trans rfl
                  have e8 := Calm.at_getD h8
                  clear hsz hold hdep
                  have hcl := fun (b o : Nat) (h : b < _) => Below.cell hS (p := ⟨b, o, none⟩) h
                  go_simp
                  exact hK _ _ (Below.refl _ _) rfl
                refine Calm.Steps.cons (Calm.step_wanted (b := true) rfl rfl rfl (by kernel_rfl) (fun _ _ h => h) ?_) ?_
                · intro a_ w1 hS hsz hold hdep K hK
                  have h10 : a_.tmps[10]? = some (.bool z5) := (hold 10 (by kernel_rfl)).trans rfl
                  have e10 := Calm.at_getD h10
                  clear hsz hold hdep
                  have hcl := fun (b o : Nat) (h : b < _) => Below.cell hS (p := ⟨b, o, none⟩) h
                  go_simp
                  exact hK _ _ (Below.refl _ _) rfl
                refine Calm.Steps.cons (Calm.step_wanted (b := true) rfl rfl rfl (by kernel_rfl) (fun _ _ h => h) ?_) ?_
                · intro a_ w1 hS hsz hold hdep K hK
                  have h98 := Calm.is_at (x := .bool z5) hdep (k := 39) (by kernel_rfl) rfl rfl (fun _ _ h => h)
                  have e98 := Calm.at_getD h98
                  have h99 := Calm.is_at (x := .bool z5) hdep (k := 40) (by kernel_rfl) rfl rfl (fun _ _ h => h)
                  have e99 := Calm.at_getD h99
                  clear hsz hold hdep
                  have hcl := fun (b o : Nat) (h : b < _) => Below.cell hS (p := ⟨b, o, none⟩) h
                  go_simp
                  exact hK _ _ (Below.refl _ _) rfl
                refine Calm.Steps.cons (Calm.step_plain rfl ?_) ?_
                · intro a_ w1 hS hsz hold hdep K hK
                  have h97 := Calm.is_at (x := .bool true) hdep (k := 38) (by kernel_rfl) rfl rfl (fun _ _ h => h)
                  have e97 := Calm.at_getD h97
                  have h100 := Calm.is_at (x := .bool true) hdep (k := 41) (by kernel_rfl) rfl rfl (fun _ _ h => h)
                  have e100 := Calm.at_getD h100
                  clear hsz hold hdep
                  have hcl := fun (b o : Nat) (h : b < _) => Below.cell hS (p := ⟨b, o, none⟩) h
                  go_simp
                  exact hK _ _ (Below.refl _ _) rfl
                refine Calm.Steps.cons (Calm.step_plain rfl ?_) ?_
                · intro a_ w1 hS hsz hold hdep K hK
                  have h101 := Calm.is_at (x := .bool true) hdep (k := 42) (by kernel_rfl) rfl rfl (fun _ _ h => h)
                  have e101 := Calm.at_getD h101
                  clear hsz hold hdep
                  have hcl := fun (b o : Nat) (h : b < _) => Below.cell hS (p := ⟨b, o, none⟩) h
                  go_simp
                  exact hK _ _ (Below.refl _ _) rfl
                refine Calm.Steps.cons (Calm.step_wanted (b := true) rfl rfl rfl (by kernel_rfl) (fun _ _ h => h) ?_) ?_
                · intro a_ w1 hS hsz hold hdep K hK
                  have h11 : a_.tmps[11]? = some (.pointer (some ⟨g11, 0, none⟩)) := (hold 11 (by kernel_rfl)).trans rfl
                  have e11 := Calm.at_getD h11
                  clear hsz hold hdep
                  have hcl := fun (b o : Nat) (h : b < _) => Below.cell hS (p := ⟨b, o, none⟩) h
                  go_simp
                  exact hK _ _ (Below.refl _ _) rfl
                refine Calm.Steps.cons (Calm.step_wanted (b := true) rfl rfl rfl (by kernel_rfl) (fun _ _ h => h) ?_) ?_
                · intro a_ w1 hS hsz hold hdep K hK
                  have h13 : a_.tmps[13]? = some (.pointer (some ⟨g13, 0, none⟩)) := (hold 13 (by kernel_rfl)).trans rfl
                  have e13 := Calm.at_getD h13
                  clear hsz hold hdep
                  have hcl := fun (b o : Nat) (h : b < _) => Below.cell hS (p := ⟨b, o, none⟩) h
                  go_simp
                  exact hK _ _ (Below.refl _ _) rfl
                refine Calm.Steps.cons (Calm.step_wanted (b := true) rfl rfl rfl (by kernel_rfl) (fun _ _ h => h) ?_) ?_
                · intro a_ w1 hS hsz hold hdep K hK
                  have h103 := Calm.is_at (x := .agg #[.bool s6.s, .int .i64 s6.lo, .int .i64 s6.hi]) hdep (k := 44) (by kernel_rfl) rfl rfl (fun _ _ h => h)
                  have e103 := Calm.at_getD h103
                  have h104 := Calm.is_at (x := .agg #[.bool s6.s, .int .i64 s6.lo, .int .i64 s6.hi]) hdep (k := 45) (by kernel_rfl) rfl rfl (fun _ _ h => h)
                  have e104 := Calm.at_getD h104
                  clear hsz hold hdep
                  have hcl := fun (b o : Nat) (h : b < _) => Below.cell hS (p := ⟨b, o, none⟩) h
                  go_simp
                  exact hK _ _ (Below.refl _ _) rfl
                refine Calm.Steps.cons (Calm.step_plain rfl ?_) ?_
                · intro a_ w1 hS hsz hold hdep K hK
                  have h102 := Calm.is_at (x := .bool true) hdep (k := 43) (by kernel_rfl) rfl rfl (fun _ _ h => h)
                  have e102 := Calm.at_getD h102
                  have h105 := Calm.is_at (x := .bool true) hdep (k := 46) (by kernel_rfl) rfl rfl (fun _ _ h => h)
                  have e105 := Calm.at_getD h105
                  clear hsz hold hdep
                  have hcl := fun (b o : Nat) (h : b < _) => Below.cell hS (p := ⟨b, o, none⟩) h
                  go_simp
                  exact hK _ _ (Below.refl _ _) rfl
                refine Calm.Steps.cons (Calm.step_plain rfl ?_) ?_
                · intro a_ w1 hS hsz hold hdep K hK
                  have h106 := Calm.is_at (x := .bool true) hdep (k := 47) (by kernel_rfl) rfl rfl (fun _ _ h => h)
                  have e106 := Calm.at_getD h106
                  clear hsz hold hdep
                  have hcl := fun (b o : Nat) (h : b < _) => Below.cell hS (p := ⟨b, o, none⟩) h
                  go_simp
                  exact hK _ _ (Below.refl _ _) rfl
                refine Calm.Steps.cons (Calm.step_wanted (b := true) rfl rfl rfl (by kernel_rfl) (fun _ _ h => h) ?_) ?_
                · intro a_ w1 hS hsz hold hdep K hK
                  have h12 : a_.tmps[12]? = some (.bool z5) := (hold 12 (by kernel_rfl)).trans rfl
                  have e12 := Calm.at_getD h12
                  clear hsz hold hdep
                  have hcl := fun (b o : Nat) (h : b < _) => Below.cell hS (p := ⟨b, o, none⟩) h
                  go_simp
                  exact hK _ _ (Below.refl _ _) rfl
                refine Calm.Steps.cons (Calm.step_wanted (b := true) rfl rfl rfl (by kernel_rfl) (fun _ _ h => h) ?_) ?_
                · intro a_ w1 hS hsz hold hdep K hK
                  have h14 : a_.tmps[14]? = some (.bool z5) := (hold 14 (by kernel_rfl)).trans rfl
                  have e14 := Calm.at_getD h14
                  clear hsz hold hdep
                  have hcl := fun (b o : Nat) (h : b < _) => Below.cell hS (p := ⟨b, o, none⟩) h
                  go_simp
                  exact hK _ _ (Below.refl _ _) rfl
                refine Calm.Steps.cons (Calm.step_wanted (b := true) rfl rfl rfl (by kernel_rfl) (fun _ _ h => h) ?_) ?_
                · intro a_ w1 hS hsz hold hdep K hK
                  have h108 := Calm.is_at (x := .bool z5) hdep (k := 49) (by kernel_rfl) rfl rfl (fun _ _ h => h)
                  have e108 := Calm.at_getD h108
                  have h109 := Calm.is_at (x := .bool z5) hdep (k := 50) (by kernel_rfl) rfl rfl (fun _ _ h => h)
                  have e109 := Calm.at_getD h109
                  clear hsz hold hdep
                  have hcl := fun (b o : Nat) (h : b < _) => Below.cell hS (p := ⟨b, o, none⟩) h
                  go_simp
                  exact hK _ _ (Below.refl _ _) rfl
                refine Calm.Steps.cons (Calm.step_plain rfl ?_) ?_
                · intro a_ w1 hS hsz hold hdep K hK
                  have h107 := Calm.is_at (x := .bool true) hdep (k := 48) (by kernel_rfl) rfl rfl (fun _ _ h => h)
                  have e107 := Calm.at_getD h107
                  have h110 := Calm.is_at (x := .bool true) hdep (k := 51) (by kernel_rfl) rfl rfl (fun _ _ h => h)
                  have e110 := Calm.at_getD h110
                  clear hsz hold hdep
                  have hcl := fun (b o : Nat) (h : b < _) => Below.cell hS (p := ⟨b, o, none⟩) h
                  go_simp
                  exact hK _ _ (Below.refl _ _) rfl
                refine Calm.Steps.cons (Calm.step_plain rfl ?_) ?_
                · intro a_ w1 hS hsz hold hdep K hK
                  have h111 := Calm.is_at (x := .bool true) hdep (k := 52) (by kernel_rfl) rfl rfl (fun _ _ h => h)
                  have e111 := Calm.at_getD h111
                  clear hsz hold hdep
                  have hcl := fun (b o : Nat) (h : b < _) => Below.cell hS (p := ⟨b, o, none⟩) h
                  go_simp
                  exact hK _ _ (Below.refl _ _) rfl
                refine Calm.Steps.cons (Calm.step_wanted (b := true) rfl rfl rfl (by kernel_rfl) (fun _ _ h => h) ?_) ?_
                · intro a_ w1 hS hsz hold hdep K hK
                  have h15 : a_.tmps[15]? = some (.pointer (some ⟨g15, 0, none⟩)) := (hold 15 (by kernel_rfl)).trans rfl
                  have e15 := Calm.at_getD h15
                  clear hsz hold hdep
                  have hcl := fun (b o : Nat) (h : b < _) => Below.cell hS (p := ⟨b, o, none⟩) h
                  go_simp
                  exact hK _ _ (Below.refl _ _) rfl
                refine Calm.Steps.cons (Calm.step_wanted (b := true) rfl rfl rfl (by kernel_rfl) (fun _ _ h => h) ?_) ?_
                · intro a_ w1 hS hsz hold hdep K hK
                  have h17 : a_.tmps[17]? = some (.pointer (some ⟨g17, 0, none⟩)) := (hold 17 (by kernel_rfl)).trans rfl
                  have e17 := Calm.at_getD h17
                  clear hsz hold hdep
                  have hcl := fun (b o : Nat) (h : b < _) => Below.cell hS (p := ⟨b, o, none⟩) h
                  go_simp
                  exact hK _ _ (Below.refl _ _) rfl
                refine Calm.Steps.cons (Calm.step_wanted (b := true) rfl rfl rfl (by kernel_rfl) (fun _ _ h => h) ?_) ?_
                · intro a_ w1 hS hsz hold hdep K hK
                  have h113 := Calm.is_at (x := .agg #[.bool p.s, .int .i64 p.lo, .int .i64 p.hi]) hdep (k := 54) (by kernel_rfl) rfl rfl (fun _ _ h => h)
                  have e113 := Calm.at_getD h113
                  have h114 := Calm.is_at (x := .agg #[.bool p.s, .int .i64 p.lo, .int .i64 p.hi]) hdep (k := 55) (by kernel_rfl) rfl rfl (fun _ _ h => h)
                  have e114 := Calm.at_getD h114
                  clear hsz hold hdep
                  have hcl := fun (b o : Nat) (h : b < _) => Below.cell hS (p := ⟨b, o, none⟩) h
                  go_simp
                  exact hK _ _ (Below.refl _ _) rfl
                refine Calm.Steps.cons (Calm.step_plain rfl ?_) ?_
                · intro a_ w1 hS hsz hold hdep K hK
                  have h112 := Calm.is_at (x := .bool true) hdep (k := 53) (by kernel_rfl) rfl rfl (fun _ _ h => h)
                  have e112 := Calm.at_getD h112
                  have h115 := Calm.is_at (x := .bool true) hdep (k := 56) (by kernel_rfl) rfl rfl (fun _ _ h => h)
                  have e115 := Calm.at_getD h115
                  clear hsz hold hdep
                  have hcl := fun (b o : Nat) (h : b < _) => Below.cell hS (p := ⟨b, o, none⟩) h
                  go_simp
                  exact hK _ _ (Below.refl _ _) rfl
                refine Calm.Steps.cons (Calm.step_plain rfl ?_) ?_
                · intro a_ w1 hS hsz hold hdep K hK
                  have h116 := Calm.is_at (x := .bool true) hdep (k := 57) (by kernel_rfl) rfl rfl (fun _ _ h => h)
                  have e116 := Calm.at_getD h116
                  clear hsz hold hdep
                  have hcl := fun (b o : Nat) (h : b < _) => Below.cell hS (p := ⟨b, o, none⟩) h
                  go_simp
                  exact hK _ _ (Below.refl _ _) rfl
                refine Calm.Steps.cons (Calm.step_wanted (b := true) rfl rfl rfl (by kernel_rfl) (fun _ _ h => h) ?_) ?_
                · intro a_ w1 hS hsz hold hdep K hK
                  have h16 : a_.tmps[16]? = some (.pointer (some ⟨g16, 0, none⟩)) := (hold 16 (by kernel_rfl)).trans rfl
                  have e16 := Calm.at_getD h16
                  clear hsz hold hdep
                  have hcl := fun (b o : Nat) (h : b < _) => Below.cell hS (p := ⟨b, o, none⟩) h
                  go_simp
                  exact hK _ _ (Below.refl _ _) rfl
                refine Calm.Steps.cons (Calm.step_wanted (b := true) rfl rfl rfl (by kernel_rfl) (fun _ _ h => h) ?_) ?_
                · intro a_ w1 hS hsz hold hdep K hK
                  have h18 : a_.tmps[18]? = some (.pointer (some ⟨g18, 0, none⟩)) := (hold 18 (by kernel_rfl)).trans rfl
                  have e18 := Calm.at_getD h18
                  clear hsz hold hdep
                  have hcl := fun (b o : Nat) (h : b < _) => Below.cell hS (p := ⟨b, o, none⟩) h
                  go_simp
                  exact hK _ _ (Below.refl _ _) rfl
                refine Calm.Steps.cons (Calm.step_wanted (b := true) rfl rfl rfl (by kernel_rfl) (fun _ _ h => h) ?_) ?_
                · intro a_ w1 hS hsz hold hdep K hK
                  have h118 := Calm.is_at (x := .agg #[.bool q.s, .int .i64 q.lo, .int .i64 q.hi]) hdep (k := 59) (by kernel_rfl) rfl rfl (fun _ _ h => h)
                  have e118 := Calm.at_getD h118
                  have h119 := Calm.is_at (x := .agg #[.bool q.s, .int .i64 q.lo, .int .i64 q.hi]) hdep (k := 60) (by kernel_rfl) rfl rfl (fun _ _ h => h)
                  have e119 := Calm.at_getD h119
                  clear hsz hold hdep
                  have hcl := fun (b o : Nat) (h : b < _) => Below.cell hS (p := ⟨b, o, none⟩) h
                  go_simp
                  exact hK _ _ (Below.refl _ _) rfl
                refine Calm.Steps.cons (Calm.step_plain rfl ?_) ?_
                · intro a_ w1 hS hsz hold hdep K hK
                  have h117 := Calm.is_at (x := .bool true) hdep (k := 58) (by kernel_rfl) rfl rfl (fun _ _ h => h)
                  have e117 := Calm.at_getD h117
                  have h120 := Calm.is_at (x := .bool true) hdep (k := 61) (by kernel_rfl) rfl rfl (fun _ _ h => h)
                  have e120 := Calm.at_getD h120
                  clear hsz hold hdep
                  have hcl := fun (b o : Nat) (h : b < _) => Below.cell hS (p := ⟨b, o, none⟩) h
                  go_simp
                  exact hK _ _ (Below.refl _ _) rfl
                refine Calm.Steps.cons (Calm.step_plain rfl ?_) ?_
                · intro a_ w1 hS hsz hold hdep K hK
                  have h121 := Calm.is_at (x := .bool true) hdep (k := 62) (by kernel_rfl) rfl rfl (fun _ _ h => h)
                  have e121 := Calm.at_getD h121
                  clear hsz hold hdep
                  have hcl := fun (b o : Nat) (h : b < _) => Below.cell hS (p := ⟨b, o, none⟩) h
                  go_simp
                  exact hK _ _ (Below.refl _ _) rfl
                exact Calm.Steps.nil
              case fin =>
                intro a_ w1 hS hsz hdf hold hk
                obtain ⟨u6, h6_, (k6_ : u6 = .bool true)⟩ := hk 63 _ rfl
                subst k6_
                replace h6_ := h6_ 6 rfl
                have e6_ := Calm.at_getD h6_
                replace hdf : a_.defers = [] := hdf
                clear hold hk hsz
                go_wp2_with fail
                refine bodyPost_ret (v := .bool true) (by simp [results, Try.results7, *, go_sem]) hdf ?_
                exact ⟨rfl, below_call hB0 hS⟩
end Go.Proofs.Ytfnodgpebheinaa.M
