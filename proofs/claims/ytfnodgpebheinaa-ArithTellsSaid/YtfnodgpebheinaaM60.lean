/- The law: what is left where a comparison holds. -/
import Derived.Test.YtfnodgpebheinaaM42
import Derived.Test.YtfnodgpebheinaaM50
import Derived.Deep.DeepCutAuto
import Derived.Deep.CutBlock
namespace Go.Proofs.Ytfnodgpebheinaa.M
open Go Go.RowKit
set_option linter.unusedVariables false
set_option linter.unusedSimpArgs false
attribute [local simp, local go_sem] lt_a2 lt_a3 lt_a4 lt_a5 lt_a6 lt_a7 lt_a8
set_option maxHeartbeats 4000000
theorem ok_inR {x : Iv} (h : Ok x) : inR x = true := by
  rcases h with rfl | ⟨_, h1, h2, h3⟩
  · rfl
  · unfold inR inr
    rw [decide_eq_true ⟨h1, by omega⟩, decide_eq_true ⟨by omega, h3⟩]; rfl
set_option maxRecDepth 100000 in
theorem law_less (a b : Iv) (n m k : Int) (hn : 0 ≤ n ∧ n ≤ 18446744073709551615) (hm : 0 ≤ m ∧ m ≤ 18446744073709551615) (hk : 0 ≤ k ∧ k ≤ 255) (ra : inR a = true) (rb : inR b = true) (w : World) : Calls Try.prog 3 #[.agg #[.bool a.s, .int .i64 a.lo, .int .i64 a.hi], .agg #[.bool b.s, .int .i64 b.lo, .int .i64 b.hi], .int .u64 n, .int .u64 m, .int .u8 k] w fun e w' => e = .returned (.bool true) ∧ Below w.heap.size w w' := by
  have hu := Try.underlying23
  have ox := inR_ok ra
  have oy := inR_ok rb
  have hxx : nrm (nrm a) = nrm a := nrm_nrm a
  have hyy : nrm (nrm b) = nrm b := nrm_nrm b
  obtain ⟨x, hx⟩ : ∃ x, Hid (nrm a = x) := ⟨_, Lib.hid rfl⟩
  obtain ⟨y, hy⟩ : ∃ y, Hid (nrm b = y) := ⟨_, Lib.hid rfl⟩
  rw [hx.out] at ox hxx
  rw [hy.out] at oy hyy
  obtain ⟨j, hj⟩ : ∃ j, Int.tmod k 6 = j := ⟨_, rfl⟩
  have hj0 : 0 ≤ j ∧ j ≤ 5 := by
    have h1 := Int.tmod_nonneg 6 hk.1
    have h2 := Int.tmod_lt_of_pos k (show (0 : Int) < 6 by decide)
    omega
  have e1 : IntKind.u8.wrap j = j := by rw [IntKind.wrap_u8]; omega
  have e2 : wrap64 j = j := by unfold wrap64; omega
  have hsub := less_sub j x y
  have hss := less_s j x y
  have hnr := less_nrm j hxx hyy
  have hno : ¬ (x.s = true ∧ y.s = true) → lessI j x y = (Iv.e, Iv.e) := less_none j
  have hhas : ∀ u v, hasI x u = true → hasI y v = true → holdsB j u v = true → hasI (lessI j x y).1 u = true ∧ hasI (lessI j x y).2 v = true := fun u v h1 h2 h3 => less_has ox oy h1 h2 hj0 h3
  obtain ⟨P, hP⟩ : ∃ P, Hid (lessI j x y = P) := ⟨_, Lib.hid rfl⟩
  rw [hP.out] at hsub hss hnr hno hhas
  obtain ⟨p, q⟩ := P
  obtain ⟨xs, xl, xh⟩ := x
  obtain ⟨ys, yl, yh⟩ := y
  obtain ⟨ps, pl, ph⟩ := p
  obtain ⟨qs, ql, qh⟩ := q
  obtain rfl : ps = qs := hss
  have hp1 : Hid (nrm ⟨ps, pl, ph⟩ = ⟨ps, pl, ph⟩) := Lib.hid hnr.1
  have hq1 : Hid (nrm ⟨ps, ql, qh⟩ = ⟨ps, ql, qh⟩) := Lib.hid hnr.2
  have hx1 : Hid (nrm ⟨xs, xl, xh⟩ = ⟨xs, xl, xh⟩) := Lib.hid hxx
  have hy1 : Hid (nrm ⟨ys, yl, yh⟩ = ⟨ys, yl, yh⟩) := Lib.hid hyy
  have hl1 : Hid (leqI ⟨ps, pl, ph⟩ ⟨xs, xl, xh⟩ = true) := Lib.hid (leq_of_sub hsub.1)
  have hl2 : Hid (leqI ⟨ps, ql, qh⟩ ⟨ys, yl, yh⟩ = true) := Lib.hid (leq_of_sub hsub.2)
  have rx : inR ⟨xs, xl, xh⟩ = true := ok_inR ox
  have ry : inR ⟨ys, yl, yh⟩ = true := ok_inR oy
  have hP' : Hid (lessI j (nrm ⟨xs, xl, xh⟩) (nrm ⟨ys, yl, yh⟩) = (⟨ps, pl, ph⟩, ⟨ps, ql, qh⟩)) := by rw [hxx, hyy]; exact hP
  replace hhas := Lib.hid hhas
  replace hno := Lib.hid hno
  replace ox := Lib.hid ox
  replace oy := Lib.hid oy
  replace hj0 := Lib.hid hj0
  clear hsub hnr hxx hyy hP
  go_enter Try.func3, Try.ntmps3
  go_upto_region 3 with (first | (go_at_call 10; (with_reducible refine (known_any _).mono ?_); rintro e w' ⟨rfl, hB⟩; have Qa := Box.keep (g := w.heap.size) (x := a) hB ⟨by go_simp, by go_simp, by go_simp, by go_simp, by go_simp, by go_simp⟩; have Qd := Box.keep (g := w.heap.size + 1) (x := b) hB ⟨by go_simp, by go_simp, by go_simp, by go_simp, by go_simp, by go_simp⟩; replace hB0 := below_call (w := w) (by first | (with_reducible assumption) | ((try go_grown); (all_goals (repeat' (first | (with_reducible assumption) | (refine below_call ?_ (by assumption); (try go_grown))))); all_goals (first | omega | (simp; omega)))) hB; clear hB; (try clear a0 a1 a2 a3 a4 a5); (try clear d0 d1 d2 d3 d4 d5); have la0 := Box.lt Qa; have la1 := Nat.lt_succ_of_lt la0; have la2 := Nat.lt_succ_of_lt la1; obtain ⟨a0, a1, a2, a3, a4, a5⟩ := Qa; have ld0 := Box.lt Qd; have ld1 := Nat.lt_succ_of_lt ld0; have ld2 := Nat.lt_succ_of_lt ld1; obtain ⟨d0, d1, d2, d3, d4, d5⟩ := Qd))
  go_cut [] (fun wc => Box wc (w.heap.size) (⟨xs, xl, xh⟩) ∧ Box wc (w.heap.size + 1) (⟨ys, yl, yh⟩) ∧ Below w.heap.size w wc)
  case first =>
    go_wp2
    go_region_with ((first | (go_at_call 11; (with_reducible refine (rnorm_any a.s a.lo a.hi ⟨xs, xl, xh⟩ hx _).mono ?_)) | (go_at_call 11; (with_reducible refine (rnorm_any b.s b.lo b.hi ⟨ys, yl, yh⟩ hy _).mono ?_))); rintro e w' ⟨rfl, hB⟩; obtain ⟨hc, hf, hs⟩ := bcell hB; clear hs; (try simp only [World.size_drew, World.size_alloc] at hc hf); obtain ⟨hz0_0, hz0_1, hz0_2, hz1_0, hz1_1, hz1_2⟩ : w.heap.size < w'.heap.size ∧ w.heap.size < w'.heap.size + 1 ∧ w.heap.size < w'.heap.size + 1 + 1 ∧ w.heap.size + 1 < w'.heap.size ∧ w.heap.size + 1 < w'.heap.size + 1 ∧ w.heap.size + 1 < w'.heap.size + 1 + 1 := by { have := hB.size; (try simp at this); omega })
    all_goals
      go_wp2
      go_meet
      case rel => exact ⟨⟨by go_simp, by go_simp, by go_simp, by go_simp, by go_simp, by go_simp⟩, ⟨by go_simp, by go_simp, by go_simp, by go_simp, by go_simp, by go_simp⟩, by first | (with_reducible assumption) | ((try go_grown); (all_goals (repeat' (first | (with_reducible assumption) | (refine below_call ?_ (by assumption); (try go_grown))))); all_goals (first | omega | (simp; omega)))⟩
  case rest =>
    (try clear hB0); (try clear a0 a1 a2 a3 a4 a5); (try clear d0 d1 d2 d3 d4 d5)
    obtain ⟨Qa, Qd, hB0⟩ := hcut
    have la0 := Box.lt Qa
    obtain ⟨a0, a1, a2, a3, a4, a5⟩ := Qa
    have ld0 := Box.lt Qd
    obtain ⟨d0, d1, d2, d3, d4, d5⟩ := Qd
    go_upto_region 4 with (fail)
    go_cut [11] (fun v11 wd => v11 = .int .i64 j ∧ Box wd (w.heap.size) (⟨xs, xl, xh⟩) ∧ Box wd (w.heap.size + 1) (⟨ys, yl, yh⟩) ∧ Below w.heap.size w wd)
    case first =>
      go_wp2_with fail
      go_meet
      case rel => exact ⟨by first | rfl | simp [*], ⟨by go_simp, by go_simp, by go_simp, by go_simp, by go_simp, by go_simp⟩, ⟨by go_simp, by go_simp, by go_simp, by go_simp, by go_simp, by go_simp⟩, by first | (with_reducible assumption) | ((try go_grown); (all_goals (repeat' (first | (with_reducible assumption) | (refine below_call ?_ (by assumption); (try go_grown))))); all_goals (first | omega | (simp; omega)))⟩
    case rest =>
      (try clear hB0); (try clear a0 a1 a2 a3 a4 a5); (try clear d0 d1 d2 d3 d4 d5)
      obtain ⟨rfl, Qa, Qd, hB0⟩ := hcut
      have la0 := Box.lt Qa
      obtain ⟨a0, a1, a2, a3, a4, a5⟩ := Qa
      have ld0 := Box.lt Qd
      obtain ⟨d0, d1, d2, d3, d4, d5⟩ := Qd
      go_upto_region 5 with (fail)
      go_cut [12, 13] (fun v12 v13 wd => ∃ g12 g13 : Nat, v12 = .pointer (some ⟨g12, 0, none⟩) ∧ v13 = .pointer (some ⟨g13, 0, none⟩) ∧ Box wd (w.heap.size) (⟨xs, xl, xh⟩) ∧ Box wd (w.heap.size + 1) (⟨ys, yl, yh⟩) ∧ Box wd (g12) (⟨ps, pl, ph⟩) ∧ Box wd (g13) (⟨ps, ql, qh⟩) ∧ Below w.heap.size w wd)
      case first =>
        go_wp2_with (first | (go_at_call 12; (with_reducible refine (less_any j ⟨xs, xl, xh⟩ ⟨ys, yl, yh⟩ rx ry (⟨ps, pl, ph⟩, ⟨ps, ql, qh⟩) hP'.out _).mono ?_); rintro e w' ⟨rfl, hB⟩; have Qa := Box.keep (g := w.heap.size) (x := ⟨xs, xl, xh⟩) hB ⟨by go_simp, by go_simp, by go_simp, by go_simp, by go_simp, by go_simp⟩; have Qd := Box.keep (g := w.heap.size + 1) (x := ⟨ys, yl, yh⟩) hB ⟨by go_simp, by go_simp, by go_simp, by go_simp, by go_simp, by go_simp⟩; replace hB0 := below_call (w := w) (by first | (with_reducible assumption) | ((try go_grown); (all_goals (repeat' (first | (with_reducible assumption) | (refine below_call ?_ (by assumption); (try go_grown))))); all_goals (first | omega | (simp; omega)))) hB; clear hB; (try clear a0 a1 a2 a3 a4 a5); (try clear d0 d1 d2 d3 d4 d5); have la0 := Box.lt Qa; have la1 := Nat.lt_succ_of_lt la0; have la2 := Nat.lt_succ_of_lt la1; obtain ⟨a0, a1, a2, a3, a4, a5⟩ := Qa; have ld0 := Box.lt Qd; have ld1 := Nat.lt_succ_of_lt ld0; have ld2 := Nat.lt_succ_of_lt ld1; obtain ⟨d0, d1, d2, d3, d4, d5⟩ := Qd))
        go_meet
        case rel => exact ⟨_, _, rfl, rfl, ⟨by go_simp, by go_simp, by go_simp, by go_simp, by go_simp, by go_simp⟩, ⟨by go_simp, by go_simp, by go_simp, by go_simp, by go_simp, by go_simp⟩, ⟨by go_simp, by go_simp, by go_simp, by go_simp, by go_simp, by go_simp⟩, ⟨by go_simp, by go_simp, by go_simp, by go_simp, by go_simp, by go_simp⟩, by first | (with_reducible assumption) | ((try go_grown); (all_goals (repeat' (first | (with_reducible assumption) | (refine below_call ?_ (by assumption); (try go_grown))))); all_goals (first | omega | (simp; omega)))⟩
      case rest =>
        (try clear hB0); (try clear a0 a1 a2 a3 a4 a5); (try clear d0 d1 d2 d3 d4 d5)
        obtain ⟨g12, g13, rfl, rfl, Qa, Qd, Qe, Qr, hB0⟩ := hcut
        have la0 := Box.lt Qa
        obtain ⟨a0, a1, a2, a3, a4, a5⟩ := Qa
        have ld0 := Box.lt Qd
        obtain ⟨d0, d1, d2, d3, d4, d5⟩ := Qd
        have le0 := Box.lt Qe
        obtain ⟨e0, e1, e2, e3, e4, e5⟩ := Qe
        have lr0 := Box.lt Qr
        obtain ⟨r0, r1, r2, r3, r4, r5⟩ := Qr
        go_upto_region 8 with (first | (go_at_call 13; (with_reducible refine (leq_any ⟨ps, pl, ph⟩ ⟨xs, xl, xh⟩ ⟨ps, pl, ph⟩ ⟨xs, xl, xh⟩ hp1 hx1 true hl1 _).mono ?_); rintro e w' ⟨rfl, hB⟩; have Qa := Box.keep (g := w.heap.size) (x := ⟨xs, xl, xh⟩) hB ⟨by go_simp, by go_simp, by go_simp, by go_simp, by go_simp, by go_simp⟩; have Qd := Box.keep (g := w.heap.size + 1) (x := ⟨ys, yl, yh⟩) hB ⟨by go_simp, by go_simp, by go_simp, by go_simp, by go_simp, by go_simp⟩; have Qe := Box.keep (g := g12) (x := ⟨ps, pl, ph⟩) hB ⟨by go_simp, by go_simp, by go_simp, by go_simp, by go_simp, by go_simp⟩; have Qr := Box.keep (g := g13) (x := ⟨ps, ql, qh⟩) hB ⟨by go_simp, by go_simp, by go_simp, by go_simp, by go_simp, by go_simp⟩; replace hB0 := below_call (w := w) (by first | (with_reducible assumption) | ((try go_grown); (all_goals (repeat' (first | (with_reducible assumption) | (refine below_call ?_ (by assumption); (try go_grown))))); all_goals (first | omega | (simp; omega)))) hB; clear hB; (try clear a0 a1 a2 a3 a4 a5); (try clear d0 d1 d2 d3 d4 d5); (try clear e0 e1 e2 e3 e4 e5); (try clear r0 r1 r2 r3 r4 r5); have la0 := Box.lt Qa; have la1 := Nat.lt_succ_of_lt la0; have la2 := Nat.lt_succ_of_lt la1; obtain ⟨a0, a1, a2, a3, a4, a5⟩ := Qa; have ld0 := Box.lt Qd; have ld1 := Nat.lt_succ_of_lt ld0; have ld2 := Nat.lt_succ_of_lt ld1; obtain ⟨d0, d1, d2, d3, d4, d5⟩ := Qd; have le0 := Box.lt Qe; have le1 := Nat.lt_succ_of_lt le0; have le2 := Nat.lt_succ_of_lt le1; obtain ⟨e0, e1, e2, e3, e4, e5⟩ := Qe; have lr0 := Box.lt Qr; have lr1 := Nat.lt_succ_of_lt lr0; have lr2 := Nat.lt_succ_of_lt lr1; obtain ⟨r0, r1, r2, r3, r4, r5⟩ := Qr) | (go_at_call 13; (with_reducible refine (leq_any ⟨ps, ql, qh⟩ ⟨ys, yl, yh⟩ ⟨ps, ql, qh⟩ ⟨ys, yl, yh⟩ hq1 hy1 true hl2 _).mono ?_); rintro e w' ⟨rfl, hB⟩; have Qa := Box.keep (g := w.heap.size) (x := ⟨xs, xl, xh⟩) hB ⟨by go_simp, by go_simp, by go_simp, by go_simp, by go_simp, by go_simp⟩; have Qd := Box.keep (g := w.heap.size + 1) (x := ⟨ys, yl, yh⟩) hB ⟨by go_simp, by go_simp, by go_simp, by go_simp, by go_simp, by go_simp⟩; have Qe := Box.keep (g := g12) (x := ⟨ps, pl, ph⟩) hB ⟨by go_simp, by go_simp, by go_simp, by go_simp, by go_simp, by go_simp⟩; have Qr := Box.keep (g := g13) (x := ⟨ps, ql, qh⟩) hB ⟨by go_simp, by go_simp, by go_simp, by go_simp, by go_simp, by go_simp⟩; replace hB0 := below_call (w := w) (by first | (with_reducible assumption) | ((try go_grown); (all_goals (repeat' (first | (with_reducible assumption) | (refine below_call ?_ (by assumption); (try go_grown))))); all_goals (first | omega | (simp; omega)))) hB; clear hB; (try clear a0 a1 a2 a3 a4 a5); (try clear d0 d1 d2 d3 d4 d5); (try clear e0 e1 e2 e3 e4 e5); (try clear r0 r1 r2 r3 r4 r5); have la0 := Box.lt Qa; have la1 := Nat.lt_succ_of_lt la0; have la2 := Nat.lt_succ_of_lt la1; obtain ⟨a0, a1, a2, a3, a4, a5⟩ := Qa; have ld0 := Box.lt Qd; have ld1 := Nat.lt_succ_of_lt ld0; have ld2 := Nat.lt_succ_of_lt ld1; obtain ⟨d0, d1, d2, d3, d4, d5⟩ := Qd; have le0 := Box.lt Qe; have le1 := Nat.lt_succ_of_lt le0; have le2 := Nat.lt_succ_of_lt le1; obtain ⟨e0, e1, e2, e3, e4, e5⟩ := Qe; have lr0 := Box.lt Qr; have lr1 := Nat.lt_succ_of_lt lr0; have lr2 := Nat.lt_succ_of_lt lr1; obtain ⟨r0, r1, r2, r3, r4, r5⟩ := Qr))
        by_cases hxy : xs = true ∧ ys = true
        · obtain ⟨rfl, rfl⟩ := hxy
          go_upto_region 10 with (fail)
          go_cut [14, 15] (fun v14 v15 wd => ∃ u v : Int, v14 = .int .i64 u ∧ v15 = .int .i64 v ∧ Aside (hasI ⟨true, xl, xh⟩ u = true ∧ hasI ⟨true, yl, yh⟩ v = true) ∧ Box wd (w.heap.size) (⟨true, xl, xh⟩) ∧ Box wd (w.heap.size + 1) (⟨true, yl, yh⟩) ∧ Box wd (g12) (⟨ps, pl, ph⟩) ∧ Box wd (g13) (⟨ps, ql, qh⟩) ∧ Below w.heap.size w wd)
          case first =>
            go_wp2_with fail
            go_region_held3 (fun w' => w'.cell? ⟨w.heap.size, 0, none⟩ = some (.bool true) ∧ w'.cell? ⟨w.heap.size, 1, none⟩ = some (.int .i64 xl) ∧ w'.cell? ⟨w.heap.size, 2, none⟩ = some (.int .i64 xh) ∧ w'.cell? ⟨w.heap.size + 1, 0, none⟩ = some (.bool true) ∧ w'.cell? ⟨w.heap.size + 1, 1, none⟩ = some (.int .i64 yl) ∧ w'.cell? ⟨w.heap.size + 1, 2, none⟩ = some (.int .i64 yh) ∧ w'.cell? ⟨g12, 0, none⟩ = some (.bool ps) ∧ w'.cell? ⟨g12, 1, none⟩ = some (.int .i64 pl) ∧ w'.cell? ⟨g12, 2, none⟩ = some (.int .i64 ph) ∧ w'.cell? ⟨g13, 0, none⟩ = some (.bool ps) ∧ w'.cell? ⟨g13, 1, none⟩ = some (.int .i64 ql) ∧ w'.cell? ⟨g13, 2, none⟩ = some (.int .i64 qh) ∧ Below w.heap.size w w') ((refine ⟨?_, ?_, ?_, ?_, ?_, ?_, ?_, ?_, ?_, ?_, ?_, ?_, ?_⟩ <;> first | (go_simp; done) | (first | (with_reducible assumption) | ((try go_grown); (all_goals (repeat' (first | (with_reducible assumption) | (refine below_call ?_ (by assumption); (try go_grown))))); all_goals (first | omega | (simp; omega)))))) (first | (go_at_call 14; (with_reducible refine (in_any ⟨true, xl, xh⟩ n ox.out rfl hn.1 hn.2 _).mono ?_); rintro e w' ⟨z1, hz1, rfl, hB⟩; obtain ⟨hc, hf, hs⟩ := bcell hB; clear hs; (try simp only [World.size_drew, World.size_alloc] at hc hf); have hB9 : Below w.heap.size w w' := below_call (w := w) (by first | (with_reducible assumption) | go_grown) hB; obtain ⟨hz_0_0, hz_0_1, hz_1_0, hz_1_1, hz_2_0, hz_2_1, hz_3_0, hz_3_1⟩ : w.heap.size < w'.heap.size ∧ w.heap.size < w'.heap.size + 1 ∧ w.heap.size + 1 < w'.heap.size ∧ w.heap.size + 1 < w'.heap.size + 1 ∧ g12 < w'.heap.size ∧ g12 < w'.heap.size + 1 ∧ g13 < w'.heap.size ∧ g13 < w'.heap.size + 1 := by { have := hB.size; (try simp at this); omega }) | (go_at_call 14; (with_reducible refine (in_any ⟨true, yl, yh⟩ m oy.out rfl hm.1 hm.2 _).mono ?_); rintro e w' ⟨z2, hz2, rfl, hB⟩; obtain ⟨hc, hf, hs⟩ := bcell hB; clear hs; (try simp only [World.size_drew, World.size_alloc] at hc hf); have hB9 : Below w.heap.size w w' := below_call (w := w) (by first | (with_reducible assumption) | go_grown) hB; obtain ⟨hz_0_0, hz_0_1, hz_1_0, hz_1_1, hz_2_0, hz_2_1, hz_3_0, hz_3_1⟩ : w.heap.size < w'.heap.size ∧ w.heap.size < w'.heap.size + 1 ∧ w.heap.size + 1 < w'.heap.size ∧ w.heap.size + 1 < w'.heap.size + 1 ∧ g12 < w'.heap.size ∧ g12 < w'.heap.size + 1 ∧ g13 < w'.heap.size ∧ g13 < w'.heap.size + 1 := by { have := hB.size; (try simp at this); omega }))
            go_wp2_with fail
            go_meet
            case rel => exact ⟨_, _, rfl, rfl, ⟨(has_iff _ _).2 ⟨rfl, hz1.out⟩, (has_iff _ _).2 ⟨rfl, hz2.out⟩⟩, ⟨by go_simp, by go_simp, by go_simp, by go_simp, by go_simp, by go_simp⟩, ⟨by go_simp, by go_simp, by go_simp, by go_simp, by go_simp, by go_simp⟩, ⟨by go_simp, by go_simp, by go_simp, by go_simp, by go_simp, by go_simp⟩, ⟨by go_simp, by go_simp, by go_simp, by go_simp, by go_simp, by go_simp⟩, by first | (with_reducible assumption) | ((try go_grown); (all_goals (repeat' (first | (with_reducible assumption) | (refine below_call ?_ (by assumption); (try go_grown))))); all_goals (first | omega | (simp; omega)))⟩
          case rest =>
            (try clear hB0); (try clear a0 a1 a2 a3 a4 a5); (try clear d0 d1 d2 d3 d4 d5); (try clear e0 e1 e2 e3 e4 e5); (try clear r0 r1 r2 r3 r4 r5)
            obtain ⟨u, v, rfl, rfl, huv, Qa, Qd, Qe, Qr, hB0⟩ := hcut
            have la0 := Box.lt Qa
            obtain ⟨a0, a1, a2, a3, a4, a5⟩ := Qa
            have ld0 := Box.lt Qd
            obtain ⟨d0, d1, d2, d3, d4, d5⟩ := Qd
            have le0 := Box.lt Qe
            obtain ⟨e0, e1, e2, e3, e4, e5⟩ := Qe
            have lr0 := Box.lt Qr
            obtain ⟨r0, r1, r2, r3, r4, r5⟩ := Qr
            have huv' := huv.out
            obtain ⟨hb, hhb⟩ : ∃ hb, Hid (holdsB j u v = hb) := ⟨_, Lib.hid rfl⟩
            clear huv
            cases hb
            · clear huv'
              go_wp2_with (first | (go_at_call 15; (with_reducible refine (holds_any j u v false hhb _).mono ?_); rintro e w' ⟨rfl, hB⟩; have Qa := Box.keep (g := w.heap.size) (x := ⟨true, xl, xh⟩) hB ⟨by go_simp, by go_simp, by go_simp, by go_simp, by go_simp, by go_simp⟩; have Qd := Box.keep (g := w.heap.size + 1) (x := ⟨true, yl, yh⟩) hB ⟨by go_simp, by go_simp, by go_simp, by go_simp, by go_simp, by go_simp⟩; have Qe := Box.keep (g := g12) (x := ⟨ps, pl, ph⟩) hB ⟨by go_simp, by go_simp, by go_simp, by go_simp, by go_simp, by go_simp⟩; have Qr := Box.keep (g := g13) (x := ⟨ps, ql, qh⟩) hB ⟨by go_simp, by go_simp, by go_simp, by go_simp, by go_simp, by go_simp⟩; replace hB0 := below_call (w := w) (by first | (with_reducible assumption) | ((try go_grown); (all_goals (repeat' (first | (with_reducible assumption) | (refine below_call ?_ (by assumption); (try go_grown))))); all_goals (first | omega | (simp; omega)))) hB; clear hB; (try clear a0 a1 a2 a3 a4 a5); (try clear d0 d1 d2 d3 d4 d5); (try clear e0 e1 e2 e3 e4 e5); (try clear r0 r1 r2 r3 r4 r5); have la0 := Box.lt Qa; have la1 := Nat.lt_succ_of_lt la0; have la2 := Nat.lt_succ_of_lt la1; obtain ⟨a0, a1, a2, a3, a4, a5⟩ := Qa; have ld0 := Box.lt Qd; have ld1 := Nat.lt_succ_of_lt ld0; have ld2 := Nat.lt_succ_of_lt ld1; obtain ⟨d0, d1, d2, d3, d4, d5⟩ := Qd; have le0 := Box.lt Qe; have le1 := Nat.lt_succ_of_lt le0; have le2 := Nat.lt_succ_of_lt le1; obtain ⟨e0, e1, e2, e3, e4, e5⟩ := Qe; have lr0 := Box.lt Qr; have lr1 := Nat.lt_succ_of_lt lr0; have lr2 := Nat.lt_succ_of_lt lr1; obtain ⟨r0, r1, r2, r3, r4, r5⟩ := Qr))
              go_returns
              exact ⟨by simp, by first | (with_reducible assumption) | ((try go_grown); (all_goals (repeat' (first | (with_reducible assumption) | (refine below_call ?_ (by assumption); (try go_grown))))); all_goals (first | omega | (simp; omega)))⟩
            · have hh := hhas.out u v huv'.1 huv'.2 hhb.out
              have h1 : Hid (hasI ⟨ps, pl, ph⟩ u = true) := Lib.hid hh.1
              have h2 : Hid (hasI ⟨ps, ql, qh⟩ v = true) := Lib.hid hh.2
              clear huv' hh
              go_wp2_with (first | (go_at_call 15; (with_reducible refine (holds_any j u v true hhb _).mono ?_); rintro e w' ⟨rfl, hB⟩; have Qa := Box.keep (g := w.heap.size) (x := ⟨true, xl, xh⟩) hB ⟨by go_simp, by go_simp, by go_simp, by go_simp, by go_simp, by go_simp⟩; have Qd := Box.keep (g := w.heap.size + 1) (x := ⟨true, yl, yh⟩) hB ⟨by go_simp, by go_simp, by go_simp, by go_simp, by go_simp, by go_simp⟩; have Qe := Box.keep (g := g12) (x := ⟨ps, pl, ph⟩) hB ⟨by go_simp, by go_simp, by go_simp, by go_simp, by go_simp, by go_simp⟩; have Qr := Box.keep (g := g13) (x := ⟨ps, ql, qh⟩) hB ⟨by go_simp, by go_simp, by go_simp, by go_simp, by go_simp, by go_simp⟩; replace hB0 := below_call (w := w) (by first | (with_reducible assumption) | ((try go_grown); (all_goals (repeat' (first | (with_reducible assumption) | (refine below_call ?_ (by assumption); (try go_grown))))); all_goals (first | omega | (simp; omega)))) hB; clear hB; (try clear a0 a1 a2 a3 a4 a5); (try clear d0 d1 d2 d3 d4 d5); (try clear e0 e1 e2 e3 e4 e5); (try clear r0 r1 r2 r3 r4 r5); have la0 := Box.lt Qa; have la1 := Nat.lt_succ_of_lt la0; have la2 := Nat.lt_succ_of_lt la1; obtain ⟨a0, a1, a2, a3, a4, a5⟩ := Qa; have ld0 := Box.lt Qd; have ld1 := Nat.lt_succ_of_lt ld0; have ld2 := Nat.lt_succ_of_lt ld1; obtain ⟨d0, d1, d2, d3, d4, d5⟩ := Qd; have le0 := Box.lt Qe; have le1 := Nat.lt_succ_of_lt le0; have le2 := Nat.lt_succ_of_lt le1; obtain ⟨e0, e1, e2, e3, e4, e5⟩ := Qe; have lr0 := Box.lt Qr; have lr1 := Nat.lt_succ_of_lt lr0; have lr2 := Nat.lt_succ_of_lt lr1; obtain ⟨r0, r1, r2, r3, r4, r5⟩ := Qr) | (go_at_call 16; (with_reducible refine (rhas_any ⟨ps, pl, ph⟩ u true h1 _).mono ?_); rintro e w' ⟨rfl, hB⟩; have Qa := Box.keep (g := w.heap.size) (x := ⟨true, xl, xh⟩) hB ⟨by go_simp, by go_simp, by go_simp, by go_simp, by go_simp, by go_simp⟩; have Qd := Box.keep (g := w.heap.size + 1) (x := ⟨true, yl, yh⟩) hB ⟨by go_simp, by go_simp, by go_simp, by go_simp, by go_simp, by go_simp⟩; have Qe := Box.keep (g := g12) (x := ⟨ps, pl, ph⟩) hB ⟨by go_simp, by go_simp, by go_simp, by go_simp, by go_simp, by go_simp⟩; have Qr := Box.keep (g := g13) (x := ⟨ps, ql, qh⟩) hB ⟨by go_simp, by go_simp, by go_simp, by go_simp, by go_simp, by go_simp⟩; replace hB0 := below_call (w := w) (by first | (with_reducible assumption) | ((try go_grown); (all_goals (repeat' (first | (with_reducible assumption) | (refine below_call ?_ (by assumption); (try go_grown))))); all_goals (first | omega | (simp; omega)))) hB; clear hB; (try clear a0 a1 a2 a3 a4 a5); (try clear d0 d1 d2 d3 d4 d5); (try clear e0 e1 e2 e3 e4 e5); (try clear r0 r1 r2 r3 r4 r5); have la0 := Box.lt Qa; have la1 := Nat.lt_succ_of_lt la0; have la2 := Nat.lt_succ_of_lt la1; obtain ⟨a0, a1, a2, a3, a4, a5⟩ := Qa; have ld0 := Box.lt Qd; have ld1 := Nat.lt_succ_of_lt ld0; have ld2 := Nat.lt_succ_of_lt ld1; obtain ⟨d0, d1, d2, d3, d4, d5⟩ := Qd; have le0 := Box.lt Qe; have le1 := Nat.lt_succ_of_lt le0; have le2 := Nat.lt_succ_of_lt le1; obtain ⟨e0, e1, e2, e3, e4, e5⟩ := Qe; have lr0 := Box.lt Qr; have lr1 := Nat.lt_succ_of_lt lr0; have lr2 := Nat.lt_succ_of_lt lr1; obtain ⟨r0, r1, r2, r3, r4, r5⟩ := Qr) | (go_at_call 16; (with_reducible refine (rhas_any ⟨ps, ql, qh⟩ v true h2 _).mono ?_); rintro e w' ⟨rfl, hB⟩; have Qa := Box.keep (g := w.heap.size) (x := ⟨true, xl, xh⟩) hB ⟨by go_simp, by go_simp, by go_simp, by go_simp, by go_simp, by go_simp⟩; have Qd := Box.keep (g := w.heap.size + 1) (x := ⟨true, yl, yh⟩) hB ⟨by go_simp, by go_simp, by go_simp, by go_simp, by go_simp, by go_simp⟩; have Qe := Box.keep (g := g12) (x := ⟨ps, pl, ph⟩) hB ⟨by go_simp, by go_simp, by go_simp, by go_simp, by go_simp, by go_simp⟩; have Qr := Box.keep (g := g13) (x := ⟨ps, ql, qh⟩) hB ⟨by go_simp, by go_simp, by go_simp, by go_simp, by go_simp, by go_simp⟩; replace hB0 := below_call (w := w) (by first | (with_reducible assumption) | ((try go_grown); (all_goals (repeat' (first | (with_reducible assumption) | (refine below_call ?_ (by assumption); (try go_grown))))); all_goals (first | omega | (simp; omega)))) hB; clear hB; (try clear a0 a1 a2 a3 a4 a5); (try clear d0 d1 d2 d3 d4 d5); (try clear e0 e1 e2 e3 e4 e5); (try clear r0 r1 r2 r3 r4 r5); have la0 := Box.lt Qa; have la1 := Nat.lt_succ_of_lt la0; have la2 := Nat.lt_succ_of_lt la1; obtain ⟨a0, a1, a2, a3, a4, a5⟩ := Qa; have ld0 := Box.lt Qd; have ld1 := Nat.lt_succ_of_lt ld0; have ld2 := Nat.lt_succ_of_lt ld1; obtain ⟨d0, d1, d2, d3, d4, d5⟩ := Qd; have le0 := Box.lt Qe; have le1 := Nat.lt_succ_of_lt le0; have le2 := Nat.lt_succ_of_lt le1; obtain ⟨e0, e1, e2, e3, e4, e5⟩ := Qe; have lr0 := Box.lt Qr; have lr1 := Nat.lt_succ_of_lt lr0; have lr2 := Nat.lt_succ_of_lt lr1; obtain ⟨r0, r1, r2, r3, r4, r5⟩ := Qr))
              go_returns
              exact ⟨by simp, by first | (with_reducible assumption) | ((try go_grown); (all_goals (repeat' (first | (with_reducible assumption) | (refine below_call ?_ (by assumption); (try go_grown))))); all_goals (first | omega | (simp; omega)))⟩
        · have hn2 := hno.out hxy
          injection hn2 with h1 h2
          injection h1 with h1 h3
          obtain rfl : ps = false := h1
          clear h2 h3
          have hxy' : xs = false ∨ xs = true ∧ ys = false := by
            cases xs <;> cases ys <;> simp_all
          rcases hxy' with rfl | ⟨rfl, rfl⟩
          · clear hxy hno hhas
            go_wp2_with fail
            go_returns
            exact ⟨by simp, by first | (with_reducible assumption) | ((try go_grown); (all_goals (repeat' (first | (with_reducible assumption) | (refine below_call ?_ (by assumption); (try go_grown))))); all_goals (first | omega | (simp; omega)))⟩
          · clear hxy hno hhas
            go_wp2_with fail
            go_returns
            exact ⟨by simp, by first | (with_reducible assumption) | ((try go_grown); (all_goals (repeat' (first | (with_reducible assumption) | (refine below_call ?_ (by assumption); (try go_grown))))); all_goals (first | omega | (simp; omega)))⟩
end Go.Proofs.Ytfnodgpebheinaa.M
