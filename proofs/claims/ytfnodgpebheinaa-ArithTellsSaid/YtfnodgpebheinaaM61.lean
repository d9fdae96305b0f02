/- The law: a comparison and its opposite. -/
import Derived.Test.YtfnodgpebheinaaM60
import Derived.Deep.DeepCutAuto
import Derived.Deep.CutBlock
namespace Go.Proofs.Ytfnodgpebheinaa.M
open Go Go.RowKit
set_option linter.unusedVariables false
set_option linter.unusedSimpArgs false
attribute [local simp, local go_sem] lt_a2 lt_a3 lt_a4 lt_a5 lt_a6 lt_a7 lt_a8
set_option maxHeartbeats 4000000
theorem six {j : Int} (h : 0 ≤ j ∧ j ≤ 5) : j = 0 ∨ j = 1 ∨ j = 2 ∨ j = 3 ∨ j = 4 ∨ j = 5 := by omega
/-- The opposite of a comparison. -/
def notK (j : Int) : Int := if j = 0 then 1 else if j = 1 then 0 else 7 - j
theorem holds_not {j u v : Int} (hj : 0 ≤ j ∧ j ≤ 5) (h : ¬ holdsB j u v = true) : holdsB (notK j) u v = true := by
  rcases six hj with rfl | rfl | rfl | rfl | rfl | rfl <;> simp [holdsB, notK] at h ⊢ <;> omega
set_option maxRecDepth 100000 in
theorem law_parts (a b : Iv) (n m k : Int) (hn : 0 ≤ n ∧ n ≤ 18446744073709551615) (hm : 0 ≤ m ∧ m ≤ 18446744073709551615) (hk : 0 ≤ k ∧ k ≤ 255) (ra : inR a = true) (rb : inR b = true) (w : World) : Calls Try.prog 4 #[.agg #[.bool a.s, .int .i64 a.lo, .int .i64 a.hi], .agg #[.bool b.s, .int .i64 b.lo, .int .i64 b.hi], .int .u64 n, .int .u64 m, .int .u8 k] w fun e w' => e = .returned (.bool true) ∧ Below w.heap.size w w' := by
  have hu := Try.underlying23
  have ox := inR_ok ra
  have oy := inR_ok rb
  have hxx : nrm (nrm a) = nrm a := nrm_nrm a
  have hyy : nrm (nrm b) = nrm b := nrm_nrm b
  obtain ⟨x, hx⟩ : ∃ x, Hid (nrm a = x) := ⟨_, Lib.hid rfl⟩
  obtain ⟨y, hy⟩ : ∃ y, Hid (nrm b = y) := ⟨_, Lib.hid rfl⟩
  rw [hx.out] at ox hxx
  rw [hy.out] at oy hyy
  obtain ⟨j, hj⟩ : ∃ j, Int.tmod k 6 = j := ⟨_, rfl⟩
  have hj0 : 0 ≤ j ∧ j ≤ 5 := by
    have h1 := Int.tmod_nonneg 6 hk.1
    have h2 := Int.tmod_lt_of_pos k (show (0 : Int) < 6 by decide)
    omega
  have e1 : IntKind.u8.wrap j = j := by rw [IntKind.wrap_u8]; omega
  have e2 : wrap64 j = j := by unfold wrap64; omega
  have hj6 := Lib.hid (six hj0)
  obtain ⟨o, ho⟩ : ∃ o, Hid (notK j = o) := ⟨_, Lib.hid rfl⟩
  have ho5 : 0 ≤ o ∧ o ≤ 5 := by rw [← ho.out]; unfold notK; split <;> (try split) <;> omega
  have hhas : ∀ u v, hasI x u = true → hasI y v = true → holdsB j u v = true → hasI (lessI j x y).1 u = true ∧ hasI (lessI j x y).2 v = true := fun u v h1 h2 h3 => less_has ox oy h1 h2 hj0 h3
  have hhas2 : ∀ u v, hasI x u = true → hasI y v = true → ¬ holdsB j u v = true → hasI (lessI o x y).1 u = true ∧ hasI (lessI o x y).2 v = true := fun u v h1 h2 h3 => less_has ox oy h1 h2 ho5 (by rw [← ho.out]; exact holds_not hj0 h3)
  obtain ⟨P, hP⟩ : ∃ P, Hid (lessI j x y = P) := ⟨_, Lib.hid rfl⟩
  obtain ⟨R, hR⟩ : ∃ P, Hid (lessI o x y = P) := ⟨_, Lib.hid rfl⟩
  rw [hP.out] at hhas
  rw [hR.out] at hhas2
  obtain ⟨p, q⟩ := P
  obtain ⟨r, s⟩ := R
  obtain ⟨xs, xl, xh⟩ := x
  obtain ⟨ys, yl, yh⟩ := y
  obtain ⟨ps, pl, ph⟩ := p
  obtain ⟨qs, ql, qh⟩ := q
  obtain ⟨rs, rl, rh⟩ := r
  obtain ⟨ss, sl, sh⟩ := s
  have rx : inR ⟨xs, xl, xh⟩ = true := ok_inR ox
  have ry : inR ⟨ys, yl, yh⟩ = true := ok_inR oy
  have hP' : Hid (lessI j (nrm ⟨xs, xl, xh⟩) (nrm ⟨ys, yl, yh⟩) = (⟨ps, pl, ph⟩, ⟨qs, ql, qh⟩)) := by rw [hxx, hyy]; exact hP
  have hR' : Hid (lessI o (nrm ⟨xs, xl, xh⟩) (nrm ⟨ys, yl, yh⟩) = (⟨rs, rl, rh⟩, ⟨ss, sl, sh⟩)) := by rw [hxx, hyy]; exact hR
  replace hhas := Lib.hid hhas
  replace hhas2 := Lib.hid hhas2
  replace ox := Lib.hid ox
  replace oy := Lib.hid oy
  replace hj0 := Lib.hid hj0
  replace ho5 := Lib.hid ho5
  clear hxx hyy hP hR
  go_enter Try.func4, Try.ntmps4
  go_upto_region 3 with (first | (go_at_call 10; (with_reducible refine (known_any _).mono ?_); rintro e w' ⟨rfl, hB⟩; have Qa := Box.keep (g := w.heap.size) (x := a) hB ⟨by go_simp, by go_simp, by go_simp, by go_simp, by go_simp, by go_simp⟩; have Qd := Box.keep (g := w.heap.size + 1) (x := b) hB ⟨by go_simp, by go_simp, by go_simp, by go_simp, by go_simp, by go_simp⟩; replace hB0 := below_call (w := w) (by first | (with_reducible assumption) | ((try go_grown); (all_goals (repeat' (first | (with_reducible assumption) | (refine below_call ?_ (by assumption); (try go_grown))))); all_goals (first | omega | (simp; omega)))) hB; clear hB; (try clear a0 a1 a2 a3 a4 a5); (try clear d0 d1 d2 d3 d4 d5); have la0 := Box.lt Qa; have la1 := Nat.lt_succ_of_lt la0; have la2 := Nat.lt_succ_of_lt la1; obtain ⟨a0, a1, a2, a3, a4, a5⟩ := Qa; have ld0 := Box.lt Qd; have ld1 := Nat.lt_succ_of_lt ld0; have ld2 := Nat.lt_succ_of_lt ld1; obtain ⟨d0, d1, d2, d3, d4, d5⟩ := Qd))
  go_cut [] (fun wc => Box wc (w.heap.size) (⟨xs, xl, xh⟩) ∧ Box wc (w.heap.size + 1) (⟨ys, yl, yh⟩) ∧ Below w.heap.size w wc)
  case first =>
    go_wp2
    go_region_with ((first | (go_at_call 11; (with_reducible refine (rnorm_any a.s a.lo a.hi ⟨xs, xl, xh⟩ hx _).mono ?_)) | (go_at_call 11; (with_reducible refine (rnorm_any b.s b.lo b.hi ⟨ys, yl, yh⟩ hy _).mono ?_))); rintro e w' ⟨rfl, hB⟩; obtain ⟨hc, hf, hs⟩ := bcell hB; clear hs; (try simp only [World.size_drew, World.size_alloc] at hc hf); obtain ⟨hz0_0, hz0_1, hz0_2, hz1_0, hz1_1, hz1_2⟩ : w.heap.size < w'.heap.size ∧ w.heap.size < w'.heap.size + 1 ∧ w.heap.size < w'.heap.size + 1 + 1 ∧ w.heap.size + 1 < w'.heap.size ∧ w.heap.size + 1 < w'.heap.size + 1 ∧ w.heap.size + 1 < w'.heap.size + 1 + 1 := by { have := hB.size; (try simp at this); omega })
    all_goals
      go_wp2
      go_meet
      case rel => exact ⟨⟨by go_simp, by go_simp, by go_simp, by go_simp, by go_simp, by go_simp⟩, ⟨by go_simp, by go_simp, by go_simp, by go_simp, by go_simp, by go_simp⟩, by first | (with_reducible assumption) | ((try go_grown); (all_goals (repeat' (first | (with_reducible assumption) | (refine below_call ?_ (by assumption); (try go_grown))))); all_goals (first | omega | (simp; omega)))⟩
  case rest =>
    (try clear hB0); (try clear a0 a1 a2 a3 a4 a5); (try clear d0 d1 d2 d3 d4 d5)
    obtain ⟨Qa, Qd, hB0⟩ := hcut
    have la0 := Box.lt Qa
    obtain ⟨a0, a1, a2, a3, a4, a5⟩ := Qa
    have ld0 := Box.lt Qd
    obtain ⟨d0, d1, d2, d3, d4, d5⟩ := Qd
    by_cases hxy : ¬ (xs = true ∧ ys = true)
    · have hxy' : xs = false ∨ xs = true ∧ ys = false := by
        cases xs <;> cases ys <;> simp_all
      rcases hxy' with rfl | ⟨rfl, rfl⟩
      · clear hxy hhas hhas2
        go_wp2_with fail
        go_returns
        exact ⟨by simp, by first | (with_reducible assumption) | ((try go_grown); (all_goals (repeat' (first | (with_reducible assumption) | (refine below_call ?_ (by assumption); (try go_grown))))); all_goals (first | omega | (simp; omega)))⟩
      · clear hxy hhas hhas2
        go_wp2_with fail
        go_returns
        exact ⟨by simp, by first | (with_reducible assumption) | ((try go_grown); (all_goals (repeat' (first | (with_reducible assumption) | (refine below_call ?_ (by assumption); (try go_grown))))); all_goals (first | omega | (simp; omega)))⟩
    obtain ⟨rfl, rfl⟩ := Classical.not_not.1 hxy
    clear hxy
    go_upto_region 6 with (fail)
    go_cut [11] (fun v wd => v = .int .i64 j ∧ Box wd (w.heap.size) (⟨true, xl, xh⟩) ∧ Box wd (w.heap.size + 1) (⟨true, yl, yh⟩) ∧ Below w.heap.size w wd)
    case first =>
      go_wp2_with fail
      go_meet
      case rel => exact ⟨by first | rfl | simp [*], ⟨by go_simp, by go_simp, by go_simp, by go_simp, by go_simp, by go_simp⟩, ⟨by go_simp, by go_simp, by go_simp, by go_simp, by go_simp, by go_simp⟩, by first | (with_reducible assumption) | ((try go_grown); (all_goals (repeat' (first | (with_reducible assumption) | (refine below_call ?_ (by assumption); (try go_grown))))); all_goals (first | omega | (simp; omega)))⟩
    case rest =>
      (try clear hB0); (try clear a0 a1 a2 a3 a4 a5); (try clear d0 d1 d2 d3 d4 d5)
      obtain ⟨rfl, Qa, Qd, hB0⟩ := hcut
      have la0 := Box.lt Qa
      obtain ⟨a0, a1, a2, a3, a4, a5⟩ := Qa
      have ld0 := Box.lt Qd
      obtain ⟨d0, d1, d2, d3, d4, d5⟩ := Qd
      go_upto_region 7 with (fail)
      go_cut [12] (fun v wd => v = .int .i64 o ∧ Box wd (w.heap.size) (⟨true, xl, xh⟩) ∧ Box wd (w.heap.size + 1) (⟨true, yl, yh⟩) ∧ Below w.heap.size w wd)
      case first =>
        rcases hj6.out with h | h | h | h | h | h
        all_goals
          subst h
          go_wp2_with fail
          go_meet
          case rel => exact ⟨congrArg (Value.int IntKind.i64) (by rw [← ho.out]; decide), ⟨by go_simp, by go_simp, by go_simp, by go_simp, by go_simp, by go_simp⟩, ⟨by go_simp, by go_simp, by go_simp, by go_simp, by go_simp, by go_simp⟩, by first | (with_reducible assumption) | ((try go_grown); (all_goals (repeat' (first | (with_reducible assumption) | (refine below_call ?_ (by assumption); (try go_grown))))); all_goals (first | omega | (simp; omega)))⟩
      case rest =>
        (try clear hB0); (try clear a0 a1 a2 a3 a4 a5); (try clear d0 d1 d2 d3 d4 d5)
        obtain ⟨rfl, Qa, Qd, hB0⟩ := hcut
        have la0 := Box.lt Qa
        obtain ⟨a0, a1, a2, a3, a4, a5⟩ := Qa
        have ld0 := Box.lt Qd
        obtain ⟨d0, d1, d2, d3, d4, d5⟩ := Qd
        go_upto_region 8 with (fail)
        go_cut [13, 14] (fun v1 v2 wd => ∃ u v : Int, v1 = .int .i64 u ∧ v2 = .int .i64 v ∧ Aside (hasI ⟨true, xl, xh⟩ u = true ∧ hasI ⟨true, yl, yh⟩ v = true) ∧ Box wd (w.heap.size) (⟨true, xl, xh⟩) ∧ Box wd (w.heap.size + 1) (⟨true, yl, yh⟩) ∧ Below w.heap.size w wd)
        case first =>
          go_wp2_with fail
          go_region_held3 (fun w' => w'.cell? ⟨w.heap.size, 0, none⟩ = some (.bool true) ∧ w'.cell? ⟨w.heap.size, 1, none⟩ = some (.int .i64 xl) ∧ w'.cell? ⟨w.heap.size, 2, none⟩ = some (.int .i64 xh) ∧ w'.cell? ⟨w.heap.size + 1, 0, none⟩ = some (.bool true) ∧ w'.cell? ⟨w.heap.size + 1, 1, none⟩ = some (.int .i64 yl) ∧ w'.cell? ⟨w.heap.size + 1, 2, none⟩ = some (.int .i64 yh) ∧ Below w.heap.size w w') ((refine ⟨?_, ?_, ?_, ?_, ?_, ?_, ?_⟩ <;> first | (go_simp; done) | (first | (with_reducible assumption) | ((try go_grown); (all_goals (repeat' (first | (with_reducible assumption) | (refine below_call ?_ (by assumption); (try go_grown))))); all_goals (first | omega | (simp; omega)))))) (first | (go_at_call 14; (with_reducible refine (in_any ⟨true, xl, xh⟩ n ox.out rfl hn.1 hn.2 _).mono ?_); rintro e w' ⟨z1, hz1, rfl, hB⟩; obtain ⟨hc, hf, hs⟩ := bcell hB; clear hs; (try simp only [World.size_drew, World.size_alloc] at hc hf); have hB9 : Below w.heap.size w w' := below_call (w := w) (by first | (with_reducible assumption) | go_grown) hB; obtain ⟨hz_0_0, hz_0_1, hz_1_0, hz_1_1⟩ : w.heap.size < w'.heap.size ∧ w.heap.size < w'.heap.size + 1 ∧ w.heap.size + 1 < w'.heap.size ∧ w.heap.size + 1 < w'.heap.size + 1 := by { have := hB.size; (try simp at this); omega }) | (go_at_call 14; (with_reducible refine (in_any ⟨true, yl, yh⟩ m oy.out rfl hm.1 hm.2 _).mono ?_); rintro e w' ⟨z2, hz2, rfl, hB⟩; obtain ⟨hc, hf, hs⟩ := bcell hB; clear hs; (try simp only [World.size_drew, World.size_alloc] at hc hf); have hB9 : Below w.heap.size w w' := below_call (w := w) (by first | (with_reducible assumption) | go_grown) hB; obtain ⟨hz_0_0, hz_0_1, hz_1_0, hz_1_1⟩ : w.heap.size < w'.heap.size ∧ w.heap.size < w'.heap.size + 1 ∧ w.heap.size + 1 < w'.heap.size ∧ w.heap.size + 1 < w'.heap.size + 1 := by { have := hB.size; (try simp at this); omega }))
          go_wp2_with fail
          go_meet
          case rel => exact ⟨_, _, rfl, rfl, ⟨(has_iff _ _).2 ⟨rfl, hz1.out⟩, (has_iff _ _).2 ⟨rfl, hz2.out⟩⟩, ⟨by go_simp, by go_simp, by go_simp, by go_simp, by go_simp, by go_simp⟩, ⟨by go_simp, by go_simp, by go_simp, by go_simp, by go_simp, by go_simp⟩, by first | (with_reducible assumption) | ((try go_grown); (all_goals (repeat' (first | (with_reducible assumption) | (refine below_call ?_ (by assumption); (try go_grown))))); all_goals (first | omega | (simp; omega)))⟩
        case rest =>
          (try clear hB0); (try clear a0 a1 a2 a3 a4 a5); (try clear d0 d1 d2 d3 d4 d5)
          obtain ⟨u, v, rfl, rfl, huv, Qa, Qd, hB0⟩ := hcut
          have la0 := Box.lt Qa
          obtain ⟨a0, a1, a2, a3, a4, a5⟩ := Qa
          have ld0 := Box.lt Qd
          obtain ⟨d0, d1, d2, d3, d4, d5⟩ := Qd
          go_upto_region 9 with (fail)
          go_cut [15, 16] (fun v1 v2 wd => ∃ g15 g16 : Nat, v1 = .pointer (some ⟨g15, 0, none⟩) ∧ v2 = .pointer (some ⟨g16, 0, none⟩) ∧ Box wd (w.heap.size) (⟨true, xl, xh⟩) ∧ Box wd (w.heap.size + 1) (⟨true, yl, yh⟩) ∧ Box wd (g15) (⟨ps, pl, ph⟩) ∧ Box wd (g16) (⟨qs, ql, qh⟩) ∧ Below w.heap.size w wd)
          case first =>
            go_wp2_with (first | (go_at_call 12; (with_reducible refine (less_any j ⟨true, xl, xh⟩ ⟨true, yl, yh⟩ rx ry (⟨ps, pl, ph⟩, ⟨qs, ql, qh⟩) hP'.out _).mono ?_); rintro e w' ⟨rfl, hB⟩; have Qa := Box.keep (g := w.heap.size) (x := ⟨true, xl, xh⟩) hB ⟨by go_simp, by go_simp, by go_simp, by go_simp, by go_simp, by go_simp⟩; have Qd := Box.keep (g := w.heap.size + 1) (x := ⟨true, yl, yh⟩) hB ⟨by go_simp, by go_simp, by go_simp, by go_simp, by go_simp, by go_simp⟩; replace hB0 := below_call (w := w) (by first | (with_reducible assumption) | ((try go_grown); (all_goals (repeat' (first | (with_reducible assumption) | (refine below_call ?_ (by assumption); (try go_grown))))); all_goals (first | omega | (simp; omega)))) hB; clear hB; (try clear a0 a1 a2 a3 a4 a5); (try clear d0 d1 d2 d3 d4 d5); have la0 := Box.lt Qa; have la1 := Nat.lt_succ_of_lt la0; have la2 := Nat.lt_succ_of_lt la1; obtain ⟨a0, a1, a2, a3, a4, a5⟩ := Qa; have ld0 := Box.lt Qd; have ld1 := Nat.lt_succ_of_lt ld0; have ld2 := Nat.lt_succ_of_lt ld1; obtain ⟨d0, d1, d2, d3, d4, d5⟩ := Qd))
            go_meet
            case rel => exact ⟨_, _, rfl, rfl, ⟨by go_simp, by go_simp, by go_simp, by go_simp, by go_simp, by go_simp⟩, ⟨by go_simp, by go_simp, by go_simp, by go_simp, by go_simp, by go_simp⟩, ⟨by go_simp, by go_simp, by go_simp, by go_simp, by go_simp, by go_simp⟩, ⟨by go_simp, by go_simp, by go_simp, by go_simp, by go_simp, by go_simp⟩, by first | (with_reducible assumption) | ((try go_grown); (all_goals (repeat' (first | (with_reducible assumption) | (refine below_call ?_ (by assumption); (try go_grown))))); all_goals (first | omega | (simp; omega)))⟩
          case rest =>
            (try clear hB0); (try clear a0 a1 a2 a3 a4 a5); (try clear d0 d1 d2 d3 d4 d5)
            obtain ⟨g15, g16, rfl, rfl, Qa, Qd, Qe, Qr, hB0⟩ := hcut
            have la0 := Box.lt Qa
            obtain ⟨a0, a1, a2, a3, a4, a5⟩ := Qa
            have ld0 := Box.lt Qd
            obtain ⟨d0, d1, d2, d3, d4, d5⟩ := Qd
            have le0 := Box.lt Qe
            obtain ⟨e0, e1, e2, e3, e4, e5⟩ := Qe
            have lr0 := Box.lt Qr
            obtain ⟨r0, r1, r2, r3, r4, r5⟩ := Qr
            go_upto_region 10 with (fail)
            go_cut [17, 18] (fun v1 v2 wd => ∃ g17 g18 : Nat, v1 = .pointer (some ⟨g17, 0, none⟩) ∧ v2 = .pointer (some ⟨g18, 0, none⟩) ∧ Box wd (w.heap.size) (⟨true, xl, xh⟩) ∧ Box wd (w.heap.size + 1) (⟨true, yl, yh⟩) ∧ Box wd (g15) (⟨ps, pl, ph⟩) ∧ Box wd (g16) (⟨qs, ql, qh⟩) ∧ Box wd (g17) (⟨rs, rl, rh⟩) ∧ Box wd (g18) (⟨ss, sl, sh⟩) ∧ Below w.heap.size w wd)
            case first =>
              go_wp2_with (first | (go_at_call 12; (with_reducible refine (less_any o ⟨true, xl, xh⟩ ⟨true, yl, yh⟩ rx ry (⟨rs, rl, rh⟩, ⟨ss, sl, sh⟩) hR'.out _).mono ?_); rintro e w' ⟨rfl, hB⟩; have Qa := Box.keep (g := w.heap.size) (x := ⟨true, xl, xh⟩) hB ⟨by go_simp, by go_simp, by go_simp, by go_simp, by go_simp, by go_simp⟩; have Qd := Box.keep (g := w.heap.size + 1) (x := ⟨true, yl, yh⟩) hB ⟨by go_simp, by go_simp, by go_simp, by go_simp, by go_simp, by go_simp⟩; have Qe := Box.keep (g := g15) (x := ⟨ps, pl, ph⟩) hB ⟨by go_simp, by go_simp, by go_simp, by go_simp, by go_simp, by go_simp⟩; have Qr := Box.keep (g := g16) (x := ⟨qs, ql, qh⟩) hB ⟨by go_simp, by go_simp, by go_simp, by go_simp, by go_simp, by go_simp⟩; replace hB0 := below_call (w := w) (by first | (with_reducible assumption) | ((try go_grown); (all_goals (repeat' (first | (with_reducible assumption) | (refine below_call ?_ (by assumption); (try go_grown))))); all_goals (first | omega | (simp; omega)))) hB; clear hB; (try clear a0 a1 a2 a3 a4 a5); (try clear d0 d1 d2 d3 d4 d5); (try clear e0 e1 e2 e3 e4 e5); (try clear r0 r1 r2 r3 r4 r5); have la0 := Box.lt Qa; have la1 := Nat.lt_succ_of_lt la0; have la2 := Nat.lt_succ_of_lt la1; obtain ⟨a0, a1, a2, a3, a4, a5⟩ := Qa; have ld0 := Box.lt Qd; have ld1 := Nat.lt_succ_of_lt ld0; have ld2 := Nat.lt_succ_of_lt ld1; obtain ⟨d0, d1, d2, d3, d4, d5⟩ := Qd; have le0 := Box.lt Qe; have le1 := Nat.lt_succ_of_lt le0; have le2 := Nat.lt_succ_of_lt le1; obtain ⟨e0, e1, e2, e3, e4, e5⟩ := Qe; have lr0 := Box.lt Qr; have lr1 := Nat.lt_succ_of_lt lr0; have lr2 := Nat.lt_succ_of_lt lr1; obtain ⟨r0, r1, r2, r3, r4, r5⟩ := Qr))
              go_meet
              case rel => exact ⟨_, _, rfl, rfl, ⟨by go_simp, by go_simp, by go_simp, by go_simp, by go_simp, by go_simp⟩, ⟨by go_simp, by go_simp, by go_simp, by go_simp, by go_simp, by go_simp⟩, ⟨by go_simp, by go_simp, by go_simp, by go_simp, by go_simp, by go_simp⟩, ⟨by go_simp, by go_simp, by go_simp, by go_simp, by go_simp, by go_simp⟩, ⟨by go_simp, by go_simp, by go_simp, by go_simp, by go_simp, by go_simp⟩, ⟨by go_simp, by go_simp, by go_simp, by go_simp, by go_simp, by go_simp⟩, by first | (with_reducible assumption) | ((try go_grown); (all_goals (repeat' (first | (with_reducible assumption) | (refine below_call ?_ (by assumption); (try go_grown))))); all_goals (first | omega | (simp; omega)))⟩
            case rest =>
              (try clear hB0); (try clear a0 a1 a2 a3 a4 a5); (try clear d0 d1 d2 d3 d4 d5); (try clear e0 e1 e2 e3 e4 e5); (try clear r0 r1 r2 r3 r4 r5)
              obtain ⟨g17, g18, rfl, rfl, Qa, Qd, Qe, Qr, Qo, Qp, hB0⟩ := hcut
              have la0 := Box.lt Qa
              obtain ⟨a0, a1, a2, a3, a4, a5⟩ := Qa
              have ld0 := Box.lt Qd
              obtain ⟨d0, d1, d2, d3, d4, d5⟩ := Qd
              have le0 := Box.lt Qe
              obtain ⟨e0, e1, e2, e3, e4, e5⟩ := Qe
              have lr0 := Box.lt Qr
              obtain ⟨r0, r1, r2, r3, r4, r5⟩ := Qr
              have lo0 := Box.lt Qo
              obtain ⟨o0, o1, o2, o3, o4, o5⟩ := Qo
              have lp0 := Box.lt Qp
              obtain ⟨p0, p1, p2, p3, p4, p5⟩ := Qp
              have huv' := huv.out
              clear huv
              by_cases hA : hasI ⟨ps, pl, ph⟩ u = true ∧ hasI ⟨qs, ql, qh⟩ v = true
              · have h1 : Hid (hasI ⟨ps, pl, ph⟩ u = true) := Lib.hid hA.1
                have h2 : Hid (hasI ⟨qs, ql, qh⟩ v = true) := Lib.hid hA.2
                clear hA huv'
                go_wp2_with (first | (go_at_call 16; (with_reducible refine (rhas_any ⟨ps, pl, ph⟩ u true h1 _).mono ?_); rintro e w' ⟨rfl, hB⟩; have Qa := Box.keep (g := w.heap.size) (x := ⟨true, xl, xh⟩) hB ⟨by go_simp, by go_simp, by go_simp, by go_simp, by go_simp, by go_simp⟩; have Qd := Box.keep (g := w.heap.size + 1) (x := ⟨true, yl, yh⟩) hB ⟨by go_simp, by go_simp, by go_simp, by go_simp, by go_simp, by go_simp⟩; have Qe := Box.keep (g := g15) (x := ⟨ps, pl, ph⟩) hB ⟨by go_simp, by go_simp, by go_simp, by go_simp, by go_simp, by go_simp⟩; have Qr := Box.keep (g := g16) (x := ⟨qs, ql, qh⟩) hB ⟨by go_simp, by go_simp, by go_simp, by go_simp, by go_simp, by go_simp⟩; have Qo := Box.keep (g := g17) (x := ⟨rs, rl, rh⟩) hB ⟨by go_simp, by go_simp, by go_simp, by go_simp, by go_simp, by go_simp⟩; have Qp := Box.keep (g := g18) (x := ⟨ss, sl, sh⟩) hB ⟨by go_simp, by go_simp, by go_simp, by go_simp, by go_simp, by go_simp⟩; replace hB0 := below_call (w := w) (by first | (with_reducible assumption) | ((try go_grown); (all_goals (repeat' (first | (with_reducible assumption) | (refine below_call ?_ (by assumption); (try go_grown))))); all_goals (first | omega | (simp; omega)))) hB; clear hB; (try clear a0 a1 a2 a3 a4 a5); (try clear d0 d1 d2 d3 d4 d5); (try clear e0 e1 e2 e3 e4 e5); (try clear r0 r1 r2 r3 r4 r5); (try clear o0 o1 o2 o3 o4 o5); (try clear p0 p1 p2 p3 p4 p5); have la0 := Box.lt Qa; have la1 := Nat.lt_succ_of_lt la0; have la2 := Nat.lt_succ_of_lt la1; obtain ⟨a0, a1, a2, a3, a4, a5⟩ := Qa; have ld0 := Box.lt Qd; have ld1 := Nat.lt_succ_of_lt ld0; have ld2 := Nat.lt_succ_of_lt ld1; obtain ⟨d0, d1, d2, d3, d4, d5⟩ := Qd; have le0 := Box.lt Qe; have le1 := Nat.lt_succ_of_lt le0; have le2 := Nat.lt_succ_of_lt le1; obtain ⟨e0, e1, e2, e3, e4, e5⟩ := Qe; have lr0 := Box.lt Qr; have lr1 := Nat.lt_succ_of_lt lr0; have lr2 := Nat.lt_succ_of_lt lr1; obtain ⟨r0, r1, r2, r3, r4, r5⟩ := Qr; have lo0 := Box.lt Qo; have lo1 := Nat.lt_succ_of_lt lo0; have lo2 := Nat.lt_succ_of_lt lo1; obtain ⟨o0, o1, o2, o3, o4, o5⟩ := Qo; have lp0 := Box.lt Qp; have lp1 := Nat.lt_succ_of_lt lp0; have lp2 := Nat.lt_succ_of_lt lp1; obtain ⟨p0, p1, p2, p3, p4, p5⟩ := Qp) | (go_at_call 16; (with_reducible refine (rhas_any ⟨qs, ql, qh⟩ v true h2 _).mono ?_); rintro e w' ⟨rfl, hB⟩; have Qa := Box.keep (g := w.heap.size) (x := ⟨true, xl, xh⟩) hB ⟨by go_simp, by go_simp, by go_simp, by go_simp, by go_simp, by go_simp⟩; have Qd := Box.keep (g := w.heap.size + 1) (x := ⟨true, yl, yh⟩) hB ⟨by go_simp, by go_simp, by go_simp, by go_simp, by go_simp, by go_simp⟩; have Qe := Box.keep (g := g15) (x := ⟨ps, pl, ph⟩) hB ⟨by go_simp, by go_simp, by go_simp, by go_simp, by go_simp, by go_simp⟩; have Qr := Box.keep (g := g16) (x := ⟨qs, ql, qh⟩) hB ⟨by go_simp, by go_simp, by go_simp, by go_simp, by go_simp, by go_simp⟩; have Qo := Box.keep (g := g17) (x := ⟨rs, rl, rh⟩) hB ⟨by go_simp, by go_simp, by go_simp, by go_simp, by go_simp, by go_simp⟩; have Qp := Box.keep (g := g18) (x := ⟨ss, sl, sh⟩) hB ⟨by go_simp, by go_simp, by go_simp, by go_simp, by go_simp, by go_simp⟩; replace hB0 := below_call (w := w) (by first | (with_reducible assumption) | ((try go_grown); (all_goals (repeat' (first | (with_reducible assumption) | (refine below_call ?_ (by assumption); (try go_grown))))); all_goals (first | omega | (simp; omega)))) hB; clear hB; (try clear a0 a1 a2 a3 a4 a5); (try clear d0 d1 d2 d3 d4 d5); (try clear e0 e1 e2 e3 e4 e5); (try clear r0 r1 r2 r3 r4 r5); (try clear o0 o1 o2 o3 o4 o5); (try clear p0 p1 p2 p3 p4 p5); have la0 := Box.lt Qa; have la1 := Nat.lt_succ_of_lt la0; have la2 := Nat.lt_succ_of_lt la1; obtain ⟨a0, a1, a2, a3, a4, a5⟩ := Qa; have ld0 := Box.lt Qd; have ld1 := Nat.lt_succ_of_lt ld0; have ld2 := Nat.lt_succ_of_lt ld1; obtain ⟨d0, d1, d2, d3, d4, d5⟩ := Qd; have le0 := Box.lt Qe; have le1 := Nat.lt_succ_of_lt le0; have le2 := Nat.lt_succ_of_lt le1; obtain ⟨e0, e1, e2, e3, e4, e5⟩ := Qe; have lr0 := Box.lt Qr; have lr1 := Nat.lt_succ_of_lt lr0; have lr2 := Nat.lt_succ_of_lt lr1; obtain ⟨r0, r1, r2, r3, r4, r5⟩ := Qr; have lo0 := Box.lt Qo; have lo1 := Nat.lt_succ_of_lt lo0; have lo2 := Nat.lt_succ_of_lt lo1; obtain ⟨o0, o1, o2, o3, o4, o5⟩ := Qo; have lp0 := Box.lt Qp; have lp1 := Nat.lt_succ_of_lt lp0; have lp2 := Nat.lt_succ_of_lt lp1; obtain ⟨p0, p1, p2, p3, p4, p5⟩ := Qp))
                go_returns
                exact ⟨by simp, by first | (with_reducible assumption) | ((try go_grown); (all_goals (repeat' (first | (with_reducible assumption) | (refine below_call ?_ (by assumption); (try go_grown))))); all_goals (first | omega | (simp; omega)))⟩
              · have hno : ¬ holdsB j u v = true := fun h => hA (hhas.out u v huv'.1 huv'.2 h)
                have hh := hhas2.out u v huv'.1 huv'.2 hno
                have h3 : Hid (hasI ⟨rs, rl, rh⟩ u = true) := Lib.hid hh.1
                have h4 : Hid (hasI ⟨ss, sl, sh⟩ v = true) := Lib.hid hh.2
                have hB' : hasI ⟨ps, pl, ph⟩ u = false ∨ hasI ⟨ps, pl, ph⟩ u = true ∧ hasI ⟨qs, ql, qh⟩ v = false := by
                  cases c1 : hasI ⟨ps, pl, ph⟩ u
                  · exact .inl rfl
                  · refine .inr ⟨rfl, ?_⟩
                    cases c2 : hasI ⟨qs, ql, qh⟩ v
                    · rfl
                    · exact absurd ⟨c1, c2⟩ hA
                clear hA huv' hh hno
                rcases hB' with h1 | ⟨h1, h2⟩
                · replace h1 := Lib.hid h1
                  go_wp2_with (first | (go_at_call 16; (with_reducible refine (rhas_any ⟨ps, pl, ph⟩ u false h1 _).mono ?_); rintro e w' ⟨rfl, hB⟩; have Qa := Box.keep (g := w.heap.size) (x := ⟨true, xl, xh⟩) hB ⟨by go_simp, by go_simp, by go_simp, by go_simp, by go_simp, by go_simp⟩; have Qd := Box.keep (g := w.heap.size + 1) (x := ⟨true, yl, yh⟩) hB ⟨by go_simp, by go_simp, by go_simp, by go_simp, by go_simp, by go_simp⟩; have Qe := Box.keep (g := g15) (x := ⟨ps, pl, ph⟩) hB ⟨by go_simp, by go_simp, by go_simp, by go_simp, by go_simp, by go_simp⟩; have Qr := Box.keep (g := g16) (x := ⟨qs, ql, qh⟩) hB ⟨by go_simp, by go_simp, by go_simp, by go_simp, by go_simp, by go_simp⟩; have Qo := Box.keep (g := g17) (x := ⟨rs, rl, rh⟩) hB ⟨by go_simp, by go_simp, by go_simp, by go_simp, by go_simp, by go_simp⟩; have Qp := Box.keep (g := g18) (x := ⟨ss, sl, sh⟩) hB ⟨by go_simp, by go_simp, by go_simp, by go_simp, by go_simp, by go_simp⟩; replace hB0 := below_call (w := w) (by first | (with_reducible assumption) | ((try go_grown); (all_goals (repeat' (first | (with_reducible assumption) | (refine below_call ?_ (by assumption); (try go_grown))))); all_goals (first | omega | (simp; omega)))) hB; clear hB; (try clear a0 a1 a2 a3 a4 a5); (try clear d0 d1 d2 d3 d4 d5); (try clear e0 e1 e2 e3 e4 e5); (try clear r0 r1 r2 r3 r4 r5); (try clear o0 o1 o2 o3 o4 o5); (try clear p0 p1 p2 p3 p4 p5); have la0 := Box.lt Qa; have la1 := Nat.lt_succ_of_lt la0; have la2 := Nat.lt_succ_of_lt la1; obtain ⟨a0, a1, a2, a3, a4, a5⟩ := Qa; have ld0 := Box.lt Qd; have ld1 := Nat.lt_succ_of_lt ld0; have ld2 := Nat.lt_succ_of_lt ld1; obtain ⟨d0, d1, d2, d3, d4, d5⟩ := Qd; have le0 := Box.lt Qe; have le1 := Nat.lt_succ_of_lt le0; have le2 := Nat.lt_succ_of_lt le1; obtain ⟨e0, e1, e2, e3, e4, e5⟩ := Qe; have lr0 := Box.lt Qr; have lr1 := Nat.lt_succ_of_lt lr0; have lr2 := Nat.lt_succ_of_lt lr1; obtain ⟨r0, r1, r2, r3, r4, r5⟩ := Qr; have lo0 := Box.lt Qo; have lo1 := Nat.lt_succ_of_lt lo0; have lo2 := Nat.lt_succ_of_lt lo1; obtain ⟨o0, o1, o2, o3, o4, o5⟩ := Qo; have lp0 := Box.lt Qp; have lp1 := Nat.lt_succ_of_lt lp0; have lp2 := Nat.lt_succ_of_lt lp1; obtain ⟨p0, p1, p2, p3, p4, p5⟩ := Qp) | (go_at_call 16; (with_reducible refine (rhas_any ⟨rs, rl, rh⟩ u true h3 _).mono ?_); rintro e w' ⟨rfl, hB⟩; have Qa := Box.keep (g := w.heap.size) (x := ⟨true, xl, xh⟩) hB ⟨by go_simp, by go_simp, by go_simp, by go_simp, by go_simp, by go_simp⟩; have Qd := Box.keep (g := w.heap.size + 1) (x := ⟨true, yl, yh⟩) hB ⟨by go_simp, by go_simp, by go_simp, by go_simp, by go_simp, by go_simp⟩; have Qe := Box.keep (g := g15) (x := ⟨ps, pl, ph⟩) hB ⟨by go_simp, by go_simp, by go_simp, by go_simp, by go_simp, by go_simp⟩; have Qr := Box.keep (g := g16) (x := ⟨qs, ql, qh⟩) hB ⟨by go_simp, by go_simp, by go_simp, by go_simp, by go_simp, by go_simp⟩; have Qo := Box.keep (g := g17) (x := ⟨rs, rl, rh⟩) hB ⟨by go_simp, by go_simp, by go_simp, by go_simp, by go_simp, by go_simp⟩; have Qp := Box.keep (g := g18) (x := ⟨ss, sl, sh⟩) hB ⟨by go_simp, by go_simp, by go_simp, by go_simp, by go_simp, by go_simp⟩; replace hB0 := below_call (w := w) (by first | (with_reducible assumption) | ((try go_grown); (all_goals (repeat' (first | (with_reducible assumption) | (refine below_call ?_ (by assumption); (try go_grown))))); all_goals (first | omega | (simp; omega)))) hB; clear hB; (try clear a0 a1 a2 a3 a4 a5); (try clear d0 d1 d2 d3 d4 d5); (try clear e0 e1 e2 e3 e4 e5); (try clear r0 r1 r2 r3 r4 r5); (try clear o0 o1 o2 o3 o4 o5); (try clear p0 p1 p2 p3 p4 p5); have la0 := Box.lt Qa; have la1 := Nat.lt_succ_of_lt la0; have la2 := Nat.lt_succ_of_lt la1; obtain ⟨a0, a1, a2, a3, a4, a5⟩ := Qa; have ld0 := Box.lt Qd; have ld1 := Nat.lt_succ_of_lt ld0; have ld2 := Nat.lt_succ_of_lt ld1; obtain ⟨d0, d1, d2, d3, d4, d5⟩ := Qd; have le0 := Box.lt Qe; have le1 := Nat.lt_succ_of_lt le0; have le2 := Nat.lt_succ_of_lt le1; obtain ⟨e0, e1, e2, e3, e4, e5⟩ := Qe; have lr0 := Box.lt Qr; have lr1 := Nat.lt_succ_of_lt lr0; have lr2 := Nat.lt_succ_of_lt lr1; obtain ⟨r0, r1, r2, r3, r4, r5⟩ := Qr; have lo0 := Box.lt Qo; have lo1 := Nat.lt_succ_of_lt lo0; have lo2 := Nat.lt_succ_of_lt lo1; obtain ⟨o0, o1, o2, o3, o4, o5⟩ := Qo; have lp0 := Box.lt Qp; have lp1 := Nat.lt_succ_of_lt lp0; have lp2 := Nat.lt_succ_of_lt lp1; obtain ⟨p0, p1, p2, p3, p4, p5⟩ := Qp) | (go_at_call 16; (with_reducible refine (rhas_any ⟨ss, sl, sh⟩ v true h4 _).mono ?_); rintro e w' ⟨rfl, hB⟩; have Qa := Box.keep (g := w.heap.size) (x := ⟨true, xl, xh⟩) hB ⟨by go_simp, by go_simp, by go_simp, by go_simp, by go_simp, by go_simp⟩; have Qd := Box.keep (g := w.heap.size + 1) (x := ⟨true, yl, yh⟩) hB ⟨by go_simp, by go_simp, by go_simp, by go_simp, by go_simp, by go_simp⟩; have Qe := Box.keep (g := g15) (x := ⟨ps, pl, ph⟩) hB ⟨by go_simp, by go_simp, by go_simp, by go_simp, by go_simp, by go_simp⟩; have Qr := Box.keep (g := g16) (x := ⟨qs, ql, qh⟩) hB ⟨by go_simp, by go_simp, by go_simp, by go_simp, by go_simp, by go_simp⟩; have Qo := Box.keep (g := g17) (x := ⟨rs, rl, rh⟩) hB ⟨by go_simp, by go_simp, by go_simp, by go_simp, by go_simp, by go_simp⟩; have Qp := Box.keep (g := g18) (x := ⟨ss, sl, sh⟩) hB ⟨by go_simp, by go_simp, by go_simp, by go_simp, by go_simp, by go_simp⟩; replace hB0 := below_call (w := w) (by first | (with_reducible assumption) | ((try go_grown); (all_goals (repeat' (first | (with_reducible assumption) | (refine below_call ?_ (by assumption); (try go_grown))))); all_goals (first | omega | (simp; omega)))) hB; clear hB; (try clear a0 a1 a2 a3 a4 a5); (try clear d0 d1 d2 d3 d4 d5); (try clear e0 e1 e2 e3 e4 e5); (try clear r0 r1 r2 r3 r4 r5); (try clear o0 o1 o2 o3 o4 o5); (try clear p0 p1 p2 p3 p4 p5); have la0 := Box.lt Qa; have la1 := Nat.lt_succ_of_lt la0; have la2 := Nat.lt_succ_of_lt la1; obtain ⟨a0, a1, a2, a3, a4, a5⟩ := Qa; have ld0 := Box.lt Qd; have ld1 := Nat.lt_succ_of_lt ld0; have ld2 := Nat.lt_succ_of_lt ld1; obtain ⟨d0, d1, d2, d3, d4, d5⟩ := Qd; have le0 := Box.lt Qe; have le1 := Nat.lt_succ_of_lt le0; have le2 := Nat.lt_succ_of_lt le1; obtain ⟨e0, e1, e2, e3, e4, e5⟩ := Qe; have lr0 := Box.lt Qr; have lr1 := Nat.lt_succ_of_lt lr0; have lr2 := Nat.lt_succ_of_lt lr1; obtain ⟨r0, r1, r2, r3, r4, r5⟩ := Qr; have lo0 := Box.lt Qo; have lo1 := Nat.lt_succ_of_lt lo0; have lo2 := Nat.lt_succ_of_lt lo1; obtain ⟨o0, o1, o2, o3, o4, o5⟩ := Qo; have lp0 := Box.lt Qp; have lp1 := Nat.lt_succ_of_lt lp0; have lp2 := Nat.lt_succ_of_lt lp1; obtain ⟨p0, p1, p2, p3, p4, p5⟩ := Qp))
                  go_returns
                  exact ⟨by simp, by first | (with_reducible assumption) | ((try go_grown); (all_goals (repeat' (first | (with_reducible assumption) | (refine below_call ?_ (by assumption); (try go_grown))))); all_goals (first | omega | (simp; omega)))⟩
                · replace h1 := Lib.hid h1
                  replace h2 := Lib.hid h2
                  go_wp2_with (first | (go_at_call 16; (with_reducible refine (rhas_any ⟨ps, pl, ph⟩ u true h1 _).mono ?_); rintro e w' ⟨rfl, hB⟩; have Qa := Box.keep (g := w.heap.size) (x := ⟨true, xl, xh⟩) hB ⟨by go_simp, by go_simp, by go_simp, by go_simp, by go_simp, by go_simp⟩; have Qd := Box.keep (g := w.heap.size + 1) (x := ⟨true, yl, yh⟩) hB ⟨by go_simp, by go_simp, by go_simp, by go_simp, by go_simp, by go_simp⟩; have Qe := Box.keep (g := g15) (x := ⟨ps, pl, ph⟩) hB ⟨by go_simp, by go_simp, by go_simp, by go_simp, by go_simp, by go_simp⟩; have Qr := Box.keep (g := g16) (x := ⟨qs, ql, qh⟩) hB ⟨by go_simp, by go_simp, by go_simp, by go_simp, by go_simp, by go_simp⟩; have Qo := Box.keep (g := g17) (x := ⟨rs, rl, rh⟩) hB ⟨by go_simp, by go_simp, by go_simp, by go_simp, by go_simp, by go_simp⟩; have Qp := Box.keep (g := g18) (x := ⟨ss, sl, sh⟩) hB ⟨by go_simp, by go_simp, by go_simp, by go_simp, by go_simp, by go_simp⟩; replace hB0 := below_call (w := w) (by first | (with_reducible assumption) | ((try go_grown); (all_goals (repeat' (first | (with_reducible assumption) | (refine below_call ?_ (by assumption); (try go_grown))))); all_goals (first | omega | (simp; omega)))) hB; clear hB; (try clear a0 a1 a2 a3 a4 a5); (try clear d0 d1 d2 d3 d4 d5); (try clear e0 e1 e2 e3 e4 e5); (try clear r0 r1 r2 r3 r4 r5); (try clear o0 o1 o2 o3 o4 o5); (try clear p0 p1 p2 p3 p4 p5); have la0 := Box.lt Qa; have la1 := Nat.lt_succ_of_lt la0; have la2 := Nat.lt_succ_of_lt la1; obtain ⟨a0, a1, a2, a3, a4, a5⟩ := Qa; have ld0 := Box.lt Qd; have ld1 := Nat.lt_succ_of_lt ld0; have ld2 := Nat.lt_succ_of_lt ld1; obtain ⟨d0, d1, d2, d3, d4, d5⟩ := Qd; have le0 := Box.lt Qe; have le1 := Nat.lt_succ_of_lt le0; have le2 := Nat.lt_succ_of_lt le1; obtain ⟨e0, e1, e2, e3, e4, e5⟩ := Qe; have lr0 := Box.lt Qr; have lr1 := Nat.lt_succ_of_lt lr0; have lr2 := Nat.lt_succ_of_lt lr1; obtain ⟨r0, r1, r2, r3, r4, r5⟩ := Qr; have lo0 := Box.lt Qo; have lo1 := Nat.lt_succ_of_lt lo0; have lo2 := Nat.lt_succ_of_lt lo1; obtain ⟨o0, o1, o2, o3, o4, o5⟩ := Qo; have lp0 := Box.lt Qp; have lp1 := Nat.lt_succ_of_lt lp0; have lp2 := Nat.lt_succ_of_lt lp1; obtain ⟨p0, p1, p2, p3, p4, p5⟩ := Qp) | (go_at_call 16; (with_reducible refine (rhas_any ⟨qs, ql, qh⟩ v false h2 _).mono ?_); rintro e w' ⟨rfl, hB⟩; have Qa := Box.keep (g := w.heap.size) (x := ⟨true, xl, xh⟩) hB ⟨by go_simp, by go_simp, by go_simp, by go_simp, by go_simp, by go_simp⟩; have Qd := Box.keep (g := w.heap.size + 1) (x := ⟨true, yl, yh⟩) hB ⟨by go_simp, by go_simp, by go_simp, by go_simp, by go_simp, by go_simp⟩; have Qe := Box.keep (g := g15) (x := ⟨ps, pl, ph⟩) hB ⟨by go_simp, by go_simp, by go_simp, by go_simp, by go_simp, by go_simp⟩; have Qr := Box.keep (g := g16) (x := ⟨qs, ql, qh⟩) hB ⟨by go_simp, by go_simp, by go_simp, by go_simp, by go_simp, by go_simp⟩; have Qo := Box.keep (g := g17) (x := ⟨rs, rl, rh⟩) hB ⟨by go_simp, by go_simp, by go_simp, by go_simp, by go_simp, by go_simp⟩; have Qp := Box.keep (g := g18) (x := ⟨ss, sl, sh⟩) hB ⟨by go_simp, by go_simp, by go_simp, by go_simp, by go_simp, by go_simp⟩; replace hB0 := below_call (w := w) (by first | (with_reducible assumption) | ((try go_grown); (all_goals (repeat' (first | (with_reducible assumption) | (refine below_call ?_ (by assumption); (try go_grown))))); all_goals (first | omega | (simp; omega)))) hB; clear hB; (try clear a0 a1 a2 a3 a4 a5); (try clear d0 d1 d2 d3 d4 d5); (try clear e0 e1 e2 e3 e4 e5); (try clear r0 r1 r2 r3 r4 r5); (try clear o0 o1 o2 o3 o4 o5); (try clear p0 p1 p2 p3 p4 p5); have la0 := Box.lt Qa; have la1 := Nat.lt_succ_of_lt la0; have la2 := Nat.lt_succ_of_lt la1; obtain ⟨a0, a1, a2, a3, a4, a5⟩ := Qa; have ld0 := Box.lt Qd; have ld1 := Nat.lt_succ_of_lt ld0; have ld2 := Nat.lt_succ_of_lt ld1; obtain ⟨d0, d1, d2, d3, d4, d5⟩ := Qd; have le0 := Box.lt Qe; have le1 := Nat.lt_succ_of_lt le0; have le2 := Nat.lt_succ_of_lt le1; obtain ⟨e0, e1, e2, e3, e4, e5⟩ := Qe; have lr0 := Box.lt Qr; have lr1 := Nat.lt_succ_of_lt lr0; have lr2 := Nat.lt_succ_of_lt lr1; obtain ⟨r0, r1, r2, r3, r4, r5⟩ := Qr; have lo0 := Box.lt Qo; have lo1 := Nat.lt_succ_of_lt lo0; have lo2 := Nat.lt_succ_of_lt lo1; obtain ⟨o0, o1, o2, o3, o4, o5⟩ := Qo; have lp0 := Box.lt Qp; have lp1 := Nat.lt_succ_of_lt lp0; have lp2 := Nat.lt_succ_of_lt lp1; obtain ⟨p0, p1, p2, p3, p4, p5⟩ := Qp) | (go_at_call 16; (with_reducible refine (rhas_any ⟨rs, rl, rh⟩ u true h3 _).mono ?_); rintro e w' ⟨rfl, hB⟩; have Qa := Box.keep (g := w.heap.size) (x := ⟨true, xl, xh⟩) hB ⟨by go_simp, by go_simp, by go_simp, by go_simp, by go_simp, by go_simp⟩; have Qd := Box.keep (g := w.heap.size + 1) (x := ⟨true, yl, yh⟩) hB ⟨by go_simp, by go_simp, by go_simp, by go_simp, by go_simp, by go_simp⟩; have Qe := Box.keep (g := g15) (x := ⟨ps, pl, ph⟩) hB ⟨by go_simp, by go_simp, by go_simp, by go_simp, by go_simp, by go_simp⟩; have Qr := Box.keep (g := g16) (x := ⟨qs, ql, qh⟩) hB ⟨by go_simp, by go_simp, by go_simp, by go_simp, by go_simp, by go_simp⟩; have Qo := Box.keep (g := g17) (x := ⟨rs, rl, rh⟩) hB ⟨by go_simp, by go_simp, by go_simp, by go_simp, by go_simp, by go_simp⟩; have Qp := Box.keep (g := g18) (x := ⟨ss, sl, sh⟩) hB ⟨by go_simp, by go_simp, by go_simp, by go_simp, by go_simp, by go_simp⟩; replace hB0 := below_call (w := w) (by first | (with_reducible assumption) | ((try go_grown); (all_goals (repeat' (first | (with_reducible assumption) | (refine below_call ?_ (by assumption); (try go_grown))))); all_goals (first | omega | (simp; omega)))) hB; clear hB; (try clear a0 a1 a2 a3 a4 a5); (try clear d0 d1 d2 d3 d4 d5); (try clear e0 e1 e2 e3 e4 e5); (try clear r0 r1 r2 r3 r4 r5); (try clear o0 o1 o2 o3 o4 o5); (try clear p0 p1 p2 p3 p4 p5); have la0 := Box.lt Qa; have la1 := Nat.lt_succ_of_lt la0; have la2 := Nat.lt_succ_of_lt la1; obtain ⟨a0, a1, a2, a3, a4, a5⟩ := Qa; have ld0 := Box.lt Qd; have ld1 := Nat.lt_succ_of_lt ld0; have ld2 := Nat.lt_succ_of_lt ld1; obtain ⟨d0, d1, d2, d3, d4, d5⟩ := Qd; have le0 := Box.lt Qe; have le1 := Nat.lt_succ_of_lt le0; have le2 := Nat.lt_succ_of_lt le1; obtain ⟨e0, e1, e2, e3, e4, e5⟩ := Qe; have lr0 := Box.lt Qr; have lr1 := Nat.lt_succ_of_lt lr0; have lr2 := Nat.lt_succ_of_lt lr1; obtain ⟨r0, r1, r2, r3, r4, r5⟩ := Qr; have lo0 := Box.lt Qo; have lo1 := Nat.lt_succ_of_lt lo0; have lo2 := Nat.lt_succ_of_lt lo1; obtain ⟨o0, o1, o2, o3, o4, o5⟩ := Qo; have lp0 := Box.lt Qp; have lp1 := Nat.lt_succ_of_lt lp0; have lp2 := Nat.lt_succ_of_lt lp1; obtain ⟨p0, p1, p2, p3, p4, p5⟩ := Qp) | (go_at_call 16; (with_reducible refine (rhas_any ⟨ss, sl, sh⟩ v true h4 _).mono ?_); rintro e w' ⟨rfl, hB⟩; have Qa := Box.keep (g := w.heap.size) (x := ⟨true, xl, xh⟩) hB ⟨by go_simp, by go_simp, by go_simp, by go_simp, by go_simp, by go_simp⟩; have Qd := Box.keep (g := w.heap.size + 1) (x := ⟨true, yl, yh⟩) hB ⟨by go_simp, by go_simp, by go_simp, by go_simp, by go_simp, by go_simp⟩; have Qe := Box.keep (g := g15) (x := ⟨ps, pl, ph⟩) hB ⟨by go_simp, by go_simp, by go_simp, by go_simp, by go_simp, by go_simp⟩; have Qr := Box.keep (g := g16) (x := ⟨qs, ql, qh⟩) hB ⟨by go_simp, by go_simp, by go_simp, by go_simp, by go_simp, by go_simp⟩; have Qo := Box.keep (g := g17) (x := ⟨rs, rl, rh⟩) hB ⟨by go_simp, by go_simp, by go_simp, by go_simp, by go_simp, by go_simp⟩; have Qp := Box.keep (g := g18) (x := ⟨ss, sl, sh⟩) hB ⟨by go_simp, by go_simp, by go_simp, by go_simp, by go_simp, by go_simp⟩; replace hB0 := below_call (w := w) (by first | (with_reducible assumption) | ((try go_grown); (all_goals (repeat' (first | (with_reducible assumption) | (refine below_call ?_ (by assumption); (try go_grown))))); all_goals (first | omega | (simp; omega)))) hB; clear hB; (try clear a0 a1 a2 a3 a4 a5); (try clear d0 d1 d2 d3 d4 d5); (try clear e0 e1 e2 e3 e4 e5); (try clear r0 r1 r2 r3 r4 r5); (try clear o0 o1 o2 o3 o4 o5); (try clear p0 p1 p2 p3 p4 p5); have la0 := Box.lt Qa; have la1 := Nat.lt_succ_of_lt la0; have la2 := Nat.lt_succ_of_lt la1; obtain ⟨a0, a1, a2, a3, a4, a5⟩ := Qa; have ld0 := Box.lt Qd; have ld1 := Nat.lt_succ_of_lt ld0; have ld2 := Nat.lt_succ_of_lt ld1; obtain ⟨d0, d1, d2, d3, d4, d5⟩ := Qd; have le0 := Box.lt Qe; have le1 := Nat.lt_succ_of_lt le0; have le2 := Nat.lt_succ_of_lt le1; obtain ⟨e0, e1, e2, e3, e4, e5⟩ := Qe; have lr0 := Box.lt Qr; have lr1 := Nat.lt_succ_of_lt lr0; have lr2 := Nat.lt_succ_of_lt lr1; obtain ⟨r0, r1, r2, r3, r4, r5⟩ := Qr; have lo0 := Box.lt Qo; have lo1 := Nat.lt_succ_of_lt lo0; have lo2 := Nat.lt_succ_of_lt lo1; obtain ⟨o0, o1, o2, o3, o4, o5⟩ := Qo; have lp0 := Box.lt Qp; have lp1 := Nat.lt_succ_of_lt lp0; have lp2 := Nat.lt_succ_of_lt lp1; obtain ⟨p0, p1, p2, p3, p4, p5⟩ := Qp))
                  go_returns
                  exact ⟨by simp, by first | (with_reducible assumption) | ((try go_grown); (all_goals (repeat' (first | (with_reducible assumption) | (refine below_call ?_ (by assumption); (try go_grown))))); all_goals (first | omega | (simp; omega)))⟩
end Go.Proofs.Ytfnodgpebheinaa.M
