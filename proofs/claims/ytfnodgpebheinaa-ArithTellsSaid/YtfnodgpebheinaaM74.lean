/- Walks: the reference's quotients. -/
import Derived.Test.YtfnodgpebheinaaM73
import Derived.Test.YtfnodgpebheinaaM70
import Derived.Test.YtfnodgpebheinaaM9
import Derived.Test.YtfnodgpebheinaaM77
import Derived.Test.YtfnodgpebheinaaQ0
import Derived.Deep.DeepCutAuto
import Derived.Deep.CutBlock
namespace Go.Proofs.Ytfnodgpebheinaa.M
open Go Go.RowKit Go.Proofs.Ytfnodgpebheinaa
set_option linter.unusedVariables false
set_option linter.unusedSimpArgs false
attribute [local simp, local go_sem] lt_a2 lt_a3 lt_a4 lt_a5 lt_a6 lt_a7 lt_a8
set_option maxHeartbeats 4000000
attribute [local go_sem] max4w min4w
theorem div_parts {x y n p : Iv} (ox : Ok x) (oy : Ok y) (hx : x.s = true) (hy : y.s = true) (hn : negP y = n) (hp : posP y = p) :
    (if hasI x (-9223372036854775808) = true ∧ hasI n (-1) = true then Iv.top else divStep x (divStep x Iv.e n) p) = divI x y := by
  subst hn hp
  unfold divI
  rw [if_pos (c := x.s = true ∧ y.s = true) ⟨hx, hy⟩]
  have e : hasI (negP y) (-1) = hasI y (-1) := by
    rw [Bool.eq_iff_iff]
    unfold negP
    rw [has_meet]
    exact ⟨fun h => h.1, fun h => ⟨h, by decide⟩⟩
  rw [e]
theorem quo_of {xl xh : Int} {p q : Iv} (h : quoJ ⟨true, xl, xh⟩ p = q) : ofI (min4 (wrap64 (Int.tdiv xl p.lo)) (wrap64 (Int.tdiv xl p.hi)) (wrap64 (Int.tdiv xh p.lo)) (wrap64 (Int.tdiv xh p.hi))) (max4 (wrap64 (Int.tdiv xl p.lo)) (wrap64 (Int.tdiv xl p.hi)) (wrap64 (Int.tdiv xh p.lo)) (wrap64 (Int.tdiv xh p.hi))) = q := by
  rw [of_eq (Int.le_trans (min4_le _ _ _ _).1 (le_max4 _ _ _ _).1), ← h]
  exact (cornerJ_eq (quoN ⟨true, xl, xh⟩ p)).symm
theorem quo_some {x p q : Iv} (h : quoJ x p = q) : Some q := by
  subst h
  exact ⟨cornerJ_some _ 3, by unfold quoJ; rw [cornerJ_eq]; exact Int.le_trans (min4_le _ _ _ _).1 (le_max4 _ _ _ _).1⟩
theorem i64w' (n : Int) : IntKind.i64.wrap n = wrap64 n := by first | exact IntKind.wrap_i64 n | rfl | (simp only [IntKind.wrap, IntKind.signed, IntKind.bits, wrap64]; simp; omega)
theorem name_right {a b : Nat} (h : a < b) : ∃ G, b = G ∧ a < G := ⟨b, rfl, h⟩
theorem Own.drew {w : World} {base : Nat} {v : Value} {l : List Iv} (h : Own w base v l) : Own w.drew base v l := h
set_option maxRecDepth 100000 in
theorem ref_div (a b x y : Iv) (hx : Hid (nrm a = x)) (hy : Hid (nrm b = y)) (ox : Ok x) (oy : Ok y) (q : Iv) (zz : Bool) (hq : Hid (divI x y = q)) (hzz : Hid (divZ x y = zz)) (w : World) :
    Calls Try.prog 26 #[.agg #[.bool a.s, .int .i64 a.lo, .int .i64 a.hi], .agg #[.bool b.s, .int .i64 b.lo, .int .i64 b.hi]] w (fun e w' => e = .returned (.tuple #[.agg #[.bool q.s, .int .i64 q.lo, .int .i64 q.hi], .bool zz]) ∧ Below w.heap.size w w') := by
  have hu := Try.underlying23
  obtain ⟨xs, xl, xh⟩ := x
  obtain ⟨ys, yl, yh⟩ := y
  go_enter Try.func26, Try.ntmps26
  go_upto_region 1 with (fail)
  go_cut [] (fun wc => Box wc w.heap.size ⟨xs, xl, xh⟩ ∧ Box wc (w.heap.size + 1) ⟨ys, yl, yh⟩ ∧ Box wc (w.heap.size + 1 + 1) Iv.e ∧ Below w.heap.size w wc)
  case first =>
    go_wp2
    go_region_with ((first | (go_at_call 11; (with_reducible refine (rnorm_any a.s a.lo a.hi ⟨xs, xl, xh⟩ hx _).mono ?_)) | (go_at_call 11; (with_reducible refine (rnorm_any b.s b.lo b.hi ⟨ys, yl, yh⟩ hy _).mono ?_))); rintro e w' ⟨rfl, hB⟩; obtain ⟨hc, hf, hs⟩ := bcell hB; clear hs; (try simp only [World.size_drew, World.size_alloc] at hc hf); obtain ⟨hz0_0, hz0_1, hz0_2, hz1_0, hz1_1, hz1_2, hz2_0, hz2_1, hz2_2⟩ : w.heap.size < w'.heap.size ∧ w.heap.size < w'.heap.size + 1 ∧ w.heap.size < w'.heap.size + 1 + 1 ∧ w.heap.size + 1 < w'.heap.size ∧ w.heap.size + 1 < w'.heap.size + 1 ∧ w.heap.size + 1 < w'.heap.size + 1 + 1 ∧ w.heap.size + 1 + 1 < w'.heap.size ∧ w.heap.size + 1 + 1 < w'.heap.size + 1 ∧ w.heap.size + 1 + 1 < w'.heap.size + 1 + 1 := by { have := hB.size; (try simp at this); omega })
    all_goals
      go_wp2
      go_meet
      case rel => exact ⟨⟨by go_simp, by go_simp, by go_simp, by go_simp, by go_simp, by go_simp⟩, ⟨by go_simp, by go_simp, by go_simp, by go_simp, by go_simp, by go_simp⟩, ⟨by go_simp, by go_simp, by go_simp, by go_simp, by go_simp, by go_simp⟩, by go_grown; repeat (refine below_call ?_ (by assumption); go_grown)⟩
  case rest =>
    obtain ⟨b0, b1, b2, hB0⟩ := hcut
    have l0 := b0.lt
    have l1 := b1.lt
    have l2 := b2.lt
    obtain ⟨a0, a1, a2, a3, a4, a5⟩ := b0
    obtain ⟨d0, d1, d2, d3, d4, d5⟩ := b1
    obtain ⟨e0, e1, e2, e3, e4, e5⟩ := b2
    by_cases hxy : ¬ (xs = true ∧ ys = true)
    · obtain rfl : Iv.e = q := by have z := hq.out; unfold divI at z; rw [if_neg hxy] at z; exact z
      obtain rfl : false = zz := by have z := hzz.out; unfold divZ at z; cases xs <;> cases ys <;> simp_all
      have hxy' : xs = false ∨ xs = true ∧ ys = false := by
        cases xs <;> cases ys <;> simp_all
      clear hq hzz
      rcases hxy' with rfl | ⟨rfl, rfl⟩
      · clear hxy
        go_wp2_with fail
        refine bodyPost_ret (v := .tuple #[.agg #[.bool false, .int .i64 0, .int .i64 0], .bool false]) (by simp [results, Try.results26, *, go_sem]) rfl ?_
        exact ⟨rfl, by go_grown; repeat (refine below_call ?_ (by assumption); go_grown)⟩
      · clear hxy
        go_wp2_with fail
        refine bodyPost_ret (v := .tuple #[.agg #[.bool false, .int .i64 0, .int .i64 0], .bool false]) (by simp [results, Try.results26, *, go_sem]) rfl ?_
        exact ⟨rfl, by go_grown; repeat (refine below_call ?_ (by assumption); go_grown)⟩
    obtain ⟨rfl, rfl⟩ := Classical.not_not.1 hxy
    clear hxy
    obtain ⟨x1, x2, x3⟩ : -9223372036854775808 ≤ xl ∧ xl ≤ xh ∧ xh ≤ 9223372036854775807 := by
      rcases ox with h | ⟨_, h1, h2, h3⟩
      · cases h
      · exact ⟨h1, h2, h3⟩
    obtain ⟨y1, y2, y3⟩ : -9223372036854775808 ≤ yl ∧ yl ≤ yh ∧ yh ≤ 9223372036854775807 := by
      rcases oy with h | ⟨_, h1, h2, h3⟩
      · cases h
      · exact ⟨h1, h2, h3⟩
    have hz0 : Hid (hasI ⟨true, yl, yh⟩ 0 = zz) := by have z := hzz.out; simp only [divZ, Bool.true_and] at z; exact Lib.hid z
    obtain ⟨n, hn⟩ : ∃ n, Hid (negP ⟨true, yl, yh⟩ = n) := ⟨_, Lib.hid rfl⟩
    obtain ⟨p, hp⟩ : ∃ n, Hid (posP ⟨true, yl, yh⟩ = n) := ⟨_, Lib.hid rfl⟩
    have hn' : Hid (meetI ⟨true, yl, yh⟩ ⟨true, -9223372036854775808, -1⟩ = n) := hn
    have hp' : Hid (meetI ⟨true, yl, yh⟩ ⟨true, 1, 9223372036854775807⟩ = p) := hp
    have hP := div_parts (x := ⟨true, xl, xh⟩) ox oy rfl rfl hn.out hp.out
    rw [hq.out] at hP
    have OY := Lib.hid oy
    obtain ⟨c1, hc1⟩ : ∃ c, Hid (hasI ⟨true, xl, xh⟩ (-9223372036854775808) = c) := ⟨_, Lib.hid rfl⟩
    obtain ⟨c2, hc2⟩ : ∃ c, Hid (hasI n (-1) = c) := ⟨_, Lib.hid rfl⟩
    rw [hc1.out, hc2.out] at hP
    clear hq hzz ox oy hx hy x1 x2 x3 y1 y2 y3
    go_upto_region 4 with (fail)
    go_cut [6, 7] (fun v6 v7 wd => ∃ g6 g7 : Nat, v6 = .pointer (some ⟨g6, 0, none⟩) ∧ v7 = .pointer (some ⟨g7, 0, none⟩) ∧ Box wd (w.heap.size) (⟨true, xl, xh⟩) ∧ Box wd (w.heap.size + 1) (⟨true, yl, yh⟩) ∧ Box wd (w.heap.size + 1 + 1) (Iv.e) ∧ Box wd (g6) (n) ∧ Box wd (g7) (p) ∧ Below w.heap.size w wd)
    case first =>
      go_wp2_with ((go_at_call 49; (with_reducible refine (rparts_any ⟨true, yl, yh⟩ n p OY.out hn' hp' _).mono ?_); rintro e w' ⟨rfl, hB⟩; have Qa := Box.keep (g := w.heap.size) (x := ⟨true, xl, xh⟩) hB ⟨by go_simp, by go_simp, by go_simp, by go_simp, by go_simp, by go_simp⟩; have Qd := Box.keep (g := w.heap.size + 1) (x := ⟨true, yl, yh⟩) hB ⟨by go_simp, by go_simp, by go_simp, by go_simp, by go_simp, by go_simp⟩; have Qe := Box.keep (g := w.heap.size + 1 + 1) (x := Iv.e) hB ⟨by go_simp, by go_simp, by go_simp, by go_simp, by go_simp, by go_simp⟩; replace hB0 := below_call (w := w) (by first | (with_reducible assumption) | ((try go_grown); (all_goals (repeat' (first | (with_reducible assumption) | (refine below_call ?_ (by assumption); (try go_grown))))); all_goals (first | omega | (simp; omega)))) hB; clear hB; (try clear a0 a1 a2 a3 a4 a5); (try clear d0 d1 d2 d3 d4 d5); (try clear e0 e1 e2 e3 e4 e5); have la0 := Box.lt Qa; have la1 := Nat.lt_succ_of_lt la0; have la2 := Nat.lt_succ_of_lt la1; obtain ⟨a0, a1, a2, a3, a4, a5⟩ := Qa; have ld0 := Box.lt Qd; have ld1 := Nat.lt_succ_of_lt ld0; have ld2 := Nat.lt_succ_of_lt ld1; obtain ⟨d0, d1, d2, d3, d4, d5⟩ := Qd; have le0 := Box.lt Qe; have le1 := Nat.lt_succ_of_lt le0; have le2 := Nat.lt_succ_of_lt le1; obtain ⟨e0, e1, e2, e3, e4, e5⟩ := Qe))
      go_meet
      case rel => exact ⟨_, _, rfl, rfl, ⟨by go_simp, by go_simp, by go_simp, by go_simp, by go_simp, by go_simp⟩, ⟨by go_simp, by go_simp, by go_simp, by go_simp, by go_simp, by go_simp⟩, ⟨by go_simp, by go_simp, by go_simp, by go_simp, by go_simp, by go_simp⟩, ⟨by go_simp, by go_simp, by go_simp, by go_simp, by go_simp, by go_simp⟩, ⟨by go_simp, by go_simp, by go_simp, by go_simp, by go_simp, by go_simp⟩, by first | (with_reducible assumption) | ((try go_grown); (all_goals (repeat' (first | (with_reducible assumption) | (refine below_call ?_ (by assumption); (try go_grown))))); all_goals (first | omega | (simp; omega)))⟩
    case rest =>
      (try clear hB0); (try clear a0 a1 a2 a3 a4 a5); (try clear d0 d1 d2 d3 d4 d5); (try clear e0 e1 e2 e3 e4 e5)
      obtain ⟨g6, g7, rfl, rfl, Qa, Qd, Qe, Qn, Qp, hB0⟩ := hcut
      have la0 := Box.lt Qa
      obtain ⟨a0, a1, a2, a3, a4, a5⟩ := Qa
      have ld0 := Box.lt Qd
      obtain ⟨d0, d1, d2, d3, d4, d5⟩ := Qd
      have le0 := Box.lt Qe
      obtain ⟨e0, e1, e2, e3, e4, e5⟩ := Qe
      have ln0 := Box.lt Qn
      obtain ⟨n0, n1, n2, n3, n4, n5⟩ := Qn
      have lp0 := Box.lt Qp
      obtain ⟨p0, p1, p2, p3, p4, p5⟩ := Qp
      by_cases hcc : c1 = true ∧ c2 = true
      · obtain ⟨rfl, rfl⟩ := hcc
        obtain rfl : Iv.top = q := by rw [if_pos ⟨rfl, rfl⟩] at hP; exact hP
        clear hP
        go_wp2_with (first | (go_at_call 16; (with_reducible refine (rhas_any ⟨true, xl, xh⟩ (-9223372036854775808) true hc1 _).mono ?_); rintro e w' ⟨rfl, hB⟩; have Qa := Box.keep (g := w.heap.size) (x := ⟨true, xl, xh⟩) hB ⟨by go_simp, by go_simp, by go_simp, by go_simp, by go_simp, by go_simp⟩; have Qd := Box.keep (g := w.heap.size + 1) (x := ⟨true, yl, yh⟩) hB ⟨by go_simp, by go_simp, by go_simp, by go_simp, by go_simp, by go_simp⟩; have Qe := Box.keep (g := w.heap.size + 1 + 1) (x := Iv.e) hB ⟨by go_simp, by go_simp, by go_simp, by go_simp, by go_simp, by go_simp⟩; have Qn := Box.keep (g := g6) (x := n) hB ⟨by go_simp, by go_simp, by go_simp, by go_simp, by go_simp, by go_simp⟩; have Qp := Box.keep (g := g7) (x := p) hB ⟨by go_simp, by go_simp, by go_simp, by go_simp, by go_simp, by go_simp⟩; replace hB0 := below_call (w := w) (by first | (with_reducible assumption) | ((try go_grown); (all_goals (repeat' (first | (with_reducible assumption) | (refine below_call ?_ (by assumption); (try go_grown))))); all_goals (first | omega | (simp; omega)))) hB; clear hB; (try clear a0 a1 a2 a3 a4 a5); (try clear d0 d1 d2 d3 d4 d5); (try clear e0 e1 e2 e3 e4 e5); (try clear n0 n1 n2 n3 n4 n5); (try clear p0 p1 p2 p3 p4 p5); have la0 := Box.lt Qa; have la1 := Nat.lt_succ_of_lt la0; have la2 := Nat.lt_succ_of_lt la1; obtain ⟨a0, a1, a2, a3, a4, a5⟩ := Qa; have ld0 := Box.lt Qd; have ld1 := Nat.lt_succ_of_lt ld0; have ld2 := Nat.lt_succ_of_lt ld1; obtain ⟨d0, d1, d2, d3, d4, d5⟩ := Qd; have le0 := Box.lt Qe; have le1 := Nat.lt_succ_of_lt le0; have le2 := Nat.lt_succ_of_lt le1; obtain ⟨e0, e1, e2, e3, e4, e5⟩ := Qe; have ln0 := Box.lt Qn; have ln1 := Nat.lt_succ_of_lt ln0; have ln2 := Nat.lt_succ_of_lt ln1; obtain ⟨n0, n1, n2, n3, n4, n5⟩ := Qn; have lp0 := Box.lt Qp; have lp1 := Nat.lt_succ_of_lt lp0; have lp2 := Nat.lt_succ_of_lt lp1; obtain ⟨p0, p1, p2, p3, p4, p5⟩ := Qp) | (go_at_call 16; (with_reducible refine (rhas_any n (-1) true hc2 _).mono ?_); rintro e w' ⟨rfl, hB⟩; have Qa := Box.keep (g := w.heap.size) (x := ⟨true, xl, xh⟩) hB ⟨by go_simp, by go_simp, by go_simp, by go_simp, by go_simp, by go_simp⟩; have Qd := Box.keep (g := w.heap.size + 1) (x := ⟨true, yl, yh⟩) hB ⟨by go_simp, by go_simp, by go_simp, by go_simp, by go_simp, by go_simp⟩; have Qe := Box.keep (g := w.heap.size + 1 + 1) (x := Iv.e) hB ⟨by go_simp, by go_simp, by go_simp, by go_simp, by go_simp, by go_simp⟩; have Qn := Box.keep (g := g6) (x := n) hB ⟨by go_simp, by go_simp, by go_simp, by go_simp, by go_simp, by go_simp⟩; have Qp := Box.keep (g := g7) (x := p) hB ⟨by go_simp, by go_simp, by go_simp, by go_simp, by go_simp, by go_simp⟩; replace hB0 := below_call (w := w) (by first | (with_reducible assumption) | ((try go_grown); (all_goals (repeat' (first | (with_reducible assumption) | (refine below_call ?_ (by assumption); (try go_grown))))); all_goals (first | omega | (simp; omega)))) hB; clear hB; (try clear a0 a1 a2 a3 a4 a5); (try clear d0 d1 d2 d3 d4 d5); (try clear e0 e1 e2 e3 e4 e5); (try clear n0 n1 n2 n3 n4 n5); (try clear p0 p1 p2 p3 p4 p5); have la0 := Box.lt Qa; have la1 := Nat.lt_succ_of_lt la0; have la2 := Nat.lt_succ_of_lt la1; obtain ⟨a0, a1, a2, a3, a4, a5⟩ := Qa; have ld0 := Box.lt Qd; have ld1 := Nat.lt_succ_of_lt ld0; have ld2 := Nat.lt_succ_of_lt ld1; obtain ⟨d0, d1, d2, d3, d4, d5⟩ := Qd; have le0 := Box.lt Qe; have le1 := Nat.lt_succ_of_lt le0; have le2 := Nat.lt_succ_of_lt le1; obtain ⟨e0, e1, e2, e3, e4, e5⟩ := Qe; have ln0 := Box.lt Qn; have ln1 := Nat.lt_succ_of_lt ln0; have ln2 := Nat.lt_succ_of_lt ln1; obtain ⟨n0, n1, n2, n3, n4, n5⟩ := Qn; have lp0 := Box.lt Qp; have lp1 := Nat.lt_succ_of_lt lp0; have lp2 := Nat.lt_succ_of_lt lp1; obtain ⟨p0, p1, p2, p3, p4, p5⟩ := Qp))
        go_region_with (first | (go_at_call 23; (with_reducible refine (rtop_any Iv.top (Lib.hid rfl) _).mono ?_); rintro e w' ⟨rfl, hB⟩; obtain ⟨hc, hf, hs⟩ := bcell hB; clear hs; (try simp only [World.size_drew, World.size_alloc] at hc hf); obtain ⟨hzw'_0_0, hzw'_0_1, hzw'_1_0, hzw'_1_1, hzw'_2_0, hzw'_2_1⟩ : w.heap.size < w'.heap.size ∧ w.heap.size < w'.heap.size + 1 ∧ w.heap.size + 1 < w'.heap.size ∧ w.heap.size + 1 < w'.heap.size + 1 ∧ w.heap.size + 1 + 1 < w'.heap.size ∧ w.heap.size + 1 + 1 < w'.heap.size + 1 := by { have := hB.size; (try simp at this); omega }) | (go_at_call 16; (with_reducible refine (rhas_any ⟨true, yl, yh⟩ 0 zz hz0 _).mono ?_); rintro e w' ⟨rfl, hB⟩; obtain ⟨hc, hf, hs⟩ := bcell hB; clear hs; (try simp only [World.size_drew, World.size_alloc] at hc hf); obtain ⟨hzw'_0_0, hzw'_0_1, hzw'_1_0, hzw'_1_1, hzw'_2_0, hzw'_2_1⟩ : w.heap.size < w'.heap.size ∧ w.heap.size < w'.heap.size + 1 ∧ w.heap.size + 1 < w'.heap.size ∧ w.heap.size + 1 < w'.heap.size + 1 ∧ w.heap.size + 1 + 1 < w'.heap.size ∧ w.heap.size + 1 + 1 < w'.heap.size + 1 := by { have := hB.size; (try simp at this); omega }))
        all_goals
          go_wp2_with fail
          refine bodyPost_ret (v := .tuple #[.agg #[.bool Iv.top.s, .int .i64 Iv.top.lo, .int .i64 Iv.top.hi], .bool zz]) (by simp [results, Try.results26, *, go_sem]) rfl ?_
          exact ⟨rfl, by first | (with_reducible assumption) | ((try go_grown); (all_goals (repeat' (first | (with_reducible assumption) | (refine below_call ?_ (by assumption); (try go_grown))))); all_goals (first | omega | (simp; omega)))⟩
      · rw [if_neg hcc] at hP
        replace hP := Lib.hid hP
        have hcc' : c1 = false ∨ c1 = true ∧ c2 = false := by cases c1 <;> cases c2 <;> simp_all
        clear hcc
        go_upto_region 5 with (fail)
        go_cut [38] (fun v wd => v = .bool false ∧ Box wd (w.heap.size) (⟨true, xl, xh⟩) ∧ Box wd (w.heap.size + 1) (⟨true, yl, yh⟩) ∧ Box wd (w.heap.size + 1 + 1) (Iv.e) ∧ Box wd (g6) (n) ∧ Box wd (g7) (p) ∧ Below w.heap.size w wd)
        case first =>
          rcases hcc' with rfl | ⟨rfl, rfl⟩
          · go_wp2_with ((go_at_call 16; (with_reducible refine (rhas_any ⟨true, xl, xh⟩ (-9223372036854775808) false hc1 _).mono ?_); rintro e w' ⟨rfl, hB⟩; have Qa := Box.keep (g := w.heap.size) (x := ⟨true, xl, xh⟩) hB ⟨by go_simp, by go_simp, by go_simp, by go_simp, by go_simp, by go_simp⟩; have Qd := Box.keep (g := w.heap.size + 1) (x := ⟨true, yl, yh⟩) hB ⟨by go_simp, by go_simp, by go_simp, by go_simp, by go_simp, by go_simp⟩; have Qe := Box.keep (g := w.heap.size + 1 + 1) (x := Iv.e) hB ⟨by go_simp, by go_simp, by go_simp, by go_simp, by go_simp, by go_simp⟩; have Qn := Box.keep (g := g6) (x := n) hB ⟨by go_simp, by go_simp, by go_simp, by go_simp, by go_simp, by go_simp⟩; have Qp := Box.keep (g := g7) (x := p) hB ⟨by go_simp, by go_simp, by go_simp, by go_simp, by go_simp, by go_simp⟩; replace hB0 := below_call (w := w) (by first | (with_reducible assumption) | ((try go_grown); (all_goals (repeat' (first | (with_reducible assumption) | (refine below_call ?_ (by assumption); (try go_grown))))); all_goals (first | omega | (simp; omega)))) hB; clear hB; (try clear a0 a1 a2 a3 a4 a5); (try clear d0 d1 d2 d3 d4 d5); (try clear e0 e1 e2 e3 e4 e5); (try clear n0 n1 n2 n3 n4 n5); (try clear p0 p1 p2 p3 p4 p5); have la0 := Box.lt Qa; have la1 := Nat.lt_succ_of_lt la0; have la2 := Nat.lt_succ_of_lt la1; obtain ⟨a0, a1, a2, a3, a4, a5⟩ := Qa; have ld0 := Box.lt Qd; have ld1 := Nat.lt_succ_of_lt ld0; have ld2 := Nat.lt_succ_of_lt ld1; obtain ⟨d0, d1, d2, d3, d4, d5⟩ := Qd; have le0 := Box.lt Qe; have le1 := Nat.lt_succ_of_lt le0; have le2 := Nat.lt_succ_of_lt le1; obtain ⟨e0, e1, e2, e3, e4, e5⟩ := Qe; have ln0 := Box.lt Qn; have ln1 := Nat.lt_succ_of_lt ln0; have ln2 := Nat.lt_succ_of_lt ln1; obtain ⟨n0, n1, n2, n3, n4, n5⟩ := Qn; have lp0 := Box.lt Qp; have lp1 := Nat.lt_succ_of_lt lp0; have lp2 := Nat.lt_succ_of_lt lp1; obtain ⟨p0, p1, p2, p3, p4, p5⟩ := Qp))
            go_meet
            case rel => exact ⟨by first | rfl | simp, ⟨by go_simp, by go_simp, by go_simp, by go_simp, by go_simp, by go_simp⟩, ⟨by go_simp, by go_simp, by go_simp, by go_simp, by go_simp, by go_simp⟩, ⟨by go_simp, by go_simp, by go_simp, by go_simp, by go_simp, by go_simp⟩, ⟨by go_simp, by go_simp, by go_simp, by go_simp, by go_simp, by go_simp⟩, ⟨by go_simp, by go_simp, by go_simp, by go_simp, by go_simp, by go_simp⟩, by first | (with_reducible assumption) | ((try go_grown); (all_goals (repeat' (first | (with_reducible assumption) | (refine below_call ?_ (by assumption); (try go_grown))))); all_goals (first | omega | (simp; omega)))⟩
          · go_wp2_with (first | (go_at_call 16; (with_reducible refine (rhas_any ⟨true, xl, xh⟩ (-9223372036854775808) true hc1 _).mono ?_); rintro e w' ⟨rfl, hB⟩; have Qa := Box.keep (g := w.heap.size) (x := ⟨true, xl, xh⟩) hB ⟨by go_simp, by go_simp, by go_simp, by go_simp, by go_simp, by go_simp⟩; have Qd := Box.keep (g := w.heap.size + 1) (x := ⟨true, yl, yh⟩) hB ⟨by go_simp, by go_simp, by go_simp, by go_simp, by go_simp, by go_simp⟩; have Qe := Box.keep (g := w.heap.size + 1 + 1) (x := Iv.e) hB ⟨by go_simp, by go_simp, by go_simp, by go_simp, by go_simp, by go_simp⟩; have Qn := Box.keep (g := g6) (x := n) hB ⟨by go_simp, by go_simp, by go_simp, by go_simp, by go_simp, by go_simp⟩; have Qp := Box.keep (g := g7) (x := p) hB ⟨by go_simp, by go_simp, by go_simp, by go_simp, by go_simp, by go_simp⟩; replace hB0 := below_call (w := w) (by first | (with_reducible assumption) | ((try go_grown); (all_goals (repeat' (first | (with_reducible assumption) | (refine below_call ?_ (by assumption); (try go_grown))))); all_goals (first | omega | (simp; omega)))) hB; clear hB; (try clear a0 a1 a2 a3 a4 a5); (try clear d0 d1 d2 d3 d4 d5); (try clear e0 e1 e2 e3 e4 e5); (try clear n0 n1 n2 n3 n4 n5); (try clear p0 p1 p2 p3 p4 p5); have la0 := Box.lt Qa; have la1 := Nat.lt_succ_of_lt la0; have la2 := Nat.lt_succ_of_lt la1; obtain ⟨a0, a1, a2, a3, a4, a5⟩ := Qa; have ld0 := Box.lt Qd; have ld1 := Nat.lt_succ_of_lt ld0; have ld2 := Nat.lt_succ_of_lt ld1; obtain ⟨d0, d1, d2, d3, d4, d5⟩ := Qd; have le0 := Box.lt Qe; have le1 := Nat.lt_succ_of_lt le0; have le2 := Nat.lt_succ_of_lt le1; obtain ⟨e0, e1, e2, e3, e4, e5⟩ := Qe; have ln0 := Box.lt Qn; have ln1 := Nat.lt_succ_of_lt ln0; have ln2 := Nat.lt_succ_of_lt ln1; obtain ⟨n0, n1, n2, n3, n4, n5⟩ := Qn; have lp0 := Box.lt Qp; have lp1 := Nat.lt_succ_of_lt lp0; have lp2 := Nat.lt_succ_of_lt lp1; obtain ⟨p0, p1, p2, p3, p4, p5⟩ := Qp) | (go_at_call 16; (with_reducible refine (rhas_any n (-1) false hc2 _).mono ?_); rintro e w' ⟨rfl, hB⟩; have Qa := Box.keep (g := w.heap.size) (x := ⟨true, xl, xh⟩) hB ⟨by go_simp, by go_simp, by go_simp, by go_simp, by go_simp, by go_simp⟩; have Qd := Box.keep (g := w.heap.size + 1) (x := ⟨true, yl, yh⟩) hB ⟨by go_simp, by go_simp, by go_simp, by go_simp, by go_simp, by go_simp⟩; have Qe := Box.keep (g := w.heap.size + 1 + 1) (x := Iv.e) hB ⟨by go_simp, by go_simp, by go_simp, by go_simp, by go_simp, by go_simp⟩; have Qn := Box.keep (g := g6) (x := n) hB ⟨by go_simp, by go_simp, by go_simp, by go_simp, by go_simp, by go_simp⟩; have Qp := Box.keep (g := g7) (x := p) hB ⟨by go_simp, by go_simp, by go_simp, by go_simp, by go_simp, by go_simp⟩; replace hB0 := below_call (w := w) (by first | (with_reducible assumption) | ((try go_grown); (all_goals (repeat' (first | (with_reducible assumption) | (refine below_call ?_ (by assumption); (try go_grown))))); all_goals (first | omega | (simp; omega)))) hB; clear hB; (try clear a0 a1 a2 a3 a4 a5); (try clear d0 d1 d2 d3 d4 d5); (try clear e0 e1 e2 e3 e4 e5); (try clear n0 n1 n2 n3 n4 n5); (try clear p0 p1 p2 p3 p4 p5); have la0 := Box.lt Qa; have la1 := Nat.lt_succ_of_lt la0; have la2 := Nat.lt_succ_of_lt la1; obtain ⟨a0, a1, a2, a3, a4, a5⟩ := Qa; have ld0 := Box.lt Qd; have ld1 := Nat.lt_succ_of_lt ld0; have ld2 := Nat.lt_succ_of_lt ld1; obtain ⟨d0, d1, d2, d3, d4, d5⟩ := Qd; have le0 := Box.lt Qe; have le1 := Nat.lt_succ_of_lt le0; have le2 := Nat.lt_succ_of_lt le1; obtain ⟨e0, e1, e2, e3, e4, e5⟩ := Qe; have ln0 := Box.lt Qn; have ln1 := Nat.lt_succ_of_lt ln0; have ln2 := Nat.lt_succ_of_lt ln1; obtain ⟨n0, n1, n2, n3, n4, n5⟩ := Qn; have lp0 := Box.lt Qp; have lp1 := Nat.lt_succ_of_lt lp0; have lp2 := Nat.lt_succ_of_lt lp1; obtain ⟨p0, p1, p2, p3, p4, p5⟩ := Qp))
            go_meet
            case rel => exact ⟨by first | rfl | simp, ⟨by go_simp, by go_simp, by go_simp, by go_simp, by go_simp, by go_simp⟩, ⟨by go_simp, by go_simp, by go_simp, by go_simp, by go_simp, by go_simp⟩, ⟨by go_simp, by go_simp, by go_simp, by go_simp, by go_simp, by go_simp⟩, ⟨by go_simp, by go_simp, by go_simp, by go_simp, by go_simp, by go_simp⟩, ⟨by go_simp, by go_simp, by go_simp, by go_simp, by go_simp, by go_simp⟩, by first | (with_reducible assumption) | ((try go_grown); (all_goals (repeat' (first | (with_reducible assumption) | (refine below_call ?_ (by assumption); (try go_grown))))); all_goals (first | omega | (simp; omega)))⟩
        case rest =>
          (try clear hB0); (try clear a0 a1 a2 a3 a4 a5); (try clear d0 d1 d2 d3 d4 d5); (try clear e0 e1 e2 e3 e4 e5); (try clear n0 n1 n2 n3 n4 n5); (try clear p0 p1 p2 p3 p4 p5)
          obtain ⟨rfl, Qa, Qd, Qe, Qn, Qp, hB0⟩ := hcut
          have la0 := Box.lt Qa
          obtain ⟨a0, a1, a2, a3, a4, a5⟩ := Qa
          have ld0 := Box.lt Qd
          obtain ⟨d0, d1, d2, d3, d4, d5⟩ := Qd
          have le0 := Box.lt Qe
          obtain ⟨e0, e1, e2, e3, e4, e5⟩ := Qe
          have ln0 := Box.lt Qn
          obtain ⟨n0, n1, n2, n3, n4, n5⟩ := Qn
          have lp0 := Box.lt Qp
          obtain ⟨p0, p1, p2, p3, p4, p5⟩ := Qp
          obtain ⟨Qn, hQn⟩ : ∃ Q, Hid (quoJ ⟨true, xl, xh⟩ n = Q) := ⟨_, Lib.hid rfl⟩
          obtain ⟨Qp, hQp⟩ : ∃ Q, Hid (quoJ ⟨true, xl, xh⟩ p = Q) := ⟨_, Lib.hid rfl⟩
          obtain ⟨L1, HL1⟩ : ∃ L, Hid ((if n.s = true then [Qn] else []) = L) := ⟨_, Lib.hid rfl⟩
          obtain ⟨L2, HL2⟩ : ∃ L, Hid ((if p.s = true then L1 ++ [Qp] else L1) = L) := ⟨_, Lib.hid rfl⟩
          have Hn : Hid (n.s = true → n.lo ≠ 0 ∧ n.hi ≠ 0) := Lib.hid (fun h => by have e := hn.out; rw [← e] at h ⊢; have := negP_hi h; omega)
          have Hp : Hid (p.s = true → p.lo ≠ 0 ∧ p.hi ≠ 0) := Lib.hid (fun h => by have e := hp.out; rw [← e] at h ⊢; have := posP_lo h; omega)
          have HOn : Hid (n.s = true → Hid (ofI (min4 (wrap64 (Int.tdiv xl n.lo)) (wrap64 (Int.tdiv xl n.hi)) (wrap64 (Int.tdiv xh n.lo)) (wrap64 (Int.tdiv xh n.hi))) (max4 (wrap64 (Int.tdiv xl n.lo)) (wrap64 (Int.tdiv xl n.hi)) (wrap64 (Int.tdiv xh n.lo)) (wrap64 (Int.tdiv xh n.hi))) = Qn)) := Lib.hid (fun h => Lib.hid (quo_of hQn.out))
          have HOp : Hid (p.s = true → Hid (ofI (min4 (wrap64 (Int.tdiv xl p.lo)) (wrap64 (Int.tdiv xl p.hi)) (wrap64 (Int.tdiv xh p.lo)) (wrap64 (Int.tdiv xh p.hi))) (max4 (wrap64 (Int.tdiv xl p.lo)) (wrap64 (Int.tdiv xl p.hi)) (wrap64 (Int.tdiv xh p.lo)) (wrap64 (Int.tdiv xh p.hi))) = Qp)) := Lib.hid (fun h => Lib.hid (quo_of hQp.out))
          have HLN : Hid (L1.length ≤ 5) := Lib.hid (by rw [← HL1.out]; split <;> simp)
          have HLM : Hid (L2.length ≤ 2) := Lib.hid (by rw [← HL2.out, ← HL1.out]; (repeat' split) <;> simp)
          have HLS : Hid (∀ q ∈ L2, Some q) := Lib.hid (by
            rw [← HL2.out, ← HL1.out]
            intro q hq
            have k1 : Some Qn := quo_some hQn.out
            have k2 : Some Qp := quo_some hQp.out
            split at hq <;> split at hq <;> simp at hq
            · rcases hq with rfl | rfl <;> assumption
            · subst hq; assumption
            · subst hq; assumption)
          have HJ : Hid (joinL L2 = q) := Lib.hid (by
            rw [← hP.out, ← HL2.out, ← HL1.out]
            unfold divStep
            rw [hQn.out, hQp.out]
            cases hn1 : n.s <;> cases hp1 : p.s <;> simp [joinL])
          clear hn hp hn' hp' hP hQn hQp
          go_wp2_with fail
          obtain ⟨gs, hgs, hg0⟩ := name_right la0
          have lgs0 : w.heap.size < gs := hg0
          have lgs1 : w.heap.size + 1 < gs := by have := ld0; omega
          have lgs2 : w.heap.size + 1 + 1 < gs := by have := le0; omega
          simp only [hgs]
          go_loopg [8, 46] 2 (fun gk v8 v46 wi => ∃ (k : Nat) (z : Int) (L : List Iv), Aside (z = k ∧ k ≤ 2 ∧ gk + k = 2 ∧ L = (if k = 0 then [] else if k = 1 then L1 else L2)) ∧ v46 = .int .i64 z ∧ Own wi (gs + 1) v8 L ∧ Box wi (w.heap.size) (⟨true, xl, xh⟩) ∧ Box wi (w.heap.size + 1) (⟨true, yl, yh⟩) ∧ Box wi (w.heap.size + 1 + 1) (Iv.e) ∧ wi.cell? (⟨gs, 0, none⟩) = some (.bool n.s) ∧ wi.cell? (⟨gs, 1, none⟩) = some (.int .i64 n.lo) ∧ wi.cell? (⟨gs, 2, none⟩) = some (.int .i64 n.hi) ∧ wi.cell? (⟨gs, 3, none⟩) = some (.bool p.s) ∧ wi.cell? (⟨gs, 4, none⟩) = some (.int .i64 p.lo) ∧ wi.cell? (⟨gs, 5, none⟩) = some (.int .i64 p.hi) ∧ Below w.heap.size w wi)
          case atStart =>
            subst hgs
            exact ⟨0, 0, [], ⟨rfl, by omega, rfl, rfl⟩, rfl, Own.nil _ _, ⟨by go_simp, by go_simp, by go_simp, by go_simp, by go_simp, by go_simp⟩, ⟨by go_simp, by go_simp, by go_simp, by go_simp, by go_simp, by go_simp⟩, ⟨by go_simp, by go_simp, by go_simp, by go_simp, by go_simp, by go_simp⟩, by go_simp, by go_simp, by go_simp, by go_simp, by go_simp, by go_simp, by first | (with_reducible assumption) | ((try go_grown); (all_goals (repeat' (first | (with_reducible assumption) | (refine below_call ?_ (by assumption); (try go_grown))))); all_goals (first | omega | (simp; omega)))⟩
          case round =>
            obtain ⟨k, z, L, hk, rfl, hown, b0, b1, b2, s0, s1, s2, s3, s4, s5, hB0⟩ := hrel
            have lgs : gs < wr.heap.size := World.block_lt_of_cell? _ _ s0
            have l0' := b0.lt
            have l1' := b1.lt
            have l2' := b2.lt
            have m0' := Nat.lt_succ_of_lt l0'
            have m1' := Nat.lt_succ_of_lt l1'
            have m2' := Nat.lt_succ_of_lt l2'
            have mgs := Nat.lt_succ_of_lt lgs
            have kg0 : w.heap.size < gs + 1 := by omega
            have kg1 : w.heap.size + 1 < gs + 1 := by omega
            have kg2 : w.heap.size + 1 + 1 < gs + 1 := by omega
            have hz : (z = 0 ∧ k = 0 ∧ [] = L) ∨ (z = 1 ∧ k = 1 ∧ L1 = L) ∨ (z = 2 ∧ k = 2 ∧ L2 = L) := by
              obtain ⟨q1, q2, q3, q4⟩ := hk.out
              have : k = 0 ∨ k = 1 ∨ k = 2 := by omega
              rcases this with rfl | rfl | rfl
              · exact .inl ⟨q1, rfl, q4.symm⟩
              · exact .inr (.inl ⟨q1, rfl, q4.symm⟩)
              · exact .inr (.inr ⟨q1, rfl, q4.symm⟩)
            have HH := Lib.hid hk
            clear hk hg0
            obtain ⟨a0, a1, a2, a3, a4, a5⟩ := b0
            obtain ⟨d0, d1, d2, d3, d4, d5⟩ := b1
            obtain ⟨e0, e1, e2, e3, e4, e5⟩ := b2
            rcases hz with ⟨rfl, rfl, rfl⟩ | ⟨rfl, rfl, rfl⟩ | ⟨rfl, rfl, rfl⟩
            · have hs01 : n.s = false ∨ n.s = true := by cases n.s <;> simp
              rcases hs01 with hs | hs
              · have hL : [] = L1 := by rw [← HL1.out, hs]; simp
                rw [hs] at s0
                have HS := Lib.hid hs
                clear hs
                have HLL := Lib.hid hL
                clear hL
                go_wp2
                go_roundg (2 - 0 - 1)
                case measure => have := HH.out.out; omega
                case rel =>
                  have hz : wr.cell? ⟨gs, 0, none⟩ = some (.bool n.s) := by rw [HS.out]; assumption
                  clear s0
                  exact ⟨0 + 1, (0 + 1 : Int), L1, ⟨rfl, by omega, by omega, by simp⟩, rfl, by rw [← HLL.out]; exact hown.call (by first | (with_reducible assumption) | (go_grown; all_goals first | omega | (simp; omega))), ⟨by go_simp, by go_simp, by go_simp, by go_simp, by go_simp, by go_simp⟩, ⟨by go_simp, by go_simp, by go_simp, by go_simp, by go_simp, by go_simp⟩, ⟨by go_simp, by go_simp, by go_simp, by go_simp, by go_simp, by go_simp⟩, by go_simp, by go_simp, by go_simp, by go_simp, by go_simp, by go_simp, by first | (with_reducible assumption) | ((try go_grown); (all_goals (repeat' (first | (with_reducible assumption) | (refine below_call ?_ (by assumption); (try go_grown))))); all_goals (first | omega | (simp; omega)))⟩
              · obtain ⟨h1, h2⟩ := Hn.out hs
                have hz1 : (n.lo == 0) = false := beq_eq_false_iff_ne.mpr h1
                have hz2 : (n.hi == 0) = false := beq_eq_false_iff_ne.mpr h2
                have hL : [] ++ [Qn] = L1 := by rw [← HL1.out, hs]; simp
                have HOF := HOn.out hs
                rw [hs] at s0
                have HS := Lib.hid hs
                clear hs
                have HLL := Lib.hid hL
                clear hL
                go_upto_region 12 with (fail)
                refine Calm.wp_calm2 (by kernel_rfl) _ ((Calm.isV (.pointer (some ⟨w.heap.size, 1, none⟩))) :: (Calm.isV (.int .i64 (xl))) :: (Calm.isV (.pointer (some ⟨wr.heap.size, 1, none⟩))) :: (Calm.isV (.int .i64 (n.lo))) :: (Calm.isV (.int .i64 (wrap64 (Int.tdiv xl n.lo)))) :: (Calm.isV (.pointer (some ⟨w.heap.size, 1, none⟩))) :: (Calm.isV (.int .i64 (xl))) :: (Calm.isV (.pointer (some ⟨wr.heap.size, 2, none⟩))) :: (Calm.isV (.int .i64 (n.hi))) :: (Calm.isV (.int .i64 (wrap64 (Int.tdiv xl n.hi)))) :: (Calm.isV (.pointer (some ⟨w.heap.size, 2, none⟩))) :: (Calm.isV (.int .i64 (xh))) :: (Calm.isV (.pointer (some ⟨wr.heap.size, 1, none⟩))) :: (Calm.isV (.int .i64 (n.lo))) :: (Calm.isV (.int .i64 (wrap64 (Int.tdiv xh n.lo)))) :: (Calm.isV (.pointer (some ⟨w.heap.size, 2, none⟩))) :: (Calm.isV (.int .i64 (xh))) :: (Calm.isV (.pointer (some ⟨wr.heap.size, 2, none⟩))) :: (Calm.isV (.int .i64 (n.hi))) :: (Calm.isV (.int .i64 (wrap64 (Int.tdiv xh n.hi)))) :: (Calm.isV (.int .i64 (wrap64 (Int.tdiv xl n.lo)))) :: (Calm.isV (.int .i64 (wrap64 (Int.tdiv xl n.hi)))) :: (Calm.isV (.int .i64 (wrap64 (Int.tdiv xh n.lo)))) :: (Calm.isV (.int .i64 (wrap64 (Int.tdiv xh n.hi)))) :: []) ?hL (by kernel_rfl) (by kernel_rfl) (Below.refl _ _) ?step ?fin
                case hL => repeat' (first | exact List.forall_mem_nil _ | refine List.forall_mem_cons.2 ⟨by first | exact Calm.stable_is _ | exact Calm.stable_row _ _ | exact Calm.stable_any | exact Calm.stable_var _ _ | exact Calm.stable_if _ _, ?_⟩)
                case step =>
                  refine Calm.Steps.cons (Calm.step_plain rfl ?_) ?_
                  · intro a_ w1 hS hsz hold hdep K hK
                    have h2 : a_.tmps[2]? = some (.pointer (some ⟨w.heap.size, 0, none⟩)) := (hold 2 (by kernel_rfl)).trans rfl
                    have e2 := Calm.at_getD h2
                    clear hsz hold hdep
                    have hcl := fun (b o : Nat) (h : b < _) => Below.cell hS (p := ⟨b, o, none⟩) h
                    go_simp
                    exact hK _ _ (Below.refl _ _) rfl
                  refine Calm.Steps.cons (Calm.step_plain rfl ?_) ?_
                  · intro a_ w1 hS hsz hold hdep K hK
                    have h52 := Calm.is_at (x := .pointer (some ⟨w.heap.size, 1, none⟩)) hdep (k := 0) (by kernel_rfl) rfl rfl (fun _ _ h => h)
                    have e52 := Calm.at_getD h52
                    clear hsz hold hdep
                    have hcl := fun (b o : Nat) (h : b < _) => Below.cell hS (p := ⟨b, o, none⟩) h
                    go_simp
                    exact hK _ _ (Below.refl _ _) rfl
                  refine Calm.Steps.cons (Calm.step_plain rfl ?_) ?_
                  · intro a_ w1 hS hsz hold hdep K hK
                    have h10 : a_.tmps[10]? = some (.pointer (some ⟨wr.heap.size, 0, none⟩)) := (hold 10 (by kernel_rfl)).trans rfl
                    have e10 := Calm.at_getD h10
                    clear hsz hold hdep
                    have hcl := fun (b o : Nat) (h : b < _) => Below.cell hS (p := ⟨b, o, none⟩) h
                    go_simp
                    exact hK _ _ (Below.refl _ _) rfl
                  refine Calm.Steps.cons (Calm.step_plain rfl ?_) ?_
                  · intro a_ w1 hS hsz hold hdep K hK
                    have h54 := Calm.is_at (x := .pointer (some ⟨wr.heap.size, 1, none⟩)) hdep (k := 2) (by kernel_rfl) rfl rfl (fun _ _ h => h)
                    have e54 := Calm.at_getD h54
                    clear hsz hold hdep
                    have hcl := fun (b o : Nat) (h : b < _) => Below.cell hS (p := ⟨b, o, none⟩) h
                    go_simp
                    exact hK _ _ (Below.refl _ _) rfl
                  refine Calm.Steps.cons (Calm.step_plain rfl ?_) ?_
                  · intro a_ w1 hS hsz hold hdep K hK
                    have h53 := Calm.is_at (x := .int .i64 (xl)) hdep (k := 1) (by kernel_rfl) rfl rfl (fun _ _ h => h)
                    have e53 := Calm.at_getD h53
                    have h55 := Calm.is_at (x := .int .i64 (n.lo)) hdep (k := 3) (by kernel_rfl) rfl rfl (fun _ _ h => h)
                    have e55 := Calm.at_getD h55
                    clear hsz hold hdep
                    have hcl := fun (b o : Nat) (h : b < _) => Below.cell hS (p := ⟨b, o, none⟩) h
                    go_simp
                    refine hK _ _ (Below.refl _ _) ?_
                    exact congrArg (Value.int IntKind.i64) (by first | rfl | exact i64w' _)
                  refine Calm.Steps.cons (Calm.step_plain rfl ?_) ?_
                  · intro a_ w1 hS hsz hold hdep K hK
                    have h2 : a_.tmps[2]? = some (.pointer (some ⟨w.heap.size, 0, none⟩)) := (hold 2 (by kernel_rfl)).trans rfl
                    have e2 := Calm.at_getD h2
                    clear hsz hold hdep
                    have hcl := fun (b o : Nat) (h : b < _) => Below.cell hS (p := ⟨b, o, none⟩) h
                    go_simp
                    exact hK _ _ (Below.refl _ _) rfl
                  refine Calm.Steps.cons (Calm.step_plain rfl ?_) ?_
                  · intro a_ w1 hS hsz hold hdep K hK
                    have h57 := Calm.is_at (x := .pointer (some ⟨w.heap.size, 1, none⟩)) hdep (k := 5) (by kernel_rfl) rfl rfl (fun _ _ h => h)
                    have e57 := Calm.at_getD h57
                    clear hsz hold hdep
                    have hcl := fun (b o : Nat) (h : b < _) => Below.cell hS (p := ⟨b, o, none⟩) h
                    go_simp
                    exact hK _ _ (Below.refl _ _) rfl
                  refine Calm.Steps.cons (Calm.step_plain rfl ?_) ?_
                  · intro a_ w1 hS hsz hold hdep K hK
                    have h10 : a_.tmps[10]? = some (.pointer (some ⟨wr.heap.size, 0, none⟩)) := (hold 10 (by kernel_rfl)).trans rfl
                    have e10 := Calm.at_getD h10
                    clear hsz hold hdep
                    have hcl := fun (b o : Nat) (h : b < _) => Below.cell hS (p := ⟨b, o, none⟩) h
                    go_simp
                    exact hK _ _ (Below.refl _ _) rfl
                  refine Calm.Steps.cons (Calm.step_plain rfl ?_) ?_
                  · intro a_ w1 hS hsz hold hdep K hK
                    have h59 := Calm.is_at (x := .pointer (some ⟨wr.heap.size, 2, none⟩)) hdep (k := 7) (by kernel_rfl) rfl rfl (fun _ _ h => h)
                    have e59 := Calm.at_getD h59
                    clear hsz hold hdep
                    have hcl := fun (b o : Nat) (h : b < _) => Below.cell hS (p := ⟨b, o, none⟩) h
                    go_simp
                    exact hK _ _ (Below.refl _ _) rfl
                  refine Calm.Steps.cons (Calm.step_plain rfl ?_) ?_
                  · intro a_ w1 hS hsz hold hdep K hK
                    have h58 := Calm.is_at (x := .int .i64 (xl)) hdep (k := 6) (by kernel_rfl) rfl rfl (fun _ _ h => h)
                    have e58 := Calm.at_getD h58
                    have h60 := Calm.is_at (x := .int .i64 (n.hi)) hdep (k := 8) (by kernel_rfl) rfl rfl (fun _ _ h => h)
                    have e60 := Calm.at_getD h60
                    clear hsz hold hdep
                    have hcl := fun (b o : Nat) (h : b < _) => Below.cell hS (p := ⟨b, o, none⟩) h
                    go_simp
                    refine hK _ _ (Below.refl _ _) ?_
                    exact congrArg (Value.int IntKind.i64) (by first | rfl | exact i64w' _)
                  refine Calm.Steps.cons (Calm.step_plain rfl ?_) ?_
                  · intro a_ w1 hS hsz hold hdep K hK
                    have h2 : a_.tmps[2]? = some (.pointer (some ⟨w.heap.size, 0, none⟩)) := (hold 2 (by kernel_rfl)).trans rfl
                    have e2 := Calm.at_getD h2
                    clear hsz hold hdep
                    have hcl := fun (b o : Nat) (h : b < _) => Below.cell hS (p := ⟨b, o, none⟩) h
                    go_simp
                    exact hK _ _ (Below.refl _ _) rfl
                  refine Calm.Steps.cons (Calm.step_plain rfl ?_) ?_
                  · intro a_ w1 hS hsz hold hdep K hK
                    have h62 := Calm.is_at (x := .pointer (some ⟨w.heap.size, 2, none⟩)) hdep (k := 10) (by kernel_rfl) rfl rfl (fun _ _ h => h)
                    have e62 := Calm.at_getD h62
                    clear hsz hold hdep
                    have hcl := fun (b o : Nat) (h : b < _) => Below.cell hS (p := ⟨b, o, none⟩) h
                    go_simp
                    exact hK _ _ (Below.refl _ _) rfl
                  refine Calm.Steps.cons (Calm.step_plain rfl ?_) ?_
                  · intro a_ w1 hS hsz hold hdep K hK
                    have h10 : a_.tmps[10]? = some (.pointer (some ⟨wr.heap.size, 0, none⟩)) := (hold 10 (by kernel_rfl)).trans rfl
                    have e10 := Calm.at_getD h10
                    clear hsz hold hdep
                    have hcl := fun (b o : Nat) (h : b < _) => Below.cell hS (p := ⟨b, o, none⟩) h
                    go_simp
                    exact hK _ _ (Below.refl _ _) rfl
                  refine Calm.Steps.cons (Calm.step_plain rfl ?_) ?_
                  · intro a_ w1 hS hsz hold hdep K hK
                    have h64 := Calm.is_at (x := .pointer (some ⟨wr.heap.size, 1, none⟩)) hdep (k := 12) (by kernel_rfl) rfl rfl (fun _ _ h => h)
                    have e64 := Calm.at_getD h64
                    clear hsz hold hdep
                    have hcl := fun (b o : Nat) (h : b < _) => Below.cell hS (p := ⟨b, o, none⟩) h
                    go_simp
                    exact hK _ _ (Below.refl _ _) rfl
                  refine Calm.Steps.cons (Calm.step_plain rfl ?_) ?_
                  · intro a_ w1 hS hsz hold hdep K hK
                    have h63 := Calm.is_at (x := .int .i64 (xh)) hdep (k := 11) (by kernel_rfl) rfl rfl (fun _ _ h => h)
                    have e63 := Calm.at_getD h63
                    have h65 := Calm.is_at (x := .int .i64 (n.lo)) hdep (k := 13) (by kernel_rfl) rfl rfl (fun _ _ h => h)
                    have e65 := Calm.at_getD h65
                    clear hsz hold hdep
                    have hcl := fun (b o : Nat) (h : b < _) => Below.cell hS (p := ⟨b, o, none⟩) h
                    go_simp
                    refine hK _ _ (Below.refl _ _) ?_
                    exact congrArg (Value.int IntKind.i64) (by first | rfl | exact i64w' _)
                  refine Calm.Steps.cons (Calm.step_plain rfl ?_) ?_
                  · intro a_ w1 hS hsz hold hdep K hK
                    have h2 : a_.tmps[2]? = some (.pointer (some ⟨w.heap.size, 0, none⟩)) := (hold 2 (by kernel_rfl)).trans rfl
                    have e2 := Calm.at_getD h2
                    clear hsz hold hdep
                    have hcl := fun (b o : Nat) (h : b < _) => Below.cell hS (p := ⟨b, o, none⟩) h
                    go_simp
                    exact hK _ _ (Below.refl _ _) rfl
                  refine Calm.Steps.cons (Calm.step_plain rfl ?_) ?_
                  · intro a_ w1 hS hsz hold hdep K hK
                    have h67 := Calm.is_at (x := .pointer (some ⟨w.heap.size, 2, none⟩)) hdep (k := 15) (by kernel_rfl) rfl rfl (fun _ _ h => h)
                    have e67 := Calm.at_getD h67
                    clear hsz hold hdep
                    have hcl := fun (b o : Nat) (h : b < _) => Below.cell hS (p := ⟨b, o, none⟩) h
                    go_simp
                    exact hK _ _ (Below.refl _ _) rfl
                  refine Calm.Steps.cons (Calm.step_plain rfl ?_) ?_
                  · intro a_ w1 hS hsz hold hdep K hK
                    have h10 : a_.tmps[10]? = some (.pointer (some ⟨wr.heap.size, 0, none⟩)) := (hold 10 (by kernel_rfl)).trans rfl
                    have e10 := Calm.at_getD h10
                    clear hsz hold hdep
                    have hcl := fun (b o : Nat) (h : b < _) => Below.cell hS (p := ⟨b, o, none⟩) h
                    go_simp
                    exact hK _ _ (Below.refl _ _) rfl
                  refine Calm.Steps.cons (Calm.step_plain rfl ?_) ?_
                  · intro a_ w1 hS hsz hold hdep K hK
                    have h69 := Calm.is_at (x := .pointer (some ⟨wr.heap.size, 2, none⟩)) hdep (k := 17) (by kernel_rfl) rfl rfl (fun _ _ h => h)
                    have e69 := Calm.at_getD h69
                    clear hsz hold hdep
                    have hcl := fun (b o : Nat) (h : b < _) => Below.cell hS (p := ⟨b, o, none⟩) h
                    go_simp
                    exact hK _ _ (Below.refl _ _) rfl
                  refine Calm.Steps.cons (Calm.step_plain rfl ?_) ?_
                  · intro a_ w1 hS hsz hold hdep K hK
                    have h68 := Calm.is_at (x := .int .i64 (xh)) hdep (k := 16) (by kernel_rfl) rfl rfl (fun _ _ h => h)
                    have e68 := Calm.at_getD h68
                    have h70 := Calm.is_at (x := .int .i64 (n.hi)) hdep (k := 18) (by kernel_rfl) rfl rfl (fun _ _ h => h)
                    have e70 := Calm.at_getD h70
                    clear hsz hold hdep
                    have hcl := fun (b o : Nat) (h : b < _) => Below.cell hS (p := ⟨b, o, none⟩) h
                    go_simp
                    refine hK _ _ (Below.refl _ _) ?_
                    exact congrArg (Value.int IntKind.i64) (by first | rfl | exact i64w' _)
                  refine Calm.Steps.cons (Calm.step_plain rfl ?_) ?_
                  · intro a_ w1 hS hsz hold hdep K hK
                    have h56 := Calm.is_at (x := .int .i64 (wrap64 (Int.tdiv xl n.lo))) hdep (k := 4) (by kernel_rfl) rfl rfl (fun _ _ h => h)
                    have e56 := Calm.at_getD h56
                    clear hsz hold hdep
                    have hcl := fun (b o : Nat) (h : b < _) => Below.cell hS (p := ⟨b, o, none⟩) h
                    go_simp
                    exact hK _ _ (Below.refl _ _) rfl
                  refine Calm.Steps.cons (Calm.step_plain rfl ?_) ?_
                  · intro a_ w1 hS hsz hold hdep K hK
                    have h61 := Calm.is_at (x := .int .i64 (wrap64 (Int.tdiv xl n.hi))) hdep (k := 9) (by kernel_rfl) rfl rfl (fun _ _ h => h)
                    have e61 := Calm.at_getD h61
                    clear hsz hold hdep
                    have hcl := fun (b o : Nat) (h : b < _) => Below.cell hS (p := ⟨b, o, none⟩) h
                    go_simp
                    exact hK _ _ (Below.refl _ _) rfl
                  refine Calm.Steps.cons (Calm.step_plain rfl ?_) ?_
                  · intro a_ w1 hS hsz hold hdep K hK
                    have h66 := Calm.is_at (x := .int .i64 (wrap64 (Int.tdiv xh n.lo))) hdep (k := 14) (by kernel_rfl) rfl rfl (fun _ _ h => h)
                    have e66 := Calm.at_getD h66
                    clear hsz hold hdep
                    have hcl := fun (b o : Nat) (h : b < _) => Below.cell hS (p := ⟨b, o, none⟩) h
                    go_simp
                    exact hK _ _ (Below.refl _ _) rfl
                  refine Calm.Steps.cons (Calm.step_plain rfl ?_) ?_
                  · intro a_ w1 hS hsz hold hdep K hK
                    have h71 := Calm.is_at (x := .int .i64 (wrap64 (Int.tdiv xh n.hi))) hdep (k := 19) (by kernel_rfl) rfl rfl (fun _ _ h => h)
                    have e71 := Calm.at_getD h71
                    clear hsz hold hdep
                    have hcl := fun (b o : Nat) (h : b < _) => Below.cell hS (p := ⟨b, o, none⟩) h
                    go_simp
                    exact hK _ _ (Below.refl _ _) rfl
                  exact Calm.Steps.nil
                case fin =>
                  intro v w1 hS hv
                  have hcl := fun (b o : Nat) (h : b < _) => Below.cell hS (p := ⟨b, o, none⟩) h
                  have hfl := fun (b o : Nat) (h : b < _) => Below.frozen hS (p := ⟨b, o, none⟩) h
                  have k20 : v 20 = .int .i64 (wrap64 (Int.tdiv xl n.lo)) := hv 20 (by decide)
                  have k21 : v 21 = .int .i64 (wrap64 (Int.tdiv xl n.hi)) := hv 21 (by decide)
                  have k22 : v 22 = .int .i64 (wrap64 (Int.tdiv xh n.lo)) := hv 22 (by decide)
                  have k23 : v 23 = .int .i64 (wrap64 (Int.tdiv xh n.hi)) := hv 23 (by decide)
                  have hown1 := Own.call (Own.call hown (by first | (with_reducible assumption) | (go_grown; all_goals first | omega | (simp; omega)))) hS
                  have hB1 : Below w.heap.size w w1 := below_call (w := w) (by first | (with_reducible assumption) | ((try go_grown); (all_goals (repeat' (first | (with_reducible assumption) | (refine below_call ?_ (by assumption); (try go_grown))))); all_goals (first | omega | (simp; omega)))) hS
                  obtain ⟨hzw1_0_0, hzw1_0_1, hzw1_0_2, hzw1_1_0, hzw1_1_1, hzw1_1_2, hzw1_2_0, hzw1_2_1, hzw1_2_2, hzw1_3_0, hzw1_3_1, hzw1_3_2⟩ : w.heap.size < w1.heap.size ∧ w.heap.size < w1.heap.size + 1 ∧ w.heap.size < w1.heap.size + 1 + 1 ∧ w.heap.size + 1 < w1.heap.size ∧ w.heap.size + 1 < w1.heap.size + 1 ∧ w.heap.size + 1 < w1.heap.size + 1 + 1 ∧ w.heap.size + 1 + 1 < w1.heap.size ∧ w.heap.size + 1 + 1 < w1.heap.size + 1 ∧ w.heap.size + 1 + 1 < w1.heap.size + 1 + 1 ∧ gs < w1.heap.size ∧ gs < w1.heap.size + 1 ∧ gs < w1.heap.size + 1 + 1 := by { have := hS.size; (try simp at this); omega }
                  clear hv
                  simp only [List.append, Calm.puts, Act.put, List.setIfInBounds_toArray, List.set_cons_zero, List.set_cons_succ]
                  simp only [k20, k21, k22, k23]
                  clear k20 k21 k22 k23
                  go_wp2_with (first | (go_at_call 22; (with_reducible refine (rof_any _ _ Qn HOF _).mono ?_); rintro e w8 ⟨rfl, hB8⟩; have hown8 := Own.call hown1 hB8; obtain ⟨hc, hf, hs8⟩ := bcell hB8; clear hs8; obtain ⟨hzw8_0_0, hzw8_0_1, hzw8_0_2, hzw8_1_0, hzw8_1_1, hzw8_1_2, hzw8_2_0, hzw8_2_1, hzw8_2_2, hzw8_3_0, hzw8_3_1, hzw8_3_2⟩ : w.heap.size < w8.heap.size ∧ w.heap.size < w8.heap.size + 1 ∧ w.heap.size < w8.heap.size + 1 + 1 ∧ w.heap.size + 1 < w8.heap.size ∧ w.heap.size + 1 < w8.heap.size + 1 ∧ w.heap.size + 1 < w8.heap.size + 1 + 1 ∧ w.heap.size + 1 + 1 < w8.heap.size ∧ w.heap.size + 1 + 1 < w8.heap.size + 1 ∧ w.heap.size + 1 + 1 < w8.heap.size + 1 + 1 ∧ gs < w8.heap.size ∧ gs < w8.heap.size + 1 ∧ gs < w8.heap.size + 1 + 1 := by { have := hB8.size; (try simp at this); omega }) | (at_builtin; refine wpl_app rfl (.tmp 72) (.tmp 84) rfl (gs + 1) _ [] rfl (hown8.call (by go_grown)) _ Qn rfl ?_ ?_ ?_ (by first | simp | exact HLN.out) ?_ ?_; (focus go_simp); (focus go_simp); (focus go_simp); (focus (simp; omega)); intro v9 w9 hown9 hB9; have hcB := fun (b o : Nat) (h : b < gs + 1) => Below.cell hB9 (p := ⟨b, o, none⟩) h; have hfB := fun (b o : Nat) (h : b < gs + 1) => Below.frozen hB9 (p := ⟨b, o, none⟩) h; have hBz : Below w.heap.size w w9 := Below.trans (by first | (with_reducible assumption) | ((try go_grown); (all_goals (repeat' (first | (with_reducible assumption) | (refine below_call ?_ (by assumption); (try go_grown))))); all_goals (first | omega | (simp; omega)))) (hB9.mono (by omega)); clear hB9))
                  go_roundg (2 - 0 - 1)
                  case measure => have := HH.out.out; omega
                  case rel =>
                    have hz : wr.cell? ⟨gs, 0, none⟩ = some (.bool n.s) := by rw [HS.out]; assumption
                    clear s0
                    exact ⟨0 + 1, (0 + 1 : Int), L1, ⟨rfl, by omega, by omega, by simp⟩, rfl, by rw [← HLL.out]; exact hown9, ⟨by go_simp, by go_simp, by go_simp, by go_simp, by go_simp, by go_simp⟩, ⟨by go_simp, by go_simp, by go_simp, by go_simp, by go_simp, by go_simp⟩, ⟨by go_simp, by go_simp, by go_simp, by go_simp, by go_simp, by go_simp⟩, by go_simp, by go_simp, by go_simp, by go_simp, by go_simp, by go_simp, by first | (with_reducible assumption) | ((try go_grown); (all_goals (repeat' (first | (with_reducible assumption) | (refine below_call ?_ (by assumption); (try go_grown))))); all_goals (first | omega | (simp; omega)))⟩
            · have hs01 : p.s = false ∨ p.s = true := by cases p.s <;> simp
              rcases hs01 with hs | hs
              · have hL : L1 = L2 := by rw [← HL2.out, hs]; simp
                rw [hs] at s3
                have HS := Lib.hid hs
                clear hs
                have HLL := Lib.hid hL
                clear hL
                go_wp2
                go_roundg (2 - 1 - 1)
                case measure => have := HH.out.out; omega
                case rel =>
                  have hz : wr.cell? ⟨gs, 3, none⟩ = some (.bool p.s) := by rw [HS.out]; assumption
                  clear s3
                  exact ⟨1 + 1, (1 + 1 : Int), L2, ⟨rfl, by omega, by omega, by simp⟩, rfl, by rw [← HLL.out]; exact hown.call (by first | (with_reducible assumption) | (go_grown; all_goals first | omega | (simp; omega))), ⟨by go_simp, by go_simp, by go_simp, by go_simp, by go_simp, by go_simp⟩, ⟨by go_simp, by go_simp, by go_simp, by go_simp, by go_simp, by go_simp⟩, ⟨by go_simp, by go_simp, by go_simp, by go_simp, by go_simp, by go_simp⟩, by go_simp, by go_simp, by go_simp, by go_simp, by go_simp, by go_simp, by first | (with_reducible assumption) | ((try go_grown); (all_goals (repeat' (first | (with_reducible assumption) | (refine below_call ?_ (by assumption); (try go_grown))))); all_goals (first | omega | (simp; omega)))⟩
              · obtain ⟨h1, h2⟩ := Hp.out hs
                have hz1 : (p.lo == 0) = false := beq_eq_false_iff_ne.mpr h1
                have hz2 : (p.hi == 0) = false := beq_eq_false_iff_ne.mpr h2
                have hL : L1 ++ [Qp] = L2 := by rw [← HL2.out, hs]; simp
                have HOF := HOp.out hs
                rw [hs] at s3
                have HS := Lib.hid hs
                clear hs
                have HLL := Lib.hid hL
                clear hL
                go_upto_region 12 with (fail)
                refine Calm.wp_calm2 (by kernel_rfl) _ ((Calm.isV (.pointer (some ⟨w.heap.size, 1, none⟩))) :: (Calm.isV (.int .i64 (xl))) :: (Calm.isV (.pointer (some ⟨wr.heap.size, 1, none⟩))) :: (Calm.isV (.int .i64 (p.lo))) :: (Calm.isV (.int .i64 (wrap64 (Int.tdiv xl p.lo)))) :: (Calm.isV (.pointer (some ⟨w.heap.size, 1, none⟩))) :: (Calm.isV (.int .i64 (xl))) :: (Calm.isV (.pointer (some ⟨wr.heap.size, 2, none⟩))) :: (Calm.isV (.int .i64 (p.hi))) :: (Calm.isV (.int .i64 (wrap64 (Int.tdiv xl p.hi)))) :: (Calm.isV (.pointer (some ⟨w.heap.size, 2, none⟩))) :: (Calm.isV (.int .i64 (xh))) :: (Calm.isV (.pointer (some ⟨wr.heap.size, 1, none⟩))) :: (Calm.isV (.int .i64 (p.lo))) :: (Calm.isV (.int .i64 (wrap64 (Int.tdiv xh p.lo)))) :: (Calm.isV (.pointer (some ⟨w.heap.size, 2, none⟩))) :: (Calm.isV (.int .i64 (xh))) :: (Calm.isV (.pointer (some ⟨wr.heap.size, 2, none⟩))) :: (Calm.isV (.int .i64 (p.hi))) :: (Calm.isV (.int .i64 (wrap64 (Int.tdiv xh p.hi)))) :: (Calm.isV (.int .i64 (wrap64 (Int.tdiv xl p.lo)))) :: (Calm.isV (.int .i64 (wrap64 (Int.tdiv xl p.hi)))) :: (Calm.isV (.int .i64 (wrap64 (Int.tdiv xh p.lo)))) :: (Calm.isV (.int .i64 (wrap64 (Int.tdiv xh p.hi)))) :: []) ?hL (by kernel_rfl) (by kernel_rfl) (Below.refl _ _) ?step ?fin
                case hL => repeat' (first | exact List.forall_mem_nil _ | refine List.forall_mem_cons.2 ⟨by first | exact Calm.stable_is _ | exact Calm.stable_row _ _ | exact Calm.stable_any | exact Calm.stable_var _ _ | exact Calm.stable_if _ _, ?_⟩)
                case step =>
                  refine Calm.Steps.cons (Calm.step_plain rfl ?_) ?_
                  · intro a_ w1 hS hsz hold hdep K hK
                    have h2 : a_.tmps[2]? = some (.pointer (some ⟨w.heap.size, 0, none⟩)) := (hold 2 (by kernel_rfl)).trans rfl
                    have e2 := Calm.at_getD h2
                    clear hsz hold hdep
                    have hcl := fun (b o : Nat) (h : b < _) => Below.cell hS (p := ⟨b, o, none⟩) h
                    go_simp
                    exact hK _ _ (Below.refl _ _) rfl
                  refine Calm.Steps.cons (Calm.step_plain rfl ?_) ?_
                  · intro a_ w1 hS hsz hold hdep K hK
                    have h52 := Calm.is_at (x := .pointer (some ⟨w.heap.size, 1, none⟩)) hdep (k := 0) (by kernel_rfl) rfl rfl (fun _ _ h => h)
                    have e52 := Calm.at_getD h52
                    clear hsz hold hdep
                    have hcl := fun (b o : Nat) (h : b < _) => Below.cell hS (p := ⟨b, o, none⟩) h
                    go_simp
                    exact hK _ _ (Below.refl _ _) rfl
                  refine Calm.Steps.cons (Calm.step_plain rfl ?_) ?_
                  · intro a_ w1 hS hsz hold hdep K hK
                    have h10 : a_.tmps[10]? = some (.pointer (some ⟨wr.heap.size, 0, none⟩)) := (hold 10 (by kernel_rfl)).trans rfl
                    have e10 := Calm.at_getD h10
                    clear hsz hold hdep
                    have hcl := fun (b o : Nat) (h : b < _) => Below.cell hS (p := ⟨b, o, none⟩) h
                    go_simp
                    exact hK _ _ (Below.refl _ _) rfl
                  refine Calm.Steps.cons (Calm.step_plain rfl ?_) ?_
                  · intro a_ w1 hS hsz hold hdep K hK
                    have h54 := Calm.is_at (x := .pointer (some ⟨wr.heap.size, 1, none⟩)) hdep (k := 2) (by kernel_rfl) rfl rfl (fun _ _ h => h)
                    have e54 := Calm.at_getD h54
                    clear hsz hold hdep
                    have hcl := fun (b o : Nat) (h : b < _) => Below.cell hS (p := ⟨b, o, none⟩) h
                    go_simp
                    exact hK _ _ (Below.refl _ _) rfl
                  refine Calm.Steps.cons (Calm.step_plain rfl ?_) ?_
                  · intro a_ w1 hS hsz hold hdep K hK
                    have h53 := Calm.is_at (x := .int .i64 (xl)) hdep (k := 1) (by kernel_rfl) rfl rfl (fun _ _ h => h)
                    have e53 := Calm.at_getD h53
                    have h55 := Calm.is_at (x := .int .i64 (p.lo)) hdep (k := 3) (by kernel_rfl) rfl rfl (fun _ _ h => h)
                    have e55 := Calm.at_getD h55
                    clear hsz hold hdep
                    have hcl := fun (b o : Nat) (h : b < _) => Below.cell hS (p := ⟨b, o, none⟩) h
                    go_simp
                    refine hK _ _ (Below.refl _ _) ?_
                    exact congrArg (Value.int IntKind.i64) (by first | rfl | exact i64w' _)
                  refine Calm.Steps.cons (Calm.step_plain rfl ?_) ?_
                  · intro a_ w1 hS hsz hold hdep K hK
                    have h2 : a_.tmps[2]? = some (.pointer (some ⟨w.heap.size, 0, none⟩)) := (hold 2 (by kernel_rfl)).trans rfl
                    have e2 := Calm.at_getD h2
                    clear hsz hold hdep
                    have hcl := fun (b o : Nat) (h : b < _) => Below.cell hS (p := ⟨b, o, none⟩) h
                    go_simp
                    exact hK _ _ (Below.refl _ _) rfl
                  refine Calm.Steps.cons (Calm.step_plain rfl ?_) ?_
                  · intro a_ w1 hS hsz hold hdep K hK
                    have h57 := Calm.is_at (x := .pointer (some ⟨w.heap.size, 1, none⟩)) hdep (k := 5) (by kernel_rfl) rfl rfl (fun _ _ h => h)
                    have e57 := Calm.at_getD h57
                    clear hsz hold hdep
                    have hcl := fun (b o : Nat) (h : b < _) => Below.cell hS (p := ⟨b, o, none⟩) h
                    go_simp
                    exact hK _ _ (Below.refl _ _) rfl
                  refine Calm.Steps.cons (Calm.step_plain rfl ?_) ?_
                  · intro a_ w1 hS hsz hold hdep K hK
                    have h10 : a_.tmps[10]? = some (.pointer (some ⟨wr.heap.size, 0, none⟩)) := (hold 10 (by kernel_rfl)).trans rfl
                    have e10 := Calm.at_getD h10
                    clear hsz hold hdep
                    have hcl := fun (b o : Nat) (h : b < _) => Below.cell hS (p := ⟨b, o, none⟩) h
                    go_simp
                    exact hK _ _ (Below.refl _ _) rfl
                  refine Calm.Steps.cons (Calm.step_plain rfl ?_) ?_
                  · intro a_ w1 hS hsz hold hdep K hK
                    have h59 := Calm.is_at (x := .pointer (some ⟨wr.heap.size, 2, none⟩)) hdep (k := 7) (by kernel_rfl) rfl rfl (fun _ _ h => h)
                    have e59 := Calm.at_getD h59
                    clear hsz hold hdep
                    have hcl := fun (b o : Nat) (h : b < _) => Below.cell hS (p := ⟨b, o, none⟩) h
                    go_simp
                    exact hK _ _ (Below.refl _ _) rfl
                  refine Calm.Steps.cons (Calm.step_plain rfl ?_) ?_
                  · intro a_ w1 hS hsz hold hdep K hK
                    have h58 := Calm.is_at (x := .int .i64 (xl)) hdep (k := 6) (by kernel_rfl) rfl rfl (fun _ _ h => h)
                    have e58 := Calm.at_getD h58
                    have h60 := Calm.is_at (x := .int .i64 (p.hi)) hdep (k := 8) (by kernel_rfl) rfl rfl (fun _ _ h => h)
                    have e60 := Calm.at_getD h60
                    clear hsz hold hdep
                    have hcl := fun (b o : Nat) (h : b < _) => Below.cell hS (p := ⟨b, o, none⟩) h
                    go_simp
                    refine hK _ _ (Below.refl _ _) ?_
                    exact congrArg (Value.int IntKind.i64) (by first | rfl | exact i64w' _)
                  refine Calm.Steps.cons (Calm.step_plain rfl ?_) ?_
                  · intro a_ w1 hS hsz hold hdep K hK
                    have h2 : a_.tmps[2]? = some (.pointer (some ⟨w.heap.size, 0, none⟩)) := (hold 2 (by kernel_rfl)).trans rfl
                    have e2 := Calm.at_getD h2
                    clear hsz hold hdep
                    have hcl := fun (b o : Nat) (h : b < _) => Below.cell hS (p := ⟨b, o, none⟩) h
                    go_simp
                    exact hK _ _ (Below.refl _ _) rfl
                  refine Calm.Steps.cons (Calm.step_plain rfl ?_) ?_
                  · intro a_ w1 hS hsz hold hdep K hK
                    have h62 := Calm.is_at (x := .pointer (some ⟨w.heap.size, 2, none⟩)) hdep (k := 10) (by kernel_rfl) rfl rfl (fun _ _ h => h)
                    have e62 := Calm.at_getD h62
                    clear hsz hold hdep
                    have hcl := fun (b o : Nat) (h : b < _) => Below.cell hS (p := ⟨b, o, none⟩) h
                    go_simp
                    exact hK _ _ (Below.refl _ _) rfl
                  refine Calm.Steps.cons (Calm.step_plain rfl ?_) ?_
                  · intro a_ w1 hS hsz hold hdep K hK
                    have h10 : a_.tmps[10]? = some (.pointer (some ⟨wr.heap.size, 0, none⟩)) := (hold 10 (by kernel_rfl)).trans rfl
                    have e10 := Calm.at_getD h10
                    clear hsz hold hdep
                    have hcl := fun (b o : Nat) (h : b < _) => Below.cell hS (p := ⟨b, o, none⟩) h
                    go_simp
                    exact hK _ _ (Below.refl _ _) rfl
                  refine Calm.Steps.cons (Calm.step_plain rfl ?_) ?_
                  · intro a_ w1 hS hsz hold hdep K hK
                    have h64 := Calm.is_at (x := .pointer (some ⟨wr.heap.size, 1, none⟩)) hdep (k := 12) (by kernel_rfl) rfl rfl (fun _ _ h => h)
                    have e64 := Calm.at_getD h64
                    clear hsz hold hdep
                    have hcl := fun (b o : Nat) (h : b < _) => Below.cell hS (p := ⟨b, o, none⟩) h
                    go_simp
                    exact hK _ _ (Below.refl _ _) rfl
                  refine Calm.Steps.cons (Calm.step_plain rfl ?_) ?_
                  · intro a_ w1 hS hsz hold hdep K hK
                    have h63 := Calm.is_at (x := .int .i64 (xh)) hdep (k := 11) (by kernel_rfl) rfl rfl (fun _ _ h => h)
                    have e63 := Calm.at_getD h63
                    have h65 := Calm.is_at (x := .int .i64 (p.lo)) hdep (k := 13) (by kernel_rfl) rfl rfl (fun _ _ h => h)
                    have e65 := Calm.at_getD h65
                    clear hsz hold hdep
                    have hcl := fun (b o : Nat) (h : b < _) => Below.cell hS (p := ⟨b, o, none⟩) h
                    go_simp
                    refine hK _ _ (Below.refl _ _) ?_
                    exact congrArg (Value.int IntKind.i64) (by first | rfl | exact i64w' _)
                  refine Calm.Steps.cons (Calm.step_plain rfl ?_) ?_
                  · intro a_ w1 hS hsz hold hdep K hK
                    have h2 : a_.tmps[2]? = some (.pointer (some ⟨w.heap.size, 0, none⟩)) := (hold 2 (by kernel_rfl)).trans rfl
                    have e2 := Calm.at_getD h2
                    clear hsz hold hdep
                    have hcl := fun (b o : Nat) (h : b < _) => Below.cell hS (p := ⟨b, o, none⟩) h
                    go_simp
                    exact hK _ _ (Below.refl _ _) rfl
                  refine Calm.Steps.cons (Calm.step_plain rfl ?_) ?_
                  · intro a_ w1 hS hsz hold hdep K hK
                    have h67 := Calm.is_at (x := .pointer (some ⟨w.heap.size, 2, none⟩)) hdep (k := 15) (by kernel_rfl) rfl rfl (fun _ _ h => h)
                    have e67 := Calm.at_getD h67
                    clear hsz hold hdep
                    have hcl := fun (b o : Nat) (h : b < _) => Below.cell hS (p := ⟨b, o, none⟩) h
                    go_simp
                    exact hK _ _ (Below.refl _ _) rfl
                  refine Calm.Steps.cons (Calm.step_plain rfl ?_) ?_
                  · intro a_ w1 hS hsz hold hdep K hK
                    have h10 : a_.tmps[10]? = some (.pointer (some ⟨wr.heap.size, 0, none⟩)) := (hold 10 (by kernel_rfl)).trans rfl
                    have e10 := Calm.at_getD h10
                    clear hsz hold hdep
                    have hcl := fun (b o : Nat) (h : b < _) => Below.cell hS (p := ⟨b, o, none⟩) h
                    go_simp
                    exact hK _ _ (Below.refl _ _) rfl
                  refine Calm.Steps.cons (Calm.step_plain rfl ?_) ?_
                  · intro a_ w1 hS hsz hold hdep K hK
                    have h69 := Calm.is_at (x := .pointer (some ⟨wr.heap.size, 2, none⟩)) hdep (k := 17) (by kernel_rfl) rfl rfl (fun _ _ h => h)
                    have e69 := Calm.at_getD h69
                    clear hsz hold hdep
                    have hcl := fun (b o : Nat) (h : b < _) => Below.cell hS (p := ⟨b, o, none⟩) h
                    go_simp
                    exact hK _ _ (Below.refl _ _) rfl
                  refine Calm.Steps.cons (Calm.step_plain rfl ?_) ?_
                  · intro a_ w1 hS hsz hold hdep K hK
                    have h68 := Calm.is_at (x := .int .i64 (xh)) hdep (k := 16) (by kernel_rfl) rfl rfl (fun _ _ h => h)
                    have e68 := Calm.at_getD h68
                    have h70 := Calm.is_at (x := .int .i64 (p.hi)) hdep (k := 18) (by kernel_rfl) rfl rfl (fun _ _ h => h)
                    have e70 := Calm.at_getD h70
                    clear hsz hold hdep
                    have hcl := fun (b o : Nat) (h : b < _) => Below.cell hS (p := ⟨b, o, none⟩) h
                    go_simp
                    refine hK _ _ (Below.refl _ _) ?_
                    exact congrArg (Value.int IntKind.i64) (by first | rfl | exact i64w' _)
                  refine Calm.Steps.cons (Calm.step_plain rfl ?_) ?_
                  · intro a_ w1 hS hsz hold hdep K hK
                    have h56 := Calm.is_at (x := .int .i64 (wrap64 (Int.tdiv xl p.lo))) hdep (k := 4) (by kernel_rfl) rfl rfl (fun _ _ h => h)
                    have e56 := Calm.at_getD h56
                    clear hsz hold hdep
                    have hcl := fun (b o : Nat) (h : b < _) => Below.cell hS (p := ⟨b, o, none⟩) h
                    go_simp
                    exact hK _ _ (Below.refl _ _) rfl
                  refine Calm.Steps.cons (Calm.step_plain rfl ?_) ?_
                  · intro a_ w1 hS hsz hold hdep K hK
                    have h61 := Calm.is_at (x := .int .i64 (wrap64 (Int.tdiv xl p.hi))) hdep (k := 9) (by kernel_rfl) rfl rfl (fun _ _ h => h)
                    have e61 := Calm.at_getD h61
                    clear hsz hold hdep
                    have hcl := fun (b o : Nat) (h : b < _) => Below.cell hS (p := ⟨b, o, none⟩) h
                    go_simp
                    exact hK _ _ (Below.refl _ _) rfl
                  refine Calm.Steps.cons (Calm.step_plain rfl ?_) ?_
                  · intro a_ w1 hS hsz hold hdep K hK
                    have h66 := Calm.is_at (x := .int .i64 (wrap64 (Int.tdiv xh p.lo))) hdep (k := 14) (by kernel_rfl) rfl rfl (fun _ _ h => h)
                    have e66 := Calm.at_getD h66
                    clear hsz hold hdep
                    have hcl := fun (b o : Nat) (h : b < _) => Below.cell hS (p := ⟨b, o, none⟩) h
                    go_simp
                    exact hK _ _ (Below.refl _ _) rfl
                  refine Calm.Steps.cons (Calm.step_plain rfl ?_) ?_
                  · intro a_ w1 hS hsz hold hdep K hK
                    have h71 := Calm.is_at (x := .int .i64 (wrap64 (Int.tdiv xh p.hi))) hdep (k := 19) (by kernel_rfl) rfl rfl (fun _ _ h => h)
                    have e71 := Calm.at_getD h71
                    clear hsz hold hdep
                    have hcl := fun (b o : Nat) (h : b < _) => Below.cell hS (p := ⟨b, o, none⟩) h
                    go_simp
                    exact hK _ _ (Below.refl _ _) rfl
                  exact Calm.Steps.nil
                case fin =>
                  intro v w1 hS hv
                  have hcl := fun (b o : Nat) (h : b < _) => Below.cell hS (p := ⟨b, o, none⟩) h
                  have hfl := fun (b o : Nat) (h : b < _) => Below.frozen hS (p := ⟨b, o, none⟩) h
                  have k20 : v 20 = .int .i64 (wrap64 (Int.tdiv xl p.lo)) := hv 20 (by decide)
                  have k21 : v 21 = .int .i64 (wrap64 (Int.tdiv xl p.hi)) := hv 21 (by decide)
                  have k22 : v 22 = .int .i64 (wrap64 (Int.tdiv xh p.lo)) := hv 22 (by decide)
                  have k23 : v 23 = .int .i64 (wrap64 (Int.tdiv xh p.hi)) := hv 23 (by decide)
                  have hown1 := Own.call (Own.call hown (by first | (with_reducible assumption) | (go_grown; all_goals first | omega | (simp; omega)))) hS
                  have hB1 : Below w.heap.size w w1 := below_call (w := w) (by first | (with_reducible assumption) | ((try go_grown); (all_goals (repeat' (first | (with_reducible assumption) | (refine below_call ?_ (by assumption); (try go_grown))))); all_goals (first | omega | (simp; omega)))) hS
                  obtain ⟨hzw1_0_0, hzw1_0_1, hzw1_0_2, hzw1_1_0, hzw1_1_1, hzw1_1_2, hzw1_2_0, hzw1_2_1, hzw1_2_2, hzw1_3_0, hzw1_3_1, hzw1_3_2⟩ : w.heap.size < w1.heap.size ∧ w.heap.size < w1.heap.size + 1 ∧ w.heap.size < w1.heap.size + 1 + 1 ∧ w.heap.size + 1 < w1.heap.size ∧ w.heap.size + 1 < w1.heap.size + 1 ∧ w.heap.size + 1 < w1.heap.size + 1 + 1 ∧ w.heap.size + 1 + 1 < w1.heap.size ∧ w.heap.size + 1 + 1 < w1.heap.size + 1 ∧ w.heap.size + 1 + 1 < w1.heap.size + 1 + 1 ∧ gs < w1.heap.size ∧ gs < w1.heap.size + 1 ∧ gs < w1.heap.size + 1 + 1 := by { have := hS.size; (try simp at this); omega }
                  clear hv
                  simp only [List.append, Calm.puts, Act.put, List.setIfInBounds_toArray, List.set_cons_zero, List.set_cons_succ]
                  simp only [k20, k21, k22, k23]
                  clear k20 k21 k22 k23
                  go_wp2_with (first | (go_at_call 22; (with_reducible refine (rof_any _ _ Qp HOF _).mono ?_); rintro e w8 ⟨rfl, hB8⟩; have hown8 := Own.call hown1 hB8; obtain ⟨hc, hf, hs8⟩ := bcell hB8; clear hs8; obtain ⟨hzw8_0_0, hzw8_0_1, hzw8_0_2, hzw8_1_0, hzw8_1_1, hzw8_1_2, hzw8_2_0, hzw8_2_1, hzw8_2_2, hzw8_3_0, hzw8_3_1, hzw8_3_2⟩ : w.heap.size < w8.heap.size ∧ w.heap.size < w8.heap.size + 1 ∧ w.heap.size < w8.heap.size + 1 + 1 ∧ w.heap.size + 1 < w8.heap.size ∧ w.heap.size + 1 < w8.heap.size + 1 ∧ w.heap.size + 1 < w8.heap.size + 1 + 1 ∧ w.heap.size + 1 + 1 < w8.heap.size ∧ w.heap.size + 1 + 1 < w8.heap.size + 1 ∧ w.heap.size + 1 + 1 < w8.heap.size + 1 + 1 ∧ gs < w8.heap.size ∧ gs < w8.heap.size + 1 ∧ gs < w8.heap.size + 1 + 1 := by { have := hB8.size; (try simp at this); omega }) | (at_builtin; refine wpl_app rfl (.tmp 72) (.tmp 84) rfl (gs + 1) _ L1 rfl (hown8.call (by go_grown)) _ Qp rfl ?_ ?_ ?_ (by first | simp | exact HLN.out) ?_ ?_; (focus go_simp); (focus go_simp); (focus go_simp); (focus (simp; omega)); intro v9 w9 hown9 hB9; have hcB := fun (b o : Nat) (h : b < gs + 1) => Below.cell hB9 (p := ⟨b, o, none⟩) h; have hfB := fun (b o : Nat) (h : b < gs + 1) => Below.frozen hB9 (p := ⟨b, o, none⟩) h; have hBz : Below w.heap.size w w9 := Below.trans (by first | (with_reducible assumption) | ((try go_grown); (all_goals (repeat' (first | (with_reducible assumption) | (refine below_call ?_ (by assumption); (try go_grown))))); all_goals (first | omega | (simp; omega)))) (hB9.mono (by omega)); clear hB9))
                  go_roundg (2 - 1 - 1)
                  case measure => have := HH.out.out; omega
                  case rel =>
                    have hz : wr.cell? ⟨gs, 3, none⟩ = some (.bool p.s) := by rw [HS.out]; assumption
                    clear s3
                    exact ⟨1 + 1, (1 + 1 : Int), L2, ⟨rfl, by omega, by omega, by simp⟩, rfl, by rw [← HLL.out]; exact hown9, ⟨by go_simp, by go_simp, by go_simp, by go_simp, by go_simp, by go_simp⟩, ⟨by go_simp, by go_simp, by go_simp, by go_simp, by go_simp, by go_simp⟩, ⟨by go_simp, by go_simp, by go_simp, by go_simp, by go_simp, by go_simp⟩, by go_simp, by go_simp, by go_simp, by go_simp, by go_simp, by go_simp, by first | (with_reducible assumption) | ((try go_grown); (all_goals (repeat' (first | (with_reducible assumption) | (refine below_call ?_ (by assumption); (try go_grown))))); all_goals (first | omega | (simp; omega)))⟩
            · go_upto_region 15 with (fail)
              go_region_with (first | (go_at_call 30; (with_reducible refine (rjoin_own (base := gs + 1) (l := L2) ?_ HLM.out HLS.out q HJ).mono ?_); (focus first | exact hown | exact hown2); rintro e w' ⟨rfl, hB⟩; obtain ⟨hc, hf, hs⟩ := bcell hB; clear hs; (try simp only [World.size_drew, World.size_alloc] at hc hf); obtain ⟨hzw'_0_0, hzw'_0_1, hzw'_1_0, hzw'_1_1, hzw'_2_0, hzw'_2_1⟩ : w.heap.size < w'.heap.size ∧ w.heap.size < w'.heap.size + 1 ∧ w.heap.size + 1 < w'.heap.size ∧ w.heap.size + 1 < w'.heap.size + 1 ∧ w.heap.size + 1 + 1 < w'.heap.size ∧ w.heap.size + 1 + 1 < w'.heap.size + 1 := by { have := hB.size; (try simp at this); omega }) | (go_at_call 16; (with_reducible refine (rhas_any ⟨true, yl, yh⟩ 0 zz hz0 _).mono ?_); rintro e w' ⟨rfl, hB⟩; (try have hown2 := Own.call (Own.drew hown) hB); obtain ⟨hc, hf, hs⟩ := bcell hB; clear hs; (try simp only [World.size_drew, World.size_alloc] at hc hf); obtain ⟨hzw'_0_0, hzw'_0_1, hzw'_1_0, hzw'_1_1, hzw'_2_0, hzw'_2_1⟩ : w.heap.size < w'.heap.size ∧ w.heap.size < w'.heap.size + 1 ∧ w.heap.size + 1 < w'.heap.size ∧ w.heap.size + 1 < w'.heap.size + 1 ∧ w.heap.size + 1 + 1 < w'.heap.size ∧ w.heap.size + 1 + 1 < w'.heap.size + 1 := by { have := hB.size; (try simp at this); omega }))
              all_goals
                go_wp2_with fail
                refine bodyPost_ret (v := .tuple #[.agg #[.bool q.s, .int .i64 q.lo, .int .i64 q.hi], .bool zz]) (by simp [results, Try.results26, *, go_sem]) rfl ?_
                exact ⟨rfl, by first | (with_reducible assumption) | ((try go_grown); (all_goals (repeat' (first | (with_reducible assumption) | (refine below_call ?_ (by assumption); (try go_grown))))); all_goals (first | omega | (simp; omega)))⟩
end Go.Proofs.Ytfnodgpebheinaa.M
