/- Walks: quotients of intervals. -/
import Derived.Test.YtfnodgpebheinaaM8
import Derived.Test.YtfnodgpebheinaaM7
import Derived.Deep.DeepCutAuto
import Derived.Deep.CutBlock
namespace Go.Proofs.Ytfnodgpebheinaa.M
open Go Go.RowKit
set_option linter.unusedVariables false
set_option linter.unusedSimpArgs false
attribute [local simp, local go_sem] lt_a2 lt_a3 lt_a4 lt_a5 lt_a6 lt_a7 lt_a8
set_option maxHeartbeats 4000000
def quoN (x y : Iv) (i j : Nat) : Int := wrap64 (Int.tdiv (two x.lo x.hi i) (two y.lo y.hi j))
def negP (y : Iv) : Iv := meetI y ⟨true, -9223372036854775808, -1⟩
def posP (y : Iv) : Iv := meetI y ⟨true, 1, 9223372036854775807⟩
def quoJ (x p : Iv) : Iv := cornerJ (quoN x p) 4
def divStep (x o p : Iv) : Iv := if p.s = true then joinI o (quoJ x p) else o
def divI (x y : Iv) : Iv :=
  if x.s = true ∧ y.s = true then (if hasI x (-9223372036854775808) = true ∧ hasI y (-1) = true then Iv.top else divStep x (divStep x Iv.e (negP y)) (posP y)) else Iv.e
def divZ (x y : Iv) : Bool := x.s && (y.s && hasI y 0)
theorem Box.put {w : World} {g : Nat} {x y : Iv} (h : Box w g x) : Box (((w.setCell ⟨g, 0, none⟩ (.bool y.s)).setCell ⟨g, 1, none⟩ (.int .i64 y.lo)).setCell ⟨g, 2, none⟩ (.int .i64 y.hi)) g y := by
  obtain ⟨a0, a1, a2, a3, a4, a5⟩ := h
  exact ⟨by go_simp, by go_simp, by go_simp, by go_simp, by go_simp, by go_simp⟩
theorem corners_quo (xl xh pl ph : Int) (h1 : pl ≠ 0) (h2 : ph ≠ 0) (q : Iv) (hq : Hid (quoJ ⟨true, xl, xh⟩ ⟨true, pl, ph⟩ = q)) (w : World) :
    Calls Try.prog 39 #[.agg #[.bool true, .int .i64 xl, .int .i64 xh], .agg #[.bool true, .int .i64 pl, .int .i64 ph], .func (.func 46) #[] #[]] w (fun e w' => e = .returned (.tuple #[.agg #[.bool q.s, .int .i64 q.lo, .int .i64 q.hi], .bool true]) ∧ Below w.heap.size w w') := by
  have hne : ∀ j, two pl ph j ≠ 0 := by intro j; unfold two; split <;> assumption
  refine (corners_div xl xh pl ph true true (quoN ⟨true, xl, xh⟩ ⟨true, pl, ph⟩) (fun _ _ => true) (cornerJ (quoN ⟨true, xl, xh⟩ ⟨true, pl, ph⟩)) rfl (cornerJ_step _) (cornerJ_nrm _) (fun i j w hi hj => quo_any _ _ _ (hne j) (Lib.hid rfl) w) w).mono ?_
  rintro e w' ⟨⟨_, h⟩ | ⟨h, _⟩, hb⟩
  · have hq2 := hq.out
    unfold quoJ at hq2
    rw [hq2] at h
    exact ⟨h, hb⟩
  · exact absurd (fun i j _ _ => rfl) h
theorem quoJ_nrm (x p : Iv) : nrm (quoJ x p) = quoJ x p := cornerJ_nrm _ _
theorem divStep_nrm {x o p : Iv} (h : nrm o = o) : nrm (divStep x o p) = divStep x o p := by
  unfold divStep
  split
  · have hs := cornerJ_some (quoN x p) 3
    rcases nrm_ok (quoJ_nrm x p) with h2 | ⟨h2, h3⟩
    · unfold quoJ at h2; rw [h2] at hs; cases hs
    · unfold joinI
      rw [if_pos h2]
      split
      · rename_i h4
        rcases nrm_ok h with rfl | ⟨_, h5⟩
        · cases h4
        · unfold nrm; rw [if_pos]; refine ⟨rfl, ?_⟩; simp only; (repeat' split) <;> omega
      · exact quoJ_nrm x p
  · exact h
theorem meetI_ok {x y : Iv} (hx : Ok x) (hy : Ok y) : Ok (meetI x y) := by
  unfold meetI
  split
  · rename_i h
    rcases hx with rfl | hx
    · cases h.1
    rcases hy with rfl | hy
    · cases h.2
    refine nrm_ok' ?_ ?_ <;> simp only <;> split <;> omega
  · exact .inl rfl
theorem meet_some {x y : Iv} (h : (meetI x y).s = true) : meetI x y = ⟨true, (if x.lo < y.lo then y.lo else x.lo), (if y.hi < x.hi then y.hi else x.hi)⟩ ∧ (if x.lo < y.lo then y.lo else x.lo) ≤ (if y.hi < x.hi then y.hi else x.hi) := by
  unfold meetI at h ⊢
  by_cases k : x.s = true ∧ y.s = true
  · rw [if_pos k] at h ⊢
    generalize (if x.lo < y.lo then y.lo else x.lo) = L at h ⊢
    generalize (if y.hi < x.hi then y.hi else x.hi) = H at h ⊢
    by_cases k2 : L ≤ H
    · exact ⟨nrm_some k2, k2⟩
    · rw [nrm_none (.inr (by omega))] at h; cases h
  · rw [if_neg k] at h; cases h
theorem negP_hi {y : Iv} (h : (negP y).s = true) : (negP y).lo ≤ (negP y).hi ∧ (negP y).hi ≤ -1 := by
  obtain ⟨h1, h2⟩ := meet_some h
  unfold negP
  rw [h1]
  refine ⟨h2, ?_⟩
  simp only; split <;> omega
theorem posP_lo {y : Iv} (h : (posP y).s = true) : (posP y).lo ≤ (posP y).hi ∧ 1 ≤ (posP y).lo := by
  obtain ⟨h1, h2⟩ := meet_some h
  unfold posP
  rw [h1]
  refine ⟨h2, ?_⟩
  simp only; split <;> omega
theorem arith_div (a b x y : Iv) (hx : Hid (nrm a = x)) (hy : Hid (nrm b = y)) (ox : Ok x) (oy : Ok y) (q : Iv) (zz : Bool) (hq : Hid (divI x y = q)) (hzz : Hid (divZ x y = zz)) (w : World) :
    Calls Try.prog 24 #[.agg #[.bool a.s, .int .i64 a.lo, .int .i64 a.hi], .agg #[.bool b.s, .int .i64 b.lo, .int .i64 b.hi]] w (fun e w' => e = .returned (.tuple #[.agg #[.bool q.s, .int .i64 q.lo, .int .i64 q.hi], .bool zz]) ∧ Below w.heap.size w w') := by
  have hu := Try.underlying23
  obtain ⟨xs, xl, xh⟩ := x
  obtain ⟨ys, yl, yh⟩ := y
  go_enter Try.func24, Try.ntmps24
  go_upto_region 1 with (fail)
  go_cut [] (fun wc => Box wc w.heap.size ⟨xs, xl, xh⟩ ∧ Box wc (w.heap.size + 1) ⟨ys, yl, yh⟩ ∧ Box wc (w.heap.size + 1 + 1) Iv.e ∧ Below w.heap.size w wc)
  case first =>
    go_wp2
    go_region_with ((first | (go_at_call 31; (with_reducible refine (clean_any a.s a.lo a.hi ⟨xs, xl, xh⟩ hx _).mono ?_)) | (go_at_call 31; (with_reducible refine (clean_any b.s b.lo b.hi ⟨ys, yl, yh⟩ hy _).mono ?_))); rintro e w' ⟨rfl, hB⟩; obtain ⟨hc, hf, hs⟩ := bcell hB; clear hs; (try simp only [World.size_drew, World.size_alloc] at hc hf); obtain ⟨hz0_0, hz0_1, hz0_2, hz1_0, hz1_1, hz1_2, hz2_0, hz2_1, hz2_2⟩ : w.heap.size < w'.heap.size ∧ w.heap.size < w'.heap.size + 1 ∧ w.heap.size < w'.heap.size + 1 + 1 ∧ w.heap.size + 1 < w'.heap.size ∧ w.heap.size + 1 < w'.heap.size + 1 ∧ w.heap.size + 1 < w'.heap.size + 1 + 1 ∧ w.heap.size + 1 + 1 < w'.heap.size ∧ w.heap.size + 1 + 1 < w'.heap.size + 1 ∧ w.heap.size + 1 + 1 < w'.heap.size + 1 + 1 := by { have := hB.size; (try simp at this); omega })
    all_goals
      go_wp2
      go_meet
      case rel => exact ⟨⟨by go_simp, by go_simp, by go_simp, by go_simp, by go_simp, by go_simp⟩, ⟨by go_simp, by go_simp, by go_simp, by go_simp, by go_simp, by go_simp⟩, ⟨by go_simp, by go_simp, by go_simp, by go_simp, by go_simp, by go_simp⟩, by go_grown; repeat (refine below_call ?_ (by assumption); go_grown)⟩
  case rest =>
    obtain ⟨b0, b1, b2, hB0⟩ := hcut
    have l0 := b0.lt
    have l1 := b1.lt
    have l2 := b2.lt
    obtain ⟨a0, a1, a2, a3, a4, a5⟩ := b0
    obtain ⟨d0, d1, d2, d3, d4, d5⟩ := b1
    obtain ⟨e0, e1, e2, e3, e4, e5⟩ := b2
    have hzq := hzz.out
    have hqq := hq.out
    unfold divZ at hzq
    unfold divI at hqq
    clear hq hzz
    cases xs
    · obtain rfl : Iv.e = q := by rw [← hqq]; rfl
      obtain rfl : false = zz := by rw [← hzq]; rfl
      clear hqq hzq
      go_wp2
      refine bodyPost_ret (v := .tuple #[.agg #[.bool false, .int .i64 0, .int .i64 0], .bool false]) (by simp [results, Try.results24, *, go_sem]) rfl ?_
      exact ⟨rfl, by go_grown; repeat (refine below_call ?_ (by assumption); go_grown)⟩
    cases ys
    · obtain rfl : Iv.e = q := by rw [← hqq]; rfl
      obtain rfl : false = zz := by rw [← hzq]; rfl
      clear hqq hzq
      go_wp2
      refine bodyPost_ret (v := .tuple #[.agg #[.bool false, .int .i64 0, .int .i64 0], .bool false]) (by simp [results, Try.results24, *, go_sem]) rfl ?_
      exact ⟨rfl, by go_grown; repeat (refine below_call ?_ (by assumption); go_grown)⟩
    rw [if_pos ⟨rfl, rfl⟩] at hqq
    simp only [Bool.true_and] at hzq
    have HZ := Lib.hid hzq
    clear hzq
    obtain ⟨J0, hj0⟩ : ∃ j, Iv.e = j := ⟨_, rfl⟩
    obtain ⟨J1, hj1⟩ : ∃ j, divStep ⟨true, xl, xh⟩ J0 (negP ⟨true, yl, yh⟩) = j := ⟨_, rfl⟩
    obtain ⟨J2, hj2⟩ : ∃ j, divStep ⟨true, xl, xh⟩ J1 (posP ⟨true, yl, yh⟩) = j := ⟨_, rfl⟩
    have HNJ0 : Hid (nrm J0 = J0) := by rw [← hj0]; rfl
    have HNJ1 : Hid (nrm J1 = J1) := by rw [← hj1]; exact divStep_nrm HNJ0.out
    rw [hj0, hj1, hj2] at hqq
    have HJ0 : Hid (J0 = Iv.e) := hj0.symm
    have HE1 := Lib.hid hj1
    have HE2 := Lib.hid hj2
    clear hj0 hj1 hj2
    have okN : Ok (negP ⟨true, yl, yh⟩) := meetI_ok oy (.inr ⟨rfl, by decide, by decide, by decide⟩)
    have okP : Ok (posP ⟨true, yl, yh⟩) := meetI_ok oy (.inr ⟨rfl, by decide, by decide, by decide⟩)
    cases hc1 : hasI ⟨true, xl, xh⟩ (-9223372036854775808)
    · rw [hc1, if_neg (by simp)] at hqq
      have HJ2 := Lib.hid hqq
      have H1 := Lib.hid hc1
      clear hqq hc1
      go_wp2_with (first | (go_at_call 44; (with_reducible refine (has_any ⟨true, yl, yh⟩ 0 zz HZ _).mono ?_); rintro e w4 ⟨rfl, hB⟩; obtain ⟨hc, hf, hs⟩ := bcell hB; clear hs; (try simp only [World.size_drew, World.size_alloc] at hc hf); obtain ⟨hz0_0, hz0_1, hz0_2, hz1_0, hz1_1, hz1_2, hz2_0, hz2_1, hz2_2⟩ : w.heap.size < w4.heap.size ∧ w.heap.size < w4.heap.size + 1 ∧ w.heap.size < w4.heap.size + 1 + 1 ∧ w.heap.size + 1 < w4.heap.size ∧ w.heap.size + 1 < w4.heap.size + 1 ∧ w.heap.size + 1 < w4.heap.size + 1 + 1 ∧ w.heap.size + 1 + 1 < w4.heap.size ∧ w.heap.size + 1 + 1 < w4.heap.size + 1 ∧ w.heap.size + 1 + 1 < w4.heap.size + 1 + 1 := by { have := hB.size; (try simp at this); omega }) | (go_at_call 44; (with_reducible refine (has_any ⟨true, xl, xh⟩ (-9223372036854775808) false H1 _).mono ?_); rintro e w6 ⟨rfl, hB⟩; obtain ⟨hc, hf, hs⟩ := bcell hB; clear hs; (try simp only [World.size_drew, World.size_alloc] at hc hf); obtain ⟨hz0_0, hz0_1, hz0_2, hz1_0, hz1_1, hz1_2, hz2_0, hz2_1, hz2_2⟩ : w.heap.size < w6.heap.size ∧ w.heap.size < w6.heap.size + 1 ∧ w.heap.size < w6.heap.size + 1 + 1 ∧ w.heap.size + 1 < w6.heap.size ∧ w.heap.size + 1 < w6.heap.size + 1 ∧ w.heap.size + 1 < w6.heap.size + 1 + 1 ∧ w.heap.size + 1 + 1 < w6.heap.size ∧ w.heap.size + 1 + 1 < w6.heap.size + 1 ∧ w.heap.size + 1 + 1 < w6.heap.size + 1 + 1 := by { have := hB.size; (try simp at this); omega }) | (go_at_call 45; refine (signs_any ⟨true, yl, yh⟩ (negP ⟨true, yl, yh⟩) (posP ⟨true, yl, yh⟩) oy (Lib.hid rfl) (Lib.hid rfl) _).mono ?_; rintro e w7 ⟨gs, hgs, rfl, hB, s0, s1, s2, s3, s4, s5⟩; have hgs' := hgs.out; obtain ⟨hc, hf, hs⟩ := bcell hB; clear hs; (try simp only [World.size_drew, World.size_alloc, World.size_setCell] at hc hf); obtain ⟨hz0_0, hz0_1, hz0_2, hz1_0, hz1_1, hz1_2, hz2_0, hz2_1, hz2_2, hy0_0, hy0_1, hy0_2⟩ : w.heap.size < w7.heap.size ∧ w.heap.size < w7.heap.size + 1 ∧ w.heap.size < w7.heap.size + 1 + 1 ∧ w.heap.size + 1 < w7.heap.size ∧ w.heap.size + 1 < w7.heap.size + 1 ∧ w.heap.size + 1 < w7.heap.size + 1 + 1 ∧ w.heap.size + 1 + 1 < w7.heap.size ∧ w.heap.size + 1 + 1 < w7.heap.size + 1 ∧ w.heap.size + 1 + 1 < w7.heap.size + 1 + 1 ∧ w6.heap.size < w7.heap.size ∧ w6.heap.size < w7.heap.size + 1 ∧ w6.heap.size < w7.heap.size + 1 + 1 := by { have := hB.size; (try simp at this); omega }))
      obtain ⟨G, hG⟩ : ∃ G, w6.heap.size = G := ⟨_, rfl⟩
      have hGg : G < gs := by { rw [← hG]; have := hgs.out; simp at this; omega }
      have hGn : G ≠ gs := by omega
      have hGm : gs ≠ G := by omega
      simp only [hG]
      go_loopg [38] 2 (fun gk v38 wi => ∃ (k : Nat) (z : Int), Aside (z = k ∧ k ≤ 2 ∧ gk + k = 2) ∧ v38 = .int .i64 z ∧ Box wi w.heap.size ⟨true, xl, xh⟩ ∧ Box wi (w.heap.size + 1) ⟨true, yl, yh⟩ ∧ Box wi (w.heap.size + 1 + 1) Iv.e ∧ Box wi G (if k = 0 then J0 else if k = 1 then J1 else J2) ∧ wi.cell? ⟨gs, 0, none⟩ = some (.bool (negP ⟨true, yl, yh⟩).s) ∧ wi.cell? ⟨gs, 1, none⟩ = some (.int .i64 (negP ⟨true, yl, yh⟩).lo) ∧ wi.cell? ⟨gs, 2, none⟩ = some (.int .i64 (negP ⟨true, yl, yh⟩).hi) ∧ wi.cell? ⟨gs, 3, none⟩ = some (.bool (posP ⟨true, yl, yh⟩).s) ∧ wi.cell? ⟨gs, 4, none⟩ = some (.int .i64 (posP ⟨true, yl, yh⟩).lo) ∧ wi.cell? ⟨gs, 5, none⟩ = some (.int .i64 (posP ⟨true, yl, yh⟩).hi) ∧ Below w.heap.size w wi)
      case atStart =>
        subst hG
        refine ⟨0, 0, ⟨rfl, by omega, rfl⟩, rfl, ?_, ?_, ?_, ?_, by go_simp, by go_simp, by go_simp, by go_simp, by go_simp, by go_simp, by go_grown; repeat (refine below_call ?_ (by assumption); go_grown)⟩
        · exact ⟨by go_simp, by go_simp, by go_simp, by go_simp, by go_simp, by go_simp⟩
        · exact ⟨by go_simp, by go_simp, by go_simp, by go_simp, by go_simp, by go_simp⟩
        · exact ⟨by go_simp, by go_simp, by go_simp, by go_simp, by go_simp, by go_simp⟩
        · rw [if_pos rfl, show J0 = Iv.e from HJ0.out]; exact ⟨by go_simp, by go_simp, by go_simp, by go_simp, by go_simp, by go_simp⟩
      case round =>
        obtain ⟨k, z, hk, rfl, b0, b1, b2, b3, s0, s1, s2, s3, s4, s5, hB⟩ := hrel
        have lgs : gs < wr.heap.size := World.block_lt_of_cell? _ _ s0
        have l0' := b0.lt
        have l1' := b1.lt
        have l2' := b2.lt
        have l3' := b3.lt
        have hz : (z = 0 ∧ k = 0) ∨ (z = 1 ∧ k = 1) ∨ (z = 2 ∧ k = 2) := by have := hk.out; omega
        have HH := Lib.hid hk
        clear hk
        rcases hz with ⟨rfl, rfl⟩ | ⟨rfl, rfl⟩ | ⟨rfl, rfl⟩
        · rw [if_pos rfl] at b3
          obtain ⟨a0, a1, a2, a3, a4, a5⟩ := b0
          obtain ⟨d0, d1, d2, d3, d4, d5⟩ := b1
          obtain ⟨e0, e1, e2, e3, e4, e5⟩ := b2
          obtain ⟨o0, o1, o2, o3, o4, o5⟩ := b3
          · cases hs : (negP ⟨true, yl, yh⟩).s
            · have hpe : negP ⟨true, yl, yh⟩ = Iv.e := by
                rcases okN with h | h
                · exact h
                · rw [h.1] at hs; cases hs
              have hst : J1 = J0 := by rw [← HE1.out]; unfold divStep; rw [if_neg (by rw [hs]; decide)]
              rw [hpe] at s0 s1 s2
              simp only [Iv.e_s, Iv.e_lo, Iv.e_hi] at s0 s1 s2
              have HPE := Lib.hid hpe
              clear hs hpe
              have HST := Lib.hid hst
              clear hst
              go_wp2
              go_roundg (2 - 0 - 1)
              case measure => have := HH.out.out; omega
              case rel => exact ⟨0 + 1, (0 + 1 : Int), ⟨rfl, by omega, by omega⟩, rfl, ⟨by go_simp, by go_simp, by go_simp, by go_simp, by go_simp, by go_simp⟩, ⟨by go_simp, by go_simp, by go_simp, by go_simp, by go_simp, by go_simp⟩, ⟨by go_simp, by go_simp, by go_simp, by go_simp, by go_simp, by go_simp⟩, by show Box _ G J1; rw [HST.out]; exact ⟨by go_simp, by go_simp, by go_simp, by go_simp, by go_simp, by go_simp⟩, by rw [HPE.out]; go_simp, by rw [HPE.out]; go_simp, by rw [HPE.out]; go_simp, by go_simp, by go_simp, by go_simp, by go_grown; repeat (refine below_call ?_ (by assumption); go_grown)⟩
            · obtain ⟨pq, hpq⟩ : ∃ pq, negP ⟨true, yl, yh⟩ = pq := ⟨_, rfl⟩
              obtain ⟨ps, pl, ph⟩ := pq
              have hb := negP_hi hs
              rw [hpq] at hb hs s0 s1 s2
              simp only at hb hs
              subst hs
              obtain ⟨qq, hqq⟩ : ∃ qq, quoJ ⟨true, xl, xh⟩ ⟨true, pl, ph⟩ = qq := ⟨_, rfl⟩
              have hst : joinI J0 qq = J1 := by rw [← HE1.out, hpq]; unfold divStep; rw [if_pos rfl, hqq]
              have hnq : nrm qq = qq := by rw [← hqq]; exact quoJ_nrm _ _
              have HST := Lib.hid hst
              have HNQ := Lib.hid hnq
              have HQQ := Lib.hid hqq
              have hp1 : pl ≠ 0 := by omega
              have hp2 : ph ≠ 0 := by omega
              have HP1 := Lib.hid hp1
              have HP2 := Lib.hid hp2
              have HPQ := Lib.hid hpq
              clear hst hnq hqq hp1 hp2 hb hpq
              go_wp2_with (first | (go_at_call 39; (with_reducible refine (corners_quo xl xh pl ph HP1.out HP2.out qq HQQ _).mono ?_); rintro e w8 ⟨rfl, hB⟩; obtain ⟨hc, hf, hs⟩ := bcell hB; clear hs; (try simp only [World.size_drew, World.size_alloc] at hc hf); obtain ⟨hz0_0, hz0_1, hz0_2, hz1_0, hz1_1, hz1_2, hz2_0, hz2_1, hz2_2, hy0_0, hy0_1, hy0_2, hy1_0, hy1_1, hy1_2⟩ : w.heap.size < w8.heap.size ∧ w.heap.size < w8.heap.size + 1 ∧ w.heap.size < w8.heap.size + 1 + 1 ∧ w.heap.size + 1 < w8.heap.size ∧ w.heap.size + 1 < w8.heap.size + 1 ∧ w.heap.size + 1 < w8.heap.size + 1 + 1 ∧ w.heap.size + 1 + 1 < w8.heap.size ∧ w.heap.size + 1 + 1 < w8.heap.size + 1 ∧ w.heap.size + 1 + 1 < w8.heap.size + 1 + 1 ∧ G < w8.heap.size ∧ G < w8.heap.size + 1 ∧ G < w8.heap.size + 1 + 1 ∧ gs < w8.heap.size ∧ gs < w8.heap.size + 1 ∧ gs < w8.heap.size + 1 + 1 := by { have := hB.size; (try simp at this); omega }) | (go_at_call 47; refine (join_any _ J0 qq J1 HNJ0.out HNQ.out HST.out _ ?_ ?_ ?_ ?_ ?_ ?_).mono ?_; (focus go_simp); (focus go_simp); (focus go_simp); (focus go_simp); (focus go_simp); (focus go_simp); rintro e w9 ⟨rfl, hB⟩; obtain ⟨hc, hf, hs⟩ := bcell hB; clear hs; (try simp only [World.size_drew, World.size_alloc] at hc hf); obtain ⟨hz0_0, hz0_1, hz0_2, hz1_0, hz1_1, hz1_2, hz2_0, hz2_1, hz2_2, hy0_0, hy0_1, hy0_2, hy1_0, hy1_1, hy1_2⟩ : w.heap.size < w9.heap.size ∧ w.heap.size < w9.heap.size + 1 ∧ w.heap.size < w9.heap.size + 1 + 1 ∧ w.heap.size + 1 < w9.heap.size ∧ w.heap.size + 1 < w9.heap.size + 1 ∧ w.heap.size + 1 < w9.heap.size + 1 + 1 ∧ w.heap.size + 1 + 1 < w9.heap.size ∧ w.heap.size + 1 + 1 < w9.heap.size + 1 ∧ w.heap.size + 1 + 1 < w9.heap.size + 1 + 1 ∧ G < w9.heap.size ∧ G < w9.heap.size + 1 ∧ G < w9.heap.size + 1 + 1 ∧ gs < w9.heap.size ∧ gs < w9.heap.size + 1 ∧ gs < w9.heap.size + 1 + 1 := by { have := hB.size; (try simp at this); omega }))
              go_roundg (2 - 0 - 1)
              case measure => have := HH.out.out; omega
              case rel => exact ⟨0 + 1, (0 + 1 : Int), ⟨rfl, by omega, by omega⟩, rfl, ⟨by go_simp, by go_simp, by go_simp, by go_simp, by go_simp, by go_simp⟩, ⟨by go_simp, by go_simp, by go_simp, by go_simp, by go_simp, by go_simp⟩, ⟨by go_simp, by go_simp, by go_simp, by go_simp, by go_simp, by go_simp⟩, Box.put (x := J0) ⟨by go_simp, by go_simp, by go_simp, by go_simp, by go_simp, by go_simp⟩, by rw [HPQ.out]; go_simp, by rw [HPQ.out]; go_simp, by rw [HPQ.out]; go_simp, by go_simp, by go_simp, by go_simp, by go_grown; repeat (refine below_call ?_ (by assumption); go_grown)⟩
        · rw [if_neg (by decide), if_pos rfl] at b3
          obtain ⟨a0, a1, a2, a3, a4, a5⟩ := b0
          obtain ⟨d0, d1, d2, d3, d4, d5⟩ := b1
          obtain ⟨e0, e1, e2, e3, e4, e5⟩ := b2
          obtain ⟨o0, o1, o2, o3, o4, o5⟩ := b3
          · cases hs : (posP ⟨true, yl, yh⟩).s
            · have hpe : posP ⟨true, yl, yh⟩ = Iv.e := by
                rcases okP with h | h
                · exact h
                · rw [h.1] at hs; cases hs
              have hst : J2 = J1 := by rw [← HE2.out]; unfold divStep; rw [if_neg (by rw [hs]; decide)]
              rw [hpe] at s3 s4 s5
              simp only [Iv.e_s, Iv.e_lo, Iv.e_hi] at s3 s4 s5
              have HPE := Lib.hid hpe
              clear hs hpe
              have HST := Lib.hid hst
              clear hst
              go_wp2
              go_roundg (2 - 1 - 1)
              case measure => have := HH.out.out; omega
              case rel => exact ⟨1 + 1, (1 + 1 : Int), ⟨rfl, by omega, by omega⟩, rfl, ⟨by go_simp, by go_simp, by go_simp, by go_simp, by go_simp, by go_simp⟩, ⟨by go_simp, by go_simp, by go_simp, by go_simp, by go_simp, by go_simp⟩, ⟨by go_simp, by go_simp, by go_simp, by go_simp, by go_simp, by go_simp⟩, by show Box _ G J2; rw [HST.out]; exact ⟨by go_simp, by go_simp, by go_simp, by go_simp, by go_simp, by go_simp⟩, by go_simp, by go_simp, by go_simp, by rw [HPE.out]; go_simp, by rw [HPE.out]; go_simp, by rw [HPE.out]; go_simp, by go_grown; repeat (refine below_call ?_ (by assumption); go_grown)⟩
            · obtain ⟨pq, hpq⟩ : ∃ pq, posP ⟨true, yl, yh⟩ = pq := ⟨_, rfl⟩
              obtain ⟨ps, pl, ph⟩ := pq
              have hb := posP_lo hs
              rw [hpq] at hb hs s3 s4 s5
              simp only at hb hs
              subst hs
              obtain ⟨qq, hqq⟩ : ∃ qq, quoJ ⟨true, xl, xh⟩ ⟨true, pl, ph⟩ = qq := ⟨_, rfl⟩
              have hst : joinI J1 qq = J2 := by rw [← HE2.out, hpq]; unfold divStep; rw [if_pos rfl, hqq]
              have hnq : nrm qq = qq := by rw [← hqq]; exact quoJ_nrm _ _
              have HST := Lib.hid hst
              have HNQ := Lib.hid hnq
              have HQQ := Lib.hid hqq
              have hp1 : pl ≠ 0 := by omega
              have hp2 : ph ≠ 0 := by omega
              have HP1 := Lib.hid hp1
              have HP2 := Lib.hid hp2
              have HPQ := Lib.hid hpq
              clear hst hnq hqq hp1 hp2 hb hpq
              go_wp2_with (first | (go_at_call 39; (with_reducible refine (corners_quo xl xh pl ph HP1.out HP2.out qq HQQ _).mono ?_); rintro e w8 ⟨rfl, hB⟩; obtain ⟨hc, hf, hs⟩ := bcell hB; clear hs; (try simp only [World.size_drew, World.size_alloc] at hc hf); obtain ⟨hz0_0, hz0_1, hz0_2, hz1_0, hz1_1, hz1_2, hz2_0, hz2_1, hz2_2, hy0_0, hy0_1, hy0_2, hy1_0, hy1_1, hy1_2⟩ : w.heap.size < w8.heap.size ∧ w.heap.size < w8.heap.size + 1 ∧ w.heap.size < w8.heap.size + 1 + 1 ∧ w.heap.size + 1 < w8.heap.size ∧ w.heap.size + 1 < w8.heap.size + 1 ∧ w.heap.size + 1 < w8.heap.size + 1 + 1 ∧ w.heap.size + 1 + 1 < w8.heap.size ∧ w.heap.size + 1 + 1 < w8.heap.size + 1 ∧ w.heap.size + 1 + 1 < w8.heap.size + 1 + 1 ∧ G < w8.heap.size ∧ G < w8.heap.size + 1 ∧ G < w8.heap.size + 1 + 1 ∧ gs < w8.heap.size ∧ gs < w8.heap.size + 1 ∧ gs < w8.heap.size + 1 + 1 := by { have := hB.size; (try simp at this); omega }) | (go_at_call 47; refine (join_any _ J1 qq J2 HNJ1.out HNQ.out HST.out _ ?_ ?_ ?_ ?_ ?_ ?_).mono ?_; (focus go_simp); (focus go_simp); (focus go_simp); (focus go_simp); (focus go_simp); (focus go_simp); rintro e w9 ⟨rfl, hB⟩; obtain ⟨hc, hf, hs⟩ := bcell hB; clear hs; (try simp only [World.size_drew, World.size_alloc] at hc hf); obtain ⟨hz0_0, hz0_1, hz0_2, hz1_0, hz1_1, hz1_2, hz2_0, hz2_1, hz2_2, hy0_0, hy0_1, hy0_2, hy1_0, hy1_1, hy1_2⟩ : w.heap.size < w9.heap.size ∧ w.heap.size < w9.heap.size + 1 ∧ w.heap.size < w9.heap.size + 1 + 1 ∧ w.heap.size + 1 < w9.heap.size ∧ w.heap.size + 1 < w9.heap.size + 1 ∧ w.heap.size + 1 < w9.heap.size + 1 + 1 ∧ w.heap.size + 1 + 1 < w9.heap.size ∧ w.heap.size + 1 + 1 < w9.heap.size + 1 ∧ w.heap.size + 1 + 1 < w9.heap.size + 1 + 1 ∧ G < w9.heap.size ∧ G < w9.heap.size + 1 ∧ G < w9.heap.size + 1 + 1 ∧ gs < w9.heap.size ∧ gs < w9.heap.size + 1 ∧ gs < w9.heap.size + 1 + 1 := by { have := hB.size; (try simp at this); omega }))
              go_roundg (2 - 1 - 1)
              case measure => have := HH.out.out; omega
              case rel => exact ⟨1 + 1, (1 + 1 : Int), ⟨rfl, by omega, by omega⟩, rfl, ⟨by go_simp, by go_simp, by go_simp, by go_simp, by go_simp, by go_simp⟩, ⟨by go_simp, by go_simp, by go_simp, by go_simp, by go_simp, by go_simp⟩, ⟨by go_simp, by go_simp, by go_simp, by go_simp, by go_simp, by go_simp⟩, Box.put (x := J1) ⟨by go_simp, by go_simp, by go_simp, by go_simp, by go_simp, by go_simp⟩, by go_simp, by go_simp, by go_simp, by rw [HPQ.out]; go_simp, by rw [HPQ.out]; go_simp, by rw [HPQ.out]; go_simp, by go_grown; repeat (refine below_call ?_ (by assumption); go_grown)⟩
        · rw [if_neg (by decide), if_neg (by decide)] at b3
          obtain ⟨a0, a1, a2, a3, a4, a5⟩ := b0
          obtain ⟨d0, d1, d2, d3, d4, d5⟩ := b1
          obtain ⟨e0, e1, e2, e3, e4, e5⟩ := b2
          obtain ⟨o0, o1, o2, o3, o4, o5⟩ := b3
          go_wp2
          refine bodyPost_ret (v := .tuple #[.agg #[.bool J2.s, .int .i64 J2.lo, .int .i64 J2.hi], .bool zz]) (by simp [results, Try.results24, *, go_sem]) rfl ?_
          exact ⟨by rw [HJ2.out], by go_grown; repeat (refine below_call ?_ (by assumption); go_grown)⟩
    · cases hc2 : hasI ⟨true, yl, yh⟩ (-1)
      · rw [hc1, hc2, if_neg (by simp)] at hqq
        have HJ2 := Lib.hid hqq
        have H1 := Lib.hid hc1
        have H2 := Lib.hid hc2
        clear hqq hc1 hc2
        go_wp2_with (first | (go_at_call 44; (with_reducible refine (has_any ⟨true, yl, yh⟩ 0 zz HZ _).mono ?_); rintro e w4 ⟨rfl, hB⟩; obtain ⟨hc, hf, hs⟩ := bcell hB; clear hs; (try simp only [World.size_drew, World.size_alloc] at hc hf); obtain ⟨hz0_0, hz0_1, hz0_2, hz1_0, hz1_1, hz1_2, hz2_0, hz2_1, hz2_2⟩ : w.heap.size < w4.heap.size ∧ w.heap.size < w4.heap.size + 1 ∧ w.heap.size < w4.heap.size + 1 + 1 ∧ w.heap.size + 1 < w4.heap.size ∧ w.heap.size + 1 < w4.heap.size + 1 ∧ w.heap.size + 1 < w4.heap.size + 1 + 1 ∧ w.heap.size + 1 + 1 < w4.heap.size ∧ w.heap.size + 1 + 1 < w4.heap.size + 1 ∧ w.heap.size + 1 + 1 < w4.heap.size + 1 + 1 := by { have := hB.size; (try simp at this); omega }) | (go_at_call 44; (with_reducible refine (has_any ⟨true, xl, xh⟩ (-9223372036854775808) true H1 _).mono ?_); rintro e w5 ⟨rfl, hB⟩; obtain ⟨hc, hf, hs⟩ := bcell hB; clear hs; (try simp only [World.size_drew, World.size_alloc] at hc hf); obtain ⟨hz0_0, hz0_1, hz0_2, hz1_0, hz1_1, hz1_2, hz2_0, hz2_1, hz2_2⟩ : w.heap.size < w5.heap.size ∧ w.heap.size < w5.heap.size + 1 ∧ w.heap.size < w5.heap.size + 1 + 1 ∧ w.heap.size + 1 < w5.heap.size ∧ w.heap.size + 1 < w5.heap.size + 1 ∧ w.heap.size + 1 < w5.heap.size + 1 + 1 ∧ w.heap.size + 1 + 1 < w5.heap.size ∧ w.heap.size + 1 + 1 < w5.heap.size + 1 ∧ w.heap.size + 1 + 1 < w5.heap.size + 1 + 1 := by { have := hB.size; (try simp at this); omega }) | (go_at_call 44; (with_reducible refine (has_any ⟨true, yl, yh⟩ (-1) false H2 _).mono ?_); rintro e w6 ⟨rfl, hB⟩; obtain ⟨hc, hf, hs⟩ := bcell hB; clear hs; (try simp only [World.size_drew, World.size_alloc] at hc hf); obtain ⟨hz0_0, hz0_1, hz0_2, hz1_0, hz1_1, hz1_2, hz2_0, hz2_1, hz2_2⟩ : w.heap.size < w6.heap.size ∧ w.heap.size < w6.heap.size + 1 ∧ w.heap.size < w6.heap.size + 1 + 1 ∧ w.heap.size + 1 < w6.heap.size ∧ w.heap.size + 1 < w6.heap.size + 1 ∧ w.heap.size + 1 < w6.heap.size + 1 + 1 ∧ w.heap.size + 1 + 1 < w6.heap.size ∧ w.heap.size + 1 + 1 < w6.heap.size + 1 ∧ w.heap.size + 1 + 1 < w6.heap.size + 1 + 1 := by { have := hB.size; (try simp at this); omega }) | (go_at_call 45; refine (signs_any ⟨true, yl, yh⟩ (negP ⟨true, yl, yh⟩) (posP ⟨true, yl, yh⟩) oy (Lib.hid rfl) (Lib.hid rfl) _).mono ?_; rintro e w7 ⟨gs, hgs, rfl, hB, s0, s1, s2, s3, s4, s5⟩; have hgs' := hgs.out; obtain ⟨hc, hf, hs⟩ := bcell hB; clear hs; (try simp only [World.size_drew, World.size_alloc, World.size_setCell] at hc hf); obtain ⟨hz0_0, hz0_1, hz0_2, hz1_0, hz1_1, hz1_2, hz2_0, hz2_1, hz2_2, hy0_0, hy0_1, hy0_2⟩ : w.heap.size < w7.heap.size ∧ w.heap.size < w7.heap.size + 1 ∧ w.heap.size < w7.heap.size + 1 + 1 ∧ w.heap.size + 1 < w7.heap.size ∧ w.heap.size + 1 < w7.heap.size + 1 ∧ w.heap.size + 1 < w7.heap.size + 1 + 1 ∧ w.heap.size + 1 + 1 < w7.heap.size ∧ w.heap.size + 1 + 1 < w7.heap.size + 1 ∧ w.heap.size + 1 + 1 < w7.heap.size + 1 + 1 ∧ w6.heap.size < w7.heap.size ∧ w6.heap.size < w7.heap.size + 1 ∧ w6.heap.size < w7.heap.size + 1 + 1 := by { have := hB.size; (try simp at this); omega }))
        obtain ⟨G, hG⟩ : ∃ G, w6.heap.size = G := ⟨_, rfl⟩
        have hGg : G < gs := by { rw [← hG]; have := hgs.out; simp at this; omega }
        have hGn : G ≠ gs := by omega
        have hGm : gs ≠ G := by omega
        simp only [hG]
        go_loopg [38] 2 (fun gk v38 wi => ∃ (k : Nat) (z : Int), Aside (z = k ∧ k ≤ 2 ∧ gk + k = 2) ∧ v38 = .int .i64 z ∧ Box wi w.heap.size ⟨true, xl, xh⟩ ∧ Box wi (w.heap.size + 1) ⟨true, yl, yh⟩ ∧ Box wi (w.heap.size + 1 + 1) Iv.e ∧ Box wi G (if k = 0 then J0 else if k = 1 then J1 else J2) ∧ wi.cell? ⟨gs, 0, none⟩ = some (.bool (negP ⟨true, yl, yh⟩).s) ∧ wi.cell? ⟨gs, 1, none⟩ = some (.int .i64 (negP ⟨true, yl, yh⟩).lo) ∧ wi.cell? ⟨gs, 2, none⟩ = some (.int .i64 (negP ⟨true, yl, yh⟩).hi) ∧ wi.cell? ⟨gs, 3, none⟩ = some (.bool (posP ⟨true, yl, yh⟩).s) ∧ wi.cell? ⟨gs, 4, none⟩ = some (.int .i64 (posP ⟨true, yl, yh⟩).lo) ∧ wi.cell? ⟨gs, 5, none⟩ = some (.int .i64 (posP ⟨true, yl, yh⟩).hi) ∧ Below w.heap.size w wi)
        case atStart =>
          subst hG
          refine ⟨0, 0, ⟨rfl, by omega, rfl⟩, rfl, ?_, ?_, ?_, ?_, by go_simp, by go_simp, by go_simp, by go_simp, by go_simp, by go_simp, by go_grown; repeat (refine below_call ?_ (by assumption); go_grown)⟩
          · exact ⟨by go_simp, by go_simp, by go_simp, by go_simp, by go_simp, by go_simp⟩
          · exact ⟨by go_simp, by go_simp, by go_simp, by go_simp, by go_simp, by go_simp⟩
          · exact ⟨by go_simp, by go_simp, by go_simp, by go_simp, by go_simp, by go_simp⟩
          · rw [if_pos rfl, show J0 = Iv.e from HJ0.out]; exact ⟨by go_simp, by go_simp, by go_simp, by go_simp, by go_simp, by go_simp⟩
        case round =>
          obtain ⟨k, z, hk, rfl, b0, b1, b2, b3, s0, s1, s2, s3, s4, s5, hB⟩ := hrel
          have lgs : gs < wr.heap.size := World.block_lt_of_cell? _ _ s0
          have l0' := b0.lt
          have l1' := b1.lt
          have l2' := b2.lt
          have l3' := b3.lt
          have hz : (z = 0 ∧ k = 0) ∨ (z = 1 ∧ k = 1) ∨ (z = 2 ∧ k = 2) := by have := hk.out; omega
          have HH := Lib.hid hk
          clear hk
          rcases hz with ⟨rfl, rfl⟩ | ⟨rfl, rfl⟩ | ⟨rfl, rfl⟩
          · rw [if_pos rfl] at b3
            obtain ⟨a0, a1, a2, a3, a4, a5⟩ := b0
            obtain ⟨d0, d1, d2, d3, d4, d5⟩ := b1
            obtain ⟨e0, e1, e2, e3, e4, e5⟩ := b2
            obtain ⟨o0, o1, o2, o3, o4, o5⟩ := b3
            · cases hs : (negP ⟨true, yl, yh⟩).s
              · have hpe : negP ⟨true, yl, yh⟩ = Iv.e := by
                  rcases okN with h | h
                  · exact h
                  · rw [h.1] at hs; cases hs
                have hst : J1 = J0 := by rw [← HE1.out]; unfold divStep; rw [if_neg (by rw [hs]; decide)]
                rw [hpe] at s0 s1 s2
                simp only [Iv.e_s, Iv.e_lo, Iv.e_hi] at s0 s1 s2
                have HPE := Lib.hid hpe
                clear hs hpe
                have HST := Lib.hid hst
                clear hst
                go_wp2
                go_roundg (2 - 0 - 1)
                case measure => have := HH.out.out; omega
                case rel => exact ⟨0 + 1, (0 + 1 : Int), ⟨rfl, by omega, by omega⟩, rfl, ⟨by go_simp, by go_simp, by go_simp, by go_simp, by go_simp, by go_simp⟩, ⟨by go_simp, by go_simp, by go_simp, by go_simp, by go_simp, by go_simp⟩, ⟨by go_simp, by go_simp, by go_simp, by go_simp, by go_simp, by go_simp⟩, by show Box _ G J1; rw [HST.out]; exact ⟨by go_simp, by go_simp, by go_simp, by go_simp, by go_simp, by go_simp⟩, by rw [HPE.out]; go_simp, by rw [HPE.out]; go_simp, by rw [HPE.out]; go_simp, by go_simp, by go_simp, by go_simp, by go_grown; repeat (refine below_call ?_ (by assumption); go_grown)⟩
              · obtain ⟨pq, hpq⟩ : ∃ pq, negP ⟨true, yl, yh⟩ = pq := ⟨_, rfl⟩
                obtain ⟨ps, pl, ph⟩ := pq
                have hb := negP_hi hs
                rw [hpq] at hb hs s0 s1 s2
                simp only at hb hs
                subst hs
                obtain ⟨qq, hqq⟩ : ∃ qq, quoJ ⟨true, xl, xh⟩ ⟨true, pl, ph⟩ = qq := ⟨_, rfl⟩
                have hst : joinI J0 qq = J1 := by rw [← HE1.out, hpq]; unfold divStep; rw [if_pos rfl, hqq]
                have hnq : nrm qq = qq := by rw [← hqq]; exact quoJ_nrm _ _
                have HST := Lib.hid hst
                have HNQ := Lib.hid hnq
                have HQQ := Lib.hid hqq
                have hp1 : pl ≠ 0 := by omega
                have hp2 : ph ≠ 0 := by omega
                have HP1 := Lib.hid hp1
                have HP2 := Lib.hid hp2
                have HPQ := Lib.hid hpq
                clear hst hnq hqq hp1 hp2 hb hpq
                go_wp2_with (first | (go_at_call 39; (with_reducible refine (corners_quo xl xh pl ph HP1.out HP2.out qq HQQ _).mono ?_); rintro e w8 ⟨rfl, hB⟩; obtain ⟨hc, hf, hs⟩ := bcell hB; clear hs; (try simp only [World.size_drew, World.size_alloc] at hc hf); obtain ⟨hz0_0, hz0_1, hz0_2, hz1_0, hz1_1, hz1_2, hz2_0, hz2_1, hz2_2, hy0_0, hy0_1, hy0_2, hy1_0, hy1_1, hy1_2⟩ : w.heap.size < w8.heap.size ∧ w.heap.size < w8.heap.size + 1 ∧ w.heap.size < w8.heap.size + 1 + 1 ∧ w.heap.size + 1 < w8.heap.size ∧ w.heap.size + 1 < w8.heap.size + 1 ∧ w.heap.size + 1 < w8.heap.size + 1 + 1 ∧ w.heap.size + 1 + 1 < w8.heap.size ∧ w.heap.size + 1 + 1 < w8.heap.size + 1 ∧ w.heap.size + 1 + 1 < w8.heap.size + 1 + 1 ∧ G < w8.heap.size ∧ G < w8.heap.size + 1 ∧ G < w8.heap.size + 1 + 1 ∧ gs < w8.heap.size ∧ gs < w8.heap.size + 1 ∧ gs < w8.heap.size + 1 + 1 := by { have := hB.size; (try simp at this); omega }) | (go_at_call 47; refine (join_any _ J0 qq J1 HNJ0.out HNQ.out HST.out _ ?_ ?_ ?_ ?_ ?_ ?_).mono ?_; (focus go_simp); (focus go_simp); (focus go_simp); (focus go_simp); (focus go_simp); (focus go_simp); rintro e w9 ⟨rfl, hB⟩; obtain ⟨hc, hf, hs⟩ := bcell hB; clear hs; (try simp only [World.size_drew, World.size_alloc] at hc hf); obtain ⟨hz0_0, hz0_1, hz0_2, hz1_0, hz1_1, hz1_2, hz2_0, hz2_1, hz2_2, hy0_0, hy0_1, hy0_2, hy1_0, hy1_1, hy1_2⟩ : w.heap.size < w9.heap.size ∧ w.heap.size < w9.heap.size + 1 ∧ w.heap.size < w9.heap.size + 1 + 1 ∧ w.heap.size + 1 < w9.heap.size ∧ w.heap.size + 1 < w9.heap.size + 1 ∧ w.heap.size + 1 < w9.heap.size + 1 + 1 ∧ w.heap.size + 1 + 1 < w9.heap.size ∧ w.heap.size + 1 + 1 < w9.heap.size + 1 ∧ w.heap.size + 1 + 1 < w9.heap.size + 1 + 1 ∧ G < w9.heap.size ∧ G < w9.heap.size + 1 ∧ G < w9.heap.size + 1 + 1 ∧ gs < w9.heap.size ∧ gs < w9.heap.size + 1 ∧ gs < w9.heap.size + 1 + 1 := by { have := hB.size; (try simp at this); omega }))
                go_roundg (2 - 0 - 1)
                case measure => have := HH.out.out; omega
                case rel => exact ⟨0 + 1, (0 + 1 : Int), ⟨rfl, by omega, by omega⟩, rfl, ⟨by go_simp, by go_simp, by go_simp, by go_simp, by go_simp, by go_simp⟩, ⟨by go_simp, by go_simp, by go_simp, by go_simp, by go_simp, by go_simp⟩, ⟨by go_simp, by go_simp, by go_simp, by go_simp, by go_simp, by go_simp⟩, Box.put (x := J0) ⟨by go_simp, by go_simp, by go_simp, by go_simp, by go_simp, by go_simp⟩, by rw [HPQ.out]; go_simp, by rw [HPQ.out]; go_simp, by rw [HPQ.out]; go_simp, by go_simp, by go_simp, by go_simp, by go_grown; repeat (refine below_call ?_ (by assumption); go_grown)⟩
          · rw [if_neg (by decide), if_pos rfl] at b3
            obtain ⟨a0, a1, a2, a3, a4, a5⟩ := b0
            obtain ⟨d0, d1, d2, d3, d4, d5⟩ := b1
            obtain ⟨e0, e1, e2, e3, e4, e5⟩ := b2
            obtain ⟨o0, o1, o2, o3, o4, o5⟩ := b3
            · cases hs : (posP ⟨true, yl, yh⟩).s
              · have hpe : posP ⟨true, yl, yh⟩ = Iv.e := by
                  rcases okP with h | h
                  · exact h
                  · rw [h.1] at hs; cases hs
                have hst : J2 = J1 := by rw [← HE2.out]; unfold divStep; rw [if_neg (by rw [hs]; decide)]
                rw [hpe] at s3 s4 s5
                simp only [Iv.e_s, Iv.e_lo, Iv.e_hi] at s3 s4 s5
                have HPE := Lib.hid hpe
                clear hs hpe
                have HST := Lib.hid hst
                clear hst
                go_wp2
                go_roundg (2 - 1 - 1)
                case measure => have := HH.out.out; omega
                case rel => exact ⟨1 + 1, (1 + 1 : Int), ⟨rfl, by omega, by omega⟩, rfl, ⟨by go_simp, by go_simp, by go_simp, by go_simp, by go_simp, by go_simp⟩, ⟨by go_simp, by go_simp, by go_simp, by go_simp, by go_simp, by go_simp⟩, ⟨by go_simp, by go_simp, by go_simp, by go_simp, by go_simp, by go_simp⟩, by show Box _ G J2; rw [HST.out]; exact ⟨by go_simp, by go_simp, by go_simp, by go_simp, by go_simp, by go_simp⟩, by go_simp, by go_simp, by go_simp, by rw [HPE.out]; go_simp, by rw [HPE.out]; go_simp, by rw [HPE.out]; go_simp, by go_grown; repeat (refine below_call ?_ (by assumption); go_grown)⟩
              · obtain ⟨pq, hpq⟩ : ∃ pq, posP ⟨true, yl, yh⟩ = pq := ⟨_, rfl⟩
                obtain ⟨ps, pl, ph⟩ := pq
                have hb := posP_lo hs
                rw [hpq] at hb hs s3 s4 s5
                simp only at hb hs
                subst hs
                obtain ⟨qq, hqq⟩ : ∃ qq, quoJ ⟨true, xl, xh⟩ ⟨true, pl, ph⟩ = qq := ⟨_, rfl⟩
                have hst : joinI J1 qq = J2 := by rw [← HE2.out, hpq]; unfold divStep; rw [if_pos rfl, hqq]
                have hnq : nrm qq = qq := by rw [← hqq]; exact quoJ_nrm _ _
                have HST := Lib.hid hst
                have HNQ := Lib.hid hnq
                have HQQ := Lib.hid hqq
                have hp1 : pl ≠ 0 := by omega
                have hp2 : ph ≠ 0 := by omega
                have HP1 := Lib.hid hp1
                have HP2 := Lib.hid hp2
                have HPQ := Lib.hid hpq
                clear hst hnq hqq hp1 hp2 hb hpq
                go_wp2_with (first | (go_at_call 39; (with_reducible refine (corners_quo xl xh pl ph HP1.out HP2.out qq HQQ _).mono ?_); rintro e w8 ⟨rfl, hB⟩; obtain ⟨hc, hf, hs⟩ := bcell hB; clear hs; (try simp only [World.size_drew, World.size_alloc] at hc hf); obtain ⟨hz0_0, hz0_1, hz0_2, hz1_0, hz1_1, hz1_2, hz2_0, hz2_1, hz2_2, hy0_0, hy0_1, hy0_2, hy1_0, hy1_1, hy1_2⟩ : w.heap.size < w8.heap.size ∧ w.heap.size < w8.heap.size + 1 ∧ w.heap.size < w8.heap.size + 1 + 1 ∧ w.heap.size + 1 < w8.heap.size ∧ w.heap.size + 1 < w8.heap.size + 1 ∧ w.heap.size + 1 < w8.heap.size + 1 + 1 ∧ w.heap.size + 1 + 1 < w8.heap.size ∧ w.heap.size + 1 + 1 < w8.heap.size + 1 ∧ w.heap.size + 1 + 1 < w8.heap.size + 1 + 1 ∧ G < w8.heap.size ∧ G < w8.heap.size + 1 ∧ G < w8.heap.size + 1 + 1 ∧ gs < w8.heap.size ∧ gs < w8.heap.size + 1 ∧ gs < w8.heap.size + 1 + 1 := by { have := hB.size; (try simp at this); omega }) | (go_at_call 47; refine (join_any _ J1 qq J2 HNJ1.out HNQ.out HST.out _ ?_ ?_ ?_ ?_ ?_ ?_).mono ?_; (focus go_simp); (focus go_simp); (focus go_simp); (focus go_simp); (focus go_simp); (focus go_simp); rintro e w9 ⟨rfl, hB⟩; obtain ⟨hc, hf, hs⟩ := bcell hB; clear hs; (try simp only [World.size_drew, World.size_alloc] at hc hf); obtain ⟨hz0_0, hz0_1, hz0_2, hz1_0, hz1_1, hz1_2, hz2_0, hz2_1, hz2_2, hy0_0, hy0_1, hy0_2, hy1_0, hy1_1, hy1_2⟩ : w.heap.size < w9.heap.size ∧ w.heap.size < w9.heap.size + 1 ∧ w.heap.size < w9.heap.size + 1 + 1 ∧ w.heap.size + 1 < w9.heap.size ∧ w.heap.size + 1 < w9.heap.size + 1 ∧ w.heap.size + 1 < w9.heap.size + 1 + 1 ∧ w.heap.size + 1 + 1 < w9.heap.size ∧ w.heap.size + 1 + 1 < w9.heap.size + 1 ∧ w.heap.size + 1 + 1 < w9.heap.size + 1 + 1 ∧ G < w9.heap.size ∧ G < w9.heap.size + 1 ∧ G < w9.heap.size + 1 + 1 ∧ gs < w9.heap.size ∧ gs < w9.heap.size + 1 ∧ gs < w9.heap.size + 1 + 1 := by { have := hB.size; (try simp at this); omega }))
                go_roundg (2 - 1 - 1)
                case measure => have := HH.out.out; omega
                case rel => exact ⟨1 + 1, (1 + 1 : Int), ⟨rfl, by omega, by omega⟩, rfl, ⟨by go_simp, by go_simp, by go_simp, by go_simp, by go_simp, by go_simp⟩, ⟨by go_simp, by go_simp, by go_simp, by go_simp, by go_simp, by go_simp⟩, ⟨by go_simp, by go_simp, by go_simp, by go_simp, by go_simp, by go_simp⟩, Box.put (x := J1) ⟨by go_simp, by go_simp, by go_simp, by go_simp, by go_simp, by go_simp⟩, by go_simp, by go_simp, by go_simp, by rw [HPQ.out]; go_simp, by rw [HPQ.out]; go_simp, by rw [HPQ.out]; go_simp, by go_grown; repeat (refine below_call ?_ (by assumption); go_grown)⟩
          · rw [if_neg (by decide), if_neg (by decide)] at b3
            obtain ⟨a0, a1, a2, a3, a4, a5⟩ := b0
            obtain ⟨d0, d1, d2, d3, d4, d5⟩ := b1
            obtain ⟨e0, e1, e2, e3, e4, e5⟩ := b2
            obtain ⟨o0, o1, o2, o3, o4, o5⟩ := b3
            go_wp2
            refine bodyPost_ret (v := .tuple #[.agg #[.bool J2.s, .int .i64 J2.lo, .int .i64 J2.hi], .bool zz]) (by simp [results, Try.results24, *, go_sem]) rfl ?_
            exact ⟨by rw [HJ2.out], by go_grown; repeat (refine below_call ?_ (by assumption); go_grown)⟩
      · rw [hc1, hc2, if_pos ⟨rfl, rfl⟩] at hqq
        subst hqq
        have H1 := Lib.hid hc1
        have H2 := Lib.hid hc2
        clear hc1 hc2
        go_wp2_with (first | (go_at_call 44; (with_reducible refine (has_any ⟨true, yl, yh⟩ 0 zz HZ _).mono ?_); rintro e w4 ⟨rfl, hB⟩; obtain ⟨hc, hf, hs⟩ := bcell hB; clear hs; (try simp only [World.size_drew, World.size_alloc] at hc hf); obtain ⟨hz0_0, hz0_1, hz0_2, hz1_0, hz1_1, hz1_2, hz2_0, hz2_1, hz2_2⟩ : w.heap.size < w4.heap.size ∧ w.heap.size < w4.heap.size + 1 ∧ w.heap.size < w4.heap.size + 1 + 1 ∧ w.heap.size + 1 < w4.heap.size ∧ w.heap.size + 1 < w4.heap.size + 1 ∧ w.heap.size + 1 < w4.heap.size + 1 + 1 ∧ w.heap.size + 1 + 1 < w4.heap.size ∧ w.heap.size + 1 + 1 < w4.heap.size + 1 ∧ w.heap.size + 1 + 1 < w4.heap.size + 1 + 1 := by { have := hB.size; (try simp at this); omega }) | (go_at_call 44; (with_reducible refine (has_any ⟨true, xl, xh⟩ (-9223372036854775808) true H1 _).mono ?_); rintro e w5 ⟨rfl, hB⟩; obtain ⟨hc, hf, hs⟩ := bcell hB; clear hs; (try simp only [World.size_drew, World.size_alloc] at hc hf); obtain ⟨hz0_0, hz0_1, hz0_2, hz1_0, hz1_1, hz1_2, hz2_0, hz2_1, hz2_2⟩ : w.heap.size < w5.heap.size ∧ w.heap.size < w5.heap.size + 1 ∧ w.heap.size < w5.heap.size + 1 + 1 ∧ w.heap.size + 1 < w5.heap.size ∧ w.heap.size + 1 < w5.heap.size + 1 ∧ w.heap.size + 1 < w5.heap.size + 1 + 1 ∧ w.heap.size + 1 + 1 < w5.heap.size ∧ w.heap.size + 1 + 1 < w5.heap.size + 1 ∧ w.heap.size + 1 + 1 < w5.heap.size + 1 + 1 := by { have := hB.size; (try simp at this); omega }) | (go_at_call 44; (with_reducible refine (has_any ⟨true, yl, yh⟩ (-1) true H2 _).mono ?_); rintro e w6 ⟨rfl, hB⟩; obtain ⟨hc, hf, hs⟩ := bcell hB; clear hs; (try simp only [World.size_drew, World.size_alloc] at hc hf); obtain ⟨hz0_0, hz0_1, hz0_2, hz1_0, hz1_1, hz1_2, hz2_0, hz2_1, hz2_2⟩ : w.heap.size < w6.heap.size ∧ w.heap.size < w6.heap.size + 1 ∧ w.heap.size < w6.heap.size + 1 + 1 ∧ w.heap.size + 1 < w6.heap.size ∧ w.heap.size + 1 < w6.heap.size + 1 ∧ w.heap.size + 1 < w6.heap.size + 1 + 1 ∧ w.heap.size + 1 + 1 < w6.heap.size ∧ w.heap.size + 1 + 1 < w6.heap.size + 1 ∧ w.heap.size + 1 + 1 < w6.heap.size + 1 + 1 := by { have := hB.size; (try simp at this); omega }) | (go_at_call 41; (with_reducible refine (top_any _).mono ?_); rintro e w7 ⟨rfl, hB⟩; obtain ⟨hc, hf, hs⟩ := bcell hB; clear hs; (try simp only [World.size_drew, World.size_alloc] at hc hf); obtain ⟨hz0_0, hz0_1, hz0_2, hz1_0, hz1_1, hz1_2, hz2_0, hz2_1, hz2_2⟩ : w.heap.size < w7.heap.size ∧ w.heap.size < w7.heap.size + 1 ∧ w.heap.size < w7.heap.size + 1 + 1 ∧ w.heap.size + 1 < w7.heap.size ∧ w.heap.size + 1 < w7.heap.size + 1 ∧ w.heap.size + 1 < w7.heap.size + 1 + 1 ∧ w.heap.size + 1 + 1 < w7.heap.size ∧ w.heap.size + 1 + 1 < w7.heap.size + 1 ∧ w.heap.size + 1 + 1 < w7.heap.size + 1 + 1 := by { have := hB.size; (try simp at this); omega }))
        refine bodyPost_ret (v := .tuple #[.agg #[.bool true, .int .i64 (-9223372036854775808), .int .i64 9223372036854775807], .bool zz]) (by simp [results, Try.results24, *, go_sem]) rfl ?_
        exact ⟨rfl, by go_grown; repeat (refine below_call ?_ (by assumption); go_grown)⟩
end Go.Proofs.Ytfnodgpebheinaa.M
