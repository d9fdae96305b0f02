/- Walks: products of intervals. -/
import Derived.Test.YtfnodgpebheinaaM6
import Derived.Deep.DeepCutAuto
import Derived.Deep.CutBlock
namespace Go.Proofs.Ytfnodgpebheinaa.M
open Go Go.RowKit
set_option linter.unusedVariables false
set_option linter.unusedSimpArgs false
attribute [local simp, local go_sem] lt_a2 lt_a3 lt_a4 lt_a5 lt_a6 lt_a7 lt_a8
set_option maxHeartbeats 4000000
/-- What comes of two intervals' bounds: J, told corner by corner. -/
def cornerJ (n : Nat → Nat → Int) : Nat → Iv
  | 0 => Iv.e
  | k + 1 => joinI (cornerJ n k) ⟨true, n (k / 2) (k % 2), n (k / 2) (k % 2)⟩
theorem cornerJ_step (n : Nat → Nat → Int) (i j : Nat) (hi : i < 2) (hj : j < 2) : joinI (cornerJ n (2 * i + j)) ⟨true, n i j, n i j⟩ = cornerJ n (2 * i + j + 1) := by
  show _ = joinI (cornerJ n (2 * i + j)) ⟨true, n ((2 * i + j) / 2) ((2 * i + j) % 2), n ((2 * i + j) / 2) ((2 * i + j) % 2)⟩
  rw [show (2 * i + j) / 2 = i by omega, show (2 * i + j) % 2 = j by omega]
theorem join_nrm {x : Iv} {n : Int} (h : nrm x = x) : nrm (joinI x ⟨true, n, n⟩) = joinI x ⟨true, n, n⟩ := by
  unfold joinI
  rcases nrm_ok h with rfl | ⟨h1, h2⟩
  · simp [nrm]
  · simp only [h1, if_true]
    unfold nrm
    rw [if_pos]
    refine ⟨rfl, ?_⟩
    simp only
    (repeat' split) <;> omega
theorem cornerJ_nrm (n : Nat → Nat → Int) : ∀ k, nrm (cornerJ n k) = cornerJ n k
  | 0 => rfl
  | k + 1 => join_nrm (cornerJ_nrm n k)
theorem cornerJ_some (n : Nat → Nat → Int) : ∀ k, (cornerJ n (k + 1)).s = true
  | 0 => rfl
  | k + 1 => by
    show (joinI (cornerJ n (k + 1)) _).s = true
    unfold joinI
    simp [cornerJ_some n k]
/-- The products. -/
def mulN (x y : Iv) (i j : Nat) : Int := wrap64 (two x.lo x.hi i * two y.lo y.hi j)
def mulOk (x y : Iv) (i j : Nat) : Bool := inr (two x.lo x.hi i * two y.lo y.hi j)
def allOk (x y : Iv) : Bool := mulOk x y 0 0 && (mulOk x y 0 1 && (mulOk x y 1 0 && mulOk x y 1 1))
theorem allOk_iff (x y : Iv) : allOk x y = true ↔ ∀ i j, i < 2 → j < 2 → mulOk x y i j = true := by
  unfold allOk
  constructor
  · intro h
    simp only [Bool.and_eq_true] at h
    intro i j hi hj
    obtain rfl | rfl : i = 0 ∨ i = 1 := by omega
    · obtain rfl | rfl : j = 0 ∨ j = 1 := by omega
      · exact h.1
      · exact h.2.1
    · obtain rfl | rfl : j = 0 ∨ j = 1 := by omega
      · exact h.2.2.1
      · exact h.2.2.2
  · intro h
    simp [h 0 0, h 0 1, h 1 0, h 1 1]
def mulI (x y : Iv) : Iv := if x.s = true ∧ y.s = true then (if allOk x y = true then cornerJ (mulN x y) 4 else Iv.top) else Iv.e
theorem arith_mul (a b x y : Iv) (hx : Hid (nrm a = x)) (hy : Hid (nrm b = y)) (ox : Ok x) (oy : Ok y) (q : Iv) (hq : Hid (mulI x y = q)) (w : World) :
    Calls Try.prog 18 #[.agg #[.bool a.s, .int .i64 a.lo, .int .i64 a.hi], .agg #[.bool b.s, .int .i64 b.lo, .int .i64 b.hi]] w (Ret (.agg #[.bool q.s, .int .i64 q.lo, .int .i64 q.hi]) w) := by
  have hu := Try.underlying23
  obtain ⟨xs, xl, xh⟩ := x
  obtain ⟨ys, yl, yh⟩ := y
  go_enter Try.func18, Try.ntmps18
  go_upto_region 1 with (fail)
  go_cut [] (fun wc => Box wc w.heap.size ⟨xs, xl, xh⟩ ∧ Box wc (w.heap.size + 1) ⟨ys, yl, yh⟩ ∧ Box wc (w.heap.size + 1 + 1) Iv.e ∧ Below w.heap.size w wc)
  case first =>
    go_wp2
    go_region_with ((first | (go_at_call 31; (with_reducible refine (clean_any a.s a.lo a.hi ⟨xs, xl, xh⟩ hx _).mono ?_)) | (go_at_call 31; (with_reducible refine (clean_any b.s b.lo b.hi ⟨ys, yl, yh⟩ hy _).mono ?_))); rintro e w' ⟨rfl, hB⟩; obtain ⟨hc, hf, hs⟩ := bcell hB; clear hs; (try simp only [World.size_drew, World.size_alloc] at hc hf); obtain ⟨hz0_0, hz0_1, hz0_2, hz1_0, hz1_1, hz1_2, hz2_0, hz2_1, hz2_2⟩ : w.heap.size < w'.heap.size ∧ w.heap.size < w'.heap.size + 1 ∧ w.heap.size < w'.heap.size + 1 + 1 ∧ w.heap.size + 1 < w'.heap.size ∧ w.heap.size + 1 < w'.heap.size + 1 ∧ w.heap.size + 1 < w'.heap.size + 1 + 1 ∧ w.heap.size + 1 + 1 < w'.heap.size ∧ w.heap.size + 1 + 1 < w'.heap.size + 1 ∧ w.heap.size + 1 + 1 < w'.heap.size + 1 + 1 := by { have := hB.size; (try simp at this); omega })
    all_goals
      go_wp2
      go_meet
      case rel => exact ⟨⟨by go_simp, by go_simp, by go_simp, by go_simp, by go_simp, by go_simp⟩, ⟨by go_simp, by go_simp, by go_simp, by go_simp, by go_simp, by go_simp⟩, ⟨by go_simp, by go_simp, by go_simp, by go_simp, by go_simp, by go_simp⟩, by go_grown; repeat (refine below_call ?_ (by assumption); go_grown)⟩
  case rest =>
    obtain ⟨b0, b1, b2, hB0⟩ := hcut
    have l0 := b0.lt
    have l1 := b1.lt
    have l2 := b2.lt
    obtain ⟨a0, a1, a2, a3, a4, a5⟩ := b0
    obtain ⟨d0, d1, d2, d3, d4, d5⟩ := b1
    obtain ⟨e0, e1, e2, e3, e4, e5⟩ := b2
    have hemp : ¬ (xs = true ∧ ys = true) → Iv.e = q := by
      intro h
      have h2 := hq.out
      unfold mulI at h2; rw [if_neg h] at h2
      exact h2
    by_cases hxy : ¬ (xs = true ∧ ys = true)
    · obtain rfl := hemp hxy
      have hxy' : xs = false ∨ xs = true ∧ ys = false := by
        cases xs <;> cases ys <;> simp_all
      rcases hxy' with rfl | ⟨rfl, rfl⟩
      · clear hxy hemp
        go_wp2
        refine bodyPost_ret (v := .agg #[.bool false, .int .i64 0, .int .i64 0]) (by simp [results, Try.results18, *, go_sem]) rfl ?_
        exact ⟨rfl, by go_grown; repeat (refine below_call ?_ (by assumption); go_grown)⟩
      · clear hxy hemp
        go_wp2
        refine bodyPost_ret (v := .agg #[.bool false, .int .i64 0, .int .i64 0]) (by simp [results, Try.results18, *, go_sem]) rfl ?_
        exact ⟨rfl, by go_grown; repeat (refine below_call ?_ (by assumption); go_grown)⟩
    obtain ⟨rfl, rfl⟩ := Classical.not_not.1 hxy
    clear hemp hxy
    have hq2 := hq.out
    unfold mulI at hq2; rw [if_pos ⟨rfl, rfl⟩] at hq2
    clear hq
    have rx : (-9223372036854775808 ≤ xl ∧ xl ≤ xh ∧ xh ≤ 9223372036854775807) := by
      rcases ox with h | h
      · cases h
      · exact h.2
    have ry : (-9223372036854775808 ≤ yl ∧ yl ≤ yh ∧ yh ≤ 9223372036854775807) := by
      rcases oy with h | h
      · cases h
      · exact h.2
    have ix : ∀ i, inr (two xl xh i) = true := by
      intro i; unfold two inr; split <;> exact decide_eq_true (by omega)
    have iy : ∀ i, inr (two yl yh i) = true := by
      intro i; unfold two inr; split <;> exact decide_eq_true (by omega)
    have HC : ∀ w, Calls Try.prog 39 #[.agg #[.bool true, .int .i64 xl, .int .i64 xh], .agg #[.bool true, .int .i64 yl, .int .i64 yh], .func (.func 40) #[] #[]] w (RetC (cornerJ (mulN ⟨true, xl, xh⟩ ⟨true, yl, yh⟩) 4) (∀ i j, i < 2 → j < 2 → mulOk ⟨true, xl, xh⟩ ⟨true, yl, yh⟩ i j = true) w) := fun w =>
      corners_mul xl xh yl yh true true (mulN ⟨true, xl, xh⟩ ⟨true, yl, yh⟩) (mulOk ⟨true, xl, xh⟩ ⟨true, yl, yh⟩) (cornerJ (mulN ⟨true, xl, xh⟩ ⟨true, yl, yh⟩)) rfl (cornerJ_step _) (cornerJ_nrm _)
        (fun i j w hi hj => mul_any _ _ _ _ (ix i) (iy j) (Lib.hid rfl) (Lib.hid rfl) w) w
    by_cases hall : allOk ⟨true, xl, xh⟩ ⟨true, yl, yh⟩ = true
    · have hall' := (allOk_iff _ _).1 hall
      rw [if_pos hall] at hq2
      have HC2 : Hid (∀ w, Calls Try.prog 39 #[.agg #[.bool true, .int .i64 xl, .int .i64 xh], .agg #[.bool true, .int .i64 yl, .int .i64 yh], .func (.func 40) #[] #[]] w (fun e w' => e = .returned (.tuple #[.agg #[.bool q.s, .int .i64 q.lo, .int .i64 q.hi], .bool true]) ∧ Below w.heap.size w w')) := fun w => (HC w).mono (fun e w' h => by
        rcases h with ⟨⟨_, h⟩ | ⟨h, _⟩, hb⟩
        · rw [hq2] at h; exact ⟨h, hb⟩
        · exact absurd hall' h)
      clear HC hall hall' hq2 ix iy rx ry ox oy
      go_wp2_with (go_at_call 39; (with_reducible refine (HC2.out _).mono ?_); rintro e w' ⟨rfl, hB⟩; obtain ⟨hc, hf, hs⟩ := bcell hB; clear hs; (try simp only [World.size_drew, World.size_alloc] at hc hf); obtain ⟨hz0_0, hz0_1, hz0_2, hz1_0, hz1_1, hz1_2, hz2_0, hz2_1, hz2_2⟩ : w.heap.size < w'.heap.size ∧ w.heap.size < w'.heap.size + 1 ∧ w.heap.size < w'.heap.size + 1 + 1 ∧ w.heap.size + 1 < w'.heap.size ∧ w.heap.size + 1 < w'.heap.size + 1 ∧ w.heap.size + 1 < w'.heap.size + 1 + 1 ∧ w.heap.size + 1 + 1 < w'.heap.size ∧ w.heap.size + 1 + 1 < w'.heap.size + 1 ∧ w.heap.size + 1 + 1 < w'.heap.size + 1 + 1 := by { have := hB.size; (try simp at this); omega })
      refine bodyPost_ret (v := .agg #[.bool q.s, .int .i64 q.lo, .int .i64 q.hi]) (by simp [results, Try.results18, *, go_sem]) rfl ?_
      exact ⟨rfl, by go_grown; repeat (refine below_call ?_ (by assumption); go_grown)⟩
    · have hall' : ¬ ∀ i j, i < 2 → j < 2 → mulOk ⟨true, xl, xh⟩ ⟨true, yl, yh⟩ i j = true := fun h => hall ((allOk_iff _ _).2 h)
      rw [if_neg hall] at hq2
      subst hq2
      have HC2 : Hid (∀ w, Calls Try.prog 39 #[.agg #[.bool true, .int .i64 xl, .int .i64 xh], .agg #[.bool true, .int .i64 yl, .int .i64 yh], .func (.func 40) #[] #[]] w (fun e w' => e = .returned (.tuple #[.agg #[.bool false, .int .i64 0, .int .i64 0], .bool false]) ∧ Below w.heap.size w w')) := fun w => (HC w).mono (fun e w' h => by
        rcases h with ⟨⟨h, _⟩ | ⟨_, h⟩, hb⟩
        · exact absurd h hall'
        · exact ⟨h, hb⟩)
      clear HC hall hall' ix iy rx ry ox oy
      go_wp2_with (first | (go_at_call 39; (with_reducible refine (HC2.out _).mono ?_); rintro e w' ⟨rfl, hB⟩; obtain ⟨hc, hf, hs⟩ := bcell hB; clear hs; (try simp only [World.size_drew, World.size_alloc] at hc hf); obtain ⟨hz0_0, hz0_1, hz0_2, hz1_0, hz1_1, hz1_2, hz2_0, hz2_1, hz2_2⟩ : w.heap.size < w'.heap.size ∧ w.heap.size < w'.heap.size + 1 ∧ w.heap.size < w'.heap.size + 1 + 1 ∧ w.heap.size + 1 < w'.heap.size ∧ w.heap.size + 1 < w'.heap.size + 1 ∧ w.heap.size + 1 < w'.heap.size + 1 + 1 ∧ w.heap.size + 1 + 1 < w'.heap.size ∧ w.heap.size + 1 + 1 < w'.heap.size + 1 ∧ w.heap.size + 1 + 1 < w'.heap.size + 1 + 1 := by { have := hB.size; (try simp at this); omega }) | (go_at_call 41; (with_reducible refine (top_any _).mono ?_); rintro e w' ⟨rfl, hB⟩; obtain ⟨hc, hf, hs⟩ := bcell hB; clear hs; (try simp only [World.size_drew, World.size_alloc] at hc hf); obtain ⟨hz0_0, hz0_1, hz0_2, hz1_0, hz1_1, hz1_2, hz2_0, hz2_1, hz2_2, hz3_0, hz3_1, hz3_2⟩ : w.heap.size < w'.heap.size ∧ w.heap.size < w'.heap.size + 1 ∧ w.heap.size < w'.heap.size + 1 + 1 ∧ w.heap.size + 1 < w'.heap.size ∧ w.heap.size + 1 < w'.heap.size + 1 ∧ w.heap.size + 1 < w'.heap.size + 1 + 1 ∧ w.heap.size + 1 + 1 < w'.heap.size ∧ w.heap.size + 1 + 1 < w'.heap.size + 1 ∧ w.heap.size + 1 + 1 < w'.heap.size + 1 + 1 ∧ w.heap.size + 1 + 1 + 1 < w'.heap.size ∧ w.heap.size + 1 + 1 + 1 < w'.heap.size + 1 ∧ w.heap.size + 1 + 1 + 1 < w'.heap.size + 1 + 1 := by { have := hB.size; (try simp at this); omega }))
      refine bodyPost_ret (v := .agg #[.bool true, .int .i64 (-9223372036854775808), .int .i64 9223372036854775807]) (by simp [results, Try.results18, *, go_sem]) rfl ?_
      exact ⟨rfl, by go_grown; repeat (refine below_call ?_ (by assumption); go_grown)⟩
end Go.Proofs.Ytfnodgpebheinaa.M
