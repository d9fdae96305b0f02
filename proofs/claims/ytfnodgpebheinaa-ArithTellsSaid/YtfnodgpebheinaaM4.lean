/- Walks: numbers: size, mul, the reference's sums and products. -/
import Derived.Test.YtfnodgpebheinaaM3
import Derived.Test.YtfnodgpebheinaaShelf
import Derived.Tactics2
namespace Go.Proofs.Ytfnodgpebheinaa.M
open Go Go.RowKit
set_option linter.unusedVariables false
set_option linter.unusedSimpArgs false
set_option maxHeartbeats 4000000
/-- Within 64 bits. -/
def inr (n : Int) : Bool := decide (-9223372036854775808 ≤ n ∧ n ≤ 9223372036854775807)
theorem size_any (a : Int) (ha : inr a = true) (x : Nat) (hx : Hid (a.natAbs = x)) (w : World) : Calls Try.prog 48 #[.int .i64 a] w fun e w' => e = .returned (.int .u64 (x : Int)) ∧ w = w' := by
  obtain rfl := hx.out
  have ha' := of_decide_eq_true ha
  clear ha
  by_cases h : a < 0
  · have h' : decide (a < 0) = true := by simp [h]
    have e1 : IntKind.u64.wrap (-(IntKind.u64.wrap a)) = (a.natAbs : Int) := by
      simp only [IntKind.wrap_u64]; omega
    go_enter Try.func48, Try.ntmps48
    go_wp2
    go_returns
    exact ⟨by rw [← e1]; rfl, rfl⟩
  · have h' : decide (a < 0) = false := by simp; omega
    have e1 : IntKind.u64.wrap a = (a.natAbs : Int) := by
      simp only [IntKind.wrap_u64]; omega
    go_enter Try.func48, Try.ntmps48
    go_wp2
    go_returns
    exact ⟨by rw [← e1]; rfl, rfl⟩
theorem mul64_v (x y hi lo : Nat) (hx : x < 18446744073709551616) (hy : y < 18446744073709551616) (h1 : Hid (x * y / 18446744073709551616 = hi)) (h2 : Hid (x * y % 18446744073709551616 = lo)) (w : World) :
    Calls Try.prog 59 #[.int .u64 x, .int .u64 y] w fun e w' => e = .returned (.tuple #[.int .u64 (hi : Int), .int .u64 (lo : Int)]) ∧ w = w' := by
  refine (Try.bits_Mul64 x y hx hy w).mono ?_
  rintro e w' ⟨rfl, rfl⟩
  rw [h1.out, h2.out]
  exact ⟨rfl, rfl⟩
theorem mul_same {a b : Int} {hi lo : Nat} (h1 : a.natAbs * b.natAbs / 18446744073709551616 = hi) (h2 : a.natAbs * b.natAbs % 18446744073709551616 = lo) (h : (0 ≤ a ∧ 0 ≤ b) ∨ (a < 0 ∧ b < 0)) :
    (decide ((hi : Int) = 0) && decide ((lo : Int) ≤ 9223372036854775807)) = inr (a * b) := by
  have e : a * b = ((a.natAbs * b.natAbs : Nat) : Int) := by
    rw [← Int.natAbs_mul, Int.natAbs_of_nonneg]
    rcases h with h | h
    · exact Int.mul_nonneg h.1 h.2
    · exact Int.mul_nonneg_of_nonpos_of_nonpos (by omega) (by omega)
  rw [inr, e]
  generalize a.natAbs * b.natAbs = N at *
  rw [Bool.eq_iff_iff]; simp; omega
theorem mul_other {a b : Int} {hi lo : Nat} (h1 : a.natAbs * b.natAbs / 18446744073709551616 = hi) (h2 : a.natAbs * b.natAbs % 18446744073709551616 = lo) (h : (a < 0 ∧ 0 ≤ b) ∨ (0 ≤ a ∧ b < 0)) :
    (decide ((hi : Int) = 0) && decide ((lo : Int) ≤ 9223372036854775808)) = inr (a * b) := by
  have e : a * b = -((a.natAbs * b.natAbs : Nat) : Int) := by
    have : a * b ≤ 0 := by
      rcases h with h | h
      · exact Int.mul_nonpos_of_nonpos_of_nonneg (by omega) h.2
      · exact Int.mul_nonpos_of_nonneg_of_nonpos h.1 (by omega)
    rw [← Int.natAbs_mul]; omega
  rw [inr, e]
  generalize a.natAbs * b.natAbs = N at *
  rw [Bool.eq_iff_iff]; simp; omega
theorem mul_any (a b n : Int) (f : Bool) (ha : inr a = true) (hb : inr b = true) (hn : Hid (wrap64 (a * b) = n)) (hf : Hid (inr (a * b) = f)) (w : World) :
    Calls Try.prog 40 #[.int .i64 a, .int .i64 b] w (Ret2 n f w) := by
  obtain ⟨x, hx⟩ : ∃ x, a.natAbs = x := ⟨_, rfl⟩
  obtain ⟨y, hy⟩ : ∃ y, b.natAbs = y := ⟨_, rfl⟩
  obtain ⟨hi, hhi⟩ : ∃ n, x * y / 18446744073709551616 = n := ⟨_, rfl⟩
  obtain ⟨lo, hlo⟩ : ∃ n, x * y % 18446744073709551616 = n := ⟨_, rfl⟩
  have hx0 : x < 18446744073709551616 := by have := of_decide_eq_true ha; omega
  have hy0 : y < 18446744073709551616 := by have := of_decide_eq_true hb; omega
  have K1 := Lib.hid hhi
  have K2 := Lib.hid hlo
  have HX := Lib.hid hx
  have HY := Lib.hid hy
  have hs : ∀ m : Int, (m = 9223372036854775807 ∧ ((0 ≤ a ∧ 0 ≤ b) ∨ (a < 0 ∧ b < 0))) ∨ (m = 9223372036854775808 ∧ ((a < 0 ∧ 0 ≤ b) ∨ (0 ≤ a ∧ b < 0))) → (decide ((hi : Int) = 0) && decide ((lo : Int) ≤ m)) = f := by
    intro m hm
    have hf := hf.out
    subst hx hy
    rcases hm with ⟨rfl, hm⟩ | ⟨rfl, hm⟩
    · rw [mul_same hhi hlo hm]; exact hf
    · rw [mul_other hhi hlo hm]; exact hf
  obtain rfl := hn.out
  have HS := Lib.hid hs
  clear hs hx hy hhi hlo
  by_cases h1 : a < 0 <;> by_cases h2 : b < 0 <;> by_cases h3 : (hi : Int) = 0
  all_goals
    first
      | (have q1 : decide (a < 0) = true := decide_eq_true h1)
      | (have q1 : decide (a < 0) = false := decide_eq_false h1)
    first
      | (have q2 : decide (b < 0) = true := decide_eq_true h2)
      | (have q2 : decide (b < 0) = false := decide_eq_false h2)
    first
      | (have q3 : ((hi : Int) == 0) = true := beq_iff_eq.mpr h3)
      | (have q3 : ((hi : Int) == 0) = false := beq_eq_false_iff_ne.mpr h3)
    go_enter Try.func40, Try.ntmps40
    go_wp2_with (first | (go_at_call 48; (with_reducible refine (size_any a ha x HX _).mono ?_); rintro e w' ⟨rfl, rfl⟩) | (go_at_call 48; (with_reducible refine (size_any b hb y HY _).mono ?_); rintro e w' ⟨rfl, rfl⟩) | (go_at_call 59; (with_reducible refine (mul64_v x y hi lo hx0 hy0 K1 K2 _).mono ?_); rintro e w' ⟨rfl, rfl⟩))
    go_returns
    refine ⟨?_, rfl⟩
    first
      | (have z := HS.out 9223372036854775807 (.inl ⟨rfl, by omega⟩); rw [← z]; simp [h3]; done)
      | (have z := HS.out 9223372036854775808 (.inr ⟨rfl, by omega⟩); rw [← z]; simp [h3]; done)
      | (have z := HS.out 9223372036854775807 (.inl ⟨rfl, by omega⟩); have z2 : f = false := (by rw [← z, decide_eq_false h3]; rfl); rw [z2]; rfl)
      | (have z := HS.out 9223372036854775808 (.inr ⟨rfl, by omega⟩); have z2 : f = false := (by rw [← z, decide_eq_false h3]; rfl); rw [z2]; rfl)

theorem tdiv_wrap {a b : Int} (ha : inr a = true) (hb : inr b = true) (h0 : b ≠ 0) (hs : ¬ (a = -1 ∧ b = -9223372036854775808)) (hs2 : ¬ (b = -1 ∧ a = -9223372036854775808)) :
    (wrap64 (Int.tdiv (wrap64 (a * b)) b) == a) = inr (a * b) := by
  have ha' := of_decide_eq_true ha
  have hb' := of_decide_eq_true hb
  obtain ⟨c, hc⟩ : ∃ c, wrap64 (a * b) = c := ⟨_, rfl⟩
  obtain ⟨p, hp⟩ : ∃ p, a * b = p := ⟨_, rfl⟩
  have hcr : -9223372036854775808 ≤ c ∧ c ≤ 9223372036854775807 := by rw [← hc]; unfold wrap64; omega
  have hcp : ∃ k, c = p + 18446744073709551616 * k := ⟨-((p + 9223372036854775808) / 18446744073709551616), by rw [← hc, hp]; unfold wrap64; omega⟩
  have hqr := Int.mul_tdiv_add_tmod c b
  have hr : (Int.tmod c b).natAbs < b.natAbs := by
    rw [Int.natAbs_tmod]; exact Nat.mod_lt _ (by omega)
  obtain ⟨q, hq⟩ : ∃ q, Int.tdiv c b = q := ⟨_, rfl⟩
  obtain ⟨r, hr'⟩ : ∃ r, Int.tmod c b = r := ⟨_, rfl⟩
  rw [hq, hr'] at hqr
  rw [hr'] at hr
  have hqa : q.natAbs ≤ c.natAbs := by
    rw [← hq, Int.natAbs_tdiv]; exact Nat.div_le_self _ _
  rw [hc, hq, hp]
  by_cases hin : inr p = true
  · have hin' := of_decide_eq_true hin
    have hcp' : c = p := by rw [← hc, hp]; unfold wrap64; omega
    have : q = a := by
      rw [← hq, hcp', ← hp]; exact Int.mul_tdiv_cancel a h0
    rw [this, hin, beq_iff_eq]; unfold wrap64; omega
  · have hin2 : inr p = false := by simpa using hin
    rw [hin2, beq_eq_false_iff_ne]
    intro hqw
    have hq1 : q = a := by
      by_cases hq2 : q = 9223372036854775808
      · exfalso
        have hc2 : c = -9223372036854775808 := by omega
        have hb2 : b.natAbs = 1 := by
          have h3 := Int.natAbs_tdiv c b
          rw [hq, hq2, hc2] at h3
          rcases Nat.lt_or_ge b.natAbs 2 with h | h
          · omega
          · have h4 := Nat.div_le_div_left (a := (-9223372036854775808 : Int).natAbs) h (by omega); have h3' : (9223372036854775808 : Int).natAbs = (-9223372036854775808 : Int).natAbs / b.natAbs := h3; rw [← h3'] at h4; exact absurd h4 (by decide)
        have : b = -1 := by
          rcases (by omega : b = 1 ∨ b = -1) with h | h
          · subst h; rw [Int.tdiv_one] at hq; omega
          · exact h
        subst this
        obtain ⟨k, hk⟩ := hcp
        rw [hq2] at hqw
        have : a = -9223372036854775808 := by rw [← hqw]; unfold wrap64; omega
        exact hs2 ⟨rfl, this⟩
      · have : wrap64 q = q := by unfold wrap64; omega
        rw [this] at hqw; exact hqw
    subst hq1
    have hb3 : b * q = p := by rw [Int.mul_comm]; exact hp
    rw [hb3] at hqr
    obtain ⟨k, hk⟩ := hcp
    have hr0 : r = 0 := by omega
    have hcp2 : c = p := by omega
    have : inr p = true := by rw [← hcp2]; exact decide_eq_true hcr
    rw [this] at hin2; cases hin2
/-- Two numbers; an order was drawn. -/
def Ret2b (n : Int) (b : Bool) (w : World) (e : Ending) (w' : World) : Prop := e = .returned (.tuple #[.int .i64 n, .bool b]) ∧ Below w.heap.size w w'
/-- The reference's product. -/
theorem rmul_any (a b n : Int) (f : Bool) (ha : inr a = true) (hb : inr b = true) (hn : Hid (wrap64 (a * b) = n)) (hf : Hid (inr (a * b) = f)) (w : World) :
    Calls Try.prog 57 #[.int .i64 a, .int .i64 b] w (Ret2b n f w) := by
  obtain rfl := hn.out
  have hf2 := hf.out
  by_cases h1 : a = 0 ∨ b = 0
  · have e0 : a * b = 0 := by rcases h1 with rfl | rfl <;> simp
    have hf3 : f = true := by rw [← hf2, e0]; rfl
    subst hf3
    have e1 : wrap64 (a * b) = 0 := by rw [e0]; unfold wrap64; omega
    rcases h1 with rfl | h1
    · go_enter Try.func57, Try.ntmps57
      go_wp2
      go_returns
      exact ⟨by simp [wrap64], Below.refl _ _⟩
    · subst h1
      by_cases ha0 : a = 0
      · subst ha0
        go_enter Try.func57, Try.ntmps57
        go_wp2
        go_returns
        exact ⟨by simp [wrap64], Below.refl _ _⟩
      · have q : (a == 0) = false := beq_eq_false_iff_ne.mpr ha0
        go_enter Try.func57, Try.ntmps57
        go_wp2
        go_returns
        exact ⟨by simp [wrap64], Below.refl _ _⟩
  · obtain ⟨ha0, hb0⟩ : a ≠ 0 ∧ b ≠ 0 := ⟨fun h => h1 (.inl h), fun h => h1 (.inr h)⟩
    have q1 : (a == 0) = false := beq_eq_false_iff_ne.mpr ha0
    have q2 : (b == 0) = false := beq_eq_false_iff_ne.mpr hb0
    by_cases s1 : a = -1 ∧ b = -9223372036854775808
    · obtain ⟨rfl, rfl⟩ := s1
      have hf3 : f = false := by rw [← hf2]; rfl
      subst hf3
      clear q1 q2 hf hf2 ha0 hb0 h1 ha hb hn
      go_enter Try.func57, Try.ntmps57
      go_wp2
      go_returns
      exact ⟨rfl, Below.refl _ _⟩
    · by_cases s2 : b = -1 ∧ a = -9223372036854775808
      · obtain ⟨rfl, rfl⟩ := s2
        have hf3 : f = false := by rw [← hf2]; rfl
        subst hf3
        clear q1 q2 hf hf2 ha0 hb0 h1 ha hb hn
        go_enter Try.func57, Try.ntmps57
        go_wp2
        go_returns
        exact ⟨rfl, Below.refl _ _⟩
      · have hz := (tdiv_wrap ha hb hb0 s1 s2).trans hf2
        have r1 : ((a == -1) && (b == -9223372036854775808)) = false := by rw [Bool.eq_false_iff]; simp; exact fun h k => s1 ⟨h, k⟩
        have HZ := Lib.hid hz
        clear hz hf hf2 hn
        by_cases t1 : a = -1 <;> by_cases t2 : b = -1
        all_goals
          first
            | (have p1 : (a == -1) = true := beq_iff_eq.mpr t1; have p2 : (b == -9223372036854775808) = false := beq_eq_false_iff_ne.mpr (fun h => s1 ⟨t1, h⟩))
            | (have p1 : (a == -1) = false := beq_eq_false_iff_ne.mpr t1)
          first
            | (have p3 : (b == -1) = true := beq_iff_eq.mpr t2; have p4 : (a == -9223372036854775808) = false := beq_eq_false_iff_ne.mpr (fun h => s2 ⟨t2, h⟩))
            | (have p3 : (b == -1) = false := beq_eq_false_iff_ne.mpr t2)
          clear t1 t2
          go_enter Try.func57, Try.ntmps57
          go_wp2
          go_region
          go_wp2
          go_returns
          exact ⟨by rw [← HZ.out]; rfl, by go_grown⟩
end Go.Proofs.Ytfnodgpebheinaa.M
