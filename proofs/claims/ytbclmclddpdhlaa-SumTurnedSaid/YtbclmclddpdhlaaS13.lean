/- A bit that is turned, and up to three, change the CRC: plain laws. -/
import Derived.Test.YtbclmclddpdhlaaS12
import Derived.Test.YtbclmclddpdhlaaS3
namespace Go.Proofs.Ytbclmclddpdhlaa.S
open Go Go.RowKit
set_option linter.unusedVariables false
theorem stN_eq (c : Nat) : stN c = if c % 2 = 1 then (c / 2) ^^^ 3988292384 else c / 2 := by
  unfold stN
  have e : Nat.land c 1 = c % 2 := Nat.and_one_is_mod c
  rw [e]
  by_cases h : c % 2 = 1
  · rw [h, if_pos rfl]; rfl
  · have h0 : c % 2 = 0 := by omega
    rw [h0, if_neg (by decide)]; rfl
theorem xor_zero_eq {a b : Nat} (h : a ^^^ b = 0) : a = b := by
  have e := congrArg (· ^^^ b) h
  simpa [Nat.xor_assoc] using e
theorem stN_zero : stN 0 = 0 := by decide
theorem half_xor (a b : Nat) : (a ^^^ b) / 2 = (a / 2) ^^^ (b / 2) := by
  have := Nat.shiftRight_xor_distrib (a := a) (b := b) (i := 1)
  simpa [Nat.shiftRight_eq_div_pow] using this
theorem stN_xor (a b : Nat) : stN (a ^^^ b) = stN a ^^^ stN b := by
  rw [stN_eq, stN_eq, stN_eq, half_xor]
  have hp : (a ^^^ b) % 2 = (a + b) % 2 := by
    have e := Nat.xor_mod_two_pow (a := a) (b := b) (n := 1)
    rw [Nat.pow_one] at e
    rw [e]
    have ha : a % 2 = 0 ∨ a % 2 = 1 := by omega
    have hb : b % 2 = 0 ∨ b % 2 = 1 := by omega
    rcases ha with ha | ha <;> rcases hb with hb | hb <;> rw [ha, hb, Nat.add_mod, ha, hb] <;> decide
  by_cases ha : a % 2 = 1 <;> by_cases hb : b % 2 = 1
  · rw [if_neg (by omega), if_pos ha, if_pos hb, Nat.xor_comm (b / 2), Nat.xor_assoc, ← Nat.xor_assoc 3988292384, Nat.xor_self, Nat.zero_xor]
  · rw [if_pos (by omega), if_pos ha, if_neg hb, Nat.xor_assoc, Nat.xor_assoc, Nat.xor_comm (b / 2)]
  · rw [if_pos (by omega), if_neg ha, if_pos hb, Nat.xor_assoc]
  · rw [if_neg (by omega), if_neg ha, if_neg hb]
def itN (c : Nat) : Nat → Nat
  | 0 => c
  | n + 1 => itN (stN c) n
theorem itN_zero (n : Nat) : itN 0 n = 0 := by induction n with
  | zero => rfl
  | succ n ih => show itN (stN 0) n = 0; rw [stN_zero]; exact ih
theorem itN_xor (n : Nat) : ∀ a b, itN (a ^^^ b) n = itN a n ^^^ itN b n := by induction n with
  | zero => intro a b; rfl
  | succ n ih => intro a b; show itN (stN (a ^^^ b)) n = _; rw [stN_xor, ih]; rfl
theorem itN_add (m n : Nat) : ∀ c, itN c (m + n) = itN (itN c m) n := by induction m with
  | zero => intro c; rw [Nat.zero_add]; rfl
  | succ m ih => intro c; rw [Nat.add_right_comm]; show itN (stN c) (m + n) = itN (itN (stN c) m) n; exact ih _
theorem stN_lt {c : Nat} (h : c < 4294967296) : stN c < 4294967296 := by
  rw [stN_eq]
  split
  · exact Nat.xor_lt_two_pow (n := 32) (by omega) (by decide)
  · omega
theorem itN_lt {c : Nat} (h : c < 4294967296) (n : Nat) : itN c n < 4294967296 := by
  induction n generalizing c with
  | zero => exact h
  | succ n ih => exact ih (stN_lt h)
theorem stN_none {c : Nat} (h : c < 4294967296) (h0 : stN c = 0) : c = 0 := by
  rw [stN_eq] at h0
  split at h0
  · have := xor_zero_eq h0; omega
  · omega
theorem itN_none {n : Nat} : ∀ {c : Nat}, c < 4294967296 → itN c n = 0 → c = 0 := by
  induction n with
  | zero => intro c _ h; exact h
  | succ n ih => intro c h h0; exact stN_none h (ih (stN_lt h) h0)
theorem seqN_mem : ∀ (n c j : Nat), j < n → itN c j ∈ seqN n c
  | 0, _, _, h => absurd h (Nat.not_lt_zero _)
  | n + 1, c, 0, _ => List.mem_cons_self ..
  | n + 1, c, j + 1, h => List.mem_cons_of_mem _ (seqN_mem n (stN c) j (by omega))
theorem stN_one : stN 1 = 3988292384 := by decide
theorem pow_mem {k : Nat} (h1 : 1 ≤ k) (h2 : k ≤ 4000) : itN 1 k ∈ powers := by
  obtain ⟨j, rfl⟩ : ∃ j, k = j + 1 := ⟨k - 1, by omega⟩
  show itN (stN 1) j ∈ _
  rw [stN_one]
  exact seqN_mem 4000 3988292384 j (by omega)
theorem flip_mem : ∀ (l : List Nat) {x : Nat}, x ∈ l → x ^^^ 1 ∈ flip1 l
  | y :: l, x, h => by
    rcases List.mem_cons.1 h with rfl | h
    · exact List.mem_cons_self ..
    · exact List.mem_cons_of_mem _ (flip_mem l h)
theorem one_some {k : Nat} : itN 1 k ≠ 0 := fun h => by have := itN_none (by decide) h; cases this
theorem no_two {p q : Nat} (hp : 1 ≤ p ∧ p ≤ 4000) (hq : 1 ≤ q ∧ q ≤ 4000) : itN 1 p ^^^ itN 1 q ^^^ 1 ≠ 0 := fun h => by
  have e : itN 1 p = itN 1 q ^^^ 1 := by rw [Nat.xor_assoc] at h; exact xor_zero_eq h
  exact disj_spec 32 _ _ apart (itN 1 p) (pow_mem hp.1 hp.2) (by rw [e]; exact flip_mem _ (pow_mem hq.1 hq.2))
theorem no_low {x y z : Nat} (hx : 1 ≤ x) (hxy : x < y) (hxz : x < z) (hy : y ≤ 4000) (hz : z ≤ 4000) : itN 1 y ^^^ itN 1 z ^^^ itN 1 x ≠ 0 := fun h => by
  have e1 : itN 1 y = itN (itN 1 (y - x)) x := by rw [← itN_add]; congr 1; omega
  have e2 : itN 1 z = itN (itN 1 (z - x)) x := by rw [← itN_add]; congr 1; omega
  rw [e1, e2, ← itN_xor, ← itN_xor] at h
  have hlt : itN 1 (y - x) ^^^ itN 1 (z - x) ^^^ 1 < 4294967296 := Nat.xor_lt_two_pow (n := 32) (Nat.xor_lt_two_pow (n := 32) (itN_lt (by decide) _) (itN_lt (by decide) _)) (by decide)
  exact no_two ⟨by omega, by omega⟩ ⟨by omega, by omega⟩ (itN_none hlt h)
theorem no_three {x y z : Nat} (hx : 1 ≤ x ∧ x ≤ 4000) (hy : 1 ≤ y ∧ y ≤ 4000) (hz : 1 ≤ z ∧ z ≤ 4000) : itN 1 x ^^^ itN 1 y ^^^ itN 1 z ≠ 0 := fun h => by
  by_cases h1 : x = y
  · subst h1; rw [Nat.xor_self, Nat.zero_xor] at h; exact one_some h
  by_cases h2 : x = z
  · subst h2; rw [Nat.xor_comm (itN 1 x), Nat.xor_assoc, Nat.xor_self, Nat.xor_zero] at h; exact one_some h
  by_cases h3 : y = z
  · subst h3; rw [Nat.xor_assoc, Nat.xor_self, Nat.xor_zero] at h; exact one_some h
  by_cases m1 : x < y ∧ x < z
  · refine no_low hx.1 m1.1 m1.2 hy.2 hz.2 ?_
    rw [← h, Nat.xor_comm, Nat.xor_assoc]
  by_cases m2 : y < x ∧ y < z
  · refine no_low hy.1 m2.1 m2.2 hx.2 hz.2 ?_
    rw [← h, Nat.xor_assoc, Nat.xor_assoc, Nat.xor_comm (itN 1 z)]
  · exact no_low hz.1 (by omega) (by omega) hx.2 hy.2 h
/-! ### A message's bytes -/
def foldN (c : Nat) (ys : List Nat) : Nat := ys.foldl (fun c y => itN (c ^^^ y) 8) c
theorem foldN_xor (e : Nat) : ∀ (ys : List Nat) (a : Nat), foldN (a ^^^ e) ys = foldN a ys ^^^ itN e (8 * ys.length)
  | [], a => rfl
  | y :: ys, a => by
    show foldN (itN (a ^^^ e ^^^ y) 8) ys = foldN (itN (a ^^^ y) 8) ys ^^^ _
    have h : a ^^^ e ^^^ y = (a ^^^ y) ^^^ e := by rw [Nat.xor_assoc, Nat.xor_comm e, ← Nat.xor_assoc]
    rw [h, itN_xor, foldN_xor, ← itN_add]
    congr 2
    simp; omega
/-- Bit q of byte p is turned. -/
def turn (ys : List Nat) (p q : Nat) : List Nat := ys.set p (ys.getD p 0 ^^^ 2 ^ q)
theorem turn_length (ys : List Nat) (p q : Nat) : (turn ys p q).length = ys.length := by simp [turn]
theorem foldN_turn (q : Nat) : ∀ (ys : List Nat) (p a : Nat), p < ys.length → foldN a (turn ys p q) = foldN a ys ^^^ itN (2 ^ q) (8 * (ys.length - p))
  | [], p, a, h => absurd h (Nat.not_lt_zero _)
  | y :: ys, 0, a, h => by
    show foldN (itN (a ^^^ (y ^^^ 2 ^ q)) 8) ys = foldN (itN (a ^^^ y) 8) ys ^^^ _
    rw [← Nat.xor_assoc, itN_xor, foldN_xor, ← itN_add]
    congr 2
    simp; omega
  | y :: ys, p + 1, a, h => by
    have := foldN_turn q ys p (itN (a ^^^ y) 8) (by simpa using h)
    show foldN (itN (a ^^^ y) 8) (turn ys p q) = foldN (itN (a ^^^ y) 8) ys ^^^ _
    rw [this]
    congr 3
    simp
theorem it_bit {q L : Nat} (hq : q < 8) (hL : 1 ≤ L) : itN (2 ^ q) (8 * L) = itN 1 (8 * L - q) := by
  have e : itN (2 ^ q) q = 1 := by
    have : q = 0 ∨ q = 1 ∨ q = 2 ∨ q = 3 ∨ q = 4 ∨ q = 5 ∨ q = 6 ∨ q = 7 := by omega
    rcases this with rfl | rfl | rfl | rfl | rfl | rfl | rfl | rfl <;> decide
  have h : 8 * L = q + (8 * L - q) := by omega
  rw [h, itN_add, e]
  congr 1; omega
theorem turn_one {ys : List Nat} {p q a : Nat} (hp : p < ys.length) (hq : q < 8) : foldN a (turn ys p q) ≠ foldN a ys := fun h => by
  rw [foldN_turn q ys p a hp, it_bit hq (by omega)] at h
  have h2 : itN 1 (8 * (ys.length - p) - q) = 0 := by
    have := congrArg (foldN a ys ^^^ ·) h
    simpa [← Nat.xor_assoc] using this
  exact one_some h2
theorem turn_three {ys : List Nat} {p1 q1 p2 q2 p3 q3 a : Nat} (hl : ys.length ≤ 500) (h1 : p1 < ys.length) (h2 : p2 < ys.length) (h3 : p3 < ys.length) (k1 : q1 < 8) (k2 : q2 < 8) (k3 : q3 < 8) :
    foldN a (turn (turn (turn ys p1 q1) p2 q2) p3 q3) ≠ foldN a ys := fun h => by
  rw [foldN_turn q3 _ p3 a (by simpa [turn_length] using h3), foldN_turn q2 _ p2 a (by simpa [turn_length] using h2), foldN_turn q1 _ p1 a h1] at h
  simp only [turn_length] at h
  rw [it_bit k1 (by omega), it_bit k2 (by omega), it_bit k3 (by omega)] at h
  have e := congrArg (foldN a ys ^^^ ·) h
  have e2 : itN 1 (8 * (ys.length - p1) - q1) ^^^ itN 1 (8 * (ys.length - p2) - q2) ^^^ itN 1 (8 * (ys.length - p3) - q3) = 0 := by
    simpa [← Nat.xor_assoc] using e
  exact no_three ⟨by omega, by omega⟩ ⟨by omega, by omega⟩ ⟨by omega, by omega⟩ e2
end Go.Proofs.Ytbclmclddpdhlaa.S
