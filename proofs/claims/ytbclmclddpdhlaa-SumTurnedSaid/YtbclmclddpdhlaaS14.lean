/- SumTurned: from numbers to the sums that the program tells. -/
import Derived.Test.YtbclmclddpdhlaaS13
import Derived.Test.YtbclmclddpdhlaaS10
namespace Go.Proofs.Ytbclmclddpdhlaa.S
open Go Go.RowKit Go.Proofs.YtbclmclddpdhlaaW.PrintWords
set_option linter.unusedVariables false
theorem bits_xor32 {a b : Nat} (ha : a < 4294967296) (hb : b < 4294967296) : bits .xor .u32 (a : Int) (b : Int) = ((a ^^^ b : Nat) : Int) := by
  have e : bits .xor .u32 (a : Int) (b : Int) = IntKind.u32.wrap (((BitVec.ofInt 32 a ^^^ BitVec.ofInt 32 b : BitVec 32).toNat : Nat) : Int) := rfl
  have ea : (BitVec.ofInt 32 (a : Int)).toNat = a := by rw [BitVec.toNat_ofInt]; omega
  have eb : (BitVec.ofInt 32 (b : Int)).toNat = b := by rw [BitVec.toNat_ofInt]; omega
  have hx : a ^^^ b < 4294967296 := Nat.xor_lt_two_pow (n := 32) ha hb
  rw [e, BitVec.toNat_xor, ea, eb, IntKind.wrap_u32]
  omega
theorem stp_nat {c : Nat} (h : c < 4294967296) : stp (c : Int) = (stN c : Int) := by
  rw [stN_eq]
  have e := and_one (c := (c : Int)) (by omega) (by omega)
  by_cases hc : c % 2 = 1
  · rw [if_pos hc, ← stp_one (by omega) (by omega) (by rw [e]; omega)]
    have := bits_xor32 (a := c / 2) (b := 3988292384) (by omega) (by decide)
    rw [← this]; rfl
  · rw [if_neg hc, ← stp_zero (by omega) (by omega) (by rw [e]; omega)]; rfl
theorem it_nat : ∀ (n : Nat) {c : Nat}, c < 4294967296 → it (c : Int) n = (itN c n : Int)
  | 0, _, _ => rfl
  | n + 1, c, h => by show it (stp (c : Int)) n = (itN (stN c) n : Int); rw [stp_nat h]; exact it_nat n (stN_lt h)
theorem byteC_nat {c y : Nat} (h : c < 4294967296) (hy : y < 256) : byteC (c : Int) (y : Int) = (itN (c ^^^ y) 8 : Int) := by
  have hm : (y : Int) % 4294967296 = (y : Int) := by omega
  unfold byteC
  rw [hm, bits_xor32 h (by omega)]
  exact it_nat 8 (Nat.xor_lt_two_pow (n := 32) h (by omega))
theorem fold_nat : ∀ (ys : List Nat) (c : Nat), c < 4294967296 → (∀ y ∈ ys, y < 256) → (ys.map (fun (y : Nat) => (y : Int))).foldl byteC (c : Int) = (foldN c ys : Int) ∧ foldN c ys < 4294967296
  | [], c, h, _ => ⟨rfl, h⟩
  | y :: ys, c, h, hy => by
    have hx : itN (c ^^^ y) 8 < 4294967296 := itN_lt (Nat.xor_lt_two_pow (n := 32) h (by have := hy y (List.mem_cons_self ..); omega)) 8
    rw [List.map_cons, List.foldl_cons, byteC_nat h (hy y (List.mem_cons_self ..))]
    exact fold_nat ys _ hx (fun z hz => hy z (List.mem_cons_of_mem _ hz))
/-- The bytes as numbers. -/
def ints (ys : List Nat) : List Int := ys.map (fun (y : Nat) => (y : Int))
theorem crcV_ints {ys : List Nat} (hy : ∀ y ∈ ys, y < 256) : crcV [ints ys] = ((4294967295 ^^^ foldN 4294967295 ys : Nat) : Int) := by
  obtain ⟨h1, h2⟩ := fold_nat ys 4294967295 (by decide) hy
  rw [crcV_one]
  unfold ints
  have := bits_xor32 (a := 4294967295) (b := foldN 4294967295 ys) (by decide) h2
  rw [← this]
  congr 1
theorem crc_ne {xs ys : List Nat} (hx : ∀ y ∈ xs, y < 256) (hy : ∀ y ∈ ys, y < 256) (h : foldN 4294967295 xs ≠ foldN 4294967295 ys) : crcV [ints xs] ≠ crcV [ints ys] := fun e => by
  rw [crcV_ints hx, crcV_ints hy] at e
  have e2 : 4294967295 ^^^ foldN 4294967295 xs = 4294967295 ^^^ foldN 4294967295 ys := by omega
  have e3 := congrArg (4294967295 ^^^ ·) e2
  exact h (by simpa [← Nat.xor_assoc] using e3)
theorem turn_bytes {ys : List Nat} {p q : Nat} (hy : ∀ y ∈ ys, y < 256) (hq : q < 8) : ∀ y ∈ turn ys p q, y < 256 := by
  intro y h
  unfold turn at h
  rcases List.mem_or_eq_of_mem_set h with h | rfl
  · exact hy y h
  · refine Nat.xor_lt_two_pow (n := 8) ?_ (by exact Nat.pow_lt_pow_right (by decide) hq)
    rw [List.getD_eq_getElem?_getD]
    cases hc : ys[p]? with
    | none => show (0 : Nat) < 2 ^ 8; decide
    | some z => exact hy z (List.mem_of_getElem? hc)
theorem crc_turn_one {ys : List Nat} {p q : Nat} (hy : ∀ y ∈ ys, y < 256) (hp : p < ys.length) (hq : q < 8) : crcV [ints (turn ys p q)] ≠ crcV [ints ys] :=
  crc_ne (turn_bytes hy hq) hy (turn_one hp hq)
theorem crc_turn_three {ys : List Nat} {p1 q1 p2 q2 p3 q3 : Nat} (hy : ∀ y ∈ ys, y < 256) (hl : ys.length ≤ 500) (h1 : p1 < ys.length) (h2 : p2 < ys.length) (h3 : p3 < ys.length) (k1 : q1 < 8) (k2 : q2 < 8) (k3 : q3 < 8) :
    crcV [ints (turn (turn (turn ys p1 q1) p2 q2) p3 q3)] ≠ crcV [ints ys] :=
  crc_ne (turn_bytes (turn_bytes (turn_bytes hy k1) k2) k3) hy (turn_three hl h1 h2 h3 k1 k2 k3)
end Go.Proofs.Ytbclmclddpdhlaa.S
