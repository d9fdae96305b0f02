/- Plain laws of the sums: the loops of the program and of the document come to the same. -/
import Derived.Test.YtbclmclddpdhlaaPD2
namespace Go.Proofs.Ytbclmclddpdhlaa.S
open Go Go.RowKit Go.Proofs.YtbclmclddpdhlaaW.PrintWords Go.Proofs.YtbclmclddpdhlaaW.PrintLast Go.Proofs.YtbclmclddpdhlaaW.PrintMore Go.Proofs.Ytbclmclddpdhlaa.PD
set_option linter.unusedVariables false
set_option linter.unusedSimpArgs false
/-- With enough rounds it tells r. -/
def Ev {α : Type} (f : Nat → Option α) (r : α) : Prop := ∃ K, ∀ k, K ≤ k → f k = some r
theorem Ev.step {α : Type} {f g : Nat → Option α} {r : α} (h : ∀ k, f (k + 1) = g k) (hg : Ev g r) : Ev f r := by
  obtain ⟨K, hK⟩ := hg
  refine ⟨K + 1, fun k hk => ?_⟩
  obtain ⟨k', rfl⟩ : ∃ k', k = k' + 1 := ⟨k - 1, by omega⟩
  rw [h]; exact hK k' (by omega)
theorem Ev.now {α : Type} {f : Nat → Option α} {r : α} (h : ∀ k, f (k + 1) = some r) : Ev f r := ⟨1, fun k hk => by
  obtain ⟨k', rfl⟩ : ∃ k', k = k' + 1 := ⟨k - 1, by omega⟩
  exact h k'⟩
theorem wsucc {i n : Nat} (h : i < n) (hn : n < 1099511627776) : wrap64 ((i : Int) + 1) = ((i + 1 : Nat) : Int) := by unfold wrap64; omega
theorem bits_range (op : BinOp) (x y : Int) : 0 ≤ bits op .u32 x y ∧ bits op .u32 x y < 4294967296 := by
  unfold bits; rw [IntKind.wrap_u32]; omega
theorem wraps_u32 (n : Int) (h₀ : 0 ≤ n) (h₁ : n < 2 ^ 32) : IntKind.u32.wrap n = n := by rw [IntKind.wrap_u32]; omega
theorem and_one {c : Int} (h0 : 0 ≤ c) (h1 : c < 4294967296) : bits .and .u32 c 1 = c % 2 := bits_mask .u32 32 (by decide) wraps_u32 1 (by decide) c h0 h1
theorem xor_zero {c : Int} (h0 : 0 ≤ c) (h1 : c < 4294967296) : bits .xor .u32 c 0 = c := by
  have e : bits .xor .u32 c 0 = IntKind.u32.wrap (((BitVec.ofInt 32 c ^^^ 0#32 : BitVec 32).toNat : Nat) : Int) := rfl
  rw [e, BitVec.xor_zero, BitVec.toNat_ofInt, IntKind.wrap_u32]
  omega
/-- One bit of the CRC. -/
def stp (c : Int) : Int := bits .xor .u32 (c / 2) ((3988292384 * (bits .and .u32 c 1)) % 4294967296)
theorem stp_range (c : Int) : 0 ≤ stp c ∧ stp c < 4294967296 := bits_range _ _ _
theorem stp_one {c : Int} (h0 : 0 ≤ c) (h1 : c < 4294967296) (h : bits .and .u32 c 1 = 1) : bits .xor .u32 (c / 2) 3988292384 = stp c := by
  unfold stp; rw [h]; rfl
theorem stp_zero {c : Int} (h0 : 0 ≤ c) (h1 : c < 4294967296) (h : ¬ bits .and .u32 c 1 = 1) : c / 2 = stp c := by
  have e := and_one h0 h1
  have e2 : bits .and .u32 c 1 = 0 := by omega
  unfold stp
  rw [e2]
  exact (xor_zero (by omega) (by omega)).symm
def it (c : Int) : Nat → Int
  | 0 => c
  | n + 1 => it (stp c) n
def byteC (c x : Int) : Int := it (bits .xor .u32 c (x % 4294967296)) 8
def partC (xs : List Int) (c : Int) (i : Nat) : Nat → Int
  | 0 => c
  | m + 1 => partC xs (byteC c (rd xs (i : Int))) (i + 1) m
def allC (l : List (List Int)) (c : Int) (i : Nat) : Nat → Int
  | 0 => c
  | m + 1 => allC l (partC (rd_L1 l (i : Int)) c 0 (rd_L1 l (i : Int)).length) (i + 1) m
theorem it_range (c : Int) (h : 0 ≤ c ∧ c < 4294967296) (n : Nat) : 0 ≤ it c n ∧ it c n < 4294967296 := by
  induction n generalizing c with
  | zero => exact h
  | succ n ih => exact ih _ (stp_range c)
theorem byteC_range (c x : Int) : 0 ≤ byteC c x ∧ byteC c x < 4294967296 := it_range _ (bits_range _ _ _) 8
theorem partC_range (xs : List Int) (c : Int) (h : 0 ≤ c ∧ c < 4294967296) (i n : Nat) : 0 ≤ partC xs c i n ∧ partC xs c i n < 4294967296 := by
  induction n generalizing c i with
  | zero => exact h
  | succ n ih => exact ih _ (byteC_range _ _) _
/-- Sizes that no counter wraps at. -/
def Small (l : List (List Int)) : Prop := l.length < 1099511627776 ∧ ∀ i : Nat, (rd_L1 l (i : Int)).length < 1099511627776
theorem crc_l2 {l : List (List Int)} {len : Int} {x10 : Int} {xs : List Int} {x15 x16 r : Int} : ∀ (m j : Nat) (c : Int), j + m = 8 → Ev (fun k => sum_Crc.l1 k (it c m) l len x10 xs x15 (wrap64 (x16 + 1))) r → Ev (fun k => sum_Crc.l2 k c l len x10 xs x15 x16 (j : Int)) r
  | 0, j, c, h, hg => by
    obtain rfl : j = 8 := by omega
    exact Ev.step (fun k => by show (if ((8 : Nat) : Int) < 8 then _ else _) = _; rw [if_neg (by decide)]; rfl) hg
  | m + 1, j, c, h, hg => by
    refine Ev.step (g := fun k => sum_Crc.l2 k (stp c) l len x10 xs x15 x16 ((j + 1 : Nat) : Int)) (fun k => ?_) (crc_l2 m (j + 1) (stp c) (by omega) hg)
    show (if (j : Int) < 8 then _ else _) = _
    rw [if_pos (by omega), wsucc (n := 8) (by omega) (by decide)]
    rfl
theorem crc_l1 {l : List (List Int)} {len : Int} {x10 : Int} {xs : List Int} {r : Int} (hn : xs.length < 1099511627776) : ∀ (m i : Nat) (c : Int), i + m = xs.length → Ev (fun k => sum_Crc.l0 k (partC xs c i m) l len (wrap64 (x10 + 1))) r → Ev (fun k => sum_Crc.l1 k c l len x10 xs (xs.length : Int) (i : Int)) r
  | 0, i, c, h, hg => Ev.step (fun k => by show (if (i : Int) < (xs.length : Int) then _ else _) = _; rw [if_neg (by omega)]; rfl) hg
  | m + 1, i, c, h, hg => by
    refine Ev.step (g := fun k => sum_Crc.l2 k (bits .xor .u32 c ((rd xs i) % 4294967296)) l len x10 xs (xs.length : Int) (i : Int) 0) (fun k => ?_) ?_
    · show (if (i : Int) < (xs.length : Int) then _ else _) = _
      rw [if_pos (by omega), if_pos (by omega), if_pos (by omega)]
    · refine crc_l2 8 0 _ rfl ?_
      rw [wsucc (n := xs.length) (by omega) hn]
      exact crc_l1 hn m (i + 1) _ (by omega) hg
theorem crc_l0 {l : List (List Int)} (hs : Small l) : ∀ (m i : Nat) (c : Int), i + m = l.length → Ev (fun k => sum_Crc.l0 k c l (l.length : Int) (i : Int)) (bits .xor .u32 4294967295 (allC l c i m))
  | 0, i, c, h => Ev.now (fun k => by show (if (i : Int) < (l.length : Int) then _ else _) = _; rw [if_neg (by omega)]; rfl)
  | m + 1, i, c, h => by
    refine Ev.step (g := fun k => sum_Crc.l1 k c l (l.length : Int) (i : Int) (rd_L1 l i) ((rd_L1 l i).length : Int) 0) (fun k => ?_) ?_
    · show (if (i : Int) < (l.length : Int) then _ else _) = _
      rw [if_pos (by omega), if_pos (by omega), if_pos (by omega)]
    · refine crc_l1 (hs.2 i) (rd_L1 l (i : Int)).length 0 c (by omega) ?_
      rw [wsucc (n := l.length) (by omega) hs.1]
      exact crc_l0 hs m (i + 1) _ (by omega)
theorem crc_ev {l : List (List Int)} (hs : Small l) : Ev (fun k => sum_Crc.f k l) (bits .xor .u32 4294967295 (allC l 4294967295 0 l.length)) := crc_l0 hs l.length 0 4294967295 (by omega)
theorem ref_l2 {l : List (List Int)} {x4 x5 r : Int} : ∀ (m j : Nat) (c : Int), (0 ≤ c ∧ c < 4294967296) → j + m = 8 → Ev (fun k => augurref1_Crc.l1 k l (it c m) x4 (wrap64 (x5 + 1))) r → Ev (fun k => augurref1_Crc.l2 k l c x4 x5 (j : Int)) r
  | 0, j, c, hc, h, hg => by
    obtain rfl : j = 8 := by omega
    exact Ev.step (fun k => by show (if ((8 : Nat) : Int) < 8 then _ else _) = _; rw [if_neg (by decide)]; rfl) hg
  | m + 1, j, c, hc, h, hg => by
    refine Ev.step (g := fun k => augurref1_Crc.l2 k l (stp c) x4 x5 ((j + 1 : Nat) : Int)) (fun k => ?_) (ref_l2 m (j + 1) (stp c) (stp_range c) (by omega) hg)
    simp only [augurref1_Crc.l2]
    rw [if_pos (by omega), wsucc (n := 8) (by omega) (by decide)]
    split
    · rename_i h1; rw [stp_one hc.1 hc.2 h1]
    · rename_i h1; rw [stp_zero hc.1 hc.2 h1]
theorem ref_l1 {l : List (List Int)} {r : Int} (x : Nat) (hx : x < l.length) (hn : (rd_L1 l (x : Int)).length < 1099511627776) : ∀ (m i : Nat) (c : Int), i + m = (rd_L1 l (x : Int)).length → Ev (fun k => augurref1_Crc.l0 k l (partC (rd_L1 l (x : Int)) c i m) (wrap64 ((x : Int) + 1))) r → Ev (fun k => augurref1_Crc.l1 k l c (x : Int) (i : Int)) r
  | 0, i, c, h, hg => Ev.step (fun k => by simp only [augurref1_Crc.l1]; rw [if_pos (by omega), if_pos (by omega), if_neg (by omega)]; rfl) hg
  | m + 1, i, c, h, hg => by
    refine Ev.step (g := fun k => augurref1_Crc.l2 k l (bits .xor .u32 c ((rd (rd_L1 l (x : Int)) i) % 4294967296)) (x : Int) (i : Int) 0) (fun k => ?_) ?_
    · simp only [augurref1_Crc.l1]
      rw [if_pos (by omega), if_pos (by omega), if_pos (by omega), if_pos (by omega)]
    · refine ref_l2 8 0 _ (bits_range _ _ _) rfl ?_
      rw [wsucc (n := (rd_L1 l (x : Int)).length) (by omega) hn]
      exact ref_l1 x hx hn m (i + 1) _ (by omega) hg
theorem ref_l0 {l : List (List Int)} (hs : Small l) : ∀ (m i : Nat) (c : Int), i + m = l.length → Ev (fun k => augurref1_Crc.l0 k l c (i : Int)) (bits .xor .u32 4294967295 (allC l c i m))
  | 0, i, c, h => Ev.now (fun k => by show (if (i : Int) < (l.length : Int) then _ else _) = _; rw [if_neg (by omega)]; rfl)
  | m + 1, i, c, h => by
    refine Ev.step (g := fun k => augurref1_Crc.l1 k l c (i : Int) 0) (fun k => ?_) ?_
    · show (if (i : Int) < (l.length : Int) then _ else _) = _
      rw [if_pos (by omega)]
    · refine ref_l1 i (by omega) (hs.2 i) (rd_L1 l (i : Int)).length 0 c (by omega) ?_
      rw [wsucc (n := l.length) (by omega) hs.1]
      exact ref_l0 hs m (i + 1) _ (by omega)
theorem ref_ev {l : List (List Int)} (hs : Small l) : Ev (fun k => augurref1_Crc.f k l) (bits .xor .u32 4294967295 (allC l 4294967295 0 l.length)) := ref_l0 hs l.length 0 4294967295 (by omega)
end Go.Proofs.Ytbclmclddpdhlaa.S
