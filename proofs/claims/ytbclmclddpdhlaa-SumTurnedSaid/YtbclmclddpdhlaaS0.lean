/- A slice of slices of bytes that comes in: opened. -/
import Derived.Test.YtbclmclddpdhlaaWWords
import Derived.Test.YtbclmclddpdhlaaProg
import Derived.LaidMore
import Derived.WalkKit
import Derived.ProofKit
import Derived.OpenShut
namespace Go.Proofs.Ytbclmclddpdhlaa.S
open Go Go.ChangeShapes Go.WideShapes Go.ChangeAt Go.RowKit Go.Proofs.YtbclmclddpdhlaaW.PrintWords
set_option linter.unusedVariables false
set_option linter.unusedSimpArgs false
theorem list_of {α : Type} {P : Nat → α → Prop} : ∀ n, (∀ i, i < n → ∃ x, P i x) → ∃ l : List α, l.length = n ∧ ∀ i x, l[i]? = some x → P i x
  | 0, _ => ⟨[], rfl, fun i x h => by simp at h⟩
  | n + 1, h => by
    obtain ⟨l, hl, hP⟩ := list_of n (fun i hi => h i (by omega))
    obtain ⟨x, hx⟩ := h n (by omega)
    refine ⟨l ++ [x], by simp [hl], fun i y hy => ?_⟩
    rw [List.getElem?_append] at hy
    split at hy
    · exact hP i y hy
    · rename_i hi
      have : i = n := by
        by_cases e : i - l.length = 0
        · omega
        · rw [List.getElem?_eq_none (by simp; omega)] at hy; cases hy
      subst this
      rw [hl, Nat.sub_self] at hy
      simp at hy
      subst hy
      exact hx
theorem wf_u8 {n : Int} (h : (Lit.int .u8 n).wf = true) : 0 ≤ n ∧ n ≤ 255 := by
  simp [Lit.wf, IntKind.min, IntKind.max, IntKind.signed, IntKind.bits] at h
  omega
theorem open_one {W : World} {H : Type} {enc : TypeId × Value → H} {base : Nat} {sp : Nat → Bool} {held : Bool} {fuel : Nat} {cs : List Value} {x : DataW H × List MemPlace} (h : DataW.trod enc Try.prog W base sp held fuel 33 cs = some x) :
    ∃ l : List Int, (Kd.slice 5 (Kd.int .u8)).K W l cs ∧ ∀ n ∈ l, 0 ≤ n ∧ n ≤ 255 := by
  obtain ⟨l, hl⟩ : ∃ l : List Int, (∃ A c, cs = [.slice A l.length c] ∧ l.length ≤ c ∧ ReadsInt W .u8 A l.length l) ∧ ∀ n ∈ l, (Lit.int .u8 n).wf = true := by
    rcases open_ints Try.underlying33 Try.underlying5 (by kernel_rfl) h with ⟨hcs, _⟩ | ⟨a, len, cap, zs, hcs, _, hl, hm, hz, _, hcell, hwz⟩
    · exact ⟨[], ⟨none, 0, hcs, Nat.le_refl _, by obtain ⟨l, e, h1, _⟩ := ReadsInt.ofRowC (k := .u8) (w := W) (a := none) (len := 0) (cap := 0) (zs := []) (.inl ⟨rfl, rfl, rfl, rfl⟩); obtain rfl : l = [] := List.eq_nil_of_length_eq_zero e.symm; exact h1⟩, fun n hn => by cases hn⟩
    · have hzl : len ≤ zs.length := by rw [hz]; split <;> omega
      have hzm : zs.length ≤ maxLen := by rw [hz]; split <;> omega
      obtain ⟨l, e, h1, h2, h3, h4⟩ := ReadsInt.ofRowC (k := .u8) (w := W) (a := some a) (len := len) (cap := zs.length) (zs := zs) (.inr ⟨a, rfl, hzl, hzm, rfl, hcell, hwz⟩)
      exact ⟨l, ⟨some a, cap, by rw [hcs, e], by omega, h1⟩, h3⟩
  obtain ⟨⟨A, c, e, hc, hr⟩, hw⟩ := hl
  exact ⟨l, ⟨A, c, e, hc, Kd.C_of_reads (d := (0 : Int)) (h1 := fun _ => rfl) hr⟩, fun n hn => wf_u8 (hw n hn)⟩
theorem open_all {W : World} {H : Type} {enc : TypeId × Value → H} {sp : Nat → Bool} {held : Bool} {fuel : Nat} {A : Option Addr} {len cap : Nat} {x : DataW H × List MemPlace} (h : DataW.trod enc Try.prog W 0 sp held fuel 22 [.slice A len cap] = some x) :
    ∃ l : List (List Int), len = l.length ∧ l.length ≤ cap ∧ Kd.C (Kd.slice 5 (Kd.int .u8)) W A l.length l ∧ ∀ xs ∈ l, ∀ n ∈ xs, 0 ≤ n ∧ n ≤ 255 := by
  have hc1 : Try.prog.cellsOf 33 = 1 := by kernel_rfl
  rcases DataW.trod_slice Try.underlying22 h with ⟨hcs, _⟩ | ⟨a, len', cap', elems, rest, n, _, hcs, hx, _, hl, hm, hlen, hel, _⟩
  · simp at hcs
    obtain ⟨rfl, rfl, rfl⟩ := hcs
    exact ⟨[], rfl, Nat.le_refl _, ⟨rfl, by simp, fun h => absurd h (by simp)⟩, fun xs h => by cases h⟩
  · simp at hcs
    obtain ⟨rfl, rfl, rfl⟩ := hcs
    obtain ⟨l, hl1, hP⟩ := list_of (P := fun i (xs : List Int) => (∃ c, (Kd.slice 5 (Kd.int .u8)).K W xs [c] ∧ W.cell? (a.add i) = some c) ∧ ∀ n ∈ xs, 0 ≤ n ∧ n ≤ 255) len (fun i hi => by
      have hE := hel i hi
      rw [hc1, Nat.mul_one] at hE
      have hi' : i < elems.length := by omega
      rw [List.getElem?_eq_getElem hi'] at hE
      simp only [Option.bind_eq_some_iff] at hE
      obtain ⟨c1, hc1', hy1⟩ := hE
      have e0 : (a.add i).add 0 = a.add i := by simp [Addr.add]
      have : ∃ c, c1 = [c] ∧ W.cell? (a.add i) = some c := by
        unfold World.cells? at hc1'
        split at hc1'
        · simp only [List.range_succ, List.range_zero, List.nil_append, List.mapM_cons, List.mapM_nil, e0] at hc1'
          cases hcc : W.cell? (a.add i) with
          | none => simp [hcc] at hc1'
          | some c => simp [hcc] at hc1'; exact ⟨c, hc1'.symm, rfl⟩
        · cases hc1'
      obtain ⟨c, rfl, hcell⟩ := this
      obtain ⟨xs, h1, h2⟩ := open_one hy1
      exact ⟨xs, ⟨c, h1, hcell⟩, h2⟩)
    have hmm : maxLen = 9223372036854775807 := rfl
    refine ⟨l, hl1.symm, by omega, ⟨rfl, by omega, fun _ => ⟨a, rfl, fun j p hj => ?_⟩⟩, fun xs hxs => ?_⟩
    · obtain ⟨⟨c, hK, hcell⟩, _⟩ := hP j p hj
      refine ⟨[c], rfl, hK, fun i u hu => ?_⟩
      cases i with
      | zero => simp at hu; subst hu; simpa [Kd.slice] using hcell
      | succ i => simp at hu
    · obtain ⟨j, hj⟩ := List.getElem?_of_mem hxs
      exact (hP j xs hj).2
end Go.Proofs.Ytbclmclddpdhlaa.S
