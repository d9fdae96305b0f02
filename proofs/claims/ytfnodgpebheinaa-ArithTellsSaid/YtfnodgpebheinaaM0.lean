/- Intervals as plain data, what the walks of layer 13 share: no program in sight. -/
import Derived.Handy
import Derived.OwnWalk
import Derived.Below
import Derived.Lib.Hide
namespace Go.Proofs.Ytfnodgpebheinaa.M
open Go Go.RowKit
set_option linter.unusedVariables false
set_option linter.unusedSimpArgs false
theorem lt_a2 (n : Nat) : n < n + 1 + 1 := by omega
theorem lt_a3 (n : Nat) : n < n + 1 + 1 + 1 := by omega
theorem lt_a4 (n : Nat) : n < n + 1 + 1 + 1 + 1 := by omega
theorem lt_a5 (n : Nat) : n < n + 1 + 1 + 1 + 1 + 1 := by omega
theorem lt_a6 (n : Nat) : n < n + 1 + 1 + 1 + 1 + 1 + 1 := by omega
theorem lt_a7 (n : Nat) : n < n + 1 + 1 + 1 + 1 + 1 + 1 + 1 := by omega
theorem lt_a8 (n : Nat) : n < n + 1 + 1 + 1 + 1 + 1 + 1 + 1 + 1 := by omega
theorem lt16 {g n : Nat} (h : g < n) : g < n + 1 ∧ g < n + 1 + 1 ∧ g < n + 1 + 1 + 1 ∧ g < n + 1 + 1 + 1 + 1 ∧ g < n + 1 + 1 + 1 + 1 + 1 ∧ g < n + 1 + 1 + 1 + 1 + 1 + 1 ∧ g < n + 1 + 1 + 1 + 1 + 1 + 1 + 1 ∧ g < n + 1 + 1 + 1 + 1 + 1 + 1 + 1 + 1 ∧ g < n + 1 + 1 + 1 + 1 + 1 + 1 + 1 + 1 + 1 ∧ g < n + 1 + 1 + 1 + 1 + 1 + 1 + 1 + 1 + 1 + 1 ∧ g < n + 1 + 1 + 1 + 1 + 1 + 1 + 1 + 1 + 1 + 1 + 1 ∧ g < n + 1 + 1 + 1 + 1 + 1 + 1 + 1 + 1 + 1 + 1 + 1 + 1 ∧ g < n + 1 + 1 + 1 + 1 + 1 + 1 + 1 + 1 + 1 + 1 + 1 + 1 + 1 ∧ g < n + 1 + 1 + 1 + 1 + 1 + 1 + 1 + 1 + 1 + 1 + 1 + 1 + 1 + 1 ∧ g < n + 1 + 1 + 1 + 1 + 1 + 1 + 1 + 1 + 1 + 1 + 1 + 1 + 1 + 1 + 1 ∧ g < n + 1 + 1 + 1 + 1 + 1 + 1 + 1 + 1 + 1 + 1 + 1 + 1 + 1 + 1 + 1 + 1 := by omega
theorem bcell {W w1 : World} (hb : Below W.heap.size W w1) : (∀ b o, b < W.heap.size → w1.cell? ⟨b, o, none⟩ = W.cell? ⟨b, o, none⟩) ∧ (∀ b o, b < W.heap.size → w1.frozen? ⟨b, o, none⟩ = W.frozen? ⟨b, o, none⟩) ∧ (∀ b, b < W.heap.size → b < w1.heap.size) :=
  ⟨fun b o h => hb.cell (p := ⟨b, o, none⟩) h, fun b o h => hb.frozen (p := ⟨b, o, none⟩) h, fun b h => Nat.lt_of_lt_of_le h hb.size⟩
theorem below_call {w W w1 : World} (h : Below w.heap.size w W) (hB : Below W.heap.size W w1) : Below w.heap.size w w1 := h.trans (hB.mono h.size)
/-- What a call answers that makes memory: a value, and nothing that was there has turned. -/
def Ret (v : Value) (w : World) (e : Ending) (w' : World) : Prop := e = .returned v ∧ Below w.heap.size w w'
/-- An interval. -/
structure Iv where
  s : Bool
  lo : Int
  hi : Int
deriving DecidableEq
theorem Iv.ext' {x y : Iv} (h1 : x.s = y.s) (h2 : x.lo = y.lo) (h3 : x.hi = y.hi) : x = y := by cases x; cases y; simp_all
def Iv.e : Iv := ⟨false, 0, 0⟩
@[simp, go_sem] theorem Iv.e_s : Iv.e.s = false := rfl
@[simp, go_sem] theorem Iv.e_lo : Iv.e.lo = 0 := rfl
@[simp, go_sem] theorem Iv.e_hi : Iv.e.hi = 0 := rfl
def Iv.top : Iv := ⟨true, -9223372036854775808, 9223372036854775807⟩
def nrm (x : Iv) : Iv := if x.s = true ∧ x.lo ≤ x.hi then x else Iv.e
def ofI (lo hi : Int) : Iv := nrm ⟨true, lo, hi⟩
/-- In its one form, of numbers of 64 bits. -/
def Ok (x : Iv) : Prop := (x = Iv.e) ∨ (x.s = true ∧ -9223372036854775808 ≤ x.lo ∧ x.lo ≤ x.hi ∧ x.hi ≤ 9223372036854775807)
@[simp, go_sem] theorem Iv.top_s : Iv.top.s = true := rfl
@[simp, go_sem] theorem Iv.top_lo : Iv.top.lo = -9223372036854775808 := rfl
@[simp, go_sem] theorem Iv.top_hi : Iv.top.hi = 9223372036854775807 := rfl
/-- A variable that holds an interval: its block's cells, written at will. -/
structure Box (w : World) (g : Nat) (x : Iv) : Prop where
  c0 : w.cell? ⟨g, 0, none⟩ = some (.bool x.s)
  c1 : w.cell? ⟨g, 1, none⟩ = some (.int .i64 x.lo)
  c2 : w.cell? ⟨g, 2, none⟩ = some (.int .i64 x.hi)
  f0 : w.frozen? ⟨g, 0, none⟩ = false
  f1 : w.frozen? ⟨g, 1, none⟩ = false
  f2 : w.frozen? ⟨g, 2, none⟩ = false
theorem Box.lt {w : World} {g : Nat} {x : Iv} (h : Box w g x) : g < w.heap.size := World.block_lt_of_cell? w ⟨g, 0, none⟩ h.c0
theorem nrm_some {lo hi : Int} (h : lo ≤ hi) : nrm ⟨true, lo, hi⟩ = ⟨true, lo, hi⟩ := by simp [nrm, h]
theorem nrm_none {s : Bool} {lo hi : Int} (h : s = false ∨ hi < lo) : nrm ⟨s, lo, hi⟩ = Iv.e := by
  unfold nrm
  rw [if_neg]
  rintro ⟨h1, h2⟩
  rcases h with h | h
  · simp [h] at h1
  · simp at h2; omega
def mn (a b : Int) : Int := if b < a then b else a
def mx (a b : Int) : Int := if a < b then b else a
def aboveI (lo : Int) : Iv := if lo = 9223372036854775807 then Iv.e else ofI (wrap64 (lo + 1)) 9223372036854775807
def belowI (hi : Int) : Iv := if hi = -9223372036854775808 then Iv.e else ofI (-9223372036854775808) (wrap64 (hi - 1))
/-- The least that holds two, of ones in their one form. -/
def joinI (x y : Iv) : Iv :=
  if y.s = true then (if x.s = true then ⟨true, (if y.lo < x.lo then y.lo else x.lo), (if x.hi < y.hi then y.hi else x.hi)⟩ else y) else x
/-- What two hold, of ones in their one form. -/
def meetI (x y : Iv) : Iv :=
  if x.s = true ∧ y.s = true then nrm ⟨true, (if x.lo < y.lo then y.lo else x.lo), (if y.hi < x.hi then y.hi else x.hi)⟩ else Iv.e
def withI (a b : Iv) : Iv := if b.lo = b.hi then (if a.lo = b.lo then meetI a (aboveI a.lo) else if a.hi = b.lo then meetI a (belowI a.hi) else a) else a
theorem nrm_ok {x : Iv} (h : nrm x = x) : x = Iv.e ∨ (x.s = true ∧ x.lo ≤ x.hi) := by
  unfold nrm at h
  split at h
  · rename_i k; exact .inr k
  · exact .inl h.symm
theorem Ok.nrm {x : Iv} (h : Ok x) : nrm x = x := by
  rcases h with rfl | ⟨h1, _, h2, _⟩
  · rfl
  · unfold M.nrm; rw [if_pos ⟨h1, h2⟩]
theorem ofI_ok {lo hi : Int} (h1 : -9223372036854775808 ≤ lo) (h2 : hi ≤ 9223372036854775807) : Ok (ofI lo hi) := by
  unfold ofI M.nrm
  split
  · rename_i h; exact .inr ⟨rfl, h1, h.2, h2⟩
  · exact .inl rfl
theorem nrm_ok' {x : Iv} (h1 : -9223372036854775808 ≤ x.lo) (h2 : x.hi ≤ 9223372036854775807) : Ok (nrm x) := by
  unfold M.nrm
  split
  · rename_i h; exact .inr ⟨h.1, h1, h.2, h2⟩
  · exact .inl rfl
theorem aboveI_ok {n : Int} (h1 : -9223372036854775808 ≤ n) (h2 : n ≤ 9223372036854775807) : Ok (aboveI n) := by
  unfold aboveI
  split
  · exact .inl rfl
  · exact ofI_ok (by unfold wrap64; omega) (by omega)
theorem belowI_ok {n : Int} (h1 : -9223372036854775808 ≤ n) (h2 : n ≤ 9223372036854775807) : Ok (belowI n) := by
  unfold belowI
  split
  · exact .inl rfl
  · exact ofI_ok (by omega) (by unfold wrap64; omega)
end Go.Proofs.Ytfnodgpebheinaa.M
