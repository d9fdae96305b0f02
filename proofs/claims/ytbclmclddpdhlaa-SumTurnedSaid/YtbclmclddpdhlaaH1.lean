/- The walk of sum.Print: a closure over a variable, by hand. -/
import Derived.Test.YtbclmclddpdhlaaProg
import Derived.Below
import Derived.Deep.Draws
import Derived.Deep.AppendLies
import Derived.Maps.AppendAt
import Derived.OwnWalk
import Derived.Laws.BytesArg
import Derived.Laws.MakeOwn
import Derived.Laws.OwnMore
import Derived.Deep.OwnRows
import Derived.Tactics
import Derived.Lib.ConvBytes
import Derived.Laws.Slices
import Derived.WalkKit
import Derived.KernelRfl
import Derived.RowKit3
import Derived.Deep.LoopGhost
import Derived.Deep.QuietTactic
import Derived.BigQuiet
import Derived.WideLaws
import Derived.Deep.DeepCutAuto
import Derived.Deep.CutBlock
import Derived.Deep.RegionHeld3
import Derived.Laws.Rows
import Derived.Lib.AppendStr
import Derived.ArgAppend
import Derived.Laws.IdiomCopy
import Derived.OrdersHeld
import Derived.Laws.BitsLemmas
import Derived.RowKit
import Derived.Test.YtbclmclddpdhlaaWWords
import Derived.Test.YtbclmclddpdhlaaWLast
import Derived.Test.YtbclmclddpdhlaaWTab
import Derived.Test.YtbclmclddpdhlaaWFour
import Derived.Test.YtbclmclddpdhlaaWQPut
import Derived.Test.YtbclmclddpdhlaaWApart
import Derived.Test.YtbclmclddpdhlaaWArr
import Derived.Test.YtbclmclddpdhlaaWZeros
import Derived.Test.YtbclmclddpdhlaaWFoot
import Derived.Test.YtbclmclddpdhlaaWKept
import Derived.Test.YtbclmclddpdhlaaWShare
import Derived.Test.YtbclmclddpdhlaaWN
import Derived.Test.YtbclmclddpdhlaaWFootNe
import Derived.Test.YtbclmclddpdhlaaWAt
import Derived.Test.YtbclmclddpdhlaaWEqStruct
import Derived.Test.YtbclmclddpdhlaaWRepsOne
import Derived.Test.YtbclmclddpdhlaaWInv
import Derived.Test.YtbclmclddpdhlaaWInvWords
import Derived.Test.YtbclmclddpdhlaaWGuard
import Derived.Test.YtbclmclddpdhlaaWNEv
import Derived.Test.YtbclmclddpdhlaaWMore
import Derived.Handy
import Derived.Outline
import Derived.Lib.Hide
namespace Go.Proofs.Ytbclmclddpdhlaa.H
open Go Go.RowKit Go.Proofs.YtbclmclddpdhlaaW.PrintWords Go.Proofs.YtbclmclddpdhlaaW.PrintLast Go.Proofs.YtbclmclddpdhlaaW.PrintMore
set_option linter.unusedVariables false
set_option linter.unusedSimpArgs false
def putB (h x : Int) : Int := IntKind.u64.wrap (bits .xor .u64 h x * 1099511628211)
theorem wrap_succ {j n : Nat} (h : j < n) (hn : n < 1099511627776) : wrap64 ((j : Int) + 1) = ((j + 1 : Nat) : Int) := by unfold wrap64; omega
theorem put_calls (g : Nat) (h x : Int) (w : World) (hc : w.cell? ⟨g, 0, none⟩ = some (.int .u64 h)) (hf : w.frozen? ⟨g, 0, none⟩ = false) (hx : 0 ≤ x ∧ x ≤ 255) :
    Calls Try.prog 14 #[.int .u8 x, .pointer (some ⟨g, 0, none⟩)] w fun e w' => e = .returned (.tuple #[]) ∧ w'.cell? ⟨g, 0, none⟩ = some (.int .u64 (putB h x)) ∧ w'.frozen? ⟨g, 0, none⟩ = false ∧ (∀ b o, b ≠ g → w'.cell? ⟨b, o, none⟩ = w.cell? ⟨b, o, none⟩) ∧ w'.heap.size = w.heap.size ∧ Below g w w' := by
  have hlt := World.block_lt_of_cell? w _ hc
  have e1 : IntKind.u64.wrap x = x := by simp only [IntKind.wrap_u64]; omega
  have hx0 := hx.1
  have hx1 := hx.2
  clear hx
  go_enter Try.func14, Try.ntmps14
  go_wp2
  go_end0
  refine ⟨rfl, ?_, by go_simp, fun b o hb => by go_simp, by simp, by go_grown⟩
  unfold putB
  go_simp
def strN (h : Int) (s : ByteArray) : Nat → Int
  | 0 => h
  | j + 1 => putB (strN h s j) (bt s j)
def lenH (h : Int) (n : Nat) : Int := putB (putB (putB (putB h ((n : Int) / 16777216 % 256)) ((n : Int) / 65536 % 256)) ((n : Int) / 256 % 256)) ((n : Int) % 256)
def prN (l : List ByteArray) : Nat → Int
  | 0 => 14695981039346656037
  | i + 1 => strN (lenH (prN l i) (rdOf ByteArray.empty l i).size) (rdOf ByteArray.empty l i) (rdOf ByteArray.empty l i).size
def okL (l : List ByteArray) : Bool := decide (l.length < 1099511627776) && l.all (fun s => decide (s.size < 1099511627776))
theorem okL_len {l : List ByteArray} (h : okL l = true) : l.length < 1099511627776 := by
  unfold okL at h; rw [Bool.and_eq_true] at h; exact of_decide_eq_true h.1
theorem okL_at {l : List ByteArray} (h : okL l = true) (i : Nat) : (rdOf ByteArray.empty l i).size < 1099511627776 := by
  unfold okL at h; rw [Bool.and_eq_true] at h
  unfold rdOf
  simp only [Int.toNat_natCast]
  by_cases hi : i < l.length
  · rw [List.getD_eq_getElem?_getD, List.getElem?_eq_getElem hi]
    exact of_decide_eq_true (List.all_eq_true.1 h.2 _ (List.getElem_mem hi))
  · rw [List.getD_eq_getElem?_getD, List.getElem?_eq_none (by omega)]
    decide
set_option maxHeartbeats 8000000 in
set_option maxRecDepth 100000 in
theorem print_calls (A0 : Option Addr) (c0 : Nat) (l0 : List ByteArray) (w : World) (hr0 : Kd.C Kd.string w A0 l0.length l0) (hok : okL l0 = true) :
    Calls Try.prog 11 #[.slice A0 l0.length c0] w fun e w' => e = .returned (.int .u64 (prN l0 l0.length)) ∧ Below w.heap.size w w' := by
  have HR0 := Aside0.mk hr0
  have HL := Aside0.mk (okL_len hok)
  have HA := Aside0.mk (okL_at hok)
  clear hr0 hok
  have hmf : ∀ (fn : Fn) (first cap : Array Value) (w : World), (Instr.makeFunc fn first cap).run Try.prog w = .ok (.func fn first cap) w := fun _ _ _ _ => rfl
  go_enter Try.func11, Try.ntmps11
  go_wp2
  go_loopg [14] l0.length (fun gk v14 wd => ∃ i : Nat, v14 = .int .i64 (i : Int) ∧ Aside0 (i + gk = l0.length) ∧ wd.cell? ⟨w.heap.size, 0, none⟩ = some (.int .u64 (prN l0 i)) ∧ wd.frozen? ⟨w.heap.size, 0, none⟩ = false ∧ Aside0 (Below w.heap.size w wd))
  case atStart => exact ⟨0, rfl, ⟨by omega⟩, by (show World.cell? _ _ = some (.int .u64 14695981039346656037)); go_simp, by go_simp, ⟨by go_grown⟩⟩
  case round =>
    obtain ⟨i, rfl, HI, hc, hf, HB⟩ := hrel
    cases gk with
    | zero =>
      have hi : i = l0.length := by have := HI.out; omega
      subst hi
      have c1 : decide ((l0.length : Int) < (l0.length : Int)) = false := decide_eq_false (by omega)
      go_wp2
      go_returns
      exact ⟨by simp, HB.out⟩
    | succ k1 =>
      have hi : i < l0.length := by have := HI.out; omega
      have c1 : decide ((i : Int) < (l0.length : Int)) = true := decide_eq_true (by omega)
      have c2 : decide (0 ≤ (i : Int)) = true := decide_eq_true (by omega)
      obtain ⟨ad, rfl, hx⟩ := Kd.at_string HR0.out (i : Int) (by omega) (by omega)
      have hlt := World.block_lt_of_cell? w _ hx
      have hx' := (HB.out.cell hlt).trans hx
      have hl0 : w.heap.size < _ := World.block_lt_of_cell? _ _ hc
      obtain ⟨s, hs⟩ : ∃ s, rdOf ByteArray.empty l0 (i : Int) = s := ⟨_, rfl⟩
      have hss := HA.out i
      rw [hs] at hx' hss
      simp only [Int.toNat_natCast] at hx' hlt
      have hS := Aside0.mk hss
      have hsi := Lib.hid hs
      obtain ⟨h0, hh0⟩ : ∃ h, Hid (prN l0 i = h) := ⟨_, Lib.hid rfl⟩
      rw [show prN l0 i = h0 from hh0.out] at hc
      clear hss hs hx
      have hne : (ad.add i).block ≠ w.heap.size := Nat.ne_of_lt hlt
      have hne2 : wr.heap.size ≠ w.heap.size := by omega
      have hsb : (s.size : Int) < 1099511627776 := by have := hS.out; omega
      have hsb0 : 0 ≤ (s.size : Int) := by omega
      go_wp2
      refine wp_loop_rounds 5 ?_
      rw [rounds_succ]
      go_wp2_with (go_at_call 14; (with_reducible refine (put_calls w.heap.size (h0) ((s.size : Int) / 16777216 % 256) _ ?_ ?_ ⟨by omega, by omega⟩).mono ?_); (focus go_simp); (focus go_simp); rintro e w' ⟨rfl, hc'1, hf'1, hcell1, hsz1, hB1⟩; have hB91 : Below w.heap.size w w' := Below.trans (by first | (with_reducible assumption) | (go_grown; first | assumption | exact HB.out)) hB1)
      rw [rounds_succ]
      go_wp2_with (go_at_call 14; (with_reducible refine (put_calls w.heap.size (putB (h0) ((s.size : Int) / 16777216 % 256)) ((s.size : Int) / 65536 % 256) _ ?_ ?_ ⟨by omega, by omega⟩).mono ?_); (focus go_simp); (focus go_simp); rintro e w' ⟨rfl, hc'2, hf'2, hcell2, hsz2, hB2⟩; have hB92 : Below w.heap.size w w' := Below.trans (by first | (with_reducible assumption) | (go_grown; first | assumption | exact HB.out)) hB2)
      clear hc'1 hf'1 hB91
      rw [rounds_succ]
      go_wp2_with (go_at_call 14; (with_reducible refine (put_calls w.heap.size (putB (putB (h0) ((s.size : Int) / 16777216 % 256)) ((s.size : Int) / 65536 % 256)) ((s.size : Int) / 256 % 256) _ ?_ ?_ ⟨by omega, by omega⟩).mono ?_); (focus go_simp); (focus go_simp); rintro e w' ⟨rfl, hc'3, hf'3, hcell3, hsz3, hB3⟩; have hB93 : Below w.heap.size w w' := Below.trans (by first | (with_reducible assumption) | (go_grown; first | assumption | exact HB.out)) hB3)
      clear hc'2 hf'2 hB92
      rw [rounds_succ]
      go_wp2_with (go_at_call 14; (with_reducible refine (put_calls w.heap.size (putB (putB (putB (h0) ((s.size : Int) / 16777216 % 256)) ((s.size : Int) / 65536 % 256)) ((s.size : Int) / 256 % 256)) ((s.size : Int) % 256) _ ?_ ?_ ⟨by omega, by omega⟩).mono ?_); (focus go_simp); (focus go_simp); rintro e w' ⟨rfl, hc'4, hf'4, hcell4, hsz4, hB4⟩; have hB94 : Below w.heap.size w w' := Below.trans (by first | (with_reducible assumption) | (go_grown; first | assumption | exact HB.out)) hB4)
      clear hc'3 hf'3 hB93
      rw [rounds_succ]
      go_wp2
      go_loopg [36] s.size (fun gk v36 wd => ∃ j : Nat, v36 = .int .i64 (j : Int) ∧ Aside0 (j + gk = s.size) ∧ wd.cell? ⟨w.heap.size, 0, none⟩ = some (.int .u64 (strN (lenH h0 s.size) s j)) ∧ wd.frozen? ⟨w.heap.size, 0, none⟩ = false ∧ Aside0 (Below w.heap.size w wd))
      case atStart =>
        refine ⟨0, rfl, ⟨by omega⟩, ?_, by go_simp, ⟨?_⟩⟩
        · go_simp
          rfl
        · exact hB94
      case round =>
        clear hc hf hc'4 hf'4 hcell1 hcell2 hcell3 hcell4 hsz1 hsz2 hsz3 hsz4 hB1 hB2 hB3 hB4 hB94 hx' hne hne2 hsb hsb0 hlt hl0 hmf
        obtain ⟨j, rfl, HJ, hc3, hf3, HB3⟩ := hrel
        cases gk with
        | zero =>
          have hj : j = s.size := by have := HJ.out; omega
          have d1 : decide ((j : Int) < (s.size : Int)) = false := by rw [hj]; exact decide_eq_false (Int.lt_irrefl _)
          have e1 : wrap64 ((i : Int) + 1) = ((i + 1 : Nat) : Int) := wrap_succ hi HL.out
          have hfin : strN (lenH h0 s.size) s j = prN l0 (i + 1) := by
            rw [hj]
            show _ = strN (lenH (prN l0 i) (rdOf ByteArray.empty l0 i).size) (rdOf ByteArray.empty l0 i) (rdOf ByteArray.empty l0 i).size
            rw [hsi.out, hh0.out]
          rw [hfin] at hc3
          clear hfin
          go_wp2
          go_roundg k1
          case measure => omega
          case rel => exact ⟨i + 1, by first | rfl | (simp [e1]; done) | simp, ⟨by have := HI.out; omega⟩, hc3, hf3, HB3⟩
        | succ k3 =>
          have hj : j < s.size := by have := HJ.out; omega
          have d1 : decide ((j : Int) < (s.size : Int)) = true := decide_eq_true (Int.ofNat_lt.mpr hj)
          have d2 : decide (0 ≤ (j : Int)) = true := decide_eq_true (Int.natCast_nonneg j)
          have e1 : wrap64 ((j : Int) + 1) = ((j + 1 : Nat) : Int) := wrap_succ hj hS.out
          have hx12 : ∀ h : j < s.size, ((s[j]'h).toNat : Int) = bt s (j : Int) := fun h => by simpa using bt_at s (j : Int) (by simpa using h)
          have hr := bt_range s (j : Int)
          have p12 := eq_true (Int.natCast_nonneg j)
          have q12 := eq_true (Int.ofNat_lt.mpr hj)
          go_wp2_with (go_at_call 14; (with_reducible refine (put_calls w.heap.size (strN (lenH h0 s.size) s j) (bt s j) _ ?_ ?_ hr).mono ?_); (focus go_simp); (focus go_simp); rintro e w' ⟨rfl, hc', hf', hcell, hsz, hB⟩; have hB9 : Below w.heap.size w w' := Below.trans (by first | (with_reducible assumption) | (go_grown; first | assumption | exact HB3.out)) hB)
          go_roundg k3
          case measure => omega
          case rel => exact ⟨j + 1, by first | rfl | (simp [e1]; done) | simp, ⟨by have := HJ.out; omega⟩, hc', hf', ⟨hB9⟩⟩
end Go.Proofs.Ytbclmclddpdhlaa.H
