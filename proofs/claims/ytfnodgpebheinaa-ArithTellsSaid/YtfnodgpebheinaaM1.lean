/- Walks of layer 12 and 13, the first: clean, Of, Meet, add, sub, bounds. -/
import Derived.Test.YtfnodgpebheinaaProg
import Derived.Test.YtfnodgpebheinaaM0
import Derived.RegionTactic
import Derived.BigRegion
import Derived.Outline
import Derived.OwnWalk
import Derived.Deep.RegionHeld3
import Derived.Deep.RegionWith
namespace Go.Proofs.Ytfnodgpebheinaa.M
open Go Go.RowKit
set_option linter.unusedVariables false
set_option linter.unusedSimpArgs false
attribute [local simp, local go_sem] lt_a2 lt_a3 lt_a4 lt_a5 lt_a6 lt_a7 lt_a8
set_option maxHeartbeats 2000000

/-- ival.plain, at what is empty. -/
theorem of_none (lo hi : Int) (h : hi < lo) (w : World) : Calls Try.prog 36 #[.int .i64 lo, .int .i64 hi] w (Ret (.agg #[.bool false, .int .i64 0, .int .i64 0]) w) := by
  have hu := Try.underlying23
  have h' : decide (hi < lo) = true := by simp; omega
  go_enter Try.func36, Try.ntmps36
  go_wp2
  go_returns
  exact ⟨rfl, by go_grown⟩
theorem of_some (lo hi : Int) (h : lo ≤ hi) (w : World) : Calls Try.prog 36 #[.int .i64 lo, .int .i64 hi] w (Ret (.agg #[.bool true, .int .i64 lo, .int .i64 hi]) w) := by
  have hu := Try.underlying23
  have h' : decide (hi < lo) = false := by simp; omega
  go_enter Try.func36, Try.ntmps36
  go_wp2
  go_returns
  exact ⟨rfl, by go_grown⟩
theorem of_any (lo hi : Int) (q : Iv) (hq : Hid (ofI lo hi = q)) (w : World) : Calls Try.prog 36 #[.int .i64 lo, .int .i64 hi] w (Ret (.agg #[.bool q.s, .int .i64 q.lo, .int .i64 q.hi]) w) := by
  obtain rfl := hq.out
  by_cases h : lo ≤ hi
  · rw [ofI, nrm_some h]; exact of_some lo hi h w
  · rw [ofI, nrm_none (.inr (by omega))]; exact of_none lo hi (by omega) w
theorem clean_none (s : Bool) (lo hi : Int) (h : s = false ∨ hi < lo) (w : World) :
    Calls Try.prog 31 #[.agg #[.bool s, .int .i64 lo, .int .i64 hi]] w (Ret (.agg #[.bool false, .int .i64 0, .int .i64 0]) w) := by
  have hu := Try.underlying23
  rcases h with rfl | h
  · go_enter Try.func31, Try.ntmps31
    go_wp2
    go_rounds 2
    go_returns
    exact ⟨rfl, by go_grown⟩
  · cases s
    · go_enter Try.func31, Try.ntmps31
      go_wp2
      go_rounds 2
      go_returns
      exact ⟨rfl, by go_grown⟩
    · have h' : decide (hi < lo) = true := by simp; omega
      go_enter Try.func31, Try.ntmps31
      go_wp2
      go_rounds 2
      go_returns
      exact ⟨rfl, by go_grown⟩
theorem clean_some (lo hi : Int) (h : lo ≤ hi) (w : World) :
    Calls Try.prog 31 #[.agg #[.bool true, .int .i64 lo, .int .i64 hi]] w (Ret (.agg #[.bool true, .int .i64 lo, .int .i64 hi]) w) := by
  have hu := Try.underlying23
  have h' : decide (hi < lo) = false := by simp; omega
  go_enter Try.func31, Try.ntmps31
  go_wp2
  go_rounds 2
  go_returns
  exact ⟨rfl, by go_grown⟩
theorem clean_any (s : Bool) (lo hi : Int) (q : Iv) (hq : Hid (nrm ⟨s, lo, hi⟩ = q)) (w : World) :
    Calls Try.prog 31 #[.agg #[.bool s, .int .i64 lo, .int .i64 hi]] w (Ret (.agg #[.bool q.s, .int .i64 q.lo, .int .i64 q.hi]) w) := by
  obtain rfl := hq.out
  by_cases h : s = true ∧ lo ≤ hi
  · obtain ⟨rfl, h⟩ := h
    rw [nrm_some h]; exact clean_some lo hi h w
  · have h2 : s = false ∨ hi < lo := by
      by_cases hs : s = true
      · exact .inr (by have : ¬ lo ≤ hi := fun k => h ⟨hs, k⟩; omega)
      · exact .inl (by simpa using hs)
    rw [nrm_none h2]; exact clean_none s lo hi h2 w

/-- Two numbers. -/
def Ret2 (n : Int) (b : Bool) (w : World) (e : Ending) (w' : World) : Prop := e = .returned (.tuple #[.int .i64 n, .bool b]) ∧ w = w'
theorem add_any (a b n : Int) (f : Bool) (hn : Hid (wrap64 (a + b) = n)) (hf : Hid ((decide (a < n) == decide (0 < b)) = f)) (w : World) : Calls Try.prog 37 #[.int .i64 a, .int .i64 b] w (Ret2 n f w) := by
  obtain rfl := hn.out
  obtain rfl := hf.out
  go_enter Try.func37, Try.ntmps37
  go_wp2
  go_returns
  exact ⟨rfl, rfl⟩
theorem sub_any (a b n : Int) (f : Bool) (hn : Hid (wrap64 (a - b) = n)) (hf : Hid ((decide (n < a) == decide (0 < b)) = f)) (w : World) : Calls Try.prog 42 #[.int .i64 a, .int .i64 b] w (Ret2 n f w) := by
  obtain rfl := hn.out
  obtain rfl := hf.out
  go_enter Try.func42, Try.ntmps42
  go_wp2
  go_returns
  exact ⟨rfl, rfl⟩
def boundsI (lo : Int) (f : Bool) (hi : Int) (g : Bool) : Iv := if f = true ∧ g = true then ofI lo hi else Iv.top
theorem bounds_any (lo hi : Int) (f g : Bool) (q : Iv) (hq : Hid (boundsI lo f hi g = q)) (w : World) :
    Calls Try.prog 38 #[.int .i64 lo, .bool f, .int .i64 hi, .bool g] w (Ret (.agg #[.bool q.s, .int .i64 q.lo, .int .i64 q.hi]) w) := by
  have hu := Try.underlying23
  cases f
  · obtain rfl := hq.out
    go_enter Try.func38, Try.ntmps38
    go_wp2
    go_returns
    exact ⟨by simp [boundsI, Iv.top], by go_grown⟩
  · cases g
    · obtain rfl := hq.out
      go_enter Try.func38, Try.ntmps38
      go_wp2
      go_returns
      exact ⟨by simp [boundsI, Iv.top], by go_grown⟩
    · have hq2 : Hid (ofI lo hi = q) := hq
      go_enter Try.func38, Try.ntmps38
      go_wp2_with (go_at_call 36; refine (of_any lo hi q hq2 _).mono ?_; rintro e w' ⟨rfl, hB⟩; obtain ⟨hc, hf, hs⟩ := bcell hB; simp only [World.size_alloc] at hs)
      refine bodyPost_ret (v := .agg #[.bool q.s, .int .i64 q.lo, .int .i64 q.hi]) (by simp [results, Try.results38, hc, hs, go_sem]) rfl ?_
      exact ⟨rfl, by go_grown; refine below_call ?_ hB; go_grown⟩
end Go.Proofs.Ytfnodgpebheinaa.M
