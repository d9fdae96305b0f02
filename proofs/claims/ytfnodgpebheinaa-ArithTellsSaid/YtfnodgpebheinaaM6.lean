/- Walks: the corners of a product, of a quotient. -/
import Derived.Test.YtfnodgpebheinaaM5
import Derived.Deep.DeepCutAuto
import Derived.Deep.CutBlock
namespace Go.Proofs.Ytfnodgpebheinaa.M
open Go Go.RowKit
set_option linter.unusedVariables false
set_option linter.unusedSimpArgs false
attribute [local simp, local go_sem] lt_a2 lt_a3 lt_a4 lt_a5 lt_a6 lt_a7 lt_a8
set_option maxHeartbeats 4000000
def two (a b : Int) (i : Nat) : Int := if i = 0 then a else b
/-- What corners answers: the interval and true, where all are fine; else none, and false. -/
def RetC (r : Iv) (all : Prop) (w : World) (e : Ending) (w' : World) : Prop :=
  (all ∧ e = .returned (.tuple #[.agg #[.bool r.s, .int .i64 r.lo, .int .i64 r.hi], .bool true]) ∨ ¬ all ∧ e = .returned (.tuple #[.agg #[.bool false, .int .i64 0, .int .i64 0], .bool false])) ∧ Below w.heap.size w w'
theorem corners_mul (al ah bl bh : Int) (sa sb : Bool) (n : Nat → Nat → Int) (ok : Nat → Nat → Bool) (J : Nat → Iv) (hJ0 : J 0 = Iv.e)
    (hJ : ∀ i j, i < 2 → j < 2 → joinI (J (2 * i + j)) ⟨true, n i j, n i j⟩ = J (2 * i + j + 1)) (hN : ∀ k, nrm (J k) = J k)
    (hf : ∀ i j w, i < 2 → j < 2 → Calls Try.prog 40 #[.int .i64 (two al ah i), .int .i64 (two bl bh j)] w (Ret2 (n i j) (ok i j) w)) (w : World) :
    Calls Try.prog 39 #[.agg #[.bool sa, .int .i64 al, .int .i64 ah], .agg #[.bool sb, .int .i64 bl, .int .i64 bh], (.func (.func 40) #[] #[])] w (RetC (J 4) (∀ i j, i < 2 → j < 2 → ok i j = true) w) := by
  have hu := Try.underlying23
  have HJ := Lib.hid hJ
  have HN := Lib.hid hN
  have HF := Lib.hid hf
  clear hJ hN hf
  go_enter Try.func39, Try.ntmps39
  go_wp2_with fail
  go_loopg [21] 2 (fun gk v21 wr => ∃ (i : Nat) (z : Int), Aside (z = i ∧ i ≤ 2 ∧ gk + i = 2) ∧ v21 = .int .i64 z ∧ Box wr w.heap.size ⟨sa, al, ah⟩ ∧ Box wr (w.heap.size + 1) ⟨sb, bl, bh⟩ ∧ Box wr (w.heap.size + 1 + 1) Iv.e ∧ Box wr (w.heap.size + 1 + 1 + 1) (J (2 * i)) ∧ wr.cell? ⟨w.heap.size + 1 + 1 + 1 + 1, 0, none⟩ = some (.int .i64 al) ∧ wr.cell? ⟨w.heap.size + 1 + 1 + 1 + 1, 1, none⟩ = some (.int .i64 ah) ∧ Below w.heap.size w wr ∧ Aside (∀ i' j', i' < i → j' < 2 → ok i' j' = true))
  case atStart =>
    refine ⟨0, 0, ⟨rfl, by omega, rfl⟩, rfl, ?_, ?_, ?_, ?_, by go_simp, by go_simp, by go_grown, fun i' j' h => by omega⟩
    · exact ⟨by go_simp, by go_simp, by go_simp, by go_simp, by go_simp, by go_simp⟩
    · exact ⟨by go_simp, by go_simp, by go_simp, by go_simp, by go_simp, by go_simp⟩
    · exact ⟨by go_simp, by go_simp, by go_simp, by go_simp, by go_simp, by go_simp⟩
    · rw [show J (2 * 0) = Iv.e from hJ0]; exact ⟨by go_simp, by go_simp, by go_simp, by go_simp, by go_simp, by go_simp⟩
  case round =>
    obtain ⟨i, z, hi, rfl, b0, b1, b2, b3, c0, c1, hB, hok⟩ := hrel
    have l4 := World.block_lt_of_cell? wr _ c0
    have l0 := b0.lt
    have l1 := b1.lt
    have l2 := b2.lt
    have l3 := b3.lt
    have B0 := b0
    have B1 := b1
    have B2 := b2
    have B3 := b3
    obtain ⟨a0, a1, a2, a3, a4, a5⟩ := b0
    obtain ⟨d0, d1, d2, d3, d4, d5⟩ := b1
    obtain ⟨e0, e1, e2, e3, e4, e5⟩ := b2
    obtain ⟨o0, o1, o2, o3, o4, o5⟩ := b3
    by_cases hlt : i < 2
    · have hz : z = 0 ∧ i = 0 ∨ z = 1 ∧ i = 1 := by have := hi.out; omega
      have HH := Lib.hid hi
      clear hi
      rcases hz with ⟨rfl, rfl⟩ | ⟨rfl, rfl⟩
      · clear hlt
        go_wp2_with fail
        obtain ⟨G, hG⟩ : ∃ G, wr.heap.size = G := ⟨_, rfl⟩
        simp only [hG]
        have f0 : ∀ w, Calls Try.prog 40 #[.int .i64 al, .int .i64 bl] w (Ret2 (n 0 0) (ok 0 0) w) := fun w => HF.out 0 0 w (by omega) (by omega)
        have f1 : ∀ w, Calls Try.prog 40 #[.int .i64 al, .int .i64 bh] w (Ret2 (n 0 1) (ok 0 1) w) := fun w => HF.out 0 1 w (by omega) (by omega)
        go_loopg [31] 2 (fun gk v31 wi => ∃ (j : Nat) (z : Int), Aside (z = j ∧ j ≤ 2 ∧ gk + j = 2) ∧ v31 = .int .i64 z ∧ Box wi w.heap.size ⟨sa, al, ah⟩ ∧ Box wi (w.heap.size + 1) ⟨sb, bl, bh⟩ ∧ Box wi (w.heap.size + 1 + 1) Iv.e ∧ Box wi (w.heap.size + 1 + 1 + 1) (J (2 * 0 + j)) ∧ wi.cell? ⟨w.heap.size + 1 + 1 + 1 + 1, 0, none⟩ = some (.int .i64 al) ∧ wi.cell? ⟨w.heap.size + 1 + 1 + 1 + 1, 1, none⟩ = some (.int .i64 ah) ∧ wi.cell? ⟨G, 0, none⟩ = some (.int .i64 bl) ∧ wi.cell? ⟨G, 1, none⟩ = some (.int .i64 bh) ∧ Below w.heap.size w wi ∧ Aside (∀ i' j', i' < 2 → j' < 2 → 2 * i' + j' < 2 * 0 + j → ok i' j' = true))
        case atStart =>
          subst hG
          refine ⟨0, 0, ⟨rfl, by omega, rfl⟩, rfl, ?_, ?_, ?_, ?_, by go_simp, by go_simp, by go_simp, by go_simp, by go_grown, fun i' j' h1 h2 h3 => hok.out i' j' (by omega) h2⟩
          · exact ⟨by go_simp, by go_simp, by go_simp, by go_simp, by go_simp, by go_simp⟩
          · exact ⟨by go_simp, by go_simp, by go_simp, by go_simp, by go_simp, by go_simp⟩
          · exact ⟨by go_simp, by go_simp, by go_simp, by go_simp, by go_simp, by go_simp⟩
          · exact ⟨by go_simp, by go_simp, by go_simp, by go_simp, by go_simp, by go_simp⟩
        case round =>
          clear a0 a1 a2 a3 a4 a5 d0 d1 d2 d3 d4 d5 e0 e1 e2 e3 e4 e5 o0 o1 o2 o3 o4 o5 c0 c1 hB B0 B1 B2 B3
          obtain ⟨j, z, hj, rfl, b0, b1, b2, b3, c0, c1, c2, c3, hB, hok2⟩ := hrel
          have lz := World.block_lt_of_cell? _ _ c2
          have l0' := b0.lt
          have l1' := b1.lt
          have l2' := b2.lt
          have l3' := b3.lt
          have l4' := World.block_lt_of_cell? _ _ c0
          have B0 := b0
          have B1 := b1
          have B2 := b2
          have B3 := b3
          obtain ⟨a0, a1, a2, a3, a4, a5⟩ := b0
          obtain ⟨d0, d1, d2, d3, d4, d5⟩ := b1
          obtain ⟨e0, e1, e2, e3, e4, e5⟩ := b2
          obtain ⟨o0, o1, o2, o3, o4, o5⟩ := b3
          by_cases hlt : j < 2
          · have hz : z = 0 ∧ j = 0 ∨ z = 1 ∧ j = 1 := by have := hj.out; omega
            have HHJ := Lib.hid hj
            clear hj hlt
            rcases hz with ⟨rfl, rfl⟩ | ⟨rfl, rfl⟩
            · cases hk : ok 0 0
              · have HK := Lib.hid hk
                rw [hk] at f0
                clear hk
                go_wp2_with (go_at_call 40; (with_reducible refine (f0 _).mono ?_); rintro e w' ⟨rfl, rfl⟩)
                refine bodyPost_ret (v := .tuple #[.agg #[.bool false, .int .i64 0, .int .i64 0], .bool false]) (by simp [results, Try.results39, *, go_sem]) rfl ?_
                exact ⟨.inr ⟨fun h => (by have h1 := h 0 0 (by omega) (by omega); rw [HK.out] at h1; cases h1), rfl⟩, by go_grown; repeat (refine below_call ?_ (by assumption); go_grown)⟩
              · have HK := Lib.hid hk
                rw [hk] at f0
                clear hk
                obtain ⟨m, hm⟩ : ∃ m, n 0 0 = m := ⟨_, rfl⟩
                rw [hm] at f0
                have hjn : joinI (J (2 * 0 + 0)) ⟨true, m, m⟩ = J (2 * 0 + 0 + 1) := by rw [← hm]; exact HJ.out 0 0 (by omega) (by omega)
                have HJN := Lib.hid hjn
                have hnm : nrm ⟨true, m, m⟩ = ⟨true, m, m⟩ := nrm_some (Int.le_refl m)
                have HNM := Lib.hid hnm
                clear hm hjn hnm
                have hB9 := hB
                go_wp2_with (go_at_call 40; (with_reducible refine (f0 _).mono ?_); rintro e w' ⟨rfl, rfl⟩)
                go_region_with (first | (go_at_call 43; (with_reducible refine (const_any m _).mono ?_); rintro e w' ⟨rfl, hB⟩; obtain ⟨hc, hf, hs⟩ := bcell hB; clear hs; (try simp only [World.size_drew, World.size_alloc] at hc hf); obtain ⟨hz0_0, hz0_1, hz0_2, hz1_0, hz1_1, hz1_2, hz2_0, hz2_1, hz2_2, hz3_0, hz3_1, hz3_2, hz4_0, hz4_1, hz4_2, hy0_0, hy0_1, hy0_2⟩ : w.heap.size < w'.heap.size ∧ w.heap.size < w'.heap.size + 1 ∧ w.heap.size < w'.heap.size + 1 + 1 ∧ w.heap.size + 1 < w'.heap.size ∧ w.heap.size + 1 < w'.heap.size + 1 ∧ w.heap.size + 1 < w'.heap.size + 1 + 1 ∧ w.heap.size + 1 + 1 < w'.heap.size ∧ w.heap.size + 1 + 1 < w'.heap.size + 1 ∧ w.heap.size + 1 + 1 < w'.heap.size + 1 + 1 ∧ w.heap.size + 1 + 1 + 1 < w'.heap.size ∧ w.heap.size + 1 + 1 + 1 < w'.heap.size + 1 ∧ w.heap.size + 1 + 1 + 1 < w'.heap.size + 1 + 1 ∧ w.heap.size + 1 + 1 + 1 + 1 < w'.heap.size ∧ w.heap.size + 1 + 1 + 1 + 1 < w'.heap.size + 1 ∧ w.heap.size + 1 + 1 + 1 + 1 < w'.heap.size + 1 + 1 ∧ G < w'.heap.size ∧ G < w'.heap.size + 1 ∧ G < w'.heap.size + 1 + 1 := by { have := hB.size; (try simp at this); omega }) | (go_at_call 47; refine (join_any _ (J (2 * 0 + 0)) ⟨true, m, m⟩ (J (2 * 0 + 0 + 1)) (HN.out _) HNM.out HJN.out _ ?_ ?_ ?_ ?_ ?_ ?_).mono ?_; (focus go_simp); (focus go_simp); (focus go_simp); (focus go_simp); (focus go_simp); (focus go_simp); rintro e w' ⟨rfl, hB⟩; obtain ⟨hc, hf, hs⟩ := bcell hB; clear hs; (try simp only [World.size_drew, World.size_alloc] at hc hf); obtain ⟨hz0_0, hz0_1, hz0_2, hz1_0, hz1_1, hz1_2, hz2_0, hz2_1, hz2_2, hz3_0, hz3_1, hz3_2, hz4_0, hz4_1, hz4_2, hy0_0, hy0_1, hy0_2⟩ : w.heap.size < w'.heap.size ∧ w.heap.size < w'.heap.size + 1 ∧ w.heap.size < w'.heap.size + 1 + 1 ∧ w.heap.size + 1 < w'.heap.size ∧ w.heap.size + 1 < w'.heap.size + 1 ∧ w.heap.size + 1 < w'.heap.size + 1 + 1 ∧ w.heap.size + 1 + 1 < w'.heap.size ∧ w.heap.size + 1 + 1 < w'.heap.size + 1 ∧ w.heap.size + 1 + 1 < w'.heap.size + 1 + 1 ∧ w.heap.size + 1 + 1 + 1 < w'.heap.size ∧ w.heap.size + 1 + 1 + 1 < w'.heap.size + 1 ∧ w.heap.size + 1 + 1 + 1 < w'.heap.size + 1 + 1 ∧ w.heap.size + 1 + 1 + 1 + 1 < w'.heap.size ∧ w.heap.size + 1 + 1 + 1 + 1 < w'.heap.size + 1 ∧ w.heap.size + 1 + 1 + 1 + 1 < w'.heap.size + 1 + 1 ∧ G < w'.heap.size ∧ G < w'.heap.size + 1 ∧ G < w'.heap.size + 1 + 1 := by { have := hB.size; (try simp at this); omega }))
                all_goals
                  go_wp2
                  go_roundg (2 - 0 - 1)
                  case measure => have := HHJ.out.out; omega
                  case rel => exact ⟨0 + 1, (0 + 1 : Int), ⟨rfl, by omega, by omega⟩, rfl, ⟨by go_simp, by go_simp, by go_simp, by go_simp, by go_simp, by go_simp⟩, ⟨by go_simp, by go_simp, by go_simp, by go_simp, by go_simp, by go_simp⟩, ⟨by go_simp, by go_simp, by go_simp, by go_simp, by go_simp, by go_simp⟩, ⟨by go_simp, by go_simp, by go_simp, by go_simp, by go_simp, by go_simp⟩, by go_simp, by go_simp, by go_simp, by go_simp, by go_grown; repeat (refine below_call ?_ (by assumption); go_grown), fun i' j' h1 h2 h3 => by
                    by_cases he : 2 * i' + j' = 2 * 0 + 0
                    · obtain ⟨rfl, rfl⟩ : i' = 0 ∧ j' = 0 := by omega
                      exact HK.out
                    · exact hok2.out i' j' h1 h2 (by omega)⟩
            · cases hk : ok 0 1
              · have HK := Lib.hid hk
                rw [hk] at f1
                clear hk
                go_wp2_with (go_at_call 40; (with_reducible refine (f1 _).mono ?_); rintro e w' ⟨rfl, rfl⟩)
                refine bodyPost_ret (v := .tuple #[.agg #[.bool false, .int .i64 0, .int .i64 0], .bool false]) (by simp [results, Try.results39, *, go_sem]) rfl ?_
                exact ⟨.inr ⟨fun h => (by have h1 := h 0 1 (by omega) (by omega); rw [HK.out] at h1; cases h1), rfl⟩, by go_grown; repeat (refine below_call ?_ (by assumption); go_grown)⟩
              · have HK := Lib.hid hk
                rw [hk] at f1
                clear hk
                obtain ⟨m, hm⟩ : ∃ m, n 0 1 = m := ⟨_, rfl⟩
                rw [hm] at f1
                have hjn : joinI (J (2 * 0 + 1)) ⟨true, m, m⟩ = J (2 * 0 + 1 + 1) := by rw [← hm]; exact HJ.out 0 1 (by omega) (by omega)
                have HJN := Lib.hid hjn
                have hnm : nrm ⟨true, m, m⟩ = ⟨true, m, m⟩ := nrm_some (Int.le_refl m)
                have HNM := Lib.hid hnm
                clear hm hjn hnm
                have hB9 := hB
                go_wp2_with (go_at_call 40; (with_reducible refine (f1 _).mono ?_); rintro e w' ⟨rfl, rfl⟩)
                go_region_with (first | (go_at_call 43; (with_reducible refine (const_any m _).mono ?_); rintro e w' ⟨rfl, hB⟩; obtain ⟨hc, hf, hs⟩ := bcell hB; clear hs; (try simp only [World.size_drew, World.size_alloc] at hc hf); obtain ⟨hz0_0, hz0_1, hz0_2, hz1_0, hz1_1, hz1_2, hz2_0, hz2_1, hz2_2, hz3_0, hz3_1, hz3_2, hz4_0, hz4_1, hz4_2, hy0_0, hy0_1, hy0_2⟩ : w.heap.size < w'.heap.size ∧ w.heap.size < w'.heap.size + 1 ∧ w.heap.size < w'.heap.size + 1 + 1 ∧ w.heap.size + 1 < w'.heap.size ∧ w.heap.size + 1 < w'.heap.size + 1 ∧ w.heap.size + 1 < w'.heap.size + 1 + 1 ∧ w.heap.size + 1 + 1 < w'.heap.size ∧ w.heap.size + 1 + 1 < w'.heap.size + 1 ∧ w.heap.size + 1 + 1 < w'.heap.size + 1 + 1 ∧ w.heap.size + 1 + 1 + 1 < w'.heap.size ∧ w.heap.size + 1 + 1 + 1 < w'.heap.size + 1 ∧ w.heap.size + 1 + 1 + 1 < w'.heap.size + 1 + 1 ∧ w.heap.size + 1 + 1 + 1 + 1 < w'.heap.size ∧ w.heap.size + 1 + 1 + 1 + 1 < w'.heap.size + 1 ∧ w.heap.size + 1 + 1 + 1 + 1 < w'.heap.size + 1 + 1 ∧ G < w'.heap.size ∧ G < w'.heap.size + 1 ∧ G < w'.heap.size + 1 + 1 := by { have := hB.size; (try simp at this); omega }) | (go_at_call 47; refine (join_any _ (J (2 * 0 + 1)) ⟨true, m, m⟩ (J (2 * 0 + 1 + 1)) (HN.out _) HNM.out HJN.out _ ?_ ?_ ?_ ?_ ?_ ?_).mono ?_; (focus go_simp); (focus go_simp); (focus go_simp); (focus go_simp); (focus go_simp); (focus go_simp); rintro e w' ⟨rfl, hB⟩; obtain ⟨hc, hf, hs⟩ := bcell hB; clear hs; (try simp only [World.size_drew, World.size_alloc] at hc hf); obtain ⟨hz0_0, hz0_1, hz0_2, hz1_0, hz1_1, hz1_2, hz2_0, hz2_1, hz2_2, hz3_0, hz3_1, hz3_2, hz4_0, hz4_1, hz4_2, hy0_0, hy0_1, hy0_2⟩ : w.heap.size < w'.heap.size ∧ w.heap.size < w'.heap.size + 1 ∧ w.heap.size < w'.heap.size + 1 + 1 ∧ w.heap.size + 1 < w'.heap.size ∧ w.heap.size + 1 < w'.heap.size + 1 ∧ w.heap.size + 1 < w'.heap.size + 1 + 1 ∧ w.heap.size + 1 + 1 < w'.heap.size ∧ w.heap.size + 1 + 1 < w'.heap.size + 1 ∧ w.heap.size + 1 + 1 < w'.heap.size + 1 + 1 ∧ w.heap.size + 1 + 1 + 1 < w'.heap.size ∧ w.heap.size + 1 + 1 + 1 < w'.heap.size + 1 ∧ w.heap.size + 1 + 1 + 1 < w'.heap.size + 1 + 1 ∧ w.heap.size + 1 + 1 + 1 + 1 < w'.heap.size ∧ w.heap.size + 1 + 1 + 1 + 1 < w'.heap.size + 1 ∧ w.heap.size + 1 + 1 + 1 + 1 < w'.heap.size + 1 + 1 ∧ G < w'.heap.size ∧ G < w'.heap.size + 1 ∧ G < w'.heap.size + 1 + 1 := by { have := hB.size; (try simp at this); omega }))
                all_goals
                  go_wp2
                  go_roundg (2 - 1 - 1)
                  case measure => have := HHJ.out.out; omega
                  case rel => exact ⟨1 + 1, (1 + 1 : Int), ⟨rfl, by omega, by omega⟩, rfl, ⟨by go_simp, by go_simp, by go_simp, by go_simp, by go_simp, by go_simp⟩, ⟨by go_simp, by go_simp, by go_simp, by go_simp, by go_simp, by go_simp⟩, ⟨by go_simp, by go_simp, by go_simp, by go_simp, by go_simp, by go_simp⟩, ⟨by go_simp, by go_simp, by go_simp, by go_simp, by go_simp, by go_simp⟩, by go_simp, by go_simp, by go_simp, by go_simp, by go_grown; repeat (refine below_call ?_ (by assumption); go_grown), fun i' j' h1 h2 h3 => by
                    by_cases he : 2 * i' + j' = 2 * 0 + 1
                    · obtain ⟨rfl, rfl⟩ : i' = 0 ∧ j' = 1 := by omega
                      exact HK.out
                    · exact hok2.out i' j' h1 h2 (by omega)⟩
          · have hz : z = 2 ∧ j = 2 := by have := hj.out; omega
            obtain ⟨rfl, rfl⟩ := hz
            have HHJ := Lib.hid hj
            clear hj hlt
            go_wp2
            go_roundg (2 - 0 - 1)
            case measure => have := HH.out.out; omega
            case rel => exact ⟨0 + 1, (0 + 1 : Int), ⟨rfl, by omega, by omega⟩, rfl, B0, B1, B2, B3, c0, c1, hB, fun i' j' h1 h2 => hok2.out i' j' (by omega) h2 (by omega)⟩
      · clear hlt
        go_wp2_with fail
        obtain ⟨G, hG⟩ : ∃ G, wr.heap.size = G := ⟨_, rfl⟩
        simp only [hG]
        have f0 : ∀ w, Calls Try.prog 40 #[.int .i64 ah, .int .i64 bl] w (Ret2 (n 1 0) (ok 1 0) w) := fun w => HF.out 1 0 w (by omega) (by omega)
        have f1 : ∀ w, Calls Try.prog 40 #[.int .i64 ah, .int .i64 bh] w (Ret2 (n 1 1) (ok 1 1) w) := fun w => HF.out 1 1 w (by omega) (by omega)
        go_loopg [31] 2 (fun gk v31 wi => ∃ (j : Nat) (z : Int), Aside (z = j ∧ j ≤ 2 ∧ gk + j = 2) ∧ v31 = .int .i64 z ∧ Box wi w.heap.size ⟨sa, al, ah⟩ ∧ Box wi (w.heap.size + 1) ⟨sb, bl, bh⟩ ∧ Box wi (w.heap.size + 1 + 1) Iv.e ∧ Box wi (w.heap.size + 1 + 1 + 1) (J (2 * 1 + j)) ∧ wi.cell? ⟨w.heap.size + 1 + 1 + 1 + 1, 0, none⟩ = some (.int .i64 al) ∧ wi.cell? ⟨w.heap.size + 1 + 1 + 1 + 1, 1, none⟩ = some (.int .i64 ah) ∧ wi.cell? ⟨G, 0, none⟩ = some (.int .i64 bl) ∧ wi.cell? ⟨G, 1, none⟩ = some (.int .i64 bh) ∧ Below w.heap.size w wi ∧ Aside (∀ i' j', i' < 2 → j' < 2 → 2 * i' + j' < 2 * 1 + j → ok i' j' = true))
        case atStart =>
          subst hG
          refine ⟨0, 0, ⟨rfl, by omega, rfl⟩, rfl, ?_, ?_, ?_, ?_, by go_simp, by go_simp, by go_simp, by go_simp, by go_grown, fun i' j' h1 h2 h3 => hok.out i' j' (by omega) h2⟩
          · exact ⟨by go_simp, by go_simp, by go_simp, by go_simp, by go_simp, by go_simp⟩
          · exact ⟨by go_simp, by go_simp, by go_simp, by go_simp, by go_simp, by go_simp⟩
          · exact ⟨by go_simp, by go_simp, by go_simp, by go_simp, by go_simp, by go_simp⟩
          · exact ⟨by go_simp, by go_simp, by go_simp, by go_simp, by go_simp, by go_simp⟩
        case round =>
          clear a0 a1 a2 a3 a4 a5 d0 d1 d2 d3 d4 d5 e0 e1 e2 e3 e4 e5 o0 o1 o2 o3 o4 o5 c0 c1 hB B0 B1 B2 B3
          obtain ⟨j, z, hj, rfl, b0, b1, b2, b3, c0, c1, c2, c3, hB, hok2⟩ := hrel
          have lz := World.block_lt_of_cell? _ _ c2
          have l0' := b0.lt
          have l1' := b1.lt
          have l2' := b2.lt
          have l3' := b3.lt
          have l4' := World.block_lt_of_cell? _ _ c0
          have B0 := b0
          have B1 := b1
          have B2 := b2
          have B3 := b3
          obtain ⟨a0, a1, a2, a3, a4, a5⟩ := b0
          obtain ⟨d0, d1, d2, d3, d4, d5⟩ := b1
          obtain ⟨e0, e1, e2, e3, e4, e5⟩ := b2
          obtain ⟨o0, o1, o2, o3, o4, o5⟩ := b3
          by_cases hlt : j < 2
          · have hz : z = 0 ∧ j = 0 ∨ z = 1 ∧ j = 1 := by have := hj.out; omega
            have HHJ := Lib.hid hj
            clear hj hlt
            rcases hz with ⟨rfl, rfl⟩ | ⟨rfl, rfl⟩
            · cases hk : ok 1 0
              · have HK := Lib.hid hk
                rw [hk] at f0
                clear hk
                go_wp2_with (go_at_call 40; (with_reducible refine (f0 _).mono ?_); rintro e w' ⟨rfl, rfl⟩)
                refine bodyPost_ret (v := .tuple #[.agg #[.bool false, .int .i64 0, .int .i64 0], .bool false]) (by simp [results, Try.results39, *, go_sem]) rfl ?_
                exact ⟨.inr ⟨fun h => (by have h1 := h 1 0 (by omega) (by omega); rw [HK.out] at h1; cases h1), rfl⟩, by go_grown; repeat (refine below_call ?_ (by assumption); go_grown)⟩
              · have HK := Lib.hid hk
                rw [hk] at f0
                clear hk
                obtain ⟨m, hm⟩ : ∃ m, n 1 0 = m := ⟨_, rfl⟩
                rw [hm] at f0
                have hjn : joinI (J (2 * 1 + 0)) ⟨true, m, m⟩ = J (2 * 1 + 0 + 1) := by rw [← hm]; exact HJ.out 1 0 (by omega) (by omega)
                have HJN := Lib.hid hjn
                have hnm : nrm ⟨true, m, m⟩ = ⟨true, m, m⟩ := nrm_some (Int.le_refl m)
                have HNM := Lib.hid hnm
                clear hm hjn hnm
                have hB9 := hB
                go_wp2_with (go_at_call 40; (with_reducible refine (f0 _).mono ?_); rintro e w' ⟨rfl, rfl⟩)
                go_region_with (first | (go_at_call 43; (with_reducible refine (const_any m _).mono ?_); rintro e w' ⟨rfl, hB⟩; obtain ⟨hc, hf, hs⟩ := bcell hB; clear hs; (try simp only [World.size_drew, World.size_alloc] at hc hf); obtain ⟨hz0_0, hz0_1, hz0_2, hz1_0, hz1_1, hz1_2, hz2_0, hz2_1, hz2_2, hz3_0, hz3_1, hz3_2, hz4_0, hz4_1, hz4_2, hy0_0, hy0_1, hy0_2⟩ : w.heap.size < w'.heap.size ∧ w.heap.size < w'.heap.size + 1 ∧ w.heap.size < w'.heap.size + 1 + 1 ∧ w.heap.size + 1 < w'.heap.size ∧ w.heap.size + 1 < w'.heap.size + 1 ∧ w.heap.size + 1 < w'.heap.size + 1 + 1 ∧ w.heap.size + 1 + 1 < w'.heap.size ∧ w.heap.size + 1 + 1 < w'.heap.size + 1 ∧ w.heap.size + 1 + 1 < w'.heap.size + 1 + 1 ∧ w.heap.size + 1 + 1 + 1 < w'.heap.size ∧ w.heap.size + 1 + 1 + 1 < w'.heap.size + 1 ∧ w.heap.size + 1 + 1 + 1 < w'.heap.size + 1 + 1 ∧ w.heap.size + 1 + 1 + 1 + 1 < w'.heap.size ∧ w.heap.size + 1 + 1 + 1 + 1 < w'.heap.size + 1 ∧ w.heap.size + 1 + 1 + 1 + 1 < w'.heap.size + 1 + 1 ∧ G < w'.heap.size ∧ G < w'.heap.size + 1 ∧ G < w'.heap.size + 1 + 1 := by { have := hB.size; (try simp at this); omega }) | (go_at_call 47; refine (join_any _ (J (2 * 1 + 0)) ⟨true, m, m⟩ (J (2 * 1 + 0 + 1)) (HN.out _) HNM.out HJN.out _ ?_ ?_ ?_ ?_ ?_ ?_).mono ?_; (focus go_simp); (focus go_simp); (focus go_simp); (focus go_simp); (focus go_simp); (focus go_simp); rintro e w' ⟨rfl, hB⟩; obtain ⟨hc, hf, hs⟩ := bcell hB; clear hs; (try simp only [World.size_drew, World.size_alloc] at hc hf); obtain ⟨hz0_0, hz0_1, hz0_2, hz1_0, hz1_1, hz1_2, hz2_0, hz2_1, hz2_2, hz3_0, hz3_1, hz3_2, hz4_0, hz4_1, hz4_2, hy0_0, hy0_1, hy0_2⟩ : w.heap.size < w'.heap.size ∧ w.heap.size < w'.heap.size + 1 ∧ w.heap.size < w'.heap.size + 1 + 1 ∧ w.heap.size + 1 < w'.heap.size ∧ w.heap.size + 1 < w'.heap.size + 1 ∧ w.heap.size + 1 < w'.heap.size + 1 + 1 ∧ w.heap.size + 1 + 1 < w'.heap.size ∧ w.heap.size + 1 + 1 < w'.heap.size + 1 ∧ w.heap.size + 1 + 1 < w'.heap.size + 1 + 1 ∧ w.heap.size + 1 + 1 + 1 < w'.heap.size ∧ w.heap.size + 1 + 1 + 1 < w'.heap.size + 1 ∧ w.heap.size + 1 + 1 + 1 < w'.heap.size + 1 + 1 ∧ w.heap.size + 1 + 1 + 1 + 1 < w'.heap.size ∧ w.heap.size + 1 + 1 + 1 + 1 < w'.heap.size + 1 ∧ w.heap.size + 1 + 1 + 1 + 1 < w'.heap.size + 1 + 1 ∧ G < w'.heap.size ∧ G < w'.heap.size + 1 ∧ G < w'.heap.size + 1 + 1 := by { have := hB.size; (try simp at this); omega }))
                all_goals
                  go_wp2
                  go_roundg (2 - 0 - 1)
                  case measure => have := HHJ.out.out; omega
                  case rel => exact ⟨0 + 1, (0 + 1 : Int), ⟨rfl, by omega, by omega⟩, rfl, ⟨by go_simp, by go_simp, by go_simp, by go_simp, by go_simp, by go_simp⟩, ⟨by go_simp, by go_simp, by go_simp, by go_simp, by go_simp, by go_simp⟩, ⟨by go_simp, by go_simp, by go_simp, by go_simp, by go_simp, by go_simp⟩, ⟨by go_simp, by go_simp, by go_simp, by go_simp, by go_simp, by go_simp⟩, by go_simp, by go_simp, by go_simp, by go_simp, by go_grown; repeat (refine below_call ?_ (by assumption); go_grown), fun i' j' h1 h2 h3 => by
                    by_cases he : 2 * i' + j' = 2 * 1 + 0
                    · obtain ⟨rfl, rfl⟩ : i' = 1 ∧ j' = 0 := by omega
                      exact HK.out
                    · exact hok2.out i' j' h1 h2 (by omega)⟩
            · cases hk : ok 1 1
              · have HK := Lib.hid hk
                rw [hk] at f1
                clear hk
                go_wp2_with (go_at_call 40; (with_reducible refine (f1 _).mono ?_); rintro e w' ⟨rfl, rfl⟩)
                refine bodyPost_ret (v := .tuple #[.agg #[.bool false, .int .i64 0, .int .i64 0], .bool false]) (by simp [results, Try.results39, *, go_sem]) rfl ?_
                exact ⟨.inr ⟨fun h => (by have h1 := h 1 1 (by omega) (by omega); rw [HK.out] at h1; cases h1), rfl⟩, by go_grown; repeat (refine below_call ?_ (by assumption); go_grown)⟩
              · have HK := Lib.hid hk
                rw [hk] at f1
                clear hk
                obtain ⟨m, hm⟩ : ∃ m, n 1 1 = m := ⟨_, rfl⟩
                rw [hm] at f1
                have hjn : joinI (J (2 * 1 + 1)) ⟨true, m, m⟩ = J (2 * 1 + 1 + 1) := by rw [← hm]; exact HJ.out 1 1 (by omega) (by omega)
                have HJN := Lib.hid hjn
                have hnm : nrm ⟨true, m, m⟩ = ⟨true, m, m⟩ := nrm_some (Int.le_refl m)
                have HNM := Lib.hid hnm
                clear hm hjn hnm
                have hB9 := hB
                go_wp2_with (go_at_call 40; (with_reducible refine (f1 _).mono ?_); rintro e w' ⟨rfl, rfl⟩)
                go_region_with (first | (go_at_call 43; (with_reducible refine (const_any m _).mono ?_); rintro e w' ⟨rfl, hB⟩; obtain ⟨hc, hf, hs⟩ := bcell hB; clear hs; (try simp only [World.size_drew, World.size_alloc] at hc hf); obtain ⟨hz0_0, hz0_1, hz0_2, hz1_0, hz1_1, hz1_2, hz2_0, hz2_1, hz2_2, hz3_0, hz3_1, hz3_2, hz4_0, hz4_1, hz4_2, hy0_0, hy0_1, hy0_2⟩ : w.heap.size < w'.heap.size ∧ w.heap.size < w'.heap.size + 1 ∧ w.heap.size < w'.heap.size + 1 + 1 ∧ w.heap.size + 1 < w'.heap.size ∧ w.heap.size + 1 < w'.heap.size + 1 ∧ w.heap.size + 1 < w'.heap.size + 1 + 1 ∧ w.heap.size + 1 + 1 < w'.heap.size ∧ w.heap.size + 1 + 1 < w'.heap.size + 1 ∧ w.heap.size + 1 + 1 < w'.heap.size + 1 + 1 ∧ w.heap.size + 1 + 1 + 1 < w'.heap.size ∧ w.heap.size + 1 + 1 + 1 < w'.heap.size + 1 ∧ w.heap.size + 1 + 1 + 1 < w'.heap.size + 1 + 1 ∧ w.heap.size + 1 + 1 + 1 + 1 < w'.heap.size ∧ w.heap.size + 1 + 1 + 1 + 1 < w'.heap.size + 1 ∧ w.heap.size + 1 + 1 + 1 + 1 < w'.heap.size + 1 + 1 ∧ G < w'.heap.size ∧ G < w'.heap.size + 1 ∧ G < w'.heap.size + 1 + 1 := by { have := hB.size; (try simp at this); omega }) | (go_at_call 47; refine (join_any _ (J (2 * 1 + 1)) ⟨true, m, m⟩ (J (2 * 1 + 1 + 1)) (HN.out _) HNM.out HJN.out _ ?_ ?_ ?_ ?_ ?_ ?_).mono ?_; (focus go_simp); (focus go_simp); (focus go_simp); (focus go_simp); (focus go_simp); (focus go_simp); rintro e w' ⟨rfl, hB⟩; obtain ⟨hc, hf, hs⟩ := bcell hB; clear hs; (try simp only [World.size_drew, World.size_alloc] at hc hf); obtain ⟨hz0_0, hz0_1, hz0_2, hz1_0, hz1_1, hz1_2, hz2_0, hz2_1, hz2_2, hz3_0, hz3_1, hz3_2, hz4_0, hz4_1, hz4_2, hy0_0, hy0_1, hy0_2⟩ : w.heap.size < w'.heap.size ∧ w.heap.size < w'.heap.size + 1 ∧ w.heap.size < w'.heap.size + 1 + 1 ∧ w.heap.size + 1 < w'.heap.size ∧ w.heap.size + 1 < w'.heap.size + 1 ∧ w.heap.size + 1 < w'.heap.size + 1 + 1 ∧ w.heap.size + 1 + 1 < w'.heap.size ∧ w.heap.size + 1 + 1 < w'.heap.size + 1 ∧ w.heap.size + 1 + 1 < w'.heap.size + 1 + 1 ∧ w.heap.size + 1 + 1 + 1 < w'.heap.size ∧ w.heap.size + 1 + 1 + 1 < w'.heap.size + 1 ∧ w.heap.size + 1 + 1 + 1 < w'.heap.size + 1 + 1 ∧ w.heap.size + 1 + 1 + 1 + 1 < w'.heap.size ∧ w.heap.size + 1 + 1 + 1 + 1 < w'.heap.size + 1 ∧ w.heap.size + 1 + 1 + 1 + 1 < w'.heap.size + 1 + 1 ∧ G < w'.heap.size ∧ G < w'.heap.size + 1 ∧ G < w'.heap.size + 1 + 1 := by { have := hB.size; (try simp at this); omega }))
                all_goals
                  go_wp2
                  go_roundg (2 - 1 - 1)
                  case measure => have := HHJ.out.out; omega
                  case rel => exact ⟨1 + 1, (1 + 1 : Int), ⟨rfl, by omega, by omega⟩, rfl, ⟨by go_simp, by go_simp, by go_simp, by go_simp, by go_simp, by go_simp⟩, ⟨by go_simp, by go_simp, by go_simp, by go_simp, by go_simp, by go_simp⟩, ⟨by go_simp, by go_simp, by go_simp, by go_simp, by go_simp, by go_simp⟩, ⟨by go_simp, by go_simp, by go_simp, by go_simp, by go_simp, by go_simp⟩, by go_simp, by go_simp, by go_simp, by go_simp, by go_grown; repeat (refine below_call ?_ (by assumption); go_grown), fun i' j' h1 h2 h3 => by
                    by_cases he : 2 * i' + j' = 2 * 1 + 1
                    · obtain ⟨rfl, rfl⟩ : i' = 1 ∧ j' = 1 := by omega
                      exact HK.out
                    · exact hok2.out i' j' h1 h2 (by omega)⟩
          · have hz : z = 2 ∧ j = 2 := by have := hj.out; omega
            obtain ⟨rfl, rfl⟩ := hz
            have HHJ := Lib.hid hj
            clear hj hlt
            go_wp2
            go_roundg (2 - 1 - 1)
            case measure => have := HH.out.out; omega
            case rel => exact ⟨1 + 1, (1 + 1 : Int), ⟨rfl, by omega, by omega⟩, rfl, B0, B1, B2, B3, c0, c1, hB, fun i' j' h1 h2 => hok2.out i' j' (by omega) h2 (by omega)⟩
    · have hz : z = 2 ∧ i = 2 := by have := hi.out; omega
      obtain ⟨rfl, rfl⟩ := hz
      clear hi hlt
      go_wp2
      refine bodyPost_ret (v := .tuple #[.agg #[.bool (J 4).s, .int .i64 (J 4).lo, .int .i64 (J 4).hi], .bool true]) (by simp [results, Try.results39, *, go_sem]) rfl ?_
      exact ⟨.inl ⟨fun i' j' h1 h2 => hok.out i' j' h1 h2, rfl⟩, by go_grown; repeat (refine below_call ?_ (by assumption); go_grown)⟩
end Go.Proofs.Ytfnodgpebheinaa.M
