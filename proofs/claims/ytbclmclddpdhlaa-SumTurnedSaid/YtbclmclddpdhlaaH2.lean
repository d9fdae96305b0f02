/- The walk of known, by hand. -/
import Derived.Test.YtbclmclddpdhlaaH1
import Derived.Test.YtbclmclddpdhlaaPC1
import Derived.Test.YtbclmclddpdhlaaPC2
import Derived.Lib.SlBytesConst
namespace Go.Proofs.Ytbclmclddpdhlaa.H
open Go Go.RowKit Go.Proofs.YtbclmclddpdhlaaW.PrintWords Go.Proofs.YtbclmclddpdhlaaW.PrintLast Go.Proofs.YtbclmclddpdhlaaW.PrintMore
set_option linter.unusedVariables false
set_option linter.unusedSimpArgs false
theorem C_str {w : World} {ad : Addr} {l : List ByteArray} (hb : l.length ≤ 9223372036854775807) (h : ∀ j p, l[j]? = some p → w.cell? (ad.add j) = some (.string p)) : Kd.C Kd.string w (some ad) l.length l :=
  ⟨rfl, hb, fun _ => ⟨ad, rfl, fun j p hj => ⟨[.string p], rfl, rfl, fun i u hu => by
    cases i with
    | zero => simp at hu; subst hu; simpa [Kd.string, Kd.scalar] using h j p hj
    | succ i => simp at hu⟩⟩⟩
theorem C_int {w : World} {ad : Addr} {l : List Int} (hb : l.length ≤ 9223372036854775807) (h : ∀ j p, l[j]? = some p → w.cell? (ad.add j) = some (.int .u8 p)) : Kd.C (Kd.int .u8) w (some ad) l.length l :=
  ⟨rfl, hb, fun _ => ⟨ad, rfl, fun j p hj => ⟨[.int .u8 p], rfl, rfl, fun i u hu => by
    cases i with
    | zero => simp at hu; subst hu; simpa [Kd.int, Kd.scalar] using h j p hj
    | succ i => simp at hu⟩⟩⟩
theorem C_sl {w : World} {ad : Addr} {l : List (List Int)} (hb : l.length ≤ 9223372036854775807) (h : ∀ j p, l[j]? = some p → ∃ A c, w.cell? (ad.add j) = some (.slice A p.length c) ∧ p.length ≤ c ∧ Kd.C (Kd.int .u8) w A p.length p) : Kd.C (Kd.slice 5 (Kd.int .u8)) w (some ad) l.length l :=
  ⟨rfl, hb, fun _ => ⟨ad, rfl, fun j p hj => by
    obtain ⟨A, c, h1, h2, h3⟩ := h j p hj
    refine ⟨[.slice A p.length c], rfl, ⟨A, c, rfl, h2, h3⟩, fun i u hu => ?_⟩
    cases i with
    | zero => simp at hu; subst hu; simpa [Kd.slice] using h1
    | succ i => simp at hu⟩⟩
theorem crc_known : PC.sum_Crc.f 120 [[49, 50, 51, 52, 53], [54, 55, 56, 57]] = some 3421780262 := by decide +kernel
theorem print_ne : (prN [⟨#[97]⟩, ⟨#[98]⟩] 2 == prN [⟨#[97, 98]⟩] 1) = false := by decide +kernel
theorem one_word {l : List Int} {j : Nat} {p : Int} {c : Nat → Option Value} (hj : l[j]? = some p) (h : ∀ i, i < l.length → c i = some (.int .u8 (l.getD i 0))) : c j = some (.int .u8 p) := by
  obtain ⟨hlt, he⟩ := List.getElem?_eq_some_iff.1 hj
  rw [h j hlt, List.getD_eq_getElem?_getD, hj]; rfl
theorem cell_new (w : World) (C : Array Value) (e : Nat) (fr : Nat × Nat) (k n : Nat) (v : Value) (hn : n = w.heap.size) (h : C[k]? = some v) (hv : v.oneCell' = true) : (w.alloc (.cells C e fr)).cell? ⟨n, k, none⟩ = some v := by
  subst hn
  have e : (w.alloc (.cells C e fr)).heap[w.heap.size]? = some (.cells C e fr) := by
    show (w.heap.push (.cells C e fr))[w.heap.size]? = _
    simp
  unfold World.cell?
  dsimp only
  rw [e]
  exact h
theorem below_call {w W w1 : World} (h : Below w.heap.size w W) (hB : Below W.heap.size W w1) : Below w.heap.size w w1 := h.trans (hB.mono h.size)
theorem known_C (w : World) : Kd.C (Kd.slice 5 (Kd.int .u8)) (((w.alloc (.cells #[.int .u8 49, .int .u8 50, .int .u8 51, .int .u8 52, .int .u8 53] 5 (5, 6))).alloc (.cells #[.int .u8 54, .int .u8 55, .int .u8 56, .int .u8 57] 5 (4, 5))).alloc (.cells #[.slice (some ⟨w.heap.size, 0, none⟩) 5 5, .slice (some ⟨w.heap.size + 1, 0, none⟩) 4 4] 33)) (some ⟨w.heap.size + 1 + 1, 0, none⟩) 2 [[49, 50, 51, 52, 53], [54, 55, 56, 57]] := by
  refine C_sl (l := [[49, 50, 51, 52, 53], [54, 55, 56, 57]]) (by decide) ?_
  intro j p hj
  rcases j with _ | _ | j
  · simp at hj
    subst hj
    refine ⟨some ⟨w.heap.size, 0, none⟩, 5, by simp [Addr.add]; go_simp, by decide, C_int (by decide) ?_⟩
    intro j p hj
    rcases j with _ | _ | _ | _ | _ | j <;> simp at hj <;> subst hj <;> simp [Addr.add] <;> go_simp <;> exact cell_new _ _ _ _ _ _ _ (by simp) rfl rfl
  · simp at hj
    subst hj
    refine ⟨some ⟨w.heap.size + 1, 0, none⟩, 4, by simp [Addr.add]; go_simp, by decide, C_int (by decide) ?_⟩
    intro j p hj
    rcases j with _ | _ | _ | _ | j <;> simp at hj <;> subst hj <;> simp [Addr.add] <;> go_simp <;> exact cell_new _ _ _ _ _ _ _ (by simp) rfl rfl
  · simp at hj
set_option maxHeartbeats 4000000 in
theorem known_any (w : World) : Calls Try.prog 7 #[] w fun e w' => e = .returned (.bool true) ∧ Below w.heap.size w w' := by
  have hne := print_ne
  obtain ⟨pa, hpa⟩ : ∃ x, Hid (prN [⟨#[97]⟩, ⟨#[98]⟩] 2 = x) := ⟨_, Lib.hid rfl⟩
  obtain ⟨pb, hpb⟩ : ∃ x, Hid (prN [⟨#[97, 98]⟩] 1 = x) := ⟨_, Lib.hid rfl⟩
  rw [hpa.out, hpb.out] at hne
  have hca : ∀ (A : Option Addr) (c : Nat) (W : World), Kd.C Kd.string W A 2 [⟨#[97]⟩, ⟨#[98]⟩] → Calls Try.prog 11 #[.slice A 2 c] W fun e w' => e = .returned (.int .u64 pa) ∧ Below W.heap.size W w' := fun A c W h => by
    have := print_calls A c [⟨#[97]⟩, ⟨#[98]⟩] W h (by decide +kernel)
    rw [← hpa.out]; exact this
  have hcb : ∀ (A : Option Addr) (c : Nat) (W : World), Kd.C Kd.string W A 1 [⟨#[97, 98]⟩] → Calls Try.prog 11 #[.slice A 1 c] W fun e w' => e = .returned (.int .u64 pb) ∧ Below W.heap.size W w' := fun A c W h => by
    have := print_calls A c [⟨#[97, 98]⟩] W h (by decide +kernel)
    rw [← hpb.out]; exact this
  have hc0 : ∀ (A : Option Addr) (c : Nat) (W : World), Calls Try.prog 11 #[.slice A 0 c] W fun e w' => e = .returned (.int .u64 14695981039346656037) ∧ Below W.heap.size W w' := fun A c W =>
    print_calls A c [] W ⟨rfl, by simp, fun h => absurd h (by simp)⟩ (by decide +kernel)
  have hcc : ∀ (A : Option Addr) (c : Nat) (W : World), 2 ≤ c → Kd.C (Kd.slice 5 (Kd.int .u8)) W A 2 [[49, 50, 51, 52, 53], [54, 55, 56, 57]] → Calls Try.prog 9 #[.slice A 2 c] W fun e w' => e = .returned (.int .u32 3421780262) ∧ Drawn0 W w' := fun A c W hc h =>
    PC.sum_Crc.calls 120 A c [[49, 50, 51, 52, 53], [54, 55, 56, 57]] 3421780262 W h hc crc_known
  replace hca := Lib.hid hca
  replace hcb := Lib.hid hcb
  replace hc0 := Lib.hid hc0
  replace hcc := Lib.hid hcc
  have k1 : (convert 33 33 (.slice (some ⟨w.heap.size, 0, none⟩) 5 5)).run Try.prog (w.alloc (.cells #[.int .u8 49, .int .u8 50, .int .u8 51, .int .u8 52, .int .u8 53] 5)) = .ok (.slice (some ⟨w.heap.size, 0, none⟩) 5 5) (w.alloc (.cells #[.int .u8 49, .int .u8 50, .int .u8 51, .int .u8 52, .int .u8 53] 5 (5, 6))) :=
    Go.Lib.run_convert_bytes_const w 33 5 #[.int .u8 49, .int .u8 50, .int .u8 51, .int .u8 52, .int .u8 53] 5 5 Try.underlying33 Try.underlying5
  have k2 : (convert 33 33 (.slice (some ⟨w.heap.size + 1, 0, none⟩) 4 4)).run Try.prog ((w.alloc (.cells #[.int .u8 49, .int .u8 50, .int .u8 51, .int .u8 52, .int .u8 53] 5 (5, 6))).alloc (.cells #[.int .u8 54, .int .u8 55, .int .u8 56, .int .u8 57] 5)) = .ok (.slice (some ⟨w.heap.size + 1, 0, none⟩) 4 4) ((w.alloc (.cells #[.int .u8 49, .int .u8 50, .int .u8 51, .int .u8 52, .int .u8 53] 5 (5, 6))).alloc (.cells #[.int .u8 54, .int .u8 55, .int .u8 56, .int .u8 57] 5 (4, 5))) := by
    have h := Go.Lib.run_convert_bytes_const (P := Try.prog) (w.alloc (.cells #[.int .u8 49, .int .u8 50, .int .u8 51, .int .u8 52, .int .u8 53] 5 (5, 6))) 33 5 #[.int .u8 54, .int .u8 55, .int .u8 56, .int .u8 57] 4 4 Try.underlying33 Try.underlying5
    rw [World.size_alloc] at h
    exact h
  go_enter Try.func7, Try.ntmps7
  go_wp2_with (first
    | (go_at_call 9; refine (hcc.out _ _ _ (by decide) (known_C w)).mono ?_; rintro e w' ⟨rfl, ⟨m, rfl⟩⟩)
    | (go_at_call 11; (with_reducible refine (hc0.out _ _ _).mono ?_); rintro e w1 ⟨rfl, hB1⟩; have hg1 : w.heap.size ≤ w1.heap.size := (by { have := hB1.size; (try simp at this); omega }))
    | (go_at_call 11; (with_reducible refine (hca.out _ _ _ ?_).mono ?_); (focus (refine C_str (l := [⟨#[97]⟩, ⟨#[98]⟩]) (by decide) ?_; intro j p hj; rcases j with _ | _ | j <;> simp at hj <;> subst hj <;> go_simp)); rintro e w2 ⟨rfl, hB2⟩; have hg2 : w.heap.size ≤ w2.heap.size := (by { have := hB2.size; (try simp at this); omega }))
    | (go_at_call 11; (with_reducible refine (hcb.out _ _ _ ?_).mono ?_); (focus (refine C_str (l := [⟨#[97, 98]⟩]) (by decide) ?_; intro j p hj; rcases j with _ | j <;> simp at hj <;> subst hj <;> go_simp)); rintro e w3 ⟨rfl, hB3⟩; have hg3 : w.heap.size ≤ w3.heap.size := (by { have := hB3.size; (try simp at this); omega })))
  go_returns
  refine ⟨by simp [beq_eq_false_iff_ne.mp hne], ?_⟩
  (try go_grown); (all_goals (repeat' (first | (with_reducible assumption) | (refine below_call ?_ (by assumption); (try go_grown))))); all_goals (first | omega | (simp; omega) | (apply pw_below_drewN; go_grown; done) | (apply pw_below_drewN; go_grown; all_goals (first | omega | (simp; omega))))
end Go.Proofs.Ytbclmclddpdhlaa.H
