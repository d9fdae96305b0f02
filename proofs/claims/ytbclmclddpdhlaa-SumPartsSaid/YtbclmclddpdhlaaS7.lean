/- The walk of SumParts, nothing. -/
import Derived.Test.YtbclmclddpdhlaaS4
import Derived.Test.YtbclmclddpdhlaaQ0
import Derived.Deep.RegionHeld3
namespace Go.Proofs.Ytbclmclddpdhlaa.S
open Go Go.RowKit Go.Proofs.Ytbclmclddpdhlaa Go.Proofs.YtbclmclddpdhlaaW.PrintWords Go.Proofs.YtbclmclddpdhlaaW.PrintLast Go.Proofs.YtbclmclddpdhlaaW.PrintMore
set_option linter.unusedVariables false
set_option linter.unusedSimpArgs false
set_option maxHeartbeats 8000000 in
set_option maxRecDepth 100000 in
theorem parts_nil (at_ : Int) (w : World) :
    Calls Try.prog 4 #[.slice none 0 0, .int .i64 at_] w fun e w' => e = .returned (.bool true) ∧ Below w.heap.size w w' := by
  have hm : Int.tmod at_ 1 = 0 := by simp
  have g1 : decide ((1000 : Int) < 0) = false := by decide
  have hC : ∀ W : World, Kd.C (Kd.int .u8) W none 0 [] := fun W => ⟨rfl, by decide, fun h => absurd h (by decide)⟩
  have hK1 : ∀ W : World, Below w.heap.size w W → Kd.C (Kd.int .u8) W none 0 [] := fun W _ => hC W
  have hK2 := hK1
  have hK3 := hK1
  obtain ⟨R, hR⟩ : ∃ R, Hid (crcV [[]] = R) := ⟨_, Lib.hid rfl⟩
  obtain ⟨s1, hs1⟩ : ∃ s, Hid (strOfNums [] = s) := ⟨_, Lib.hid rfl⟩
  have q1 : Hid (s1.size ≤ 1000) := Lib.hid (by rw [← hs1.out, strOfNums_size]; simp <;> omega)
  obtain ⟨Rp, hRp⟩ : ∃ R, Hid (H.prN [s1, s1] 2 = R) := ⟨_, Lib.hid rfl⟩
  have v1 : ∀ W : World, Below w.heap.size w W → (convert 33 9 (.slice none 0 0)).run Try.prog W = .ok (.string s1) W := fun W h => by rw [← hs1.out]; exact CONV (hK1 W h)
  have y1 : Hid (∀ W : World, Below w.heap.size w W → Kd.C (Kd.int .u8) W none 0 []) := Lib.hid hK1
  have y2 : Hid (∀ W : World, Below w.heap.size w W → Kd.C (Kd.int .u8) W none 0 []) := Lib.hid hK2
  have y3 : Hid (∀ W : World, Below w.heap.size w W → Kd.C (Kd.int .u8) W none 0 []) := Lib.hid hK3
  clear hK1 hK2 hK3
  go_enter Try.func4, Try.ntmps4
  go_wp2_with (first | (go_at_call 7; (with_reducible refine (H.known_any _).mono ?_); rintro e w1 ⟨rfl, hB1⟩; have hg1 : w.heap.size ≤ w1.heap.size := hB1.size))
  refine Calm.wp_calm (by kernel_rfl) w [Calm.isV (.slice none 0 0), Calm.isV (.int .i64 (0 : Int)), Calm.isV (.slice none 0 0), Calm.isV (.slice none 0 0), Calm.isV (.int .i64 (0 : Int)), Calm.isV (.slice none 0 0), Calm.rowV [.slice none 0 0, .slice none 0 0] 2, Calm.isV (.int .u32 R), Calm.isV (.slice none 0 0), Calm.rowV [.slice none 0 0] 1, Calm.isV (.int .u32 R), Calm.isV (.bool true), Calm.isV (.bool true), Calm.isV (.slice none 0 0), Calm.rowV [.slice none 0 0, .slice none 0 0] 2, Calm.isV (.int .u32 R), Calm.isV (.slice none 0 0), Calm.rowV [.slice none 0 0] 1, Calm.isV (.int .u32 R), Calm.isV (.bool true), Calm.isV (.bool true), Calm.isV (.bool true), Calm.isV (.slice none 0 0), Calm.isV (.int .i64 (0 : Int)), Calm.isV (.slice none 0 0), Calm.isV (.string s1), Calm.isV (.slice none 0 0), Calm.isV (.int .i64 (0 : Int)), Calm.isV (.slice none 0 0), Calm.isV (.string s1), Calm.rowV [.string s1, .string s1] 2, Calm.isV (.int .u64 Rp), Calm.isV (.slice none 0 0), Calm.isV (.int .i64 (0 : Int)), Calm.isV (.slice none 0 0), Calm.isV (.string s1), Calm.isV (.slice none 0 0), Calm.isV (.int .i64 (0 : Int)), Calm.isV (.slice none 0 0), Calm.isV (.string s1), Calm.rowV [.string s1, .string s1] 2, Calm.isV (.int .u64 Rp), Calm.isV (.bool true), Calm.isV (.bool true), Calm.isV (.bool true)] ?hL (by kernel_rfl) (by kernel_rfl) (by first | (with_reducible assumption) | go_grown) ?step ?fin
  case hL => repeat' (first | exact List.forall_mem_nil _ | refine List.forall_mem_cons.2 ⟨by first | exact Calm.stable_is _ | exact Calm.stable_row _ _ | exact Calm.stable_any, ?_⟩)
  case step =>
    refine Calm.Steps.cons (Calm.step_plain rfl ?_) ?_
    · intro a w1 hS hsz hold hdep K hK
      have h0 : a.tmps[0]? = some (.slice none 0 0) := (hold 0 (by kernel_rfl)).trans rfl
      have e0 := Calm.at_getD h0
      clear hsz hold hdep
      have v1' := v1 w1 hS
      go_simp
      exact hK _ _ (Below.refl _ _) rfl
    refine Calm.Steps.cons (Calm.step_plain rfl ?_) ?_
    · intro a w1 hS hsz hold hdep K hK
      have h5 : a.tmps[5]? = some (.int .i64 (0 : Int)) := (hold 5 (by kernel_rfl)).trans rfl
      have e5 := Calm.at_getD h5
      clear hsz hold hdep
      have v1' := v1 w1 hS
      go_simp
      exact hK _ _ (Below.refl _ _) rfl
    refine Calm.Steps.cons (Calm.step_plain rfl ?_) ?_
    · intro a w1 hS hsz hold hdep K hK
      obtain ⟨u20, h20, (k20 : u20 = .slice none 0 0)⟩ := hdep 0 (by kernel_rfl) _ rfl
      subst k20
      replace h20 := h20 20 rfl
      have e20 := Calm.at_getD h20
      obtain ⟨u21, h21, (k21 : u21 = .int .i64 (0 : Int))⟩ := hdep 1 (by kernel_rfl) _ rfl
      subst k21
      replace h21 := h21 21 rfl
      have e21 := Calm.at_getD h21
      clear hsz hold hdep
      have v1' := v1 w1 hS
      go_simp
      exact hK _ _ (Below.refl _ _) rfl
    refine Calm.Steps.cons (Calm.step_plain rfl ?_) ?_
    · intro a w1 hS hsz hold hdep K hK
      have h0 : a.tmps[0]? = some (.slice none 0 0) := (hold 0 (by kernel_rfl)).trans rfl
      have e0 := Calm.at_getD h0
      clear hsz hold hdep
      have v1' := v1 w1 hS
      go_simp
      exact hK _ _ (Below.refl _ _) rfl
    refine Calm.Steps.cons (Calm.step_plain rfl ?_) ?_
    · intro a w1 hS hsz hold hdep K hK
      have h5 : a.tmps[5]? = some (.int .i64 (0 : Int)) := (hold 5 (by kernel_rfl)).trans rfl
      have e5 := Calm.at_getD h5
      clear hsz hold hdep
      have v1' := v1 w1 hS
      go_simp
      exact hK _ _ (Below.refl _ _) rfl
    refine Calm.Steps.cons (Calm.step_plain rfl ?_) ?_
    · intro a w1 hS hsz hold hdep K hK
      obtain ⟨u23, h23, (k23 : u23 = .slice none 0 0)⟩ := hdep 3 (by kernel_rfl) _ rfl
      subst k23
      replace h23 := h23 23 rfl
      have e23 := Calm.at_getD h23
      obtain ⟨u24, h24, (k24 : u24 = .int .i64 (0 : Int))⟩ := hdep 4 (by kernel_rfl) _ rfl
      subst k24
      replace h24 := h24 24 rfl
      have e24 := Calm.at_getD h24
      clear hsz hold hdep
      have v1' := v1 w1 hS
      go_simp
      exact hK _ _ (Below.refl _ _) rfl
    refine Calm.Steps.cons (Calm.step_plain rfl ?_) ?_
    · intro a w1 hS hsz hold hdep K hK
      obtain ⟨u22, h22, (k22 : u22 = .slice none 0 0)⟩ := hdep 2 (by kernel_rfl) _ rfl
      subst k22
      replace h22 := h22 22 rfl
      have e22 := Calm.at_getD h22
      obtain ⟨u25, h25, (k25 : u25 = .slice none 0 0)⟩ := hdep 5 (by kernel_rfl) _ rfl
      subst k25
      replace h25 := h25 25 rfl
      have e25 := Calm.at_getD h25
      clear hsz hold hdep
      go_simp
      refine hK _ _ (by unfold Calm.Grow; go_grown) ⟨_, rfl, fun j u hj => ?_⟩
      rcases j with _ | _ | j
      all_goals first | (simp at hj; done) | (simp at hj; subst hj; go_simp)
    refine Calm.Steps.cons (Calm.step_plain rfl ?_) ?_
    · intro a w1 hS hsz hold hdep K hK
      obtain ⟨u26, h26, g26, (k26 : u26 = _), c26⟩ := hdep 6 (by kernel_rfl) _ rfl
      subst k26
      replace h26 := h26 26 rfl
      have e26 := Calm.at_getD h26
      have c26_0 := c26 0 _ rfl
      have c26_1 := c26 1 _ rfl
      clear c26
      clear hsz hold hdep
      go_simp
      refine (crc2 (A1 := none) (A2 := none) (c1 := 0) (c2 := 0) (n1 := 0) (n2 := 0) (l1 := []) (l2 := []) (R := R) rfl rfl ((crcV_nil []).trans hR.out) (by first | decide | omega) (by first | decide | omega) (by first | decide | omega) (by first | decide | omega) c26_0 c26_1 (y1.out _ hS) (y2.out _ hS)).mono ?_; rintro e w' ⟨rfl, hD⟩; have hB := Drawn0.below' hD
      exact hK _ _ hB rfl
    refine Calm.Steps.cons (Calm.step_plain rfl ?_) ?_
    · intro a w1 hS hsz hold hdep K hK
      have h0 : a.tmps[0]? = some (.slice none 0 0) := (hold 0 (by kernel_rfl)).trans rfl
      have e0 := Calm.at_getD h0
      clear hsz hold hdep
      have v1' := v1 w1 hS
      go_simp
      exact hK _ _ (Below.refl _ _) rfl
    refine Calm.Steps.cons (Calm.step_plain rfl ?_) ?_
    · intro a w1 hS hsz hold hdep K hK
      obtain ⟨u28, h28, (k28 : u28 = .slice none 0 0)⟩ := hdep 8 (by kernel_rfl) _ rfl
      subst k28
      replace h28 := h28 28 rfl
      have e28 := Calm.at_getD h28
      clear hsz hold hdep
      go_simp
      refine hK _ _ (by unfold Calm.Grow; go_grown) ⟨_, rfl, fun j u hj => ?_⟩
      rcases j with _ | j
      all_goals first | (simp at hj; done) | (simp at hj; subst hj; go_simp)
    refine Calm.Steps.cons (Calm.step_plain rfl ?_) ?_
    · intro a w1 hS hsz hold hdep K hK
      obtain ⟨u29, h29, g29, (k29 : u29 = _), c29⟩ := hdep 9 (by kernel_rfl) _ rfl
      subst k29
      replace h29 := h29 29 rfl
      have e29 := Calm.at_getD h29
      have c29_0 := c29 0 _ rfl
      clear c29
      clear hsz hold hdep
      go_simp
      refine (crc1 (A1 := none) (c1 := 0) (n1 := 0) (l1 := []) (R := R) rfl hR.out (by first | decide | omega) (by first | decide | omega) c29_0 (y3.out _ hS)).mono ?_; rintro e w' ⟨rfl, hD⟩; have hB := Drawn0.below' hD
      exact hK _ _ hB rfl
    refine Calm.Steps.cons (Calm.step_plain rfl ?_) ?_
    · intro a w1 hS hsz hold hdep K hK
      obtain ⟨u27, h27, (k27 : u27 = .int .u32 R)⟩ := hdep 7 (by kernel_rfl) _ rfl
      subst k27
      replace h27 := h27 27 rfl
      have e27 := Calm.at_getD h27
      obtain ⟨u30, h30, (k30 : u30 = .int .u32 R)⟩ := hdep 10 (by kernel_rfl) _ rfl
      subst k30
      replace h30 := h30 30 rfl
      have e30 := Calm.at_getD h30
      clear hsz hold hdep
      have v1' := v1 w1 hS
      go_simp
      exact hK _ _ (Below.refl _ _) rfl
    refine Calm.Steps.cons (Calm.step_plain rfl ?_) ?_
    · intro a w1 hS hsz hold hdep K hK
      obtain ⟨u31, h31, (k31 : u31 = .bool true)⟩ := hdep 11 (by kernel_rfl) _ rfl
      subst k31
      replace h31 := h31 31 rfl
      have e31 := Calm.at_getD h31
      clear hsz hold hdep
      have v1' := v1 w1 hS
      go_simp
      exact hK _ _ (Below.refl _ _) rfl
    refine Calm.Steps.cons (Calm.step_wanted (b := true) rfl rfl rfl (by kernel_rfl) (fun _ _ h => h) ?_) ?_
    · intro a w1 hS hsz hold hdep K hK
      have h0 : a.tmps[0]? = some (.slice none 0 0) := (hold 0 (by kernel_rfl)).trans rfl
      have e0 := Calm.at_getD h0
      clear hsz hold hdep
      have v1' := v1 w1 hS
      go_simp
      exact hK _ _ (Below.refl _ _) rfl
    refine Calm.Steps.cons (Calm.step_wanted (b := true) rfl rfl rfl (by kernel_rfl) (fun _ _ h => h) ?_) ?_
    · intro a w1 hS hsz hold hdep K hK
      obtain ⟨u33, h33, (k33 : u33 = .slice none 0 0)⟩ := hdep 13 (by kernel_rfl) _ rfl
      subst k33
      replace h33 := h33 33 rfl
      have e33 := Calm.at_getD h33
      clear hsz hold hdep
      go_simp
      refine hK _ _ (by unfold Calm.Grow; go_grown) ⟨_, rfl, fun j u hj => ?_⟩
      rcases j with _ | _ | j
      all_goals first | (simp at hj; done) | (simp at hj; subst hj; go_simp)
    refine Calm.Steps.cons (Calm.step_wanted (b := true) rfl rfl rfl (by kernel_rfl) (fun _ _ h => h) ?_) ?_
    · intro a w1 hS hsz hold hdep K hK
      obtain ⟨u34, h34, g34, (k34 : u34 = _), c34⟩ := hdep 14 (by kernel_rfl) _ rfl
      subst k34
      replace h34 := h34 34 rfl
      have e34 := Calm.at_getD h34
      have c34_0 := c34 0 _ rfl
      have c34_1 := c34 1 _ rfl
      clear c34
      clear hsz hold hdep
      go_simp
      refine (crc2 (A1 := none) (A2 := none) (c1 := 0) (c2 := 0) (n1 := 0) (n2 := 0) (l1 := []) (l2 := []) (R := R) rfl rfl ((crcV_nil []).trans hR.out) (by first | decide | omega) (by first | decide | omega) (by first | decide | omega) (by first | decide | omega) c34_0 c34_1 (y3.out _ hS) ⟨rfl, by decide, fun h => absurd h (by decide)⟩).mono ?_; rintro e w' ⟨rfl, hD⟩; have hB := Drawn0.below' hD
      exact hK _ _ hB rfl
    refine Calm.Steps.cons (Calm.step_wanted (b := true) rfl rfl rfl (by kernel_rfl) (fun _ _ h => h) ?_) ?_
    · intro a w1 hS hsz hold hdep K hK
      have h0 : a.tmps[0]? = some (.slice none 0 0) := (hold 0 (by kernel_rfl)).trans rfl
      have e0 := Calm.at_getD h0
      clear hsz hold hdep
      have v1' := v1 w1 hS
      go_simp
      exact hK _ _ (Below.refl _ _) rfl
    refine Calm.Steps.cons (Calm.step_wanted (b := true) rfl rfl rfl (by kernel_rfl) (fun _ _ h => h) ?_) ?_
    · intro a w1 hS hsz hold hdep K hK
      obtain ⟨u36, h36, (k36 : u36 = .slice none 0 0)⟩ := hdep 16 (by kernel_rfl) _ rfl
      subst k36
      replace h36 := h36 36 rfl
      have e36 := Calm.at_getD h36
      clear hsz hold hdep
      go_simp
      refine hK _ _ (by unfold Calm.Grow; go_grown) ⟨_, rfl, fun j u hj => ?_⟩
      rcases j with _ | j
      all_goals first | (simp at hj; done) | (simp at hj; subst hj; go_simp)
    refine Calm.Steps.cons (Calm.step_wanted (b := true) rfl rfl rfl (by kernel_rfl) (fun _ _ h => h) ?_) ?_
    · intro a w1 hS hsz hold hdep K hK
      obtain ⟨u37, h37, g37, (k37 : u37 = _), c37⟩ := hdep 17 (by kernel_rfl) _ rfl
      subst k37
      replace h37 := h37 37 rfl
      have e37 := Calm.at_getD h37
      have c37_0 := c37 0 _ rfl
      clear c37
      clear hsz hold hdep
      go_simp
      refine (crc1 (A1 := none) (c1 := 0) (n1 := 0) (l1 := []) (R := R) rfl hR.out (by first | decide | omega) (by first | decide | omega) c37_0 (y3.out _ hS)).mono ?_; rintro e w' ⟨rfl, hD⟩; have hB := Drawn0.below' hD
      exact hK _ _ hB rfl
    refine Calm.Steps.cons (Calm.step_wanted (b := true) rfl rfl rfl (by kernel_rfl) (fun _ _ h => h) ?_) ?_
    · intro a w1 hS hsz hold hdep K hK
      obtain ⟨u35, h35, (k35 : u35 = .int .u32 R)⟩ := hdep 15 (by kernel_rfl) _ rfl
      subst k35
      replace h35 := h35 35 rfl
      have e35 := Calm.at_getD h35
      obtain ⟨u38, h38, (k38 : u38 = .int .u32 R)⟩ := hdep 18 (by kernel_rfl) _ rfl
      subst k38
      replace h38 := h38 38 rfl
      have e38 := Calm.at_getD h38
      clear hsz hold hdep
      have v1' := v1 w1 hS
      go_simp
      exact hK _ _ (Below.refl _ _) rfl
    refine Calm.Steps.cons (Calm.step_plain rfl ?_) ?_
    · intro a w1 hS hsz hold hdep K hK
      obtain ⟨u32, h32, (k32 : u32 = .bool true)⟩ := hdep 12 (by kernel_rfl) _ rfl
      subst k32
      replace h32 := h32 32 rfl
      have e32 := Calm.at_getD h32
      obtain ⟨u39, h39, (k39 : u39 = .bool true)⟩ := hdep 19 (by kernel_rfl) _ rfl
      subst k39
      replace h39 := h39 39 rfl
      have e39 := Calm.at_getD h39
      clear hsz hold hdep
      have v1' := v1 w1 hS
      go_simp
      exact hK _ _ (Below.refl _ _) rfl
    refine Calm.Steps.cons (Calm.step_plain rfl ?_) ?_
    · intro a w1 hS hsz hold hdep K hK
      obtain ⟨u40, h40, (k40 : u40 = .bool true)⟩ := hdep 20 (by kernel_rfl) _ rfl
      subst k40
      replace h40 := h40 40 rfl
      have e40 := Calm.at_getD h40
      clear hsz hold hdep
      have v1' := v1 w1 hS
      go_simp
      exact hK _ _ (Below.refl _ _) rfl
    refine Calm.Steps.cons (Calm.step_wanted (b := true) rfl rfl rfl (by kernel_rfl) (fun _ _ h => h) ?_) ?_
    · intro a w1 hS hsz hold hdep K hK
      have h0 : a.tmps[0]? = some (.slice none 0 0) := (hold 0 (by kernel_rfl)).trans rfl
      have e0 := Calm.at_getD h0
      clear hsz hold hdep
      have v1' := v1 w1 hS
      go_simp
      exact hK _ _ (Below.refl _ _) rfl
    refine Calm.Steps.cons (Calm.step_wanted (b := true) rfl rfl rfl (by kernel_rfl) (fun _ _ h => h) ?_) ?_
    · intro a w1 hS hsz hold hdep K hK
      have h5 : a.tmps[5]? = some (.int .i64 (0 : Int)) := (hold 5 (by kernel_rfl)).trans rfl
      have e5 := Calm.at_getD h5
      clear hsz hold hdep
      have v1' := v1 w1 hS
      go_simp
      exact hK _ _ (Below.refl _ _) rfl
    refine Calm.Steps.cons (Calm.step_wanted (b := true) rfl rfl rfl (by kernel_rfl) (fun _ _ h => h) ?_) ?_
    · intro a w1 hS hsz hold hdep K hK
      obtain ⟨u42, h42, (k42 : u42 = .slice none 0 0)⟩ := hdep 22 (by kernel_rfl) _ rfl
      subst k42
      replace h42 := h42 42 rfl
      have e42 := Calm.at_getD h42
      obtain ⟨u43, h43, (k43 : u43 = .int .i64 (0 : Int))⟩ := hdep 23 (by kernel_rfl) _ rfl
      subst k43
      replace h43 := h43 43 rfl
      have e43 := Calm.at_getD h43
      clear hsz hold hdep
      have v1' := v1 w1 hS
      go_simp
      exact hK _ _ (Below.refl _ _) rfl
    refine Calm.Steps.cons (Calm.step_wanted (b := true) rfl rfl rfl (by kernel_rfl) (fun _ _ h => h) ?_) ?_
    · intro a w1 hS hsz hold hdep K hK
      obtain ⟨u44, h44, (k44 : u44 = .slice none 0 0)⟩ := hdep 24 (by kernel_rfl) _ rfl
      subst k44
      replace h44 := h44 44 rfl
      have e44 := Calm.at_getD h44
      clear hsz hold hdep
      have v1' := v1 w1 hS
      go_simp
      exact hK _ _ (Below.refl _ _) rfl
    refine Calm.Steps.cons (Calm.step_wanted (b := true) rfl rfl rfl (by kernel_rfl) (fun _ _ h => h) ?_) ?_
    · intro a w1 hS hsz hold hdep K hK
      have h0 : a.tmps[0]? = some (.slice none 0 0) := (hold 0 (by kernel_rfl)).trans rfl
      have e0 := Calm.at_getD h0
      clear hsz hold hdep
      have v1' := v1 w1 hS
      go_simp
      exact hK _ _ (Below.refl _ _) rfl
    refine Calm.Steps.cons (Calm.step_wanted (b := true) rfl rfl rfl (by kernel_rfl) (fun _ _ h => h) ?_) ?_
    · intro a w1 hS hsz hold hdep K hK
      have h5 : a.tmps[5]? = some (.int .i64 (0 : Int)) := (hold 5 (by kernel_rfl)).trans rfl
      have e5 := Calm.at_getD h5
      clear hsz hold hdep
      have v1' := v1 w1 hS
      go_simp
      exact hK _ _ (Below.refl _ _) rfl
    refine Calm.Steps.cons (Calm.step_wanted (b := true) rfl rfl rfl (by kernel_rfl) (fun _ _ h => h) ?_) ?_
    · intro a w1 hS hsz hold hdep K hK
      obtain ⟨u46, h46, (k46 : u46 = .slice none 0 0)⟩ := hdep 26 (by kernel_rfl) _ rfl
      subst k46
      replace h46 := h46 46 rfl
      have e46 := Calm.at_getD h46
      obtain ⟨u47, h47, (k47 : u47 = .int .i64 (0 : Int))⟩ := hdep 27 (by kernel_rfl) _ rfl
      subst k47
      replace h47 := h47 47 rfl
      have e47 := Calm.at_getD h47
      clear hsz hold hdep
      have v1' := v1 w1 hS
      go_simp
      exact hK _ _ (Below.refl _ _) rfl
    refine Calm.Steps.cons (Calm.step_wanted (b := true) rfl rfl rfl (by kernel_rfl) (fun _ _ h => h) ?_) ?_
    · intro a w1 hS hsz hold hdep K hK
      obtain ⟨u48, h48, (k48 : u48 = .slice none 0 0)⟩ := hdep 28 (by kernel_rfl) _ rfl
      subst k48
      replace h48 := h48 48 rfl
      have e48 := Calm.at_getD h48
      clear hsz hold hdep
      have v1' := v1 w1 hS
      go_simp
      exact hK _ _ (Below.refl _ _) rfl
    refine Calm.Steps.cons (Calm.step_wanted (b := true) rfl rfl rfl (by kernel_rfl) (fun _ _ h => h) ?_) ?_
    · intro a w1 hS hsz hold hdep K hK
      obtain ⟨u45, h45, (k45 : u45 = .string s1)⟩ := hdep 25 (by kernel_rfl) _ rfl
      subst k45
      replace h45 := h45 45 rfl
      have e45 := Calm.at_getD h45
      obtain ⟨u49, h49, (k49 : u49 = .string s1)⟩ := hdep 29 (by kernel_rfl) _ rfl
      subst k49
      replace h49 := h49 49 rfl
      have e49 := Calm.at_getD h49
      clear hsz hold hdep
      go_simp
      refine hK _ _ (by unfold Calm.Grow; go_grown) ⟨_, rfl, fun j u hj => ?_⟩
      rcases j with _ | _ | j
      all_goals first | (simp at hj; done) | (simp at hj; subst hj; go_simp)
    refine Calm.Steps.cons (Calm.step_wanted (b := true) rfl rfl rfl (by kernel_rfl) (fun _ _ h => h) ?_) ?_
    · intro a w1 hS hsz hold hdep K hK
      obtain ⟨u50, h50, g50, (k50 : u50 = _), c50⟩ := hdep 30 (by kernel_rfl) _ rfl
      subst k50
      replace h50 := h50 50 rfl
      have e50 := Calm.at_getD h50
      have c50_0 := c50 0 _ rfl
      have c50_1 := c50 1 _ rfl
      clear c50
      clear hsz hold hdep
      go_simp
      refine (print2 (s1 := s1) (s2 := s1) q1.out q1.out hRp.out c50_0 c50_1).mono ?_; rintro e w' ⟨rfl, hB⟩
      exact hK _ _ hB rfl
    refine Calm.Steps.cons (Calm.step_wanted (b := true) rfl rfl rfl (by kernel_rfl) (fun _ _ h => h) ?_) ?_
    · intro a w1 hS hsz hold hdep K hK
      have h0 : a.tmps[0]? = some (.slice none 0 0) := (hold 0 (by kernel_rfl)).trans rfl
      have e0 := Calm.at_getD h0
      clear hsz hold hdep
      have v1' := v1 w1 hS
      go_simp
      exact hK _ _ (Below.refl _ _) rfl
    refine Calm.Steps.cons (Calm.step_wanted (b := true) rfl rfl rfl (by kernel_rfl) (fun _ _ h => h) ?_) ?_
    · intro a w1 hS hsz hold hdep K hK
      have h5 : a.tmps[5]? = some (.int .i64 (0 : Int)) := (hold 5 (by kernel_rfl)).trans rfl
      have e5 := Calm.at_getD h5
      clear hsz hold hdep
      have v1' := v1 w1 hS
      go_simp
      exact hK _ _ (Below.refl _ _) rfl
    refine Calm.Steps.cons (Calm.step_wanted (b := true) rfl rfl rfl (by kernel_rfl) (fun _ _ h => h) ?_) ?_
    · intro a w1 hS hsz hold hdep K hK
      obtain ⟨u52, h52, (k52 : u52 = .slice none 0 0)⟩ := hdep 32 (by kernel_rfl) _ rfl
      subst k52
      replace h52 := h52 52 rfl
      have e52 := Calm.at_getD h52
      obtain ⟨u53, h53, (k53 : u53 = .int .i64 (0 : Int))⟩ := hdep 33 (by kernel_rfl) _ rfl
      subst k53
      replace h53 := h53 53 rfl
      have e53 := Calm.at_getD h53
      clear hsz hold hdep
      have v1' := v1 w1 hS
      go_simp
      exact hK _ _ (Below.refl _ _) rfl
    refine Calm.Steps.cons (Calm.step_wanted (b := true) rfl rfl rfl (by kernel_rfl) (fun _ _ h => h) ?_) ?_
    · intro a w1 hS hsz hold hdep K hK
      obtain ⟨u54, h54, (k54 : u54 = .slice none 0 0)⟩ := hdep 34 (by kernel_rfl) _ rfl
      subst k54
      replace h54 := h54 54 rfl
      have e54 := Calm.at_getD h54
      clear hsz hold hdep
      have v1' := v1 w1 hS
      go_simp
      exact hK _ _ (Below.refl _ _) rfl
    refine Calm.Steps.cons (Calm.step_wanted (b := true) rfl rfl rfl (by kernel_rfl) (fun _ _ h => h) ?_) ?_
    · intro a w1 hS hsz hold hdep K hK
      have h0 : a.tmps[0]? = some (.slice none 0 0) := (hold 0 (by kernel_rfl)).trans rfl
      have e0 := Calm.at_getD h0
      clear hsz hold hdep
      have v1' := v1 w1 hS
      go_simp
      exact hK _ _ (Below.refl _ _) rfl
    refine Calm.Steps.cons (Calm.step_wanted (b := true) rfl rfl rfl (by kernel_rfl) (fun _ _ h => h) ?_) ?_
    · intro a w1 hS hsz hold hdep K hK
      have h5 : a.tmps[5]? = some (.int .i64 (0 : Int)) := (hold 5 (by kernel_rfl)).trans rfl
      have e5 := Calm.at_getD h5
      clear hsz hold hdep
      have v1' := v1 w1 hS
      go_simp
      exact hK _ _ (Below.refl _ _) rfl
    refine Calm.Steps.cons (Calm.step_wanted (b := true) rfl rfl rfl (by kernel_rfl) (fun _ _ h => h) ?_) ?_
    · intro a w1 hS hsz hold hdep K hK
      obtain ⟨u56, h56, (k56 : u56 = .slice none 0 0)⟩ := hdep 36 (by kernel_rfl) _ rfl
      subst k56
      replace h56 := h56 56 rfl
      have e56 := Calm.at_getD h56
      obtain ⟨u57, h57, (k57 : u57 = .int .i64 (0 : Int))⟩ := hdep 37 (by kernel_rfl) _ rfl
      subst k57
      replace h57 := h57 57 rfl
      have e57 := Calm.at_getD h57
      clear hsz hold hdep
      have v1' := v1 w1 hS
      go_simp
      exact hK _ _ (Below.refl _ _) rfl
    refine Calm.Steps.cons (Calm.step_wanted (b := true) rfl rfl rfl (by kernel_rfl) (fun _ _ h => h) ?_) ?_
    · intro a w1 hS hsz hold hdep K hK
      obtain ⟨u58, h58, (k58 : u58 = .slice none 0 0)⟩ := hdep 38 (by kernel_rfl) _ rfl
      subst k58
      replace h58 := h58 58 rfl
      have e58 := Calm.at_getD h58
      clear hsz hold hdep
      have v1' := v1 w1 hS
      go_simp
      exact hK _ _ (Below.refl _ _) rfl
    refine Calm.Steps.cons (Calm.step_wanted (b := true) rfl rfl rfl (by kernel_rfl) (fun _ _ h => h) ?_) ?_
    · intro a w1 hS hsz hold hdep K hK
      obtain ⟨u55, h55, (k55 : u55 = .string s1)⟩ := hdep 35 (by kernel_rfl) _ rfl
      subst k55
      replace h55 := h55 55 rfl
      have e55 := Calm.at_getD h55
      obtain ⟨u59, h59, (k59 : u59 = .string s1)⟩ := hdep 39 (by kernel_rfl) _ rfl
      subst k59
      replace h59 := h59 59 rfl
      have e59 := Calm.at_getD h59
      clear hsz hold hdep
      go_simp
      refine hK _ _ (by unfold Calm.Grow; go_grown) ⟨_, rfl, fun j u hj => ?_⟩
      rcases j with _ | _ | j
      all_goals first | (simp at hj; done) | (simp at hj; subst hj; go_simp)
    refine Calm.Steps.cons (Calm.step_wanted (b := true) rfl rfl rfl (by kernel_rfl) (fun _ _ h => h) ?_) ?_
    · intro a w1 hS hsz hold hdep K hK
      obtain ⟨u60, h60, g60, (k60 : u60 = _), c60⟩ := hdep 40 (by kernel_rfl) _ rfl
      subst k60
      replace h60 := h60 60 rfl
      have e60 := Calm.at_getD h60
      have c60_0 := c60 0 _ rfl
      have c60_1 := c60 1 _ rfl
      clear c60
      clear hsz hold hdep
      go_simp
      refine (rprint2 (s1 := s1) (s2 := s1) q1.out q1.out hRp.out c60_0 c60_1).mono ?_; rintro e w' ⟨rfl, hD⟩; have hB := Drawn0.below' hD
      exact hK _ _ hB rfl
    refine Calm.Steps.cons (Calm.step_wanted (b := true) rfl rfl rfl (by kernel_rfl) (fun _ _ h => h) ?_) ?_
    · intro a w1 hS hsz hold hdep K hK
      obtain ⟨u51, h51, (k51 : u51 = .int .u64 Rp)⟩ := hdep 31 (by kernel_rfl) _ rfl
      subst k51
      replace h51 := h51 51 rfl
      have e51 := Calm.at_getD h51
      obtain ⟨u61, h61, (k61 : u61 = .int .u64 Rp)⟩ := hdep 41 (by kernel_rfl) _ rfl
      subst k61
      replace h61 := h61 61 rfl
      have e61 := Calm.at_getD h61
      clear hsz hold hdep
      have v1' := v1 w1 hS
      go_simp
      exact hK _ _ (Below.refl _ _) rfl
    refine Calm.Steps.cons (Calm.step_plain rfl ?_) ?_
    · intro a w1 hS hsz hold hdep K hK
      obtain ⟨u41, h41, (k41 : u41 = .bool true)⟩ := hdep 21 (by kernel_rfl) _ rfl
      subst k41
      replace h41 := h41 41 rfl
      have e41 := Calm.at_getD h41
      obtain ⟨u62, h62, (k62 : u62 = .bool true)⟩ := hdep 42 (by kernel_rfl) _ rfl
      subst k62
      replace h62 := h62 62 rfl
      have e62 := Calm.at_getD h62
      clear hsz hold hdep
      have v1' := v1 w1 hS
      go_simp
      exact hK _ _ (Below.refl _ _) rfl
    refine Calm.Steps.cons (Calm.step_plain rfl ?_) ?_
    · intro a w1 hS hsz hold hdep K hK
      obtain ⟨u63, h63, (k63 : u63 = .bool true)⟩ := hdep 43 (by kernel_rfl) _ rfl
      subst k63
      replace h63 := h63 63 rfl
      have e63 := Calm.at_getD h63
      clear hsz hold hdep
      have v1' := v1 w1 hS
      go_simp
      exact hK _ _ (Below.refl _ _) rfl
    exact Calm.Steps.nil
  case fin =>
    intro a w1 hS hsz hdf hold hk
    obtain ⟨u4, h4, (k4 : u4 = .bool true)⟩ := hk 44 _ rfl
    subst k4
    replace h4 := h4 4 rfl
    have e4 := Calm.at_getD h4
    replace hdf : a.defers = [] := hdf
    clear hold hk hsz
    go_wp2_with fail
    refine bodyPost_ret (v := .bool true) (by simp [results, Try.results4, *, go_sem]) hdf ?_
    exact ⟨rfl, hS⟩
end Go.Proofs.Ytbclmclddpdhlaa.S
