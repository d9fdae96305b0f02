/- The walk of SumTurned: bits that are turned. -/
import Derived.Test.YtbclmclddpdhlaaS15
import Derived.Test.YtbclmclddpdhlaaQ2
import Derived.Deep.DeepCutAuto
import Derived.Deep.CutBlock
namespace Go.Proofs.Ytbclmclddpdhlaa.S
open Go Go.RowKit Go.Proofs.Ytbclmclddpdhlaa Go.Proofs.YtbclmclddpdhlaaW.PrintWords Go.Proofs.YtbclmclddpdhlaaW.PrintLast Go.Proofs.YtbclmclddpdhlaaW.PrintMore
set_option linter.unusedVariables false
set_option linter.unusedSimpArgs false
theorem bits_xor8 {a b : Nat} (ha : a < 256) (hb : b < 256) : bits .xor .u8 (a : Int) (b : Int) = ((a ^^^ b : Nat) : Int) := by
  have e : bits .xor .u8 (a : Int) (b : Int) = IntKind.u8.wrap (((BitVec.ofInt 8 a ^^^ BitVec.ofInt 8 b : BitVec 8).toNat : Nat) : Int) := rfl
  have ea : (BitVec.ofInt 8 (a : Int)).toNat = a := by rw [BitVec.toNat_ofInt]; omega
  have eb : (BitVec.ofInt 8 (b : Int)).toNat = b := by rw [BitVec.toNat_ofInt]; omega
  have hx : a ^^^ b < 256 := Nat.xor_lt_two_pow (n := 8) ha hb
  rw [e, BitVec.toNat_xor, ea, eb, IntKind.wrap_u8]
  omega
theorem Mine.C' {w w' : World} {g n : Nat} {ys : List Nat} (h : Mine w g ys) (hB : Below w.heap.size w w') (hn : ys.length = n) (hl : n ≤ 1000) : Kd.C (Kd.int .u8) w' (some ⟨g, 0, none⟩) n (ints ys) := by
  subst hn
  exact (h.below hB).C hl
theorem tl_inj {a b : ByteArray} (h : a.toList = b.toList) : a = b := by
  rw [Go.ByteArray.toList_eq, Go.ByteArray.toList_eq] at h
  cases a; cases b
  simp at h
  rw [h]
theorem one_S {W : World} {g : Addr} {s1 : ByteArray} (h0 : W.cell? g = some (.string s1)) : Kd.C Kd.string W (some g) 1 [s1] := by
  refine H.C_str (l := [s1]) (by simp) (fun j p hj => ?_)
  rcases j with _ | j
  · simp at hj; subst hj; simpa [Addr.add] using h0
  · simp at hj
theorem ok_one {s1 : ByteArray} (b1 : s1.size ≤ 1000) : H.okL [s1] = true := by unfold H.okL; simp; omega
theorem print1 {W : World} {b : Nat} {s1 : ByteArray} {R : Int} (b1 : s1.size ≤ 1000) (hR : H.prN [s1] 1 = R) (h0 : W.cell? ⟨b, 0, none⟩ = some (.string s1)) :
    Calls Try.prog 11 #[.slice (some ⟨b, 0, none⟩) 1 1] W fun e w' => e = .returned (.int .u64 R) ∧ Below W.heap.size W w' := by
  subst hR
  exact H.print_calls _ 1 [s1] W (one_S (g := ⟨b, 0, none⟩) h0) (ok_one b1)
theorem rprint1 {W : World} {b : Nat} {s1 : ByteArray} {R : Int} (b1 : s1.size ≤ 1000) (hR : H.prN [s1] 1 = R) (h0 : W.cell? ⟨b, 0, none⟩ = some (.string s1)) :
    Calls Try.prog 13 #[.slice (some ⟨b, 0, none⟩) 1 1] W fun e w' => e = .returned (.int .u64 R) ∧ Below W.heap.size W w' := by
  obtain ⟨K, hK⟩ := rp_ev (ok_one b1)
  subst hR
  exact (PD.augurref1_Print.calls K _ 1 [s1] _ W (one_S (g := ⟨b, 0, none⟩) h0) (by simp) (hK K (Nat.le_refl _))).mono fun e w' ⟨h1, h2⟩ => ⟨h1, Drawn0.below' h2⟩
set_option maxHeartbeats 8000000 in
set_option maxRecDepth 100000 in
theorem turned_walk (ad : Addr) (cap : Nat) (ys : List Nat) (hb1 : ∀ y ∈ ys, y < 256) (x1 x2 x3 : Int) (hx1 : 0 ≤ x1 ∧ x1 ≤ 65535) (hx2 : 0 ≤ x2 ∧ x2 ≤ 65535) (hx3 : 0 ≤ x3 ∧ x3 ≤ 65535) (w : World) (hl : ys.length ≤ 500) (hpos : 0 < ys.length) (hc : ys.length ≤ cap) (hr : Kd.C (Kd.int .u8) w (some ad) ys.length (ints ys)) :
    Calls Try.prog 5 #[.slice (some ad) ys.length cap, .int .u16 x1, .int .u16 x2, .int .u16 x3] w fun e w' => e = .returned (.bool true) ∧ Below w.heap.size w w' := by
  obtain ⟨N, hN⟩ : ∃ N : Nat, 8 * ys.length = N := ⟨_, rfl⟩
  obtain ⟨r1, hR1⟩ : ∃ r : Nat, Hid (Int.tmod x1 (N : Int) = (r : Int)) := ⟨(Int.tmod x1 N).toNat, Lib.hid (by have := Int.tmod_nonneg (N : Int) hx1.1; omega)⟩
  have hr1 : r1 < 8 * ys.length := by have h1 := Int.tmod_lt_of_pos x1 (show (0 : Int) < (N : Int) by omega); rw [hR1.out] at h1; omega
  obtain ⟨p1, hpe1⟩ : ∃ p, r1 / 8 = p := ⟨_, rfl⟩
  obtain ⟨q1, hqe1⟩ : ∃ q, r1 % 8 = q := ⟨_, rfl⟩
  have hp1 : Hid (IntKind.i64.wrap ((r1 : Int) / 8) = (p1 : Int)) := Lib.hid (by rw [← hpe1, IntKind.wrap_i64]; omega)
  have hq1 : Hid (Int.tmod (r1 : Int) 8 = (q1 : Int)) := Lib.hid (by rw [← hqe1, Int.tmod_eq_emod_of_nonneg (by omega)]; omega)
  have hq81 : Hid (q1 = 0 ∨ q1 = 1 ∨ q1 = 2 ∨ q1 = 3 ∨ q1 = 4 ∨ q1 = 5 ∨ q1 = 6 ∨ q1 = 7) := Lib.hid (by omega)
  have hQ1 : Hid (2 ^ q1 < 256) := Lib.hid (by rcases hq81.out with h | h | h | h | h | h | h | h <;> subst h <;> decide)
  have hpL1 : p1 < ys.length := by omega
  have hpl1 : Hid (p1 < (ys).length) := Lib.hid (by simpa [turn_length] using hpL1)
  obtain ⟨y1, hyy1⟩ : ∃ y, (ys)[p1]? = some y := ⟨_, List.getElem?_eq_getElem hpl1.out⟩
  have hpy1 : Hid ((ys)[p1]? = some y1) := Lib.hid hyy1
  have hgd1 : Hid ((ys).getD p1 0 = y1) := Lib.hid (by rw [List.getD_eq_getElem?_getD, hyy1]; rfl)
  have hy1 : Hid (y1 < 256) := Lib.hid (hb1 y1 (List.mem_of_getElem? hyy1))
  have hw1 : Hid (IntKind.i64.wrap x1 = x1) := Lib.hid (by rw [IntKind.wrap_i64]; omega)
  have i1_1 : (0 : Int) ≤ (p1 : Int) := by omega
  have i2_1 : (p1 : Int) < (ys.length : Int) := by omega
  have i3_1 : (0 : Int) ≤ (q1 : Int) := by omega
  have hq71 : q1 < 8 := by omega
  have hb2 := turn_bytes (p := p1) hb1 hq71
  obtain ⟨r2, hR2⟩ : ∃ r : Nat, Hid (Int.tmod x2 (N : Int) = (r : Int)) := ⟨(Int.tmod x2 N).toNat, Lib.hid (by have := Int.tmod_nonneg (N : Int) hx2.1; omega)⟩
  have hr2 : r2 < 8 * ys.length := by have h1 := Int.tmod_lt_of_pos x2 (show (0 : Int) < (N : Int) by omega); rw [hR2.out] at h1; omega
  obtain ⟨p2, hpe2⟩ : ∃ p, r2 / 8 = p := ⟨_, rfl⟩
  obtain ⟨q2, hqe2⟩ : ∃ q, r2 % 8 = q := ⟨_, rfl⟩
  have hp2 : Hid (IntKind.i64.wrap ((r2 : Int) / 8) = (p2 : Int)) := Lib.hid (by rw [← hpe2, IntKind.wrap_i64]; omega)
  have hq2 : Hid (Int.tmod (r2 : Int) 8 = (q2 : Int)) := Lib.hid (by rw [← hqe2, Int.tmod_eq_emod_of_nonneg (by omega)]; omega)
  have hq82 : Hid (q2 = 0 ∨ q2 = 1 ∨ q2 = 2 ∨ q2 = 3 ∨ q2 = 4 ∨ q2 = 5 ∨ q2 = 6 ∨ q2 = 7) := Lib.hid (by omega)
  have hQ2 : Hid (2 ^ q2 < 256) := Lib.hid (by rcases hq82.out with h | h | h | h | h | h | h | h <;> subst h <;> decide)
  have hpL2 : p2 < ys.length := by omega
  have hpl2 : Hid (p2 < (turn ys p1 q1).length) := Lib.hid (by simpa [turn_length] using hpL2)
  obtain ⟨y2, hyy2⟩ : ∃ y, (turn ys p1 q1)[p2]? = some y := ⟨_, List.getElem?_eq_getElem hpl2.out⟩
  have hpy2 : Hid ((turn ys p1 q1)[p2]? = some y2) := Lib.hid hyy2
  have hgd2 : Hid ((turn ys p1 q1).getD p2 0 = y2) := Lib.hid (by rw [List.getD_eq_getElem?_getD, hyy2]; rfl)
  have hy2 : Hid (y2 < 256) := Lib.hid (hb2 y2 (List.mem_of_getElem? hyy2))
  have hw2 : Hid (IntKind.i64.wrap x2 = x2) := Lib.hid (by rw [IntKind.wrap_i64]; omega)
  have i1_2 : (0 : Int) ≤ (p2 : Int) := by omega
  have i2_2 : (p2 : Int) < (ys.length : Int) := by omega
  have i3_2 : (0 : Int) ≤ (q2 : Int) := by omega
  have hq72 : q2 < 8 := by omega
  have hb3 := turn_bytes (p := p2) hb2 hq72
  obtain ⟨r3, hR3⟩ : ∃ r : Nat, Hid (Int.tmod x3 (N : Int) = (r : Int)) := ⟨(Int.tmod x3 N).toNat, Lib.hid (by have := Int.tmod_nonneg (N : Int) hx3.1; omega)⟩
  have hr3 : r3 < 8 * ys.length := by have h1 := Int.tmod_lt_of_pos x3 (show (0 : Int) < (N : Int) by omega); rw [hR3.out] at h1; omega
  obtain ⟨p3, hpe3⟩ : ∃ p, r3 / 8 = p := ⟨_, rfl⟩
  obtain ⟨q3, hqe3⟩ : ∃ q, r3 % 8 = q := ⟨_, rfl⟩
  have hp3 : Hid (IntKind.i64.wrap ((r3 : Int) / 8) = (p3 : Int)) := Lib.hid (by rw [← hpe3, IntKind.wrap_i64]; omega)
  have hq3 : Hid (Int.tmod (r3 : Int) 8 = (q3 : Int)) := Lib.hid (by rw [← hqe3, Int.tmod_eq_emod_of_nonneg (by omega)]; omega)
  have hq83 : Hid (q3 = 0 ∨ q3 = 1 ∨ q3 = 2 ∨ q3 = 3 ∨ q3 = 4 ∨ q3 = 5 ∨ q3 = 6 ∨ q3 = 7) := Lib.hid (by omega)
  have hQ3 : Hid (2 ^ q3 < 256) := Lib.hid (by rcases hq83.out with h | h | h | h | h | h | h | h <;> subst h <;> decide)
  have hpL3 : p3 < ys.length := by omega
  have hpl3 : Hid (p3 < (turn (turn ys p1 q1) p2 q2).length) := Lib.hid (by simpa [turn_length] using hpL3)
  obtain ⟨y3, hyy3⟩ : ∃ y, (turn (turn ys p1 q1) p2 q2)[p3]? = some y := ⟨_, List.getElem?_eq_getElem hpl3.out⟩
  have hpy3 : Hid ((turn (turn ys p1 q1) p2 q2)[p3]? = some y3) := Lib.hid hyy3
  have hgd3 : Hid ((turn (turn ys p1 q1) p2 q2).getD p3 0 = y3) := Lib.hid (by rw [List.getD_eq_getElem?_getD, hyy3]; rfl)
  have hy3 : Hid (y3 < 256) := Lib.hid (hb3 y3 (List.mem_of_getElem? hyy3))
  have hw3 : Hid (IntKind.i64.wrap x3 = x3) := Lib.hid (by rw [IntKind.wrap_i64]; omega)
  have i1_3 : (0 : Int) ≤ (p3 : Int) := by omega
  have i2_3 : (p3 : Int) < (ys.length : Int) := by omega
  have i3_3 : (0 : Int) ≤ (q3 : Int) := by omega
  have hq73 : q3 < 8 := by omega
  have hb4 := turn_bytes (p := p3) hb3 hq73
  have n1 := crc_turn_one hb1 hpL1 hq71
  have n3 := crc_turn_three hb1 hl hpL1 hpL2 hpL3 hq71 hq72 hq73
  have l1 : (turn ys p1 q1).length = ys.length := turn_length _ _ _
  have l3 : (turn (turn (turn ys p1 q1) p2 q2) p3 q3).length = ys.length := by simp only [turn_length]
  obtain ⟨Rb, hRb⟩ : ∃ R, Hid (crcV [ints ys] = R) := ⟨_, Lib.hid rfl⟩
  obtain ⟨R1, hR1'⟩ : ∃ R, Hid (crcV [ints (turn ys p1 q1)] = R) := ⟨_, Lib.hid rfl⟩
  obtain ⟨R3, hR3'⟩ : ∃ R, Hid (crcV [ints (turn (turn (turn ys p1 q1) p2 q2) p3 q3)] = R) := ⟨_, Lib.hid rfl⟩
  obtain ⟨sb, hsb⟩ : ∃ s, Hid (strOfNums (ints ys) = s) := ⟨_, Lib.hid rfl⟩
  obtain ⟨s3, hs3⟩ : ∃ s, Hid (strOfNums (ints (turn (turn (turn ys p1 q1) p2 q2) p3 q3)) = s) := ⟨_, Lib.hid rfl⟩
  have ns : s3 ≠ sb := fun e => n3 (by rw [str_inj hb4 hb1 (hs3.out.trans (e.trans hsb.out.symm))])
  rw [hRb.out, hR1'.out] at n1
  rw [hRb.out, hR3'.out] at n3
  have nsl : ¬ s3.toList = sb.toList := fun e => ns (tl_inj e)
  have n1b : (R1 == Rb) = false := beq_eq_false_iff_ne.mpr n1
  have n3b : (R3 == Rb) = false := beq_eq_false_iff_ne.mpr n3
  have s3s : s3.size ≤ 1000 := by rw [← hs3.out, strOfNums_size]; unfold ints; rw [List.length_map, l3]; omega
  obtain ⟨P3, hP3⟩ : ∃ R, Hid (H.prN [s3] 1 = R) := ⟨_, Lib.hid rfl⟩
  have vb : ∀ W : World, Below w.heap.size w W → (convert 33 9 (.slice (some ad) ys.length cap)).run Try.prog W = .ok (.string sb) W := fun W h => by rw [← hsb.out]; exact CONV (Kd.C_below hr h)
  have hN0 : ((N : Int) == 0) = false := beq_eq_false_iff_ne.mpr (by omega)
  have hN1 : (N : Int) ≠ 0 := by omega
  have hN2 : ¬ N = 0 := by omega
  have hNN : Hid (8 * (ys.length : Int) = (N : Int)) := Lib.hid (by omega)
  have nV : Value.int .i64 (wrap64 (8 * (ys.length : Int))) = Value.int .i64 (N : Int) := by congr 1; unfold wrap64; omega
  have g0 : ((ys.length : Int) == 0) = false := beq_eq_false_iff_ne.mpr (by omega)
  have g1 : decide ((500 : Int) < (ys.length : Int)) = false := decide_eq_false (by omega)
  have g2 : ¬ (ys.length : Int) = 0 := by omega
  have hrr := Lib.hid hr
  have L1 : ys.length ≤ 1000 := by omega
  clear hpe1 hqe1 hr1 hx1 hyy1 hpe2 hqe2 hr2 hx2 hyy2 hpe3 hqe3 hr3 hx3 hyy3 hr hb2 hb3 hN n1 n3
  go_enter Try.func5, Try.ntmps5
  go_upto_region 7 with (first | (go_at_call 7; (with_reducible refine (H.known_any _).mono ?_); rintro e w1 ⟨rfl, hB⟩) | (at_builtin; refine wpl_copy rfl (.const (.slice none 0 0)) (.tmp 21) rfl rfl ad cap ys rfl (Kd.C_below hrr.out hB) L1 hpos ?_; intro g c w2 hg hgc hM hB2; have hgw : w.heap.size ≤ g := Nat.le_trans hB.size hg; replace hB := below_call2 (w := w) hB hB2; clear hB2))
  go_cut [] (fun wd => Mine wd g (turn (ys) p1 q1) ∧ Below w.heap.size w wd)
  case first =>
    refine Calm2.wp_calm_late (by kernel_rfl) _ ((Calm2.isV (.slice (some ⟨g, 0, none⟩) ys.length c)) :: (Calm2.isV (.int .u16 x1)) :: (Calm2.isV (.int .i64 x1)) :: (Calm2.isV (.int .i64 (N : Int))) :: (Calm2.isV (.int .i64 (r1 : Int))) :: (Calm2.isV (.int .i64 (p1 : Int))) :: (Calm2.isV (.pointer (some ⟨g, p1, none⟩))) :: (Calm2.isV (.int .u8 (y1 : Int))) :: (Calm2.isV (.int .u16 x1)) :: (Calm2.isV (.int .i64 x1)) :: (Calm2.isV (.int .i64 (N : Int))) :: (Calm2.isV (.int .i64 (r1 : Int))) :: (Calm2.isV (.int .i64 (q1 : Int))) :: (Calm2.isV (.int .u8 ((2 ^ q1 : Nat) : Int))) :: (Calm2.isV (.int .u8 ((y1 ^^^ 2 ^ q1 : Nat) : Int))) :: (Calm2.isV (.pointer (some ⟨g, p1, none⟩))) :: (Calm2.anyV) :: []) (fun k => decide (k < 16)) [] ?hL (by kernel_rfl) (by kernel_rfl) (by kernel_rfl) (Below.refl _ _) ?step ?fin
    case hL => repeat' (first | exact List.forall_mem_nil _ | refine List.forall_mem_cons.2 ⟨by first | exact Calm2.stable_is _ | exact Calm2.stable_row _ _ | exact Calm2.stable_any | exact Calm2.stable_var _ _ | exact Calm2.stable_if _ _, ?_⟩)
    case step =>
      refine Calm2.StepsJ.cons (Calm2.stepJ_of (by kernel_rfl) (by kernel_rfl) rfl (by rfl) (Calm2.step_plain rfl ?_)) ?_
      · intro a_ w1 hS hsz hold hdep K hK
        have h9 : a_.tmps[9]? = some (.slice (some ⟨g, 0, none⟩) ys.length c) := (hold 9 (by kernel_rfl)).trans rfl
        have e9 := Calm2.at_getD h9
        clear hsz hold hdep
        have hM1 := Mine.below hM hS
        have hcell := (hM1 p1 y1 hpy1.out).1
        clear hM1
        go_simp
        exact hK _ _ (Below.refl _ _) rfl
      refine Calm2.StepsJ.cons (Calm2.stepJ_of (by kernel_rfl) (by kernel_rfl) rfl (by rfl) (Calm2.step_plain rfl ?_)) ?_
      · intro a_ w1 hS hsz hold hdep K hK
        have h1 : a_.tmps[1]? = some (.int .u16 x1) := (hold 1 (by kernel_rfl)).trans rfl
        have e1 := Calm2.at_getD h1
        clear hsz hold hdep
        have hM1 := Mine.below hM hS
        have hcell := (hM1 p1 y1 hpy1.out).1
        clear hM1
        go_simp
        exact hK _ _ (Below.refl _ _) rfl
      refine Calm2.StepsJ.cons (Calm2.stepJ_of (by kernel_rfl) (by kernel_rfl) rfl (by rfl) (Calm2.step_plain rfl ?_)) ?_
      · intro a_ w1 hS hsz hold hdep K hK
        have h27 := Calm2.is_at (x := .int .u16 x1) hdep (k := 1) (by kernel_rfl) rfl rfl (fun _ _ h => h)
        have e27 := Calm2.at_getD h27
        clear hsz hold hdep
        have hM1 := Mine.below hM hS
        have hcell := (hM1 p1 y1 hpy1.out).1
        clear hM1
        go_simp
        refine hK _ _ (Below.refl _ _) ?_
        exact congrArg (Value.int IntKind.i64) (by first | rfl | exact hw1.out)
      refine Calm2.StepsJ.cons (Calm2.stepJ_of (by kernel_rfl) (by kernel_rfl) rfl (by rfl) (Calm2.step_plain rfl ?_)) ?_
      · intro a_ w1 hS hsz hold hdep K hK
        have h10 : a_.tmps[10]? = some (.int .i64 (N : Int)) := (hold 10 (by kernel_rfl)).trans (by first | rfl | exact congrArg (fun n => some (Value.int IntKind.i64 n)) hNN.out)
        have e10 := Calm2.at_getD h10
        clear hsz hold hdep
        have hM1 := Mine.below hM hS
        have hcell := (hM1 p1 y1 hpy1.out).1
        clear hM1
        go_simp
        exact hK _ _ (Below.refl _ _) rfl
      refine Calm2.StepsJ.cons (Calm2.stepJ_of (by kernel_rfl) (by kernel_rfl) rfl (by rfl) (Calm2.step_plain rfl ?_)) ?_
      · intro a_ w1 hS hsz hold hdep K hK
        have h28 := Calm2.is_at (x := .int .i64 x1) hdep (k := 2) (by kernel_rfl) rfl rfl (fun _ _ h => h)
        have e28 := Calm2.at_getD h28
        have h29 := Calm2.is_at (x := .int .i64 (N : Int)) hdep (k := 3) (by kernel_rfl) rfl rfl (fun _ _ h => h)
        have e29 := Calm2.at_getD h29
        clear hsz hold hdep
        have hM1 := Mine.below hM hS
        have hcell := (hM1 p1 y1 hpy1.out).1
        clear hM1
        go_simp
        refine hK _ _ (Below.refl _ _) ?_
        exact congrArg (Value.int IntKind.i64) (by first | rfl | exact hR1.out)
      refine Calm2.StepsJ.cons (Calm2.stepJ_of (by kernel_rfl) (by kernel_rfl) rfl (by rfl) (Calm2.step_plain rfl ?_)) ?_
      · intro a_ w1 hS hsz hold hdep K hK
        have h30 := Calm2.is_at (x := .int .i64 (r1 : Int)) hdep (k := 4) (by kernel_rfl) rfl rfl (fun _ _ h => h)
        have e30 := Calm2.at_getD h30
        clear hsz hold hdep
        have hM1 := Mine.below hM hS
        have hcell := (hM1 p1 y1 hpy1.out).1
        clear hM1
        go_simp
        refine hK _ _ (Below.refl _ _) ?_
        exact congrArg (Value.int IntKind.i64) (by first | rfl | exact hp1.out)
      refine Calm2.StepsJ.cons (Calm2.stepJ_of (by kernel_rfl) (by kernel_rfl) rfl (by rfl) (Calm2.step_plain rfl ?_)) ?_
      · intro a_ w1 hS hsz hold hdep K hK
        have h26 := Calm2.is_at (x := .slice (some ⟨g, 0, none⟩) ys.length c) hdep (k := 0) (by kernel_rfl) rfl rfl (fun _ _ h => h)
        have e26 := Calm2.at_getD h26
        have h31 := Calm2.is_at (x := .int .i64 (p1 : Int)) hdep (k := 5) (by kernel_rfl) rfl rfl (fun _ _ h => h)
        have e31 := Calm2.at_getD h31
        clear hsz hold hdep
        have hM1 := Mine.below hM hS
        have hcell := (hM1 p1 y1 hpy1.out).1
        clear hM1
        go_simp
        exact hK _ _ (Below.refl _ _) rfl
      refine Calm2.StepsJ.cons (Calm2.stepJ_of (by kernel_rfl) (by kernel_rfl) rfl (by rfl) (Calm2.step_plain rfl ?_)) ?_
      · intro a_ w1 hS hsz hold hdep K hK
        have h32 := Calm2.is_at (x := .pointer (some ⟨g, p1, none⟩)) hdep (k := 6) (by kernel_rfl) rfl rfl (fun _ _ h => h)
        have e32 := Calm2.at_getD h32
        clear hsz hold hdep
        have hM1 := Mine.below hM hS
        have hcell := (hM1 p1 y1 hpy1.out).1
        clear hM1
        go_simp
        exact hK _ _ (Below.refl _ _) rfl
      refine Calm2.StepsJ.cons (Calm2.stepJ_of (by kernel_rfl) (by kernel_rfl) rfl (by rfl) (Calm2.step_plain rfl ?_)) ?_
      · intro a_ w1 hS hsz hold hdep K hK
        have h1 : a_.tmps[1]? = some (.int .u16 x1) := (hold 1 (by kernel_rfl)).trans rfl
        have e1 := Calm2.at_getD h1
        clear hsz hold hdep
        have hM1 := Mine.below hM hS
        have hcell := (hM1 p1 y1 hpy1.out).1
        clear hM1
        go_simp
        exact hK _ _ (Below.refl _ _) rfl
      refine Calm2.StepsJ.cons (Calm2.stepJ_of (by kernel_rfl) (by kernel_rfl) rfl (by rfl) (Calm2.step_plain rfl ?_)) ?_
      · intro a_ w1 hS hsz hold hdep K hK
        have h34 := Calm2.is_at (x := .int .u16 x1) hdep (k := 8) (by kernel_rfl) rfl rfl (fun _ _ h => h)
        have e34 := Calm2.at_getD h34
        clear hsz hold hdep
        have hM1 := Mine.below hM hS
        have hcell := (hM1 p1 y1 hpy1.out).1
        clear hM1
        go_simp
        refine hK _ _ (Below.refl _ _) ?_
        exact congrArg (Value.int IntKind.i64) (by first | rfl | exact hw1.out)
      refine Calm2.StepsJ.cons (Calm2.stepJ_of (by kernel_rfl) (by kernel_rfl) rfl (by rfl) (Calm2.step_plain rfl ?_)) ?_
      · intro a_ w1 hS hsz hold hdep K hK
        have h10 : a_.tmps[10]? = some (.int .i64 (N : Int)) := (hold 10 (by kernel_rfl)).trans (by first | rfl | exact congrArg (fun n => some (Value.int IntKind.i64 n)) hNN.out)
        have e10 := Calm2.at_getD h10
        clear hsz hold hdep
        have hM1 := Mine.below hM hS
        have hcell := (hM1 p1 y1 hpy1.out).1
        clear hM1
        go_simp
        exact hK _ _ (Below.refl _ _) rfl
      refine Calm2.StepsJ.cons (Calm2.stepJ_of (by kernel_rfl) (by kernel_rfl) rfl (by rfl) (Calm2.step_plain rfl ?_)) ?_
      · intro a_ w1 hS hsz hold hdep K hK
        have h35 := Calm2.is_at (x := .int .i64 x1) hdep (k := 9) (by kernel_rfl) rfl rfl (fun _ _ h => h)
        have e35 := Calm2.at_getD h35
        have h36 := Calm2.is_at (x := .int .i64 (N : Int)) hdep (k := 10) (by kernel_rfl) rfl rfl (fun _ _ h => h)
        have e36 := Calm2.at_getD h36
        clear hsz hold hdep
        have hM1 := Mine.below hM hS
        have hcell := (hM1 p1 y1 hpy1.out).1
        clear hM1
        go_simp
        refine hK _ _ (Below.refl _ _) ?_
        exact congrArg (Value.int IntKind.i64) (by first | rfl | exact hR1.out)
      refine Calm2.StepsJ.cons (Calm2.stepJ_of (by kernel_rfl) (by kernel_rfl) rfl (by rfl) (Calm2.step_plain rfl ?_)) ?_
      · intro a_ w1 hS hsz hold hdep K hK
        have h37 := Calm2.is_at (x := .int .i64 (r1 : Int)) hdep (k := 11) (by kernel_rfl) rfl rfl (fun _ _ h => h)
        have e37 := Calm2.at_getD h37
        clear hsz hold hdep
        have hM1 := Mine.below hM hS
        have hcell := (hM1 p1 y1 hpy1.out).1
        clear hM1
        go_simp
        refine hK _ _ (Below.refl _ _) ?_
        exact congrArg (Value.int IntKind.i64) (by first | rfl | exact hq1.out)
      refine Calm2.StepsJ.cons (Calm2.stepJ_of (by kernel_rfl) (by kernel_rfl) rfl (by rfl) (Calm2.step_plain rfl ?_)) ?_
      · intro a_ w1 hS hsz hold hdep K hK
        have h38 := Calm2.is_at (x := .int .i64 (q1 : Int)) hdep (k := 12) (by kernel_rfl) rfl rfl (fun _ _ h => h)
        have e38 := Calm2.at_getD h38
        clear hsz hold hdep
        have hM1 := Mine.below hM hS
        have hcell := (hM1 p1 y1 hpy1.out).1
        clear hM1
        go_simp
        rcases hq81.out with h | h | h | h | h | h | h | h <;> subst h <;> first | exact hK _ _ (Below.refl _ _) rfl | (simp; exact hK _ _ (Below.refl _ _) rfl)
      refine Calm2.StepsJ.cons (Calm2.stepJ_of (by kernel_rfl) (by kernel_rfl) rfl (by rfl) (Calm2.step_plain rfl ?_)) ?_
      · intro a_ w1 hS hsz hold hdep K hK
        have h33 := Calm2.is_at (x := .int .u8 (y1 : Int)) hdep (k := 7) (by kernel_rfl) rfl rfl (fun _ _ h => h)
        have e33 := Calm2.at_getD h33
        have h39 := Calm2.is_at (x := .int .u8 ((2 ^ q1 : Nat) : Int)) hdep (k := 13) (by kernel_rfl) rfl rfl (fun _ _ h => h)
        have e39 := Calm2.at_getD h39
        clear hsz hold hdep
        have hM1 := Mine.below hM hS
        have hcell := (hM1 p1 y1 hpy1.out).1
        clear hM1
        go_simp
        refine hK _ _ (Below.refl _ _) ?_
        exact congrArg (Value.int IntKind.u8) (bits_xor8 hy1.out hQ1.out)
      refine Calm2.StepsJ.cons (Calm2.stepJ_of (by kernel_rfl) (by kernel_rfl) rfl (by rfl) (Calm2.step_plain rfl ?_)) ?_
      · intro a_ w1 hS hsz hold hdep K hK
        have h26 := Calm2.is_at (x := .slice (some ⟨g, 0, none⟩) ys.length c) hdep (k := 0) (by kernel_rfl) rfl rfl (fun _ _ h => h)
        have e26 := Calm2.at_getD h26
        have h31 := Calm2.is_at (x := .int .i64 (p1 : Int)) hdep (k := 5) (by kernel_rfl) rfl rfl (fun _ _ h => h)
        have e31 := Calm2.at_getD h31
        clear hsz hold hdep
        have hM1 := Mine.below hM hS
        have hcell := (hM1 p1 y1 hpy1.out).1
        clear hM1
        go_simp
        exact hK _ _ (Below.refl _ _) rfl
      refine Calm2.StepsJ.skip rfl ?_
      exact Calm2.StepsJ.nil
    case fin =>
      intro v w1 hS hv hJ
      have k14 : v 14 = .int .u8 ((y1 ^^^ 2 ^ q1 : Nat) : Int) := hv 14 (by decide) rfl
      have k15 : v 15 = .pointer (some ⟨g, p1, none⟩) := hv 15 (by decide) rfl
      have hM1 := Mine.below hM hS
      obtain ⟨f1, f2⟩ := hM1 p1 y1 hpy1.out
      have hB1 := below_call2 (w := w) hB hS
      clear hv hJ
      refine Calm2.wpAny_cast (n' := 1) (L' := #[true, true, true, true, true, true, true, true, true, true, true, true, true, true, true, true, false]) (by kernel_rfl) (by kernel_rfl) ?_
      simp only [List.append, Calm2.puts, Act.put, List.setIfInBounds_toArray, List.set_cons_zero, List.set_cons_succ]
      simp only [k14, k15]
      clear k14 k15
      refine Calm2.wpAny_one (i := 16) (by kernel_rfl) rfl rfl (fun K hK => ?_)
      go_simp
      refine hK _ _ ?_
      clear hK
      refine Calm2.wpAny_end (by kernel_rfl) ?_
      have hT := Mine.turn (q := q1) hM1 hpl1.out
      rw [hgd1.out] at hT
      have hBs : Below w.heap.size w (w1.setCell ⟨g, p1, none⟩ (.int .u8 ((y1 ^^^ 2 ^ q1 : Nat) : Int))) := by (go_grown; all_goals exact hgw)
      clear hM1 f1 f2
      go_wp2_with fail
      go_meet
      case rel => exact ⟨hT, hBs⟩
  case rest =>
    clear hM hB
    obtain ⟨hM, hB⟩ := hcut
    go_upto_region 8 with (fail)
    go_cut [48] (fun v wd => v = .bool false ∧ Mine wd g (turn ys p1 q1) ∧ Below w.heap.size w wd)
    case first =>
      go_wp2_with (first | (go_at_call 9; (with_reducible refine (crc1 (A1 := some ⟨g, 0, none⟩) (c1 := c) (n1 := ys.length) (l1 := ints (turn ys p1 q1)) (R := R1) ?_ ?_ ?_ ?_ ?_ ?_).mono ?_); (focus exact (by unfold ints; rw [List.length_map, l1])); (focus exact hR1'.out); (focus exact L1); (focus exact hgc); (focus go_simp); (focus exact Mine.C' hM (by first | exact Below.refl _ _ | go_grown) l1 L1); rintro e w7 ⟨rfl, hD⟩; have hM7 := Mine.below (Mine.below hM (by first | exact Below.refl _ _ | go_grown)) (Drawn0.below' hD); have hB7 := below_call2 (w := w) (by first | exact hB | (go_grown; all_goals first | exact hB | exact hB.size)) (Drawn0.below' hD); clear hD) | (go_at_call 9; (with_reducible refine (crc1 (A1 := some ad) (c1 := cap) (n1 := ys.length) (l1 := ints ys) (R := Rb) ?_ ?_ ?_ ?_ ?_ ?_).mono ?_); (focus exact (by unfold ints; rw [List.length_map])); (focus exact hRb.out); (focus exact L1); (focus exact hc); (focus go_simp); (focus exact Kd.C_below hrr.out (by first | exact hB7 | (go_grown; all_goals first | exact hB7 | exact hB7.size))); rintro e w8 ⟨rfl, hD⟩; have hM8 := Mine.below (Mine.below hM7 (by first | exact Below.refl _ _ | go_grown)) (Drawn0.below' hD); have hB8 := below_call2 (w := w) (by first | exact hB7 | (go_grown; all_goals first | exact hB7 | exact hB7.size)) (Drawn0.below' hD); clear hD))
      go_meet
      case rel => exact ⟨by first | rfl | simp, hM8, hB8⟩
    case rest =>
      clear hM hB
      obtain ⟨rfl, hM, hB⟩ := hcut
      go_upto_region 10 with (fail)
      go_cut [] (fun wd => Mine wd g (turn (turn ys p1 q1) p2 q2) ∧ Below w.heap.size w wd)
      case first =>
        refine Calm2.wp_calm_late (by kernel_rfl) _ ((Calm2.isV (.slice (some ⟨g, 0, none⟩) ys.length c)) :: (Calm2.isV (.int .u16 x2)) :: (Calm2.isV (.int .i64 x2)) :: (Calm2.isV (.int .i64 (N : Int))) :: (Calm2.isV (.int .i64 (r2 : Int))) :: (Calm2.isV (.int .i64 (p2 : Int))) :: (Calm2.isV (.pointer (some ⟨g, p2, none⟩))) :: (Calm2.isV (.int .u8 (y2 : Int))) :: (Calm2.isV (.int .u16 x2)) :: (Calm2.isV (.int .i64 x2)) :: (Calm2.isV (.int .i64 (N : Int))) :: (Calm2.isV (.int .i64 (r2 : Int))) :: (Calm2.isV (.int .i64 (q2 : Int))) :: (Calm2.isV (.int .u8 ((2 ^ q2 : Nat) : Int))) :: (Calm2.isV (.int .u8 ((y2 ^^^ 2 ^ q2 : Nat) : Int))) :: (Calm2.isV (.pointer (some ⟨g, p2, none⟩))) :: (Calm2.anyV) :: []) (fun k => decide (k < 16)) [] ?hL (by kernel_rfl) (by kernel_rfl) (by kernel_rfl) (Below.refl _ _) ?step ?fin
        case hL => repeat' (first | exact List.forall_mem_nil _ | refine List.forall_mem_cons.2 ⟨by first | exact Calm2.stable_is _ | exact Calm2.stable_row _ _ | exact Calm2.stable_any | exact Calm2.stable_var _ _ | exact Calm2.stable_if _ _, ?_⟩)
        case step =>
          refine Calm2.StepsJ.cons (Calm2.stepJ_of (by kernel_rfl) (by kernel_rfl) rfl (by rfl) (Calm2.step_plain rfl ?_)) ?_
          · intro a_ w1 hS hsz hold hdep K hK
            have h9 : a_.tmps[9]? = some (.slice (some ⟨g, 0, none⟩) ys.length c) := (hold 9 (by kernel_rfl)).trans rfl
            have e9 := Calm2.at_getD h9
            clear hsz hold hdep
            have hM1 := Mine.below hM hS
            have hcell := (hM1 p2 y2 hpy2.out).1
            clear hM1
            go_simp
            exact hK _ _ (Below.refl _ _) rfl
          refine Calm2.StepsJ.cons (Calm2.stepJ_of (by kernel_rfl) (by kernel_rfl) rfl (by rfl) (Calm2.step_plain rfl ?_)) ?_
          · intro a_ w1 hS hsz hold hdep K hK
            have h2 : a_.tmps[2]? = some (.int .u16 x2) := (hold 2 (by kernel_rfl)).trans rfl
            have e2 := Calm2.at_getD h2
            clear hsz hold hdep
            have hM1 := Mine.below hM hS
            have hcell := (hM1 p2 y2 hpy2.out).1
            clear hM1
            go_simp
            exact hK _ _ (Below.refl _ _) rfl
          refine Calm2.StepsJ.cons (Calm2.stepJ_of (by kernel_rfl) (by kernel_rfl) rfl (by rfl) (Calm2.step_plain rfl ?_)) ?_
          · intro a_ w1 hS hsz hold hdep K hK
            have h50 := Calm2.is_at (x := .int .u16 x2) hdep (k := 1) (by kernel_rfl) rfl rfl (fun _ _ h => h)
            have e50 := Calm2.at_getD h50
            clear hsz hold hdep
            have hM1 := Mine.below hM hS
            have hcell := (hM1 p2 y2 hpy2.out).1
            clear hM1
            go_simp
            refine hK _ _ (Below.refl _ _) ?_
            exact congrArg (Value.int IntKind.i64) (by first | rfl | exact hw2.out)
          refine Calm2.StepsJ.cons (Calm2.stepJ_of (by kernel_rfl) (by kernel_rfl) rfl (by rfl) (Calm2.step_plain rfl ?_)) ?_
          · intro a_ w1 hS hsz hold hdep K hK
            have h10 : a_.tmps[10]? = some (.int .i64 (N : Int)) := (hold 10 (by kernel_rfl)).trans (by first | rfl | exact congrArg (fun n => some (Value.int IntKind.i64 n)) hNN.out)
            have e10 := Calm2.at_getD h10
            clear hsz hold hdep
            have hM1 := Mine.below hM hS
            have hcell := (hM1 p2 y2 hpy2.out).1
            clear hM1
            go_simp
            exact hK _ _ (Below.refl _ _) rfl
          refine Calm2.StepsJ.cons (Calm2.stepJ_of (by kernel_rfl) (by kernel_rfl) rfl (by rfl) (Calm2.step_plain rfl ?_)) ?_
          · intro a_ w1 hS hsz hold hdep K hK
            have h51 := Calm2.is_at (x := .int .i64 x2) hdep (k := 2) (by kernel_rfl) rfl rfl (fun _ _ h => h)
            have e51 := Calm2.at_getD h51
            have h52 := Calm2.is_at (x := .int .i64 (N : Int)) hdep (k := 3) (by kernel_rfl) rfl rfl (fun _ _ h => h)
            have e52 := Calm2.at_getD h52
            clear hsz hold hdep
            have hM1 := Mine.below hM hS
            have hcell := (hM1 p2 y2 hpy2.out).1
            clear hM1
            go_simp
            refine hK _ _ (Below.refl _ _) ?_
            exact congrArg (Value.int IntKind.i64) (by first | rfl | exact hR2.out)
          refine Calm2.StepsJ.cons (Calm2.stepJ_of (by kernel_rfl) (by kernel_rfl) rfl (by rfl) (Calm2.step_plain rfl ?_)) ?_
          · intro a_ w1 hS hsz hold hdep K hK
            have h53 := Calm2.is_at (x := .int .i64 (r2 : Int)) hdep (k := 4) (by kernel_rfl) rfl rfl (fun _ _ h => h)
            have e53 := Calm2.at_getD h53
            clear hsz hold hdep
            have hM1 := Mine.below hM hS
            have hcell := (hM1 p2 y2 hpy2.out).1
            clear hM1
            go_simp
            refine hK _ _ (Below.refl _ _) ?_
            exact congrArg (Value.int IntKind.i64) (by first | rfl | exact hp2.out)
          refine Calm2.StepsJ.cons (Calm2.stepJ_of (by kernel_rfl) (by kernel_rfl) rfl (by rfl) (Calm2.step_plain rfl ?_)) ?_
          · intro a_ w1 hS hsz hold hdep K hK
            have h49 := Calm2.is_at (x := .slice (some ⟨g, 0, none⟩) ys.length c) hdep (k := 0) (by kernel_rfl) rfl rfl (fun _ _ h => h)
            have e49 := Calm2.at_getD h49
            have h54 := Calm2.is_at (x := .int .i64 (p2 : Int)) hdep (k := 5) (by kernel_rfl) rfl rfl (fun _ _ h => h)
            have e54 := Calm2.at_getD h54
            clear hsz hold hdep
            have hM1 := Mine.below hM hS
            have hcell := (hM1 p2 y2 hpy2.out).1
            clear hM1
            go_simp
            exact hK _ _ (Below.refl _ _) rfl
          refine Calm2.StepsJ.cons (Calm2.stepJ_of (by kernel_rfl) (by kernel_rfl) rfl (by rfl) (Calm2.step_plain rfl ?_)) ?_
          · intro a_ w1 hS hsz hold hdep K hK
            have h55 := Calm2.is_at (x := .pointer (some ⟨g, p2, none⟩)) hdep (k := 6) (by kernel_rfl) rfl rfl (fun _ _ h => h)
            have e55 := Calm2.at_getD h55
            clear hsz hold hdep
            have hM1 := Mine.below hM hS
            have hcell := (hM1 p2 y2 hpy2.out).1
            clear hM1
            go_simp
            exact hK _ _ (Below.refl _ _) rfl
          refine Calm2.StepsJ.cons (Calm2.stepJ_of (by kernel_rfl) (by kernel_rfl) rfl (by rfl) (Calm2.step_plain rfl ?_)) ?_
          · intro a_ w1 hS hsz hold hdep K hK
            have h2 : a_.tmps[2]? = some (.int .u16 x2) := (hold 2 (by kernel_rfl)).trans rfl
            have e2 := Calm2.at_getD h2
            clear hsz hold hdep
            have hM1 := Mine.below hM hS
            have hcell := (hM1 p2 y2 hpy2.out).1
            clear hM1
            go_simp
            exact hK _ _ (Below.refl _ _) rfl
          refine Calm2.StepsJ.cons (Calm2.stepJ_of (by kernel_rfl) (by kernel_rfl) rfl (by rfl) (Calm2.step_plain rfl ?_)) ?_
          · intro a_ w1 hS hsz hold hdep K hK
            have h57 := Calm2.is_at (x := .int .u16 x2) hdep (k := 8) (by kernel_rfl) rfl rfl (fun _ _ h => h)
            have e57 := Calm2.at_getD h57
            clear hsz hold hdep
            have hM1 := Mine.below hM hS
            have hcell := (hM1 p2 y2 hpy2.out).1
            clear hM1
            go_simp
            refine hK _ _ (Below.refl _ _) ?_
            exact congrArg (Value.int IntKind.i64) (by first | rfl | exact hw2.out)
          refine Calm2.StepsJ.cons (Calm2.stepJ_of (by kernel_rfl) (by kernel_rfl) rfl (by rfl) (Calm2.step_plain rfl ?_)) ?_
          · intro a_ w1 hS hsz hold hdep K hK
            have h10 : a_.tmps[10]? = some (.int .i64 (N : Int)) := (hold 10 (by kernel_rfl)).trans (by first | rfl | exact congrArg (fun n => some (Value.int IntKind.i64 n)) hNN.out)
            have e10 := Calm2.at_getD h10
            clear hsz hold hdep
            have hM1 := Mine.below hM hS
            have hcell := (hM1 p2 y2 hpy2.out).1
            clear hM1
            go_simp
            exact hK _ _ (Below.refl _ _) rfl
          refine Calm2.StepsJ.cons (Calm2.stepJ_of (by kernel_rfl) (by kernel_rfl) rfl (by rfl) (Calm2.step_plain rfl ?_)) ?_
          · intro a_ w1 hS hsz hold hdep K hK
            have h58 := Calm2.is_at (x := .int .i64 x2) hdep (k := 9) (by kernel_rfl) rfl rfl (fun _ _ h => h)
            have e58 := Calm2.at_getD h58
            have h59 := Calm2.is_at (x := .int .i64 (N : Int)) hdep (k := 10) (by kernel_rfl) rfl rfl (fun _ _ h => h)
            have e59 := Calm2.at_getD h59
            clear hsz hold hdep
            have hM1 := Mine.below hM hS
            have hcell := (hM1 p2 y2 hpy2.out).1
            clear hM1
            go_simp
            refine hK _ _ (Below.refl _ _) ?_
            exact congrArg (Value.int IntKind.i64) (by first | rfl | exact hR2.out)
          refine Calm2.StepsJ.cons (Calm2.stepJ_of (by kernel_rfl) (by kernel_rfl) rfl (by rfl) (Calm2.step_plain rfl ?_)) ?_
          · intro a_ w1 hS hsz hold hdep K hK
            have h60 := Calm2.is_at (x := .int .i64 (r2 : Int)) hdep (k := 11) (by kernel_rfl) rfl rfl (fun _ _ h => h)
            have e60 := Calm2.at_getD h60
            clear hsz hold hdep
            have hM1 := Mine.below hM hS
            have hcell := (hM1 p2 y2 hpy2.out).1
            clear hM1
            go_simp
            refine hK _ _ (Below.refl _ _) ?_
            exact congrArg (Value.int IntKind.i64) (by first | rfl | exact hq2.out)
          refine Calm2.StepsJ.cons (Calm2.stepJ_of (by kernel_rfl) (by kernel_rfl) rfl (by rfl) (Calm2.step_plain rfl ?_)) ?_
          · intro a_ w1 hS hsz hold hdep K hK
            have h61 := Calm2.is_at (x := .int .i64 (q2 : Int)) hdep (k := 12) (by kernel_rfl) rfl rfl (fun _ _ h => h)
            have e61 := Calm2.at_getD h61
            clear hsz hold hdep
            have hM1 := Mine.below hM hS
            have hcell := (hM1 p2 y2 hpy2.out).1
            clear hM1
            go_simp
            rcases hq82.out with h | h | h | h | h | h | h | h <;> subst h <;> first | exact hK _ _ (Below.refl _ _) rfl | (simp; exact hK _ _ (Below.refl _ _) rfl)
          refine Calm2.StepsJ.cons (Calm2.stepJ_of (by kernel_rfl) (by kernel_rfl) rfl (by rfl) (Calm2.step_plain rfl ?_)) ?_
          · intro a_ w1 hS hsz hold hdep K hK
            have h56 := Calm2.is_at (x := .int .u8 (y2 : Int)) hdep (k := 7) (by kernel_rfl) rfl rfl (fun _ _ h => h)
            have e56 := Calm2.at_getD h56
            have h62 := Calm2.is_at (x := .int .u8 ((2 ^ q2 : Nat) : Int)) hdep (k := 13) (by kernel_rfl) rfl rfl (fun _ _ h => h)
            have e62 := Calm2.at_getD h62
            clear hsz hold hdep
            have hM1 := Mine.below hM hS
            have hcell := (hM1 p2 y2 hpy2.out).1
            clear hM1
            go_simp
            refine hK _ _ (Below.refl _ _) ?_
            exact congrArg (Value.int IntKind.u8) (bits_xor8 hy2.out hQ2.out)
          refine Calm2.StepsJ.cons (Calm2.stepJ_of (by kernel_rfl) (by kernel_rfl) rfl (by rfl) (Calm2.step_plain rfl ?_)) ?_
          · intro a_ w1 hS hsz hold hdep K hK
            have h49 := Calm2.is_at (x := .slice (some ⟨g, 0, none⟩) ys.length c) hdep (k := 0) (by kernel_rfl) rfl rfl (fun _ _ h => h)
            have e49 := Calm2.at_getD h49
            have h54 := Calm2.is_at (x := .int .i64 (p2 : Int)) hdep (k := 5) (by kernel_rfl) rfl rfl (fun _ _ h => h)
            have e54 := Calm2.at_getD h54
            clear hsz hold hdep
            have hM1 := Mine.below hM hS
            have hcell := (hM1 p2 y2 hpy2.out).1
            clear hM1
            go_simp
            exact hK _ _ (Below.refl _ _) rfl
          refine Calm2.StepsJ.skip rfl ?_
          exact Calm2.StepsJ.nil
        case fin =>
          intro v w1 hS hv hJ
          have k14 : v 14 = .int .u8 ((y2 ^^^ 2 ^ q2 : Nat) : Int) := hv 14 (by decide) rfl
          have k15 : v 15 = .pointer (some ⟨g, p2, none⟩) := hv 15 (by decide) rfl
          have hM1 := Mine.below hM hS
          obtain ⟨f1, f2⟩ := hM1 p2 y2 hpy2.out
          have hB1 := below_call2 (w := w) hB hS
          clear hv hJ
          refine Calm2.wpAny_cast (n' := 1) (L' := #[true, true, true, true, true, true, true, true, true, true, true, true, true, true, true, true, false]) (by kernel_rfl) (by kernel_rfl) ?_
          simp only [List.append, Calm2.puts, Act.put, List.setIfInBounds_toArray, List.set_cons_zero, List.set_cons_succ]
          simp only [k14, k15]
          clear k14 k15
          refine Calm2.wpAny_one (i := 16) (by kernel_rfl) rfl rfl (fun K hK => ?_)
          go_simp
          refine hK _ _ ?_
          clear hK
          refine Calm2.wpAny_end (by kernel_rfl) ?_
          have hT := Mine.turn (q := q2) hM1 hpl2.out
          rw [hgd2.out] at hT
          have hBs : Below w.heap.size w (w1.setCell ⟨g, p2, none⟩ (.int .u8 ((y2 ^^^ 2 ^ q2 : Nat) : Int))) := by (go_grown; all_goals exact hgw)
          clear hM1 f1 f2
          go_wp2_with fail
          go_meet
          case rel => exact ⟨hT, hBs⟩
      case rest =>
        clear hM hB
        obtain ⟨hM, hB⟩ := hcut
        go_upto_region 11 with (fail)
        go_cut [] (fun wd => Mine wd g (turn (turn (turn ys p1 q1) p2 q2) p3 q3) ∧ Below w.heap.size w wd)
        case first =>
          refine Calm2.wp_calm_late (by kernel_rfl) _ ((Calm2.isV (.slice (some ⟨g, 0, none⟩) ys.length c)) :: (Calm2.isV (.int .u16 x3)) :: (Calm2.isV (.int .i64 x3)) :: (Calm2.isV (.int .i64 (N : Int))) :: (Calm2.isV (.int .i64 (r3 : Int))) :: (Calm2.isV (.int .i64 (p3 : Int))) :: (Calm2.isV (.pointer (some ⟨g, p3, none⟩))) :: (Calm2.isV (.int .u8 (y3 : Int))) :: (Calm2.isV (.int .u16 x3)) :: (Calm2.isV (.int .i64 x3)) :: (Calm2.isV (.int .i64 (N : Int))) :: (Calm2.isV (.int .i64 (r3 : Int))) :: (Calm2.isV (.int .i64 (q3 : Int))) :: (Calm2.isV (.int .u8 ((2 ^ q3 : Nat) : Int))) :: (Calm2.isV (.int .u8 ((y3 ^^^ 2 ^ q3 : Nat) : Int))) :: (Calm2.isV (.pointer (some ⟨g, p3, none⟩))) :: (Calm2.anyV) :: []) (fun k => decide (k < 16)) [] ?hL (by kernel_rfl) (by kernel_rfl) (by kernel_rfl) (Below.refl _ _) ?step ?fin
          case hL => repeat' (first | exact List.forall_mem_nil _ | refine List.forall_mem_cons.2 ⟨by first | exact Calm2.stable_is _ | exact Calm2.stable_row _ _ | exact Calm2.stable_any | exact Calm2.stable_var _ _ | exact Calm2.stable_if _ _, ?_⟩)
          case step =>
            refine Calm2.StepsJ.cons (Calm2.stepJ_of (by kernel_rfl) (by kernel_rfl) rfl (by rfl) (Calm2.step_plain rfl ?_)) ?_
            · intro a_ w1 hS hsz hold hdep K hK
              have h9 : a_.tmps[9]? = some (.slice (some ⟨g, 0, none⟩) ys.length c) := (hold 9 (by kernel_rfl)).trans rfl
              have e9 := Calm2.at_getD h9
              clear hsz hold hdep
              have hM1 := Mine.below hM hS
              have hcell := (hM1 p3 y3 hpy3.out).1
              clear hM1
              go_simp
              exact hK _ _ (Below.refl _ _) rfl
            refine Calm2.StepsJ.cons (Calm2.stepJ_of (by kernel_rfl) (by kernel_rfl) rfl (by rfl) (Calm2.step_plain rfl ?_)) ?_
            · intro a_ w1 hS hsz hold hdep K hK
              have h3 : a_.tmps[3]? = some (.int .u16 x3) := (hold 3 (by kernel_rfl)).trans rfl
              have e3 := Calm2.at_getD h3
              clear hsz hold hdep
              have hM1 := Mine.below hM hS
              have hcell := (hM1 p3 y3 hpy3.out).1
              clear hM1
              go_simp
              exact hK _ _ (Below.refl _ _) rfl
            refine Calm2.StepsJ.cons (Calm2.stepJ_of (by kernel_rfl) (by kernel_rfl) rfl (by rfl) (Calm2.step_plain rfl ?_)) ?_
            · intro a_ w1 hS hsz hold hdep K hK
              have h66 := Calm2.is_at (x := .int .u16 x3) hdep (k := 1) (by kernel_rfl) rfl rfl (fun _ _ h => h)
              have e66 := Calm2.at_getD h66
              clear hsz hold hdep
              have hM1 := Mine.below hM hS
              have hcell := (hM1 p3 y3 hpy3.out).1
              clear hM1
              go_simp
              refine hK _ _ (Below.refl _ _) ?_
              exact congrArg (Value.int IntKind.i64) (by first | rfl | exact hw3.out)
            refine Calm2.StepsJ.cons (Calm2.stepJ_of (by kernel_rfl) (by kernel_rfl) rfl (by rfl) (Calm2.step_plain rfl ?_)) ?_
            · intro a_ w1 hS hsz hold hdep K hK
              have h10 : a_.tmps[10]? = some (.int .i64 (N : Int)) := (hold 10 (by kernel_rfl)).trans (by first | rfl | exact congrArg (fun n => some (Value.int IntKind.i64 n)) hNN.out)
              have e10 := Calm2.at_getD h10
              clear hsz hold hdep
              have hM1 := Mine.below hM hS
              have hcell := (hM1 p3 y3 hpy3.out).1
              clear hM1
              go_simp
              exact hK _ _ (Below.refl _ _) rfl
            refine Calm2.StepsJ.cons (Calm2.stepJ_of (by kernel_rfl) (by kernel_rfl) rfl (by rfl) (Calm2.step_plain rfl ?_)) ?_
            · intro a_ w1 hS hsz hold hdep K hK
              have h67 := Calm2.is_at (x := .int .i64 x3) hdep (k := 2) (by kernel_rfl) rfl rfl (fun _ _ h => h)
              have e67 := Calm2.at_getD h67
              have h68 := Calm2.is_at (x := .int .i64 (N : Int)) hdep (k := 3) (by kernel_rfl) rfl rfl (fun _ _ h => h)
              have e68 := Calm2.at_getD h68
              clear hsz hold hdep
              have hM1 := Mine.below hM hS
              have hcell := (hM1 p3 y3 hpy3.out).1
              clear hM1
              go_simp
              refine hK _ _ (Below.refl _ _) ?_
              exact congrArg (Value.int IntKind.i64) (by first | rfl | exact hR3.out)
            refine Calm2.StepsJ.cons (Calm2.stepJ_of (by kernel_rfl) (by kernel_rfl) rfl (by rfl) (Calm2.step_plain rfl ?_)) ?_
            · intro a_ w1 hS hsz hold hdep K hK
              have h69 := Calm2.is_at (x := .int .i64 (r3 : Int)) hdep (k := 4) (by kernel_rfl) rfl rfl (fun _ _ h => h)
              have e69 := Calm2.at_getD h69
              clear hsz hold hdep
              have hM1 := Mine.below hM hS
              have hcell := (hM1 p3 y3 hpy3.out).1
              clear hM1
              go_simp
              refine hK _ _ (Below.refl _ _) ?_
              exact congrArg (Value.int IntKind.i64) (by first | rfl | exact hp3.out)
            refine Calm2.StepsJ.cons (Calm2.stepJ_of (by kernel_rfl) (by kernel_rfl) rfl (by rfl) (Calm2.step_plain rfl ?_)) ?_
            · intro a_ w1 hS hsz hold hdep K hK
              have h65 := Calm2.is_at (x := .slice (some ⟨g, 0, none⟩) ys.length c) hdep (k := 0) (by kernel_rfl) rfl rfl (fun _ _ h => h)
              have e65 := Calm2.at_getD h65
              have h70 := Calm2.is_at (x := .int .i64 (p3 : Int)) hdep (k := 5) (by kernel_rfl) rfl rfl (fun _ _ h => h)
              have e70 := Calm2.at_getD h70
              clear hsz hold hdep
              have hM1 := Mine.below hM hS
              have hcell := (hM1 p3 y3 hpy3.out).1
              clear hM1
              go_simp
              exact hK _ _ (Below.refl _ _) rfl
            refine Calm2.StepsJ.cons (Calm2.stepJ_of (by kernel_rfl) (by kernel_rfl) rfl (by rfl) (Calm2.step_plain rfl ?_)) ?_
            · intro a_ w1 hS hsz hold hdep K hK
              have h71 := Calm2.is_at (x := .pointer (some ⟨g, p3, none⟩)) hdep (k := 6) (by kernel_rfl) rfl rfl (fun _ _ h => h)
              have e71 := Calm2.at_getD h71
              clear hsz hold hdep
              have hM1 := Mine.below hM hS
              have hcell := (hM1 p3 y3 hpy3.out).1
              clear hM1
              go_simp
              exact hK _ _ (Below.refl _ _) rfl
            refine Calm2.StepsJ.cons (Calm2.stepJ_of (by kernel_rfl) (by kernel_rfl) rfl (by rfl) (Calm2.step_plain rfl ?_)) ?_
            · intro a_ w1 hS hsz hold hdep K hK
              have h3 : a_.tmps[3]? = some (.int .u16 x3) := (hold 3 (by kernel_rfl)).trans rfl
              have e3 := Calm2.at_getD h3
              clear hsz hold hdep
              have hM1 := Mine.below hM hS
              have hcell := (hM1 p3 y3 hpy3.out).1
              clear hM1
              go_simp
              exact hK _ _ (Below.refl _ _) rfl
            refine Calm2.StepsJ.cons (Calm2.stepJ_of (by kernel_rfl) (by kernel_rfl) rfl (by rfl) (Calm2.step_plain rfl ?_)) ?_
            · intro a_ w1 hS hsz hold hdep K hK
              have h73 := Calm2.is_at (x := .int .u16 x3) hdep (k := 8) (by kernel_rfl) rfl rfl (fun _ _ h => h)
              have e73 := Calm2.at_getD h73
              clear hsz hold hdep
              have hM1 := Mine.below hM hS
              have hcell := (hM1 p3 y3 hpy3.out).1
              clear hM1
              go_simp
              refine hK _ _ (Below.refl _ _) ?_
              exact congrArg (Value.int IntKind.i64) (by first | rfl | exact hw3.out)
            refine Calm2.StepsJ.cons (Calm2.stepJ_of (by kernel_rfl) (by kernel_rfl) rfl (by rfl) (Calm2.step_plain rfl ?_)) ?_
            · intro a_ w1 hS hsz hold hdep K hK
              have h10 : a_.tmps[10]? = some (.int .i64 (N : Int)) := (hold 10 (by kernel_rfl)).trans (by first | rfl | exact congrArg (fun n => some (Value.int IntKind.i64 n)) hNN.out)
              have e10 := Calm2.at_getD h10
              clear hsz hold hdep
              have hM1 := Mine.below hM hS
              have hcell := (hM1 p3 y3 hpy3.out).1
              clear hM1
              go_simp
              exact hK _ _ (Below.refl _ _) rfl
            refine Calm2.StepsJ.cons (Calm2.stepJ_of (by kernel_rfl) (by kernel_rfl) rfl (by rfl) (Calm2.step_plain rfl ?_)) ?_
            · intro a_ w1 hS hsz hold hdep K hK
              have h74 := Calm2.is_at (x := .int .i64 x3) hdep (k := 9) (by kernel_rfl) rfl rfl (fun _ _ h => h)
              have e74 := Calm2.at_getD h74
              have h75 := Calm2.is_at (x := .int .i64 (N : Int)) hdep (k := 10) (by kernel_rfl) rfl rfl (fun _ _ h => h)
              have e75 := Calm2.at_getD h75
              clear hsz hold hdep
              have hM1 := Mine.below hM hS
              have hcell := (hM1 p3 y3 hpy3.out).1
              clear hM1
              go_simp
              refine hK _ _ (Below.refl _ _) ?_
              exact congrArg (Value.int IntKind.i64) (by first | rfl | exact hR3.out)
            refine Calm2.StepsJ.cons (Calm2.stepJ_of (by kernel_rfl) (by kernel_rfl) rfl (by rfl) (Calm2.step_plain rfl ?_)) ?_
            · intro a_ w1 hS hsz hold hdep K hK
              have h76 := Calm2.is_at (x := .int .i64 (r3 : Int)) hdep (k := 11) (by kernel_rfl) rfl rfl (fun _ _ h => h)
              have e76 := Calm2.at_getD h76
              clear hsz hold hdep
              have hM1 := Mine.below hM hS
              have hcell := (hM1 p3 y3 hpy3.out).1
              clear hM1
              go_simp
              refine hK _ _ (Below.refl _ _) ?_
              exact congrArg (Value.int IntKind.i64) (by first | rfl | exact hq3.out)
            refine Calm2.StepsJ.cons (Calm2.stepJ_of (by kernel_rfl) (by kernel_rfl) rfl (by rfl) (Calm2.step_plain rfl ?_)) ?_
            · intro a_ w1 hS hsz hold hdep K hK
              have h77 := Calm2.is_at (x := .int .i64 (q3 : Int)) hdep (k := 12) (by kernel_rfl) rfl rfl (fun _ _ h => h)
              have e77 := Calm2.at_getD h77
              clear hsz hold hdep
              have hM1 := Mine.below hM hS
              have hcell := (hM1 p3 y3 hpy3.out).1
              clear hM1
              go_simp
              rcases hq83.out with h | h | h | h | h | h | h | h <;> subst h <;> first | exact hK _ _ (Below.refl _ _) rfl | (simp; exact hK _ _ (Below.refl _ _) rfl)
            refine Calm2.StepsJ.cons (Calm2.stepJ_of (by kernel_rfl) (by kernel_rfl) rfl (by rfl) (Calm2.step_plain rfl ?_)) ?_
            · intro a_ w1 hS hsz hold hdep K hK
              have h72 := Calm2.is_at (x := .int .u8 (y3 : Int)) hdep (k := 7) (by kernel_rfl) rfl rfl (fun _ _ h => h)
              have e72 := Calm2.at_getD h72
              have h78 := Calm2.is_at (x := .int .u8 ((2 ^ q3 : Nat) : Int)) hdep (k := 13) (by kernel_rfl) rfl rfl (fun _ _ h => h)
              have e78 := Calm2.at_getD h78
              clear hsz hold hdep
              have hM1 := Mine.below hM hS
              have hcell := (hM1 p3 y3 hpy3.out).1
              clear hM1
              go_simp
              refine hK _ _ (Below.refl _ _) ?_
              exact congrArg (Value.int IntKind.u8) (bits_xor8 hy3.out hQ3.out)
            refine Calm2.StepsJ.cons (Calm2.stepJ_of (by kernel_rfl) (by kernel_rfl) rfl (by rfl) (Calm2.step_plain rfl ?_)) ?_
            · intro a_ w1 hS hsz hold hdep K hK
              have h65 := Calm2.is_at (x := .slice (some ⟨g, 0, none⟩) ys.length c) hdep (k := 0) (by kernel_rfl) rfl rfl (fun _ _ h => h)
              have e65 := Calm2.at_getD h65
              have h70 := Calm2.is_at (x := .int .i64 (p3 : Int)) hdep (k := 5) (by kernel_rfl) rfl rfl (fun _ _ h => h)
              have e70 := Calm2.at_getD h70
              clear hsz hold hdep
              have hM1 := Mine.below hM hS
              have hcell := (hM1 p3 y3 hpy3.out).1
              clear hM1
              go_simp
              exact hK _ _ (Below.refl _ _) rfl
            refine Calm2.StepsJ.skip rfl ?_
            exact Calm2.StepsJ.nil
          case fin =>
            intro v w1 hS hv hJ
            have k14 : v 14 = .int .u8 ((y3 ^^^ 2 ^ q3 : Nat) : Int) := hv 14 (by decide) rfl
            have k15 : v 15 = .pointer (some ⟨g, p3, none⟩) := hv 15 (by decide) rfl
            have hM1 := Mine.below hM hS
            obtain ⟨f1, f2⟩ := hM1 p3 y3 hpy3.out
            have hB1 := below_call2 (w := w) hB hS
            clear hv hJ
            refine Calm2.wpAny_cast (n' := 1) (L' := #[true, true, true, true, true, true, true, true, true, true, true, true, true, true, true, true, false]) (by kernel_rfl) (by kernel_rfl) ?_
            simp only [List.append, Calm2.puts, Act.put, List.setIfInBounds_toArray, List.set_cons_zero, List.set_cons_succ]
            simp only [k14, k15]
            clear k14 k15
            refine Calm2.wpAny_one (i := 16) (by kernel_rfl) rfl rfl (fun K hK => ?_)
            go_simp
            refine hK _ _ ?_
            clear hK
            refine Calm2.wpAny_end (by kernel_rfl) ?_
            have hT := Mine.turn (q := q3) hM1 hpl3.out
            rw [hgd3.out] at hT
            have hBs : Below w.heap.size w (w1.setCell ⟨g, p3, none⟩ (.int .u8 ((y3 ^^^ 2 ^ q3 : Nat) : Int))) := by (go_grown; all_goals exact hgw)
            clear hM1 f1 f2
            go_wp2_with fail
            go_meet
            case rel => exact ⟨hT, hBs⟩
        case rest =>
          clear hM hB
          obtain ⟨hM, hB⟩ := hcut
          go_upto_region 12 with (fail)
          have hBB := hB
          refine Calm2.wp_calm (by kernel_rfl) _ ((Calm2.isV (.slice (some ⟨g, 0, none⟩) ys.length c)) :: (Calm2.rowV [.slice (some ⟨g, 0, none⟩) ys.length c] 1) :: (Calm2.isV (.int .u32 R3)) :: (Calm2.isV (.slice (some ad) ys.length cap)) :: (Calm2.rowV [.slice (some ad) ys.length cap] 1) :: (Calm2.isV (.int .u32 Rb)) :: (Calm2.isV (.bool false)) :: (Calm2.isV (.slice (some ⟨g, 0, none⟩) ys.length c)) :: (Calm2.isV (.string s3)) :: (Calm2.isV (.slice (some ad) ys.length cap)) :: (Calm2.isV (.string sb)) :: (Calm2.isV (.bool false)) :: (Calm2.isV (.bool true)) :: (Calm2.isV (.bool true)) :: (Calm2.isV (.slice (some ⟨g, 0, none⟩) ys.length c)) :: (Calm2.isV (.string s3)) :: (Calm2.rowV [.string s3] 1) :: (Calm2.isV (.int .u64 P3)) :: (Calm2.isV (.slice (some ⟨g, 0, none⟩) ys.length c)) :: (Calm2.isV (.string s3)) :: (Calm2.rowV [.string s3] 1) :: (Calm2.isV (.int .u64 P3)) :: (Calm2.isV (.bool true)) :: (Calm2.isV (.bool true)) :: (Calm2.isV (.bool true)) :: []) ?hL (by kernel_rfl) (by kernel_rfl) (Below.refl _ _) ?step ?fin
          case hL => repeat' (first | exact List.forall_mem_nil _ | refine List.forall_mem_cons.2 ⟨by first | exact Calm2.stable_is _ | exact Calm2.stable_row _ _ | exact Calm2.stable_any | exact Calm2.stable_var _ _ | exact Calm2.stable_if _ _, ?_⟩)
          case step =>
            refine Calm2.Steps.cons (Calm2.step_plain rfl ?_) ?_
            · intro a_ w1 hS hsz hold hdep K hK
              have h9 : a_.tmps[9]? = some (.slice (some ⟨g, 0, none⟩) ys.length c) := (hold 9 (by kernel_rfl)).trans rfl
              have e9 := Calm2.at_getD h9
              clear hsz hold hdep
              have vb' := vb w1 (below_call2 (w := w) hBB hS)
              have v3' : (convert 33 9 (.slice (some ⟨g, 0, none⟩) ys.length c)).run Try.prog w1 = .ok (.string s3) w1 := by
                rw [← hs3.out]; exact CONV (Mine.C' hM hS l3 L1)
              go_simp
              exact hK _ _ (Below.refl _ _) rfl
            refine Calm2.Steps.cons (Calm2.step_plain rfl ?_) ?_
            · intro a_ w1 hS hsz hold hdep K hK
              have h81 := Calm2.is_at (x := .slice (some ⟨g, 0, none⟩) ys.length c) hdep (k := 0) (by kernel_rfl) rfl rfl (fun _ _ h => h)
              have e81 := Calm2.at_getD h81
              clear hsz hold hdep
              have vb' := vb w1 (below_call2 (w := w) hBB hS)
              have v3' : (convert 33 9 (.slice (some ⟨g, 0, none⟩) ys.length c)).run Try.prog w1 = .ok (.string s3) w1 := by
                rw [← hs3.out]; exact CONV (Mine.C' hM hS l3 L1)
              go_simp
              refine hK _ _ (by unfold Calm2.Grow; go_grown) ⟨_, rfl, fun j u hj => ?_⟩
              rcases j with _ | j
              all_goals first | (simp at hj; done) | (simp at hj; subst hj; go_simp)
            refine Calm2.Steps.cons (Calm2.step_plain rfl ?_) ?_
            · intro a_ w1 hS hsz hold hdep K hK
              obtain ⟨u82, h82, g82, (k82 : u82 = _), c82⟩ := hdep 1 (by kernel_rfl) _ rfl
              subst k82
              replace h82 := h82 82 rfl
              have e82 := Calm2.at_getD h82
              have c82_0 := c82 0 _ rfl
              clear c82
              clear hsz hold hdep
              go_simp
              refine (crc1 (A1 := some ⟨g, 0, none⟩) (c1 := c) (n1 := ys.length) (l1 := ints (turn (turn (turn ys p1 q1) p2 q2) p3 q3)) (R := R3) (by unfold ints; rw [List.length_map, l3]) hR3'.out L1 hgc c82_0 (Mine.C' hM hS l3 L1)).mono ?_; rintro e w' ⟨rfl, hD⟩; have hB := Drawn0.below' hD
              exact hK _ _ hB rfl
            refine Calm2.Steps.cons (Calm2.step_plain rfl ?_) ?_
            · intro a_ w1 hS hsz hold hdep K hK
              have h0 : a_.tmps[0]? = some (.slice (some ad) ys.length cap) := (hold 0 (by kernel_rfl)).trans rfl
              have e0 := Calm2.at_getD h0
              clear hsz hold hdep
              have vb' := vb w1 (below_call2 (w := w) hBB hS)
              have v3' : (convert 33 9 (.slice (some ⟨g, 0, none⟩) ys.length c)).run Try.prog w1 = .ok (.string s3) w1 := by
                rw [← hs3.out]; exact CONV (Mine.C' hM hS l3 L1)
              go_simp
              exact hK _ _ (Below.refl _ _) rfl
            refine Calm2.Steps.cons (Calm2.step_plain rfl ?_) ?_
            · intro a_ w1 hS hsz hold hdep K hK
              have h84 := Calm2.is_at (x := .slice (some ad) ys.length cap) hdep (k := 3) (by kernel_rfl) rfl rfl (fun _ _ h => h)
              have e84 := Calm2.at_getD h84
              clear hsz hold hdep
              have vb' := vb w1 (below_call2 (w := w) hBB hS)
              have v3' : (convert 33 9 (.slice (some ⟨g, 0, none⟩) ys.length c)).run Try.prog w1 = .ok (.string s3) w1 := by
                rw [← hs3.out]; exact CONV (Mine.C' hM hS l3 L1)
              go_simp
              refine hK _ _ (by unfold Calm2.Grow; go_grown) ⟨_, rfl, fun j u hj => ?_⟩
              rcases j with _ | j
              all_goals first | (simp at hj; done) | (simp at hj; subst hj; go_simp)
            refine Calm2.Steps.cons (Calm2.step_plain rfl ?_) ?_
            · intro a_ w1 hS hsz hold hdep K hK
              obtain ⟨u85, h85, g85, (k85 : u85 = _), c85⟩ := hdep 4 (by kernel_rfl) _ rfl
              subst k85
              replace h85 := h85 85 rfl
              have e85 := Calm2.at_getD h85
              have c85_0 := c85 0 _ rfl
              clear c85
              clear hsz hold hdep
              go_simp
              refine (crc1 (A1 := some ad) (c1 := cap) (n1 := ys.length) (l1 := ints ys) (R := Rb) (by unfold ints; rw [List.length_map]) hRb.out L1 hc c85_0 (Kd.C_below hrr.out (below_call2 (w := w) hBB hS))).mono ?_; rintro e w' ⟨rfl, hD⟩; have hB := Drawn0.below' hD
              exact hK _ _ hB rfl
            refine Calm2.Steps.cons (Calm2.step_plain rfl ?_) ?_
            · intro a_ w1 hS hsz hold hdep K hK
              have h83 := Calm2.is_at (x := .int .u32 R3) hdep (k := 2) (by kernel_rfl) rfl rfl (fun _ _ h => h)
              have e83 := Calm2.at_getD h83
              have h86 := Calm2.is_at (x := .int .u32 Rb) hdep (k := 5) (by kernel_rfl) rfl rfl (fun _ _ h => h)
              have e86 := Calm2.at_getD h86
              clear hsz hold hdep
              have vb' := vb w1 (below_call2 (w := w) hBB hS)
              have v3' : (convert 33 9 (.slice (some ⟨g, 0, none⟩) ys.length c)).run Try.prog w1 = .ok (.string s3) w1 := by
                rw [← hs3.out]; exact CONV (Mine.C' hM hS l3 L1)
              go_simp
              exact hK _ _ (Below.refl _ _) rfl
            refine Calm2.Steps.cons (Calm2.step_plain rfl ?_) ?_
            · intro a_ w1 hS hsz hold hdep K hK
              have h9 : a_.tmps[9]? = some (.slice (some ⟨g, 0, none⟩) ys.length c) := (hold 9 (by kernel_rfl)).trans rfl
              have e9 := Calm2.at_getD h9
              clear hsz hold hdep
              have vb' := vb w1 (below_call2 (w := w) hBB hS)
              have v3' : (convert 33 9 (.slice (some ⟨g, 0, none⟩) ys.length c)).run Try.prog w1 = .ok (.string s3) w1 := by
                rw [← hs3.out]; exact CONV (Mine.C' hM hS l3 L1)
              go_simp
              exact hK _ _ (Below.refl _ _) rfl
            refine Calm2.Steps.cons (Calm2.step_plain rfl ?_) ?_
            · intro a_ w1 hS hsz hold hdep K hK
              have h88 := Calm2.is_at (x := .slice (some ⟨g, 0, none⟩) ys.length c) hdep (k := 7) (by kernel_rfl) rfl rfl (fun _ _ h => h)
              have e88 := Calm2.at_getD h88
              clear hsz hold hdep
              have vb' := vb w1 (below_call2 (w := w) hBB hS)
              have v3' : (convert 33 9 (.slice (some ⟨g, 0, none⟩) ys.length c)).run Try.prog w1 = .ok (.string s3) w1 := by
                rw [← hs3.out]; exact CONV (Mine.C' hM hS l3 L1)
              go_simp
              exact hK _ _ (Below.refl _ _) rfl
            refine Calm2.Steps.cons (Calm2.step_plain rfl ?_) ?_
            · intro a_ w1 hS hsz hold hdep K hK
              have h0 : a_.tmps[0]? = some (.slice (some ad) ys.length cap) := (hold 0 (by kernel_rfl)).trans rfl
              have e0 := Calm2.at_getD h0
              clear hsz hold hdep
              have vb' := vb w1 (below_call2 (w := w) hBB hS)
              have v3' : (convert 33 9 (.slice (some ⟨g, 0, none⟩) ys.length c)).run Try.prog w1 = .ok (.string s3) w1 := by
                rw [← hs3.out]; exact CONV (Mine.C' hM hS l3 L1)
              go_simp
              exact hK _ _ (Below.refl _ _) rfl
            refine Calm2.Steps.cons (Calm2.step_plain rfl ?_) ?_
            · intro a_ w1 hS hsz hold hdep K hK
              have h90 := Calm2.is_at (x := .slice (some ad) ys.length cap) hdep (k := 9) (by kernel_rfl) rfl rfl (fun _ _ h => h)
              have e90 := Calm2.at_getD h90
              clear hsz hold hdep
              have vb' := vb w1 (below_call2 (w := w) hBB hS)
              have v3' : (convert 33 9 (.slice (some ⟨g, 0, none⟩) ys.length c)).run Try.prog w1 = .ok (.string s3) w1 := by
                rw [← hs3.out]; exact CONV (Mine.C' hM hS l3 L1)
              go_simp
              exact hK _ _ (Below.refl _ _) rfl
            refine Calm2.Steps.cons (Calm2.step_plain rfl ?_) ?_
            · intro a_ w1 hS hsz hold hdep K hK
              have h89 := Calm2.is_at (x := .string s3) hdep (k := 8) (by kernel_rfl) rfl rfl (fun _ _ h => h)
              have e89 := Calm2.at_getD h89
              have h91 := Calm2.is_at (x := .string sb) hdep (k := 10) (by kernel_rfl) rfl rfl (fun _ _ h => h)
              have e91 := Calm2.at_getD h91
              clear hsz hold hdep
              have vb' := vb w1 (below_call2 (w := w) hBB hS)
              have v3' : (convert 33 9 (.slice (some ⟨g, 0, none⟩) ys.length c)).run Try.prog w1 = .ok (.string s3) w1 := by
                rw [← hs3.out]; exact CONV (Mine.C' hM hS l3 L1)
              go_simp
              refine hK _ _ (Below.refl _ _) ?_
              exact congrArg Value.bool (by first | (simp; exact nsl) | (simp [nsl]; done))
            refine Calm2.Steps.cons (Calm2.step_plain rfl ?_) ?_
            · intro a_ w1 hS hsz hold hdep K hK
              have h87 := Calm2.is_at (x := .bool false) hdep (k := 6) (by kernel_rfl) rfl rfl (fun _ _ h => h)
              have e87 := Calm2.at_getD h87
              have h92 := Calm2.is_at (x := .bool false) hdep (k := 11) (by kernel_rfl) rfl rfl (fun _ _ h => h)
              have e92 := Calm2.at_getD h92
              clear hsz hold hdep
              have vb' := vb w1 (below_call2 (w := w) hBB hS)
              have v3' : (convert 33 9 (.slice (some ⟨g, 0, none⟩) ys.length c)).run Try.prog w1 = .ok (.string s3) w1 := by
                rw [← hs3.out]; exact CONV (Mine.C' hM hS l3 L1)
              go_simp
              exact hK _ _ (Below.refl _ _) rfl
            refine Calm2.Steps.cons (Calm2.step_plain rfl ?_) ?_
            · intro a_ w1 hS hsz hold hdep K hK
              have h93 := Calm2.is_at (x := .bool true) hdep (k := 12) (by kernel_rfl) rfl rfl (fun _ _ h => h)
              have e93 := Calm2.at_getD h93
              clear hsz hold hdep
              have vb' := vb w1 (below_call2 (w := w) hBB hS)
              have v3' : (convert 33 9 (.slice (some ⟨g, 0, none⟩) ys.length c)).run Try.prog w1 = .ok (.string s3) w1 := by
                rw [← hs3.out]; exact CONV (Mine.C' hM hS l3 L1)
              go_simp
              exact hK _ _ (Below.refl _ _) rfl
            refine Calm2.Steps.cons (Calm2.step_wanted (b := true) rfl rfl rfl (by kernel_rfl) (fun _ _ h => h) ?_) ?_
            · intro a_ w1 hS hsz hold hdep K hK
              have h9 : a_.tmps[9]? = some (.slice (some ⟨g, 0, none⟩) ys.length c) := (hold 9 (by kernel_rfl)).trans rfl
              have e9 := Calm2.at_getD h9
              clear hsz hold hdep
              have vb' := vb w1 (below_call2 (w := w) hBB hS)
              have v3' : (convert 33 9 (.slice (some ⟨g, 0, none⟩) ys.length c)).run Try.prog w1 = .ok (.string s3) w1 := by
                rw [← hs3.out]; exact CONV (Mine.C' hM hS l3 L1)
              go_simp
              exact hK _ _ (Below.refl _ _) rfl
            refine Calm2.Steps.cons (Calm2.step_wanted (b := true) rfl rfl rfl (by kernel_rfl) (fun _ _ h => h) ?_) ?_
            · intro a_ w1 hS hsz hold hdep K hK
              have h95 := Calm2.is_at (x := .slice (some ⟨g, 0, none⟩) ys.length c) hdep (k := 14) (by kernel_rfl) rfl rfl (fun _ _ h => h)
              have e95 := Calm2.at_getD h95
              clear hsz hold hdep
              have vb' := vb w1 (below_call2 (w := w) hBB hS)
              have v3' : (convert 33 9 (.slice (some ⟨g, 0, none⟩) ys.length c)).run Try.prog w1 = .ok (.string s3) w1 := by
                rw [← hs3.out]; exact CONV (Mine.C' hM hS l3 L1)
              go_simp
              exact hK _ _ (Below.refl _ _) rfl
            refine Calm2.Steps.cons (Calm2.step_wanted (b := true) rfl rfl rfl (by kernel_rfl) (fun _ _ h => h) ?_) ?_
            · intro a_ w1 hS hsz hold hdep K hK
              have h96 := Calm2.is_at (x := .string s3) hdep (k := 15) (by kernel_rfl) rfl rfl (fun _ _ h => h)
              have e96 := Calm2.at_getD h96
              clear hsz hold hdep
              have vb' := vb w1 (below_call2 (w := w) hBB hS)
              have v3' : (convert 33 9 (.slice (some ⟨g, 0, none⟩) ys.length c)).run Try.prog w1 = .ok (.string s3) w1 := by
                rw [← hs3.out]; exact CONV (Mine.C' hM hS l3 L1)
              go_simp
              refine hK _ _ (by unfold Calm2.Grow; go_grown) ⟨_, rfl, fun j u hj => ?_⟩
              rcases j with _ | j
              all_goals first | (simp at hj; done) | (simp at hj; subst hj; go_simp)
            refine Calm2.Steps.cons (Calm2.step_wanted (b := true) rfl rfl rfl (by kernel_rfl) (fun _ _ h => h) ?_) ?_
            · intro a_ w1 hS hsz hold hdep K hK
              obtain ⟨u97, h97, g97, (k97 : u97 = _), c97⟩ := hdep 16 (by kernel_rfl) _ rfl
              subst k97
              replace h97 := h97 97 rfl
              have e97 := Calm2.at_getD h97
              have c97_0 := c97 0 _ rfl
              clear c97
              clear hsz hold hdep
              go_simp
              refine (print1 s3s hP3.out c97_0).mono ?_; rintro e w' ⟨rfl, hB⟩
              exact hK _ _ hB rfl
            refine Calm2.Steps.cons (Calm2.step_wanted (b := true) rfl rfl rfl (by kernel_rfl) (fun _ _ h => h) ?_) ?_
            · intro a_ w1 hS hsz hold hdep K hK
              have h9 : a_.tmps[9]? = some (.slice (some ⟨g, 0, none⟩) ys.length c) := (hold 9 (by kernel_rfl)).trans rfl
              have e9 := Calm2.at_getD h9
              clear hsz hold hdep
              have vb' := vb w1 (below_call2 (w := w) hBB hS)
              have v3' : (convert 33 9 (.slice (some ⟨g, 0, none⟩) ys.length c)).run Try.prog w1 = .ok (.string s3) w1 := by
                rw [← hs3.out]; exact CONV (Mine.C' hM hS l3 L1)
              go_simp
              exact hK _ _ (Below.refl _ _) rfl
            refine Calm2.Steps.cons (Calm2.step_wanted (b := true) rfl rfl rfl (by kernel_rfl) (fun _ _ h => h) ?_) ?_
            · intro a_ w1 hS hsz hold hdep K hK
              have h99 := Calm2.is_at (x := .slice (some ⟨g, 0, none⟩) ys.length c) hdep (k := 18) (by kernel_rfl) rfl rfl (fun _ _ h => h)
              have e99 := Calm2.at_getD h99
              clear hsz hold hdep
              have vb' := vb w1 (below_call2 (w := w) hBB hS)
              have v3' : (convert 33 9 (.slice (some ⟨g, 0, none⟩) ys.length c)).run Try.prog w1 = .ok (.string s3) w1 := by
                rw [← hs3.out]; exact CONV (Mine.C' hM hS l3 L1)
              go_simp
              exact hK _ _ (Below.refl _ _) rfl
            refine Calm2.Steps.cons (Calm2.step_wanted (b := true) rfl rfl rfl (by kernel_rfl) (fun _ _ h => h) ?_) ?_
            · intro a_ w1 hS hsz hold hdep K hK
              have h100 := Calm2.is_at (x := .string s3) hdep (k := 19) (by kernel_rfl) rfl rfl (fun _ _ h => h)
              have e100 := Calm2.at_getD h100
              clear hsz hold hdep
              have vb' := vb w1 (below_call2 (w := w) hBB hS)
              have v3' : (convert 33 9 (.slice (some ⟨g, 0, none⟩) ys.length c)).run Try.prog w1 = .ok (.string s3) w1 := by
                rw [← hs3.out]; exact CONV (Mine.C' hM hS l3 L1)
              go_simp
              refine hK _ _ (by unfold Calm2.Grow; go_grown) ⟨_, rfl, fun j u hj => ?_⟩
              rcases j with _ | j
              all_goals first | (simp at hj; done) | (simp at hj; subst hj; go_simp)
            refine Calm2.Steps.cons (Calm2.step_wanted (b := true) rfl rfl rfl (by kernel_rfl) (fun _ _ h => h) ?_) ?_
            · intro a_ w1 hS hsz hold hdep K hK
              obtain ⟨u101, h101, g101, (k101 : u101 = _), c101⟩ := hdep 20 (by kernel_rfl) _ rfl
              subst k101
              replace h101 := h101 101 rfl
              have e101 := Calm2.at_getD h101
              have c101_0 := c101 0 _ rfl
              clear c101
              clear hsz hold hdep
              go_simp
              refine (rprint1 s3s hP3.out c101_0).mono ?_; rintro e w' ⟨rfl, hB⟩
              exact hK _ _ hB rfl
            refine Calm2.Steps.cons (Calm2.step_wanted (b := true) rfl rfl rfl (by kernel_rfl) (fun _ _ h => h) ?_) ?_
            · intro a_ w1 hS hsz hold hdep K hK
              have h98 := Calm2.is_at (x := .int .u64 P3) hdep (k := 17) (by kernel_rfl) rfl rfl (fun _ _ h => h)
              have e98 := Calm2.at_getD h98
              have h102 := Calm2.is_at (x := .int .u64 P3) hdep (k := 21) (by kernel_rfl) rfl rfl (fun _ _ h => h)
              have e102 := Calm2.at_getD h102
              clear hsz hold hdep
              have vb' := vb w1 (below_call2 (w := w) hBB hS)
              have v3' : (convert 33 9 (.slice (some ⟨g, 0, none⟩) ys.length c)).run Try.prog w1 = .ok (.string s3) w1 := by
                rw [← hs3.out]; exact CONV (Mine.C' hM hS l3 L1)
              go_simp
              exact hK _ _ (Below.refl _ _) rfl
            refine Calm2.Steps.cons (Calm2.step_plain rfl ?_) ?_
            · intro a_ w1 hS hsz hold hdep K hK
              have h94 := Calm2.is_at (x := .bool true) hdep (k := 13) (by kernel_rfl) rfl rfl (fun _ _ h => h)
              have e94 := Calm2.at_getD h94
              have h103 := Calm2.is_at (x := .bool true) hdep (k := 22) (by kernel_rfl) rfl rfl (fun _ _ h => h)
              have e103 := Calm2.at_getD h103
              clear hsz hold hdep
              have vb' := vb w1 (below_call2 (w := w) hBB hS)
              have v3' : (convert 33 9 (.slice (some ⟨g, 0, none⟩) ys.length c)).run Try.prog w1 = .ok (.string s3) w1 := by
                rw [← hs3.out]; exact CONV (Mine.C' hM hS l3 L1)
              go_simp
              exact hK _ _ (Below.refl _ _) rfl
            refine Calm2.Steps.cons (Calm2.step_plain rfl ?_) ?_
            · intro a_ w1 hS hsz hold hdep K hK
              have h104 := Calm2.is_at (x := .bool true) hdep (k := 23) (by kernel_rfl) rfl rfl (fun _ _ h => h)
              have e104 := Calm2.at_getD h104
              clear hsz hold hdep
              have vb' := vb w1 (below_call2 (w := w) hBB hS)
              have v3' : (convert 33 9 (.slice (some ⟨g, 0, none⟩) ys.length c)).run Try.prog w1 = .ok (.string s3) w1 := by
                rw [← hs3.out]; exact CONV (Mine.C' hM hS l3 L1)
              go_simp
              exact hK _ _ (Below.refl _ _) rfl
            exact Calm2.Steps.nil
          case fin =>
            intro a_ w1 hS hsz hdf hold hk
            obtain ⟨u8, h8_, (k8_ : u8 = .bool true)⟩ := hk 24 _ rfl
            subst k8_
            replace h8_ := h8_ 8 rfl
            have e8_ := Calm2.at_getD h8_
            replace hdf : a_.defers = [] := hdf
            clear hold hk hsz
            go_wp2_with fail
            refine bodyPost_ret (v := .bool true) (by simp [results, Try.results5, *, go_sem]) hdf ?_
            exact ⟨rfl, below_call2 (w := w) hBB hS⟩
end Go.Proofs.Ytbclmclddpdhlaa.S
