/- Plain laws of parts that are cut anywhere. -/
import Derived.Test.YtbclmclddpdhlaaS2
import Derived.Deep.RegionHeld3
namespace Go.Proofs.Ytbclmclddpdhlaa.S
open Go Go.RowKit Go.Proofs.YtbclmclddpdhlaaW.PrintWords Go.Proofs.YtbclmclddpdhlaaW.PrintLast Go.Proofs.YtbclmclddpdhlaaW.PrintMore
set_option linter.unusedVariables false
set_option linter.unusedSimpArgs false
theorem partC_fold (xs : List Int) : ∀ (m i : Nat) (c : Int), i + m ≤ xs.length → partC xs c i m = ((xs.drop i).take m).foldl byteC c
  | 0, i, c, h => by simp [partC]
  | m + 1, i, c, h => by
    have hi : i < xs.length := by omega
    rw [List.drop_eq_getElem_cons hi]
    simp only [List.take_succ_cons, List.foldl_cons, partC]
    rw [partC_fold xs m (i + 1) _ (by omega)]
    have e : rd xs (i : Int) = xs[i] := by
      unfold rd
      rw [Int.toNat_natCast, List.getD_eq_getElem?_getD, List.getElem?_eq_getElem hi]; rfl
    rw [e]
theorem partC_all (xs : List Int) (c : Int) : partC xs c 0 xs.length = xs.foldl byteC c := by
  rw [partC_fold xs xs.length 0 c (by omega)]; simp
def crcV (l : List (List Int)) : Int := bits .xor .u32 4294967295 (allC l 4294967295 0 l.length)
theorem crcV_two (a b : List Int) : crcV [a, b] = bits .xor .u32 4294967295 ((a ++ b).foldl byteC 4294967295) := by
  have e : allC [a, b] 4294967295 0 [a, b].length = partC b (partC a 4294967295 0 a.length) 0 b.length := rfl
  unfold crcV
  rw [e, partC_all, partC_all, List.foldl_append]
theorem crcV_one (a : List Int) : crcV [a] = bits .xor .u32 4294967295 (a.foldl byteC 4294967295) := by
  have e : allC [a] 4294967295 0 [a].length = partC a 4294967295 0 a.length := rfl
  unfold crcV
  rw [e, partC_all]
theorem crcV_cut (l : List Int) (k : Nat) : crcV [l.take k, l.drop k] = crcV [l] := by
  rw [crcV_two, crcV_one, List.take_append_drop]
theorem crcV_nil (l : List Int) : crcV [l, []] = crcV [l] := by
  rw [crcV_two, crcV_one, List.append_nil]
theorem small_two {a b : List Int} (ha : a.length ≤ 1000) (hb : b.length ≤ 1000) : Small [a, b] := ⟨by simp, fun i => by
  unfold PD.rd_L1
  rw [Int.toNat_natCast]
  rcases i with _ | _ | i
  · show a.length < _; omega
  · show b.length < _; omega
  · show ([] : List Int).length < _; decide⟩
theorem small_one {a : List Int} (ha : a.length ≤ 1000) : Small [a] := ⟨by simp, fun i => by
  unfold PD.rd_L1
  rw [Int.toNat_natCast]
  rcases i with _ | i
  · show a.length < _; omega
  · show ([] : List Int).length < _; decide⟩
theorem C_take {w : World} {A : Option Addr} {l : List Int} {k : Nat} (h : Kd.C (Kd.int .u8) w A l.length l) (hk : k ≤ l.length) : Kd.C (Kd.int .u8) w A k (l.take k) := by
  obtain ⟨h1, h2, h3⟩ := h
  refine ⟨by simp; omega, by omega, fun h0 => ?_⟩
  obtain ⟨ad, e, hc⟩ := h3 (by omega)
  refine ⟨ad, e, fun j p hj => hc j p ?_⟩
  rw [List.getElem?_take] at hj
  split at hj
  · exact hj
  · cases hj
theorem C_drop {w : World} {ad : Addr} {l : List Int} {k c0 : Nat} (h : Kd.C (Kd.int .u8) w (some ad) l.length l) (hk : k ≤ l.length) (hc0 : l.length ≤ c0) : Kd.C (Kd.int .u8) w (if c0 = k then some ad else some (ad.add k)) (l.length - k) (l.drop k) := by
  obtain ⟨h1, h2, h3⟩ := h
  refine ⟨by simp, by omega, fun h0 => ?_⟩
  obtain ⟨ad', e, hc⟩ := h3 (by omega)
  injection e with e
  subst e
  rw [if_neg (by omega)]
  refine ⟨ad.add k, rfl, fun j p hj => ?_⟩
  rw [List.getElem?_drop] at hj
  obtain ⟨c, a1, a2, a3⟩ := hc (k + j) p hj
  refine ⟨c, a1, a2, fun i u hu => ?_⟩
  have := a3 i u hu
  have es : (Kd.int .u8).sz = 1 := rfl
  rw [es] at this ⊢
  have ee : (ad.add k).add (j * 1 + i) = ad.add ((k + j) * 1 + i) := by
    unfold Addr.add
    (repeat' split) <;> simp_all <;> omega
  rw [ee]; exact this
theorem two_C {W : World} {g : Addr} {A1 A2 : Option Addr} {c1 c2 n1 n2 : Nat} {l1 l2 : List Int} (e1 : l1.length = n1) (e2 : l2.length = n2) (h0 : W.cell? g = some (.slice A1 n1 c1)) (h1 : W.cell? (g.add 1) = some (.slice A2 n2 c2)) (m1 : n1 ≤ c1) (m2 : n2 ≤ c2) (k1 : Kd.C (Kd.int .u8) W A1 n1 l1) (k2 : Kd.C (Kd.int .u8) W A2 n2 l2) : Kd.C (Kd.slice 5 (Kd.int .u8)) W (some g) 2 [l1, l2] := by
  subst e1 e2
  refine H.C_sl (l := [l1, l2]) (by simp) (fun j p hj => ?_)
  rcases j with _ | _ | j
  · simp at hj; subst hj; exact ⟨A1, c1, by simpa [Addr.add] using h0, m1, k1⟩
  · simp at hj; subst hj; exact ⟨A2, c2, h1, m2, k2⟩
  · simp at hj
theorem one_C {W : World} {g : Addr} {A1 : Option Addr} {c1 n1 : Nat} {l1 : List Int} (e1 : l1.length = n1) (h0 : W.cell? g = some (.slice A1 n1 c1)) (m1 : n1 ≤ c1) (k1 : Kd.C (Kd.int .u8) W A1 n1 l1) : Kd.C (Kd.slice 5 (Kd.int .u8)) W (some g) 1 [l1] := by
  subst e1
  refine H.C_sl (l := [l1]) (by simp) (fun j p hj => ?_)
  rcases j with _ | j
  · simp at hj; subst hj; exact ⟨A1, c1, by simpa [Addr.add] using h0, m1, k1⟩
  · simp at hj
theorem two_S {W : World} {g : Addr} {s1 s2 : ByteArray} (h0 : W.cell? g = some (.string s1)) (h1 : W.cell? (g.add 1) = some (.string s2)) : Kd.C Kd.string W (some g) 2 [s1, s2] := by
  refine H.C_str (l := [s1, s2]) (by simp) (fun j p hj => ?_)
  rcases j with _ | _ | j
  · simp at hj; subst hj; simpa [Addr.add] using h0
  · simp at hj; subst hj; exact h1
  · simp at hj
theorem crc2 {W : World} {A1 A2 : Option Addr} {b c1 c2 n1 n2 : Nat} {l1 l2 : List Int} {R : Int} (e1 : l1.length = n1) (e2 : l2.length = n2) (hR : crcV [l1, l2] = R) (b1 : n1 ≤ 1000) (b2 : n2 ≤ 1000) (m1 : n1 ≤ c1) (m2 : n2 ≤ c2) (h0 : W.cell? ⟨b, 0, none⟩ = some (.slice A1 n1 c1)) (h1 : W.cell? ⟨b, 1, none⟩ = some (.slice A2 n2 c2)) (k1 : Kd.C (Kd.int .u8) W A1 n1 l1) (k2 : Kd.C (Kd.int .u8) W A2 n2 l2) :
    Calls Try.prog 9 #[.slice (some ⟨b, 0, none⟩) 2 2] W fun e w' => e = .returned (.int .u32 R) ∧ Drawn0 W w' := by
  obtain ⟨K, hK⟩ := crc_ev (small_two (a := l1) (b := l2) (by omega) (by omega))
  subst hR
  exact PD.sum_Crc.calls K _ 2 [l1, l2] _ W (two_C (g := ⟨b, 0, none⟩) e1 e2 h0 h1 m1 m2 k1 k2) (by simp) (hK K (Nat.le_refl _))
theorem crc1 {W : World} {A1 : Option Addr} {b c1 n1 : Nat} {l1 : List Int} {R : Int} (e1 : l1.length = n1) (hR : crcV [l1] = R) (b1 : n1 ≤ 1000) (m1 : n1 ≤ c1) (h0 : W.cell? ⟨b, 0, none⟩ = some (.slice A1 n1 c1)) (k1 : Kd.C (Kd.int .u8) W A1 n1 l1) :
    Calls Try.prog 9 #[.slice (some ⟨b, 0, none⟩) 1 1] W fun e w' => e = .returned (.int .u32 R) ∧ Drawn0 W w' := by
  obtain ⟨K, hK⟩ := crc_ev (small_one (a := l1) (by omega))
  subst hR
  exact PD.sum_Crc.calls K _ 1 [l1] _ W (one_C (g := ⟨b, 0, none⟩) e1 h0 m1 k1) (by simp) (hK K (Nat.le_refl _))
theorem ok_two {s1 s2 : ByteArray} (b1 : s1.size ≤ 1000) (b2 : s2.size ≤ 1000) : H.okL [s1, s2] = true := by
  unfold H.okL
  simp
  omega
theorem print2 {W : World} {b : Nat} {s1 s2 : ByteArray} {R : Int} (b1 : s1.size ≤ 1000) (b2 : s2.size ≤ 1000) (hR : H.prN [s1, s2] 2 = R) (h0 : W.cell? ⟨b, 0, none⟩ = some (.string s1)) (h1 : W.cell? ⟨b, 1, none⟩ = some (.string s2)) :
    Calls Try.prog 11 #[.slice (some ⟨b, 0, none⟩) 2 2] W fun e w' => e = .returned (.int .u64 R) ∧ Below W.heap.size W w' := by
  subst hR
  exact H.print_calls _ 2 [s1, s2] W (two_S (g := ⟨b, 0, none⟩) h0 h1) (ok_two b1 b2)
theorem rprint2 {W : World} {b : Nat} {s1 s2 : ByteArray} {R : Int} (b1 : s1.size ≤ 1000) (b2 : s2.size ≤ 1000) (hR : H.prN [s1, s2] 2 = R) (h0 : W.cell? ⟨b, 0, none⟩ = some (.string s1)) (h1 : W.cell? ⟨b, 1, none⟩ = some (.string s2)) :
    Calls Try.prog 13 #[.slice (some ⟨b, 0, none⟩) 2 2] W fun e w' => e = .returned (.int .u64 R) ∧ Drawn0 W w' := by
  obtain ⟨K, hK⟩ := rp_ev (ok_two b1 b2)
  subst hR
  exact PD.augurref1_Print.calls K _ 2 [s1, s2] _ W (two_S (g := ⟨b, 0, none⟩) h0 h1) (by simp) (hK K (Nat.le_refl _))
theorem Drawn0.below' {W w' : World} (h : Drawn0 W w') : Below W.heap.size W w' := by
  obtain ⟨m, rfl⟩ := h
  exact pw_below_drewN (Below.refl _ _) _
end Go.Proofs.Ytbclmclddpdhlaa.S
