/- Sums of slices that the law made: the four functions at an own row; plain laws of empty parts. -/
import Derived.Test.YtbclmclddpdhlaaS4
import Derived.Test.YtbclmclddpdhlaaS9
namespace Go.Proofs.Ytbclmclddpdhlaa.S
open Go Go.RowKit Go.Proofs.Ytbclmclddpdhlaa Go.Proofs.YtbclmclddpdhlaaW.PrintWords Go.Proofs.YtbclmclddpdhlaaW.PrintLast Go.Proofs.YtbclmclddpdhlaaW.PrintMore
set_option linter.unusedVariables false
set_option linter.unusedSimpArgs false
/-- A value is a slice that reads as the bytes p. -/
def IsPart (W : World) (x : Value) (p : List Int) : Prop := ∃ A c, x = .slice A p.length c ∧ p.length ≤ c ∧ Kd.C (Kd.int .u8) W A p.length p
theorem IsPart.below {W W' : World} {x : Value} {p : List Int} (h : IsPart W x p) (hB : Below W.heap.size W W') : IsPart W' x p := by
  obtain ⟨A, c, h1, h2, h3⟩ := h
  exact ⟨A, c, h1, h2, Kd.C_below h3 hB⟩
theorem isPart_nil (W : World) : IsPart W (.slice none 0 0) [] := ⟨none, 0, rfl, by simp, ⟨rfl, by decide, fun h => absurd h (by decide)⟩⟩
theorem row_parts {W : World} {base : Nat} {v : Value} {vs : List Value} {L : List (List Int)} (h : Calm2.RowOf W base 33 v vs) (hlen : vs.length = L.length) (hL : L.length ≤ 1000) (hel : ∀ (j : Nat) x p, vs[j]? = some x → L[j]? = some p → IsPart W x p) :
    ∃ A c, v = .slice A L.length c ∧ L.length ≤ c ∧ Kd.C (Kd.slice 5 (Kd.int .u8)) W A L.length L := by
  have hcells := fun g (hg : v.ownBlock = some g) => World.ownsRow.cells h hg
  rcases h.2 with ⟨rfl, hn⟩ | ⟨g, cap, cur, rfl, hb, hg, hle, _⟩
  · have : L = [] := List.eq_nil_of_length_eq_zero (by omega)
    subst this
    exact ⟨none, 0, rfl, by simp, ⟨rfl, by decide, fun h => absurd h (by decide)⟩⟩
  · refine ⟨some ⟨g, 0, none⟩, cap, by rw [hlen], by omega, H.C_sl (by omega) (fun j p hp => ?_)⟩
    have hj : j < vs.length := by have := (List.getElem?_eq_some_iff.1 hp).1; omega
    have hx : vs[j]? = some vs[j] := List.getElem?_eq_getElem hj
    obtain ⟨A, c, e1, e2, e3⟩ := hel j _ p hx hp
    exact ⟨A, c, by rw [hcells g rfl j _ hx, e1], e2, e3⟩
theorem row_strs {W : World} {base : Nat} {v : Value} {L : List ByteArray} (h : Calm2.RowOf W base 9 v (L.map Value.string)) (hL : L.length ≤ 1000) :
    ∃ A c, v = .slice A L.length c ∧ L.length ≤ c ∧ Kd.C Kd.string W A L.length L := by
  have hcells := fun g (hg : v.ownBlock = some g) => World.ownsRow.cells h hg
  have hlen : (L.map Value.string).length = L.length := by simp
  rcases h.2 with ⟨rfl, hn⟩ | ⟨g, cap, cur, rfl, hb, hg, hle, _⟩
  · have : L = [] := List.eq_nil_of_length_eq_zero (by omega)
    subst this
    exact ⟨none, 0, rfl, by simp, ⟨rfl, by decide, fun h => absurd h (by decide)⟩⟩
  · refine ⟨some ⟨g, 0, none⟩, cap, by rw [hlen], by omega, H.C_str (by omega) (fun j p hp => ?_)⟩
    exact hcells g rfl j _ (by simp [hp])
theorem crc_row {W : World} {base : Nat} {v : Value} {vs : List Value} {L : List (List Int)} {R : Int} (h : Calm2.RowOf W base 33 v vs) (hlen : vs.length = L.length) (hL : L.length ≤ 1000) (hel : ∀ (j : Nat) x p, vs[j]? = some x → L[j]? = some p → IsPart W x p) (hs : Small L) (hR : crcV L = R) :
    Calls Try.prog 9 #[v] W fun e w' => e = .returned (.int .u32 R) ∧ Below W.heap.size W w' := by
  obtain ⟨A, c, rfl, hc, hC⟩ := row_parts h hlen hL hel
  obtain ⟨K, hK⟩ := crc_ev hs
  subst hR
  exact (PD.sum_Crc.calls K A c L _ W hC hc (hK K (Nat.le_refl _))).mono fun e w' ⟨h1, h2⟩ => ⟨h1, Drawn0.below' h2⟩
theorem rcrc_row {W : World} {base : Nat} {v : Value} {vs : List Value} {L : List (List Int)} {R : Int} (h : Calm2.RowOf W base 33 v vs) (hlen : vs.length = L.length) (hL : L.length ≤ 1000) (hel : ∀ (j : Nat) x p, vs[j]? = some x → L[j]? = some p → IsPart W x p) (hs : Small L) (hR : crcV L = R) :
    Calls Try.prog 10 #[v] W fun e w' => e = .returned (.int .u32 R) ∧ Below W.heap.size W w' := by
  obtain ⟨A, c, rfl, hc, hC⟩ := row_parts h hlen hL hel
  obtain ⟨K, hK⟩ := ref_ev hs
  subst hR
  exact (PD.augurref1_Crc.calls K A c L _ W hC hc (hK K (Nat.le_refl _))).mono fun e w' ⟨h1, h2⟩ => ⟨h1, Drawn0.below' h2⟩
theorem print_row {W : World} {base : Nat} {v : Value} {vs : List Value} {L : List ByteArray} {R : Int} (h : Calm2.RowOf W base 9 v vs) (hv : vs = L.map Value.string) (hL : L.length ≤ 1000) (hok : H.okL L = true) (hR : H.prN L L.length = R) :
    Calls Try.prog 11 #[v] W fun e w' => e = .returned (.int .u64 R) ∧ Below W.heap.size W w' := by
  subst hv
  obtain ⟨A, c, rfl, hc, hC⟩ := row_strs h hL
  subst hR
  exact H.print_calls A c L W hC hok
theorem rprint_row {W : World} {base : Nat} {v : Value} {vs : List Value} {L : List ByteArray} {R : Int} (h : Calm2.RowOf W base 9 v vs) (hv : vs = L.map Value.string) (hL : L.length ≤ 1000) (hok : H.okL L = true) (hR : H.prN L L.length = R) :
    Calls Try.prog 13 #[v] W fun e w' => e = .returned (.int .u64 R) ∧ Below W.heap.size W w' := by
  subst hv
  obtain ⟨A, c, rfl, hc, hC⟩ := row_strs h hL
  subst hR
  obtain ⟨K, hK⟩ := rp_ev hok
  exact (PD.augurref1_Print.calls K A c L _ W hC hc (hK K (Nat.le_refl _))).mono fun e w' ⟨h1, h2⟩ => ⟨h1, Drawn0.below' h2⟩
/-! ### Empty parts behind -/
theorem allC_fold (l : List (List Int)) : ∀ (m i : Nat) (c : Int), i + m = l.length → allC l c i m = ((l.drop i).take m).foldl (fun c xs => xs.foldl byteC c) c
  | 0, i, c, h => by simp [allC]
  | m + 1, i, c, h => by
    have hi : i < l.length := by omega
    rw [List.drop_eq_getElem_cons hi]
    simp only [List.take_succ_cons, List.foldl_cons, allC]
    have e : PD.rd_L1 l (i : Int) = l[i] := by
      unfold PD.rd_L1
      rw [Int.toNat_natCast, List.getD_eq_getElem?_getD, List.getElem?_eq_getElem hi]; rfl
    rw [allC_fold l m (i + 1) _ (by omega), e, partC_all]
theorem crcV_fold (l : List (List Int)) : crcV l = bits .xor .u32 4294967295 (l.foldl (fun c xs => xs.foldl byteC c) 4294967295) := by
  unfold crcV
  rw [allC_fold l l.length 0 _ (by omega)]; simp
theorem crcV_empties (l : List (List Int)) (m : Nat) : crcV (l ++ List.replicate m []) = crcV l := by
  rw [crcV_fold, crcV_fold, List.foldl_append]
  congr 1
  induction m with
  | zero => rfl
  | succ m ih => rw [List.replicate_succ, List.foldl_cons]; exact ih
theorem small_rep {l : List Int} {T M : Nat} (hl : l.length ≤ 50) (hT : T ≤ 255) (hM : M ≤ 3) : Small (List.replicate T l ++ List.replicate M []) := ⟨by simp; omega, fun i => by
  unfold PD.rd_L1
  rw [Int.toNat_natCast, List.getD_eq_getElem?_getD]
  cases h : (List.replicate T l ++ List.replicate M [])[i]? with
  | none => show ([] : List Int).length < _; decide
  | some p =>
    have hm := List.mem_of_getElem? h
    simp at hm
    show p.length < _
    rcases hm with ⟨_, rfl⟩ | ⟨_, rfl⟩
    · omega
    · decide⟩
theorem ok_rep {s : ByteArray} {T M : Nat} (hs : s.size ≤ 50) (hT : T ≤ 255) (hM : M ≤ 3) : H.okL (List.replicate T s ++ List.replicate M ByteArray.empty) = true := by
  unfold H.okL
  rw [Bool.and_eq_true, decide_eq_true_eq, List.all_eq_true]
  refine ⟨by simp; omega, fun x hx => ?_⟩
  simp at hx
  rw [decide_eq_true_eq]
  rcases hx with ⟨_, rfl⟩ | ⟨_, rfl⟩
  · omega
  · show ByteArray.empty.size < _; decide
theorem parts_rep {W : World} {x : Value} {l : List Int} {T M : Nat} (hx : IsPart W x l) (j : Nat) (y : Value) (p : List Int) (h1 : (List.replicate T x ++ List.replicate M (.slice none 0 0))[j]? = some y) (h2 : (List.replicate T l ++ List.replicate M [])[j]? = some p) : IsPart W y p := by
  by_cases hj : j < T
  · rw [List.getElem?_append_left (by simpa using hj), List.getElem?_replicate, if_pos hj] at h1 h2
    obtain rfl := Option.some.inj h1
    obtain rfl := Option.some.inj h2
    exact hx
  · rw [List.getElem?_append_right (by simp; omega), List.getElem?_replicate] at h1 h2
    split at h1
    · rename_i h3
      rw [if_pos (by simpa using h3)] at h2
      obtain rfl := Option.some.inj h1
      obtain rfl := Option.some.inj h2
      exact isPart_nil W
    · cases h1
end Go.Proofs.Ytbclmclddpdhlaa.S
