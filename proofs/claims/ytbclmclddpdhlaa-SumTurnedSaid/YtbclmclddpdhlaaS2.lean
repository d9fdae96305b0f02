/- Plain laws of the sums: light, texts, Print; then the law SumTells. -/
import Derived.Test.YtbclmclddpdhlaaS1
namespace Go.Proofs.Ytbclmclddpdhlaa.S
open Go Go.RowKit Go.Proofs.YtbclmclddpdhlaaW.PrintWords Go.Proofs.YtbclmclddpdhlaaW.PrintLast Go.Proofs.YtbclmclddpdhlaaW.PrintMore Go.Proofs.Ytbclmclddpdhlaa.PD
set_option linter.unusedVariables false
set_option linter.unusedSimpArgs false
theorem light_l0 {l : List (List Int)} (hl : l.length ≤ 20) : ∀ (m i : Nat), i + m = l.length → ∃ b, Ev (fun k => augurlaw1_light.l0 k l (i : Int)) b ∧ (b = true → ∀ j, i ≤ j → j < l.length → (rd_L1 l (j : Int)).length ≤ 300)
  | 0, i, h => ⟨true, Ev.now (fun k => by simp only [augurlaw1_light.l0]; rw [if_neg (by omega)]), fun _ j h1 h2 => by omega⟩
  | m + 1, i, h => by
    by_cases c : ((rd_L1 l (i : Int)).length : Int) > 300
    · exact ⟨false, Ev.now (fun k => by simp only [augurlaw1_light.l0]; rw [if_pos (by omega), if_pos (by omega), if_pos c]), fun hh => by cases hh⟩
    · obtain ⟨b, hb, hj⟩ := light_l0 hl m (i + 1) (by omega)
      refine ⟨b, Ev.step (g := fun k => augurlaw1_light.l0 k l ((i + 1 : Nat) : Int)) (fun k => ?_) hb, fun hh j h1 h2 => ?_⟩
      · simp only [augurlaw1_light.l0]
        rw [if_pos (by omega), if_pos (by omega), if_neg c, wsucc (n := l.length) (by omega) (by omega)]
      · by_cases e : j = i
        · subst e; omega
        · exact hj hh j (by omega) h2
theorem light_ev (l : List (List Int)) : ∃ b, Ev (fun k => augurlaw1_light.f k l) b ∧ (b = true → l.length ≤ 20 ∧ ∀ j : Nat, j < l.length → (rd_L1 l (j : Int)).length ≤ 300) := by
  by_cases c : (l.length : Int) > 20
  · exact ⟨false, ⟨0, fun k _ => by show (if (l.length : Int) > 20 then _ else _) = _; rw [if_pos c]⟩, fun h => by cases h⟩
  · obtain ⟨b, ⟨K, hK⟩, hj⟩ := light_l0 (l := l) (by omega) l.length 0 (by omega)
    refine ⟨b, ⟨K, fun k hk => ?_⟩, fun hh => ⟨by omega, fun j h => hj hh j (by omega) h⟩⟩
    show (if (l.length : Int) > 20 then _ else _) = _
    rw [if_neg c]
    exact hK k hk
def strs (l : List (List Int)) (i : Nat) : List ByteArray := (List.range i).map (fun (j : Nat) => strOfNums (rd_L1 l (j : Int)))
theorem texts_l0 {l : List (List Int)} (hl : l.length < 1099511627776) : ∀ (m i : Nat), i + m = l.length → Ev (fun k => augurlaw1_texts.l0 k l (strs l i) (i : Int)) (strs l l.length)
  | 0, i, h => Ev.now (fun k => by simp only [augurlaw1_texts.l0]; rw [if_neg (by omega)]; rw [show i = l.length by omega])
  | m + 1, i, h => by
    refine Ev.step (g := fun k => augurlaw1_texts.l0 k l (strs l (i + 1)) ((i + 1 : Nat) : Int)) (fun k => ?_) (texts_l0 hl m (i + 1) (by omega))
    have hs : (strs l i).length = i := by simp [strs]
    have e : strs l i ++ [strOfNums (rd_L1 l (i : Int))] = strs l (i + 1) := by simp [strs, List.range_succ]
    simp only [augurlaw1_texts.l0]
    rw [if_pos (by omega), if_pos (by omega), if_pos (by omega), e, wsucc (n := l.length) (by omega) hl]
theorem texts_ev {l : List (List Int)} (hl : l.length < 1099511627776) : Ev (fun k => augurlaw1_texts.f k l) (strs l l.length) := texts_l0 hl l.length 0 (by omega)
theorem bt_wrap (s : ByteArray) (i : Int) : IntKind.u64.wrap (bt s i) = bt s i := by
  have := bt_range s i
  rw [IntKind.wrap_u64]; omega
theorem rp_l2 {T : List ByteArray} {r : Int} (x : Nat) (hx : x < T.length) (h0 : Int) (hn : (rdOf ByteArray.empty T (x : Int)).size < 1099511627776) : ∀ (m j : Nat), j + m = (rdOf ByteArray.empty T (x : Int)).size →
    Ev (fun k => augurref1_Print.l0 k T (H.strN h0 (rdOf ByteArray.empty T (x : Int)) (rdOf ByteArray.empty T (x : Int)).size) (wrap64 ((x : Int) + 1))) r → Ev (fun k => augurref1_Print.l2 k T (H.strN h0 (rdOf ByteArray.empty T (x : Int)) j) (x : Int) (j : Int)) r
  | 0, j, h, hg => Ev.step (fun k => by simp only [augurref1_Print.l2]; rw [if_pos (by omega), if_pos (by omega), if_neg (by omega), show j = (rdOf ByteArray.empty T (x : Int)).size by omega]) hg
  | m + 1, j, h, hg => by
    refine Ev.step (g := fun k => augurref1_Print.l2 k T (H.strN h0 (rdOf ByteArray.empty T (x : Int)) (j + 1)) (x : Int) ((j + 1 : Nat) : Int)) (fun k => ?_) (rp_l2 x hx h0 hn m (j + 1) (by omega) hg)
    simp only [augurref1_Print.l2]
    rw [if_pos (by omega), if_pos (by omega), if_pos (by omega), if_pos (by omega), bt_wrap, wsucc (n := (rdOf ByteArray.empty T (x : Int)).size) (by omega) hn]
    rfl
theorem rp_l1 {T : List ByteArray} {r : Int} (x : Nat) (h0 : Int) (n : Nat) (hn : n < 1099511627776) (hg : Ev (fun k => augurref1_Print.l2 k T (H.lenH h0 n) (x : Int) 0) r) : Ev (fun k => augurref1_Print.l1 k T h0 (x : Int) ((n : Int) % 4294967296) 0) r := by
  have w0 : wrap64 (24 - wrap64 (8 * 0)) = 24 := by decide +kernel
  have w1 : wrap64 (24 - wrap64 (8 * 1)) = 16 := by decide +kernel
  have w2 : wrap64 (24 - wrap64 (8 * 2)) = 8 := by decide +kernel
  have w3 : wrap64 (24 - wrap64 (8 * 3)) = 0 := by decide +kernel
  have v0 : wrap64 (0 + 1) = 1 := by decide +kernel
  have v1 : wrap64 (1 + 1) = 2 := by decide +kernel
  have v2 : wrap64 (2 + 1) = 3 := by decide +kernel
  have v3 : wrap64 (3 + 1) = 4 := by decide +kernel
  have s0 : shr .u32 ((n : Int) % 4294967296) 24 % 256 = (n : Int) / 16777216 % 256 := by
    show ((n : Int) % 4294967296) / 2 ^ 24 % 256 = _; omega
  have s1 : shr .u32 ((n : Int) % 4294967296) 16 % 256 = (n : Int) / 65536 % 256 := by
    show ((n : Int) % 4294967296) / 2 ^ 16 % 256 = _; omega
  have s2 : shr .u32 ((n : Int) % 4294967296) 8 % 256 = (n : Int) / 256 % 256 := by
    show ((n : Int) % 4294967296) / 2 ^ 8 % 256 = _; omega
  have s3 : shr .u32 ((n : Int) % 4294967296) 0 % 256 = (n : Int) % 256 := by
    show ((n : Int) % 4294967296) / 2 ^ 0 % 256 = _; omega
  refine Ev.step (g := fun k => augurref1_Print.l1 k T (H.putB h0 ((n : Int) / 16777216 % 256)) (x : Int) ((n : Int) % 4294967296) 1) (fun k => ?_) ?_
  · simp only [augurref1_Print.l1]; rw [if_pos (by decide), w0, if_pos (by decide), v0, s0]; rfl
  refine Ev.step (g := fun k => augurref1_Print.l1 k T (H.putB (H.putB h0 ((n : Int) / 16777216 % 256)) ((n : Int) / 65536 % 256)) (x : Int) ((n : Int) % 4294967296) 2) (fun k => ?_) ?_
  · simp only [augurref1_Print.l1]; rw [if_pos (by decide), w1, if_pos (by decide), v1, s1]; rfl
  refine Ev.step (g := fun k => augurref1_Print.l1 k T (H.putB (H.putB (H.putB h0 ((n : Int) / 16777216 % 256)) ((n : Int) / 65536 % 256)) ((n : Int) / 256 % 256)) (x : Int) ((n : Int) % 4294967296) 3) (fun k => ?_) ?_
  · simp only [augurref1_Print.l1]; rw [if_pos (by decide), w2, if_pos (by decide), v2, s2]; rfl
  refine Ev.step (g := fun k => augurref1_Print.l1 k T (H.lenH h0 n) (x : Int) ((n : Int) % 4294967296) 4) (fun k => ?_) ?_
  · simp only [augurref1_Print.l1]; rw [if_pos (by decide), w3, if_pos (by decide), v3, s3]; rfl
  refine Ev.step (fun k => ?_) hg
  simp only [augurref1_Print.l1]; rw [if_neg (by decide)]
theorem rp_l0 {T : List ByteArray} (hT : H.okL T = true) : ∀ (m i : Nat), i + m = T.length → Ev (fun k => augurref1_Print.l0 k T (H.prN T i) (i : Int)) (H.prN T T.length)
  | 0, i, h => Ev.now (fun k => by simp only [augurref1_Print.l0]; rw [if_neg (by omega), show i = T.length by omega])
  | m + 1, i, h => by
    have hlen := H.okL_len hT
    have hat := H.okL_at hT i
    refine Ev.step (g := fun k => augurref1_Print.l1 k T (H.prN T i) (i : Int) (((rdOf ByteArray.empty T (i : Int)).size : Int) % 4294967296) 0) (fun k => ?_) ?_
    · simp only [augurref1_Print.l0]; rw [if_pos (by omega), if_pos (by omega)]
    · refine rp_l1 i _ _ hat ?_
      refine rp_l2 i (by omega) (H.lenH (H.prN T i) (rdOf ByteArray.empty T (i : Int)).size) hat (rdOf ByteArray.empty T (i : Int)).size 0 (by omega) ?_
      rw [wsucc (n := T.length) (by omega) hlen]
      exact rp_l0 hT m (i + 1) (by omega)
theorem rp_ev {T : List ByteArray} (hT : H.okL T = true) : Ev (fun k => augurref1_Print.f k T) (H.prN T T.length) := rp_l0 hT T.length 0 (by omega)
theorem strs_ok {l : List (List Int)} (hs : Small l) : H.okL (strs l l.length) = true := by
  unfold H.okL
  rw [Bool.and_eq_true]
  refine ⟨decide_eq_true (by simpa [strs] using hs.1), ?_⟩
  rw [List.all_eq_true]
  intro s h
  simp only [strs, List.mem_map, List.mem_range] at h
  obtain ⟨j, hj, rfl⟩ := h
  exact decide_eq_true (by rw [strOfNums_size]; exact hs.2 j)
theorem tells (l : List (List Int)) : ∃ k, augurlaw1_SumTells.f k l = some true := by
  obtain ⟨b, ⟨K1, h1⟩, hb⟩ := light_ev l
  cases b with
  | false =>
    refine ⟨K1, ?_⟩
    unfold augurlaw1_SumTells.f
    rw [show augurlaw1_known.f = some true from rfl]
    simp only [Option.bind_some, if_true]
    rw [show augurlaw1_light.f K1 l = some false from h1 K1 (Nat.le_refl _)]
    rfl
  | true =>
    obtain ⟨hl, hj⟩ := hb rfl
    have hs : Small l := ⟨by omega, fun i => by
      by_cases c : i < l.length
      · have := hj i c; omega
      · unfold rd_L1
        rw [Int.toNat_natCast, List.getD_eq_getElem?_getD, List.getElem?_eq_none (by omega)]
        decide⟩
    obtain ⟨K2, h2⟩ := crc_ev hs
    obtain ⟨K3, h3⟩ := ref_ev hs
    obtain ⟨K4, h4⟩ := texts_ev (l := l) hs.1
    obtain ⟨K5, h5⟩ := rp_ev (strs_ok hs)
    have hp : sum_Print.f (strs l l.length) = some (H.prN (strs l l.length) (strs l l.length).length) := by
      unfold sum_Print.f; rw [if_pos (strs_ok hs)]
    refine ⟨K1 + K2 + K3 + K4 + K5, ?_⟩
    unfold augurlaw1_SumTells.f
    rw [show augurlaw1_known.f = some true from rfl]
    simp only [Option.bind_some, if_true]
    rw [show augurlaw1_light.f (K1 + K2 + K3 + K4 + K5) l = some true from h1 _ (by omega)]
    simp only [Option.bind_some, if_true]
    rw [show sum_Crc.f (K1 + K2 + K3 + K4 + K5) l = _ from h2 _ (by omega), show augurref1_Crc.f (K1 + K2 + K3 + K4 + K5) l = _ from h3 _ (by omega)]
    simp only [Option.bind_some, if_true]
    rw [show augurlaw1_texts.f (K1 + K2 + K3 + K4 + K5) l = _ from h4 _ (by omega)]
    simp only [Option.bind_some]
    rw [hp]
    simp only [Option.bind_some]
    rw [show augurref1_Print.f (K1 + K2 + K3 + K4 + K5) (strs l l.length) = _ from h5 _ (by omega)]
    simp
end Go.Proofs.Ytbclmclddpdhlaa.S
