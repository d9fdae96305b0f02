/- The walk of SumLong: many parts, empty ones too. -/
import Derived.Test.YtbclmclddpdhlaaS10
import Derived.Deep.LoopGhost
import Derived.Deep.DeepCutAuto
import Derived.Deep.CutBlock
namespace Go.Proofs.Ytbclmclddpdhlaa.S
open Go Go.RowKit Go.Proofs.Ytbclmclddpdhlaa Go.Proofs.YtbclmclddpdhlaaW.PrintWords Go.Proofs.YtbclmclddpdhlaaW.PrintLast Go.Proofs.YtbclmclddpdhlaaW.PrintMore
set_option linter.unusedVariables false
set_option linter.unusedSimpArgs false
theorem info33 : (Try.prog.info? 33).map (fun i => (i.zero, i.size, i.bytes)) = some (some (.slice none 0 0), 1, 24) := by kernel_rfl
theorem info9' : (Try.prog.info? 9).map (fun i => (i.zero, i.size, i.bytes)) = some (some (.string ⟨#[]⟩), 1, 16) := by kernel_rfl
theorem inj_at {a : Act} {t : Nat} {u v : Value} (h1 : a.tmps[t]? = some v) (h2 : a.tmps[t]? = some u) : u = v := by rw [h1] at h2; exact (Option.some.inj h2).symm
theorem wpl_row {ops : Array Oper} {rest : List Oper} {o : Oper} {a : Act} {Q : Exit → Act → World → Prop} {w : World} (hgd : o.guard = none) (s x : Operand) (t e : TypeId) {z : Value} {bytes : Nat}
    (ho : o.op = .call { callee := .builtin .append, args := #[s, x], argTypes := #[t, t] }) (ht : Try.prog.underlying t = some (.slice e)) (hinfo : (Try.prog.info? e).map (fun i => (i.zero, i.size, i.bytes)) = some (some z, 1, bytes)) (hz : z.cells.size = 1)
    (base : Nat) (v : Value) (l : List Value) (hs : a.eval s = v) (hr : Calm2.RowOf w base e v l) (g : Nat) (y : Value) (hx : a.eval x = .slice (some ⟨g, 0, none⟩) 1 1) (h0 : w.cell? ⟨g, 0, none⟩ = some y) (h1 : y.oneCell' = true) (hl : l.length ≤ 1000) (hbytes : bytes ≤ 100) (hbase : base ≤ w.heap.size)
    (h : ∀ v' w', Calm2.RowOf w' base e v' (l ++ [y]) → w.grownBy w' v.ownBlock → wpList Try.prog ops Q rest (a.put o.dst v') w') : wpList Try.prog ops Q (o :: rest) a w := by
  obtain ⟨i, hi, hzz, hsz, hby⟩ := info_parts hinfo
  refine wpList_append_own w hgd s x t ho base e i z 1 bytes ht hi hzz hsz hby hz (by decide) v l.length l hs hr ⟨g, 0, none⟩ 1 1 [y] hx rfl ?_ ?_ ?_ ?_ hbase ?_
  · intro j u hj
    rcases j with _ | j
    · simp at hj; subst hj; simpa [Addr.add]
    · simp at hj
  · intro u hu; simp at hu; subst hu; exact h1
  · unfold maxLen; omega
  · have : (l.length + 1) * bytes ≤ 1001 * 100 := Nat.mul_le_mul (by omega) hbytes
    omega
  · intro v' w' ho' hg _
    refine h v' w' ?_ hg
    unfold Calm2.RowOf
    rw [List.length_append]
    exact ho'
theorem step2 {W W0 w7 : World} {base : Nat} {e e' : TypeId} {v v' : Value} {l l' : List Value} (h7 : Calm2.RowOf W0 base e v l) (h8 : Calm2.RowOf W0 base e' v' l') (hg : W.grownBy w7 v.ownBlock) (hne : e' ≠ e) (hB : Below W0.heap.size W0 W) : Calm2.RowOf w7 base e' v' l' :=
  (h8.kept (Calm2.same_of_below hB)).kept (Calm2.other_type (h7.kept (Calm2.same_of_below hB)) hg hne)
theorem step2b {a W W0 w7 : World} {e : TypeId} {v : Value} {l : List Value} (hBw : Below a.heap.size a W0) (h7 : Calm2.RowOf W0 a.heap.size e v l) (hg : W.grownBy w7 v.ownBlock) (hB : Below W0.heap.size W0 W) : Below a.heap.size a w7 :=
  Below.grown (hBw.trans (hB.mono hBw.size)) hg (Nat.le_trans hBw.size hB.size) (fun k hk => (World.ownsRow.lt h7 k hk).1)
theorem rep_succ {α : Type} (k : Nat) (x : α) : List.replicate k x ++ [x] = List.replicate (k + 1) x := by rw [List.replicate_succ']
set_option maxHeartbeats 8000000 in
set_option maxRecDepth 100000 in
theorem long_walk (A : Option Addr) (cap : Nat) (l : List Int) (T M : Nat) (m : Int) (hT2 : T ≤ 255) (hM2 : M ≤ 3) (hm : Int.tmod m 4 = (M : Int)) (w : World) (hl : l.length ≤ 50) (hc : l.length ≤ cap) (hr : Kd.C (Kd.int .u8) w A l.length l) :
    Calls Try.prog 6 #[.slice A l.length cap, .int .u8 (T : Int), .int .u8 m] w fun e w' => e = .returned (.bool true) ∧ Below w.heap.size w w' := by
  have g1 : decide ((50 : Int) < (l.length : Int)) = false := decide_eq_false (by omega)
  have q1 : Value.int .i64 (wrap64 (T : Int)) = Value.int .i64 (T : Int) := by congr 1; unfold wrap64; omega
  have q2 : Value.int .i64 (wrap64 (M : Int)) = Value.int .i64 (M : Int) := by congr 1; unfold wrap64; omega
  have q3 : Value.int .u8 (IntKind.u8.wrap (M : Int)) = Value.int .u8 (M : Int) := by congr 1; rw [IntKind.wrap_u8]; omega
  have q4 : Value.int .u8 (Int.tmod m 4) = Value.int .u8 (M : Int) := by rw [hm]
  clear hm
  obtain ⟨s, hs⟩ : ∃ s, Hid (strOfNums l = s) := ⟨_, Lib.hid rfl⟩
  have hs50 : s.size ≤ 50 := by rw [← hs.out, strOfNums_size]; omega
  have hP : ∀ W : World, Below w.heap.size w W → IsPart W (.slice A l.length cap) l := fun W h => ⟨A, cap, rfl, hc, Kd.C_below hr h⟩
  have v1 : ∀ W : World, Below w.heap.size w W → (convert 33 9 (.slice A l.length cap)).run Try.prog W = .ok (.string s) W := fun W h => by rw [← hs.out]; exact CONV (Kd.C_below hr h)
  obtain ⟨R1, hR1⟩ : ∃ R, Hid (crcV (List.replicate T l ++ List.replicate 0 []) = R) := ⟨_, Lib.hid rfl⟩
  have hR2 : Hid (crcV (List.replicate T l ++ List.replicate M []) = R1) := Lib.hid (by rw [← hR1.out, crcV_empties, crcV_empties])
  obtain ⟨P1, hP1⟩ : ∃ R, Hid (H.prN (List.replicate T s ++ List.replicate 0 ByteArray.empty) (List.replicate T s ++ List.replicate 0 ByteArray.empty).length = R) := ⟨_, Lib.hid rfl⟩
  obtain ⟨P2, hP2⟩ : ∃ R, Hid (H.prN (List.replicate T s ++ List.replicate M ByteArray.empty) (List.replicate T s ++ List.replicate M ByteArray.empty).length = R) := ⟨_, Lib.hid rfl⟩
  have hPP : M = 0 → P2 = P1 := fun h => by subst h; rw [← hP1.out, ← hP2.out]
  replace hP := Lib.hid hP
  clear hr
  go_enter Try.func6, Try.ntmps6
  go_wp2_with (first | (go_at_call 7; (with_reducible refine (H.known_any _).mono ?_); rintro e w1 ⟨rfl, hB1⟩; have hg1 : w.heap.size ≤ w1.heap.size := hB1.size))
  go_loopg [7, 8, 9] T (fun gk v7 v8 v9 wi => ∃ (k : Nat) (z : Int), Aside (z = k ∧ k ≤ T ∧ gk + k = T) ∧ v9 = .int .i64 z ∧ Calm2.RowOf wi w.heap.size 33 v7 (List.replicate k (.slice A l.length cap)) ∧ Calm2.RowOf wi w.heap.size 9 v8 (List.replicate k (.string s)) ∧ Below w.heap.size w wi)
  case atStart => exact ⟨0, 0, ⟨rfl, by omega, by omega⟩, rfl, Calm2.RowOf.nil _ _ _, Calm2.RowOf.nil _ _ _, hB1⟩
  case round =>
    obtain ⟨k, z, hk, rfl, hL7, hL8, hB⟩ := hrel
    have hzk : z = (k : Int) := hk.out.1
    subst hzk
    have hkT : k ≤ T := hk.out.2.1
    have HH := Lib.hid hk
    clear hk
    by_cases hlt : k < T
    · have t1 : decide ((k : Int) < (T : Int)) = true := decide_eq_true (by omega)
      have w1_ : Value.int .i64 (wrap64 ((k : Int) + 1)) = Value.int .i64 ((k : Int) + 1) := by congr 1; unfold wrap64; omega
      go_upto_region 10 with (fail)
      refine Calm2.wp_calm_J (by kernel_rfl) w ((Calm2.isV (u7)) :: (Calm2.isV (.slice A l.length cap)) :: (Calm2.anyV) :: (Calm2.anyV) :: (Calm2.isV (u8)) :: (Calm2.isV (.slice A l.length cap)) :: (Calm2.isV (.string s)) :: (Calm2.anyV) :: (Calm2.anyV) :: (Calm2.anyV) :: (Calm2.anyV) :: []) (fun L_ a_ w_ => Calm2.Half w.heap.size 33 2 26 3 27 9 7 (.slice A l.length cap) u7 (List.replicate k (.slice A l.length cap)) L_ a_ w_ ∧ Calm2.Half w.heap.size 9 7 31 8 32 10 8 (.string s) u8 (List.replicate k (.string s)) L_ a_ w_) ?hL (by kernel_rfl) (by kernel_rfl) hB ?hJ0 ?step ?fin
      case hL =>
        intro p hp v w1 w2 h
        simp only [List.mem_cons, List.not_mem_nil, or_false] at hp
        rcases hp with rfl | rfl | rfl | rfl | rfl | rfl | rfl | rfl | rfl | rfl | rfl <;> exact h
      case hJ0 =>
        intro L_ hf
        exact ⟨⟨fun _ => hL7, fun h => (by rw [hf] at h; cases h), fun h => (by rw [hf] at h; cases h), fun h => (by rw [hf] at h; cases h)⟩, ⟨fun _ => hL8, fun h => (by rw [hf] at h; cases h), fun h => (by rw [hf] at h; cases h), fun h => (by rw [hf] at h; cases h)⟩⟩
      case step =>
        refine Calm2.StepsJ.cons (Calm2.quietJ (e1 := 33) (e2 := 9) (fun _ _ _ => Iff.rfl) rfl (Calm2.pres_half (by decide) (by decide) (by decide) (by decide) (by decide) (by decide)) (Calm2.pres_half (by decide) (by decide) (by decide) (by decide) (by decide) (by decide)) ?_) ?_
        · intro a_ w1 hS hold hdep K hK
          have h7 : a_.tmps[7]? = some (u7) := (hold 7 (by kernel_rfl)).trans rfl
          have e7 := Calm2.at_getD h7
          clear hold hdep
          go_simp
          exact hK _ rfl
        refine Calm2.StepsJ.cons (Calm2.quietJ (e1 := 33) (e2 := 9) (fun _ _ _ => Iff.rfl) rfl (Calm2.pres_half (by decide) (by decide) (by decide) (by decide) (by decide) (by decide)) (Calm2.pres_half (by decide) (by decide) (by decide) (by decide) (by decide) (by decide)) ?_) ?_
        · intro a_ w1 hS hold hdep K hK
          have h0 : a_.tmps[0]? = some (.slice A l.length cap) := (hold 0 (by kernel_rfl)).trans rfl
          have e0 := Calm2.at_getD h0
          clear hold hdep
          go_simp
          exact hK _ rfl
        refine Calm2.StepsJ.cons (Calm2.buildJ (e' := 9) (fun _ _ _ => Iff.rfl) rfl rfl (by decide) (by decide) (by decide) (by decide) (by first | decide | simp) (Calm2.pres_half (by decide) (by decide) (by decide) (by decide) (by decide) (by decide)) (fun _ _ => trivial) ?_) ?_
        · intro a_ w1 hold hdep K hK
          have h25 := Calm2.is_at (x := .slice A l.length cap) hdep (k := 1) (by kernel_rfl) rfl rfl (fun _ _ h => h)
          have e25 := Calm2.at_getD h25
          clear hold hdep
          go_simp
          exact hK
        refine Calm2.StepsJ.cons (Calm2.appJ (e' := 9) (jv := 0) (dv := 24) (fun _ _ _ => Iff.rfl) rfl rfl (by decide) (by decide) (by decide) (by first | decide | simp) rfl (Calm2.pres_half (by decide) (by decide) (by decide) (by decide) (by decide) (by decide)) (by decide) (fun _ _ => trivial) rfl Try.underlying22 info33 rfl (by kernel_rfl) (by kernel_rfl) rfl rfl (fun _ _ h => h) rfl (by first | (rw [List.length_replicate]; omega) | (rw [List.length_append, List.length_replicate, List.length_replicate]; omega)) (by decide)) ?_
        refine Calm2.StepsJ.cons (Calm2.quietJ (e1 := 33) (e2 := 9) (fun _ _ _ => Iff.rfl) rfl (Calm2.pres_half (by decide) (by decide) (by decide) (by decide) (by decide) (by decide)) (Calm2.pres_half (by decide) (by decide) (by decide) (by decide) (by decide) (by decide)) ?_) ?_
        · intro a_ w1 hS hold hdep K hK
          have h8 : a_.tmps[8]? = some (u8) := (hold 8 (by kernel_rfl)).trans rfl
          have e8 := Calm2.at_getD h8
          clear hold hdep
          go_simp
          exact hK _ rfl
        refine Calm2.StepsJ.cons (Calm2.quietJ (e1 := 33) (e2 := 9) (fun _ _ _ => Iff.rfl) rfl (Calm2.pres_half (by decide) (by decide) (by decide) (by decide) (by decide) (by decide)) (Calm2.pres_half (by decide) (by decide) (by decide) (by decide) (by decide) (by decide)) ?_) ?_
        · intro a_ w1 hS hold hdep K hK
          have h0 : a_.tmps[0]? = some (.slice A l.length cap) := (hold 0 (by kernel_rfl)).trans rfl
          have e0 := Calm2.at_getD h0
          clear hold hdep
          go_simp
          exact hK _ rfl
        refine Calm2.StepsJ.cons (Calm2.quietJ (e1 := 33) (e2 := 9) (fun _ _ _ => Iff.rfl) rfl (Calm2.pres_half (by decide) (by decide) (by decide) (by decide) (by decide) (by decide)) (Calm2.pres_half (by decide) (by decide) (by decide) (by decide) (by decide) (by decide)) ?_) ?_
        · intro a_ w1 hS hold hdep K hK
          have h29 := Calm2.is_at (x := .slice A l.length cap) hdep (k := 5) (by kernel_rfl) rfl rfl (fun _ _ h => h)
          have e29 := Calm2.at_getD h29
          clear hold hdep
          have v1' := v1 w1 hS
          go_simp
          exact hK _ rfl
        refine Calm2.StepsJ.cons (Calm2.buildJ (e' := 33) (fun _ _ _ => and_comm) rfl rfl (by decide) (by decide) (by decide) (by decide) (by first | decide | simp) (Calm2.pres_half (by decide) (by decide) (by decide) (by decide) (by decide) (by decide)) (fun _ _ => trivial) ?_) ?_
        · intro a_ w1 hold hdep K hK
          have h30 := Calm2.is_at (x := .string s) hdep (k := 6) (by kernel_rfl) rfl rfl (fun _ _ h => h)
          have e30 := Calm2.at_getD h30
          clear hold hdep
          go_simp
          exact hK
        refine Calm2.StepsJ.cons (Calm2.appJ (e' := 33) (jv := 4) (dv := 28) (fun _ _ _ => and_comm) rfl rfl (by decide) (by decide) (by decide) (by first | decide | simp) rfl (Calm2.pres_half (by decide) (by decide) (by decide) (by decide) (by decide) (by decide)) (by decide) (fun _ _ => trivial) rfl Try.underlying30 info9' rfl (by kernel_rfl) (by kernel_rfl) rfl rfl (fun _ _ h => h) rfl (by first | (rw [List.length_replicate]; omega) | (rw [List.length_append, List.length_replicate, List.length_replicate]; omega)) (by decide)) ?_
        refine Calm2.StepsJ.cons (Calm2.assignJ (e' := 9) (fun _ _ _ => Iff.rfl) rfl rfl (by decide) (by decide) (by decide) (by decide) (by first | decide | simp) (Calm2.pres_half (by decide) (by decide) (by decide) (by decide) (by decide) (by decide)) (fun _ _ => trivial) (by kernel_rfl) rfl rfl ?_) ?_
        · intro a_ w1 u hu K hK
          have e_ := Calm2.at_getD hu
          go_simp
          exact hK
        refine Calm2.StepsJ.cons (Calm2.assignJ (e' := 33) (fun _ _ _ => and_comm) rfl rfl (by decide) (by decide) (by decide) (by decide) (by first | decide | simp) (Calm2.pres_half (by decide) (by decide) (by decide) (by decide) (by decide) (by decide)) (fun _ _ => trivial) (by kernel_rfl) rfl rfl ?_) ?_
        · intro a_ w1 u hu K hK
          have e_ := Calm2.at_getD hu
          go_simp
          exact hK
        exact Calm2.StepsJ.nil
      case fin =>
        intro v w1 hS hv L_ hL hJ
        obtain ⟨j1, j2⟩ := hJ
        obtain ⟨n7, e7, r7⟩ := j1.new (hL 3 (by decide))
        obtain ⟨n8, e8, r8⟩ := j2.new (hL 8 (by decide))
        have k7 : v 9 = n7 := inj_at (t := 7) ((j1.asn (hL 9 (by decide))).2.trans e7) (by kernel_rfl)
        have k8 : v 10 = n8 := inj_at (t := 8) ((j2.asn (hL 10 (by decide))).2.trans e8) (by kernel_rfl)
        clear j1 j2 hv hL e7 e8
        simp only [List.append, Calm2.puts, Act.put, List.setIfInBounds_toArray, List.set_cons_zero, List.set_cons_succ]
        simp only [k7, k8]
        go_wp2_with fail
        go_roundg (T - k - 1)
        case measure => have := HH.out.out; omega
        case rel => exact ⟨k + 1, (k + 1 : Int), ⟨by omega, by omega, by omega⟩, by first | rfl | simp | exact congrArg (Value.int IntKind.i64) (by omega), by rw [← rep_succ]; exact r7, by rw [← rep_succ]; exact r8, hS⟩
    · obtain rfl : T = k := by omega
      have t1 : decide ((T : Int) < (T : Int)) = false := decide_eq_false (by omega)
      replace hL7 : Calm2.RowOf wr w.heap.size 33 u7 (List.replicate T (.slice A l.length cap) ++ List.replicate 0 (.slice none 0 0)) := by simpa using hL7
      replace hL8 : Calm2.RowOf wr w.heap.size 9 u8 (List.replicate T (.string s) ++ List.replicate 0 (.string ⟨#[]⟩)) := by simpa using hL8
      clear hlt hkT HH
      go_wp2_with (first | (go_at_call 9; refine (crc_row (base := w.heap.size) (vs := List.replicate T (.slice A l.length cap) ++ List.replicate 0 (.slice none 0 0)) (L := List.replicate T l ++ List.replicate 0 []) (R := R1) hL7 (by simp) (by rw [List.length_append, List.length_replicate, List.length_replicate]; omega) (fun j x p h1 h2 => parts_rep (hP.out _ hB) j x p h1 h2) (small_rep hl hT2 (by omega)) hR1.out).mono ?_; rintro e w' ⟨rfl, hD⟩; replace hL7 := Calm2.RowOf.kept hL7 (Calm2.same_of_below hD); replace hL8 := Calm2.RowOf.kept hL8 (Calm2.same_of_below hD); replace hB := below_call2 (w := w) hB hD; clear hD) | (go_at_call 11; refine (print_row (base := w.heap.size) (vs := List.replicate T (.string s) ++ List.replicate 0 (.string ⟨#[]⟩)) (L := List.replicate T s ++ List.replicate 0 ByteArray.empty) (R := P1) hL8 (by rw [List.map_append, List.map_replicate, List.map_replicate]; rfl) (by rw [List.length_append, List.length_replicate, List.length_replicate]; omega) (ok_rep hs50 hT2 (by omega)) hP1.out).mono ?_; rintro e w' ⟨rfl, hD⟩; replace hL7 := Calm2.RowOf.kept hL7 (Calm2.same_of_below hD); replace hL8 := Calm2.RowOf.kept hL8 (Calm2.same_of_below hD); replace hB := below_call2 (w := w) hB hD; clear hD))
      go_loopg [7, 8, 12] M (fun gk v7 v8 v12 wi => ∃ (k : Nat) (z : Int), Aside (z = k ∧ k ≤ M ∧ gk + k = M) ∧ v12 = .int .i64 z ∧ Calm2.RowOf wi w.heap.size 33 v7 (List.replicate T (.slice A l.length cap) ++ List.replicate k (.slice none 0 0)) ∧ Calm2.RowOf wi w.heap.size 9 v8 (List.replicate T (.string s) ++ List.replicate k (.string ⟨#[]⟩)) ∧ Below w.heap.size w wi)
      case atStart => exact ⟨0, 0, ⟨rfl, by omega, by omega⟩, rfl, hL7, hL8, hB⟩
      case round =>
        clear hL7 hL8 hB t1
        obtain ⟨k, z, hk, rfl, hL7, hL8, hB⟩ := hrel
        have hzk : z = (k : Int) := hk.out.1
        subst hzk
        have hkM : k ≤ M := hk.out.2.1
        have HH := Lib.hid hk
        clear hk
        by_cases hlt : k < M
        · have t1 : decide ((k : Int) < (M : Int)) = true := decide_eq_true (by omega)
          have w1_ : Value.int .i64 (wrap64 ((k : Int) + 1)) = Value.int .i64 ((k : Int) + 1) := by congr 1; unfold wrap64; omega
          go_wp2_with (first | (at_builtin; refine wpl_row rfl (.tmp 44) (.tmp 45) 22 33 rfl Try.underlying22 info33 rfl w.heap.size u7 _ rfl (Calm2.RowOf.kept hL7 (Calm2.same_of_below (by go_grown))) _ (.slice none 0 0) rfl (by go_simp) rfl (by rw [List.length_append, List.length_replicate, List.length_replicate]; omega) (by decide) (by have := hB.size; simp; omega) ?_; intro n7 w7 r7 hg7; have hL8a := step2 hL7 hL8 hg7 (by decide) (by go_grown); have hBa := step2b hB hL7 hg7 (by go_grown); clear hg7) | (at_builtin; refine wpl_row rfl (.tmp 47) (.tmp 48) 30 9 rfl Try.underlying30 info9' rfl w.heap.size u8 _ rfl (Calm2.RowOf.kept hL8a (Calm2.same_of_below (by go_grown))) _ (.string ⟨#[]⟩) rfl (by go_simp) rfl (by rw [List.length_append, List.length_replicate, List.length_replicate]; omega) (by decide) (by have := hBa.size; simp; omega) ?_; intro n8 w8 r8 hg8; have r7a := step2 hL8a r7 hg8 (by decide) (by go_grown); have hBb := step2b hBa hL8a hg8 (by go_grown); clear hg8))
          go_roundg (M - k - 1)
          case measure => have := HH.out.out; omega
          case rel => exact ⟨k + 1, (k + 1 : Int), ⟨by omega, by omega, by omega⟩, by first | rfl | simp | exact congrArg (Value.int IntKind.i64) (by omega), by rw [← rep_succ, ← List.append_assoc]; exact r7a, by rw [← rep_succ, ← List.append_assoc]; exact r8, hBb⟩
        · obtain rfl : M = k := by omega
          have t1 : decide ((M : Int) < (M : Int)) = false := decide_eq_false (by omega)
          clear hlt hkM HH
          by_cases hM0 : M = 0
          · have hpp := hPP hM0
            subst hpp
            have t2 : decide ((0 : Int) < (M : Int)) = false := decide_eq_false (by omega)
            go_wp2_with (first | (go_at_call 10; refine (rcrc_row (base := w.heap.size) (vs := List.replicate T (.slice A l.length cap) ++ List.replicate M (.slice none 0 0)) (L := List.replicate T l ++ List.replicate M []) (R := R1) hL7 (by simp) (by rw [List.length_append, List.length_replicate, List.length_replicate]; omega) (fun j x p h1 h2 => parts_rep (hP.out _ hB) j x p h1 h2) (small_rep hl hT2 (by omega)) hR2.out).mono ?_; rintro e w' ⟨rfl, hD⟩; replace hL7 := Calm2.RowOf.kept hL7 (Calm2.same_of_below hD); replace hL8 := Calm2.RowOf.kept hL8 (Calm2.same_of_below hD); replace hB := below_call2 (w := w) hB hD; clear hD) | (go_at_call 9; refine (crc_row (base := w.heap.size) (vs := List.replicate T (.slice A l.length cap) ++ List.replicate M (.slice none 0 0)) (L := List.replicate T l ++ List.replicate M []) (R := R1) hL7 (by simp) (by rw [List.length_append, List.length_replicate, List.length_replicate]; omega) (fun j x p h1 h2 => parts_rep (hP.out _ hB) j x p h1 h2) (small_rep hl hT2 (by omega)) hR2.out).mono ?_; rintro e w' ⟨rfl, hD⟩; replace hL7 := Calm2.RowOf.kept hL7 (Calm2.same_of_below hD); replace hL8 := Calm2.RowOf.kept hL8 (Calm2.same_of_below hD); replace hB := below_call2 (w := w) hB hD; clear hD) | (go_at_call 11; refine (print_row (base := w.heap.size) (vs := List.replicate T (.string s) ++ List.replicate M (.string ⟨#[]⟩)) (L := List.replicate T s ++ List.replicate M ByteArray.empty) (R := _) hL8 (by rw [List.map_append, List.map_replicate, List.map_replicate]; rfl) (by rw [List.length_append, List.length_replicate, List.length_replicate]; omega) (ok_rep hs50 hT2 (by omega)) hP2.out).mono ?_; rintro e w' ⟨rfl, hD⟩; replace hL7 := Calm2.RowOf.kept hL7 (Calm2.same_of_below hD); replace hL8 := Calm2.RowOf.kept hL8 (Calm2.same_of_below hD); replace hB := below_call2 (w := w) hB hD; clear hD) | (go_at_call 13; refine (rprint_row (base := w.heap.size) (vs := List.replicate T (.string s) ++ List.replicate M (.string ⟨#[]⟩)) (L := List.replicate T s ++ List.replicate M ByteArray.empty) (R := _) hL8 (by rw [List.map_append, List.map_replicate, List.map_replicate]; rfl) (by rw [List.length_append, List.length_replicate, List.length_replicate]; omega) (ok_rep hs50 hT2 (by omega)) hP2.out).mono ?_; rintro e w' ⟨rfl, hD⟩; replace hL7 := Calm2.RowOf.kept hL7 (Calm2.same_of_below hD); replace hL8 := Calm2.RowOf.kept hL8 (Calm2.same_of_below hD); replace hB := below_call2 (w := w) hB hD; clear hD))
            go_returns
            exact ⟨by simp, hB⟩
          · have t2 : decide ((0 : Int) < (M : Int)) = true := decide_eq_true (by omega)
            go_wp2_with (first | (go_at_call 10; refine (rcrc_row (base := w.heap.size) (vs := List.replicate T (.slice A l.length cap) ++ List.replicate M (.slice none 0 0)) (L := List.replicate T l ++ List.replicate M []) (R := R1) hL7 (by simp) (by rw [List.length_append, List.length_replicate, List.length_replicate]; omega) (fun j x p h1 h2 => parts_rep (hP.out _ hB) j x p h1 h2) (small_rep hl hT2 (by omega)) hR2.out).mono ?_; rintro e w' ⟨rfl, hD⟩; replace hL7 := Calm2.RowOf.kept hL7 (Calm2.same_of_below hD); replace hL8 := Calm2.RowOf.kept hL8 (Calm2.same_of_below hD); replace hB := below_call2 (w := w) hB hD; clear hD) | (go_at_call 9; refine (crc_row (base := w.heap.size) (vs := List.replicate T (.slice A l.length cap) ++ List.replicate M (.slice none 0 0)) (L := List.replicate T l ++ List.replicate M []) (R := R1) hL7 (by simp) (by rw [List.length_append, List.length_replicate, List.length_replicate]; omega) (fun j x p h1 h2 => parts_rep (hP.out _ hB) j x p h1 h2) (small_rep hl hT2 (by omega)) hR2.out).mono ?_; rintro e w' ⟨rfl, hD⟩; replace hL7 := Calm2.RowOf.kept hL7 (Calm2.same_of_below hD); replace hL8 := Calm2.RowOf.kept hL8 (Calm2.same_of_below hD); replace hB := below_call2 (w := w) hB hD; clear hD) | (go_at_call 11; refine (print_row (base := w.heap.size) (vs := List.replicate T (.string s) ++ List.replicate M (.string ⟨#[]⟩)) (L := List.replicate T s ++ List.replicate M ByteArray.empty) (R := _) hL8 (by rw [List.map_append, List.map_replicate, List.map_replicate]; rfl) (by rw [List.length_append, List.length_replicate, List.length_replicate]; omega) (ok_rep hs50 hT2 (by omega)) hP2.out).mono ?_; rintro e w' ⟨rfl, hD⟩; replace hL7 := Calm2.RowOf.kept hL7 (Calm2.same_of_below hD); replace hL8 := Calm2.RowOf.kept hL8 (Calm2.same_of_below hD); replace hB := below_call2 (w := w) hB hD; clear hD) | (go_at_call 13; refine (rprint_row (base := w.heap.size) (vs := List.replicate T (.string s) ++ List.replicate M (.string ⟨#[]⟩)) (L := List.replicate T s ++ List.replicate M ByteArray.empty) (R := _) hL8 (by rw [List.map_append, List.map_replicate, List.map_replicate]; rfl) (by rw [List.length_append, List.length_replicate, List.length_replicate]; omega) (ok_rep hs50 hT2 (by omega)) hP2.out).mono ?_; rintro e w' ⟨rfl, hD⟩; replace hL7 := Calm2.RowOf.kept hL7 (Calm2.same_of_below hD); replace hL8 := Calm2.RowOf.kept hL8 (Calm2.same_of_below hD); replace hB := below_call2 (w := w) hB hD; clear hD))
            go_returns
            exact ⟨by simp, hB⟩
end Go.Proofs.Ytbclmclddpdhlaa.S
