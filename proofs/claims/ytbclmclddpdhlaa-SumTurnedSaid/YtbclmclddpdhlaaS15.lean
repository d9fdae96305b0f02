/- SumTurned: an own copy of bytes, and its strings. -/
import Derived.Test.YtbclmclddpdhlaaS14
import Derived.Test.YtbclmclddpdhlaaS4
namespace Go.Proofs.Ytbclmclddpdhlaa.S
open Go Go.RowKit Go.Proofs.YtbclmclddpdhlaaW.PrintWords Go.Proofs.YtbclmclddpdhlaaW.PrintLast Go.Proofs.YtbclmclddpdhlaaW.PrintMore
set_option linter.unusedVariables false
theorem str_inj {xs ys : List Nat} (hx : ∀ y ∈ xs, y < 256) (hy : ∀ y ∈ ys, y < 256) (h : strOfNums (ints xs) = strOfNums (ints ys)) : xs = ys := by
  have back : ∀ (l : List Nat), (∀ y ∈ l, y < 256) → ((ints l).map fun n => UInt8.ofNat n.toNat).map UInt8.toNat = l := fun l hl => by
    unfold ints
    rw [List.map_map, List.map_map]
    conv => rhs; rw [← List.map_id l]
    refine List.map_congr_left (fun y hy => ?_)
    have := hl y hy
    show (UInt8.ofNat ((y : Int).toNat)).toNat = y
    rw [Int.toNat_natCast, UInt8.toNat_ofNat']
    omega
  have e : ((ints xs).map fun n => UInt8.ofNat n.toNat) = ((ints ys).map fun n => UInt8.ofNat n.toNat) := by
    unfold strOfNums at h
    injection h with h
    simpa using h
  rw [← back xs hx, ← back ys hy, e]
/-- The block g holds the bytes ys, written at will. -/
def Mine (w : World) (g : Nat) (ys : List Nat) : Prop := ∀ (j y : Nat), ys[j]? = some y → w.cell? ⟨g, j, none⟩ = some (.int .u8 (y : Int)) ∧ w.frozen? ⟨g, j, none⟩ = false
theorem Mine.below {w w' : World} {g : Nat} {ys : List Nat} (h : Mine w g ys) (hB : Below w.heap.size w w') : Mine w' g ys := fun j y hj => by
  obtain ⟨h1, h2⟩ := h j y hj
  have hl := World.block_lt_of_cell? w _ h1
  exact ⟨(Below.cell hB (p := ⟨g, j, none⟩) hl).trans h1, (Below.frozen hB (p := ⟨g, j, none⟩) hl).trans h2⟩
theorem Mine.turn {w : World} {g p q : Nat} {ys : List Nat} (h : Mine w g ys) (hp : p < ys.length) : Mine (w.setCell ⟨g, p, none⟩ (.int .u8 ((ys.getD p 0 ^^^ 2 ^ q : Nat) : Int))) g (S.turn ys p q) := by
  intro j y hj
  unfold S.turn at hj
  rw [List.getElem?_set] at hj
  have hpp := h p ys[p] (List.getElem?_eq_getElem hp)
  obtain ⟨c1, c2⟩ := hpp
  by_cases e : p = j
  · subst e
    rw [if_pos rfl, if_pos hp] at hj
    obtain rfl := Option.some.inj hj
    exact ⟨by go_simp, by go_simp⟩
  · rw [if_neg e] at hj
    obtain ⟨d1, d2⟩ := h j y hj
    exact ⟨by go_simp, by go_simp⟩
theorem Mine.C {w : World} {g : Nat} {ys : List Nat} (h : Mine w g ys) (hl : ys.length ≤ 1000) : Kd.C (Kd.int .u8) w (some ⟨g, 0, none⟩) ys.length (ints ys) := by
  refine ⟨by simp [ints], by omega, fun _ => ⟨⟨g, 0, none⟩, rfl, fun j p hj => ⟨[.int .u8 p], rfl, rfl, fun i u hu => ?_⟩⟩⟩
  cases i with
  | zero =>
    simp at hu
    subst hu
    unfold ints at hj
    rw [List.getElem?_map] at hj
    cases hy : ys[j]? with
    | none => rw [hy] at hj; cases hj
    | some y =>
      rw [hy] at hj
      obtain rfl := Option.some.inj hj
      have := (h j y hy).1
      have e1 : (⟨g, 0, none⟩ : Addr).add (j * (Kd.int .u8).sz + 0) = ⟨g, j, none⟩ := by
        have e2 : (Kd.int .u8).sz = 1 := rfl
        rw [e2]; unfold Addr.add; split <;> simp_all
      rw [e1]; exact this
  | succ i => simp at hu
theorem info5 : (Try.prog.info? 5).map (fun i => (i.zero, i.size, i.bytes)) = some (some (.int .u8 0), 1, 1) := by kernel_rfl
theorem frozen_row {w : World} {g j : Nat} {cur : Array Value} {e : TypeId} (h : w.heap[g]? = some (Obj.cells cur e (0, 0))) : w.frozen? ⟨g, j, none⟩ = false := by
  simp [World.frozen?, h]
/-- 'append([]byte(nil), b...)': an own copy. -/
theorem wpl_copy {ops : Array Oper} {rest : List Oper} {o : Oper} {a : Act} {Q : Exit → Act → World → Prop} {w : World} (hgd : o.guard = none) (s x : Operand) (ho : o.op = .call { callee := .builtin .append, args := #[s, x], argTypes := #[33, 33] })
    (hs : a.eval s = .slice none 0 0) (ad : Addr) (cap : Nat) (ys : List Nat) (hx : a.eval x = .slice (some ad) ys.length cap) (hr : Kd.C (Kd.int .u8) w (some ad) ys.length (ints ys)) (hl : ys.length ≤ 1000) (hpos : 0 < ys.length)
    (h : ∀ g c w', w.heap.size ≤ g → ys.length ≤ c → Mine w' g ys → Below w.heap.size w w' → wpList Try.prog ops Q rest (a.put o.dst (.slice (some ⟨g, 0, none⟩) ys.length c)) w') : wpList Try.prog ops Q (o :: rest) a w := by
  obtain ⟨i, hi, hzz, hsz, hby⟩ := info_parts info5
  refine wpList_append_own w hgd s x 33 ho w.heap.size 5 i _ 1 1 Try.underlying33 hi hzz hsz hby rfl (by decide) _ 0 [] hs (World.ownsRow_nil w w.heap.size 5 1) ad ys.length cap (ys.map (fun (y : Nat) => Value.int .u8 (y : Int))) hx (by simp) ?_ ?_ ?_ ?_ (Nat.le_refl _) ?_
  · intro j u hj
    obtain ⟨h1, h2, h3⟩ := hr
    obtain ⟨ad', e, hc⟩ := h3 hpos
    injection e with e
    subst e
    rw [List.getElem?_map] at hj
    cases hy : ys[j]? with
    | none => rw [hy] at hj; cases hj
    | some y =>
      rw [hy] at hj
      obtain rfl := Option.some.inj hj
      obtain ⟨c, a1, a2, a3⟩ := hc j (y : Int) (by unfold ints; rw [List.getElem?_map, hy]; rfl)
      have e2 : c = [.int .u8 (y : Int)] := a2
      subst e2
      have := a3 0 _ rfl
      have e3 : (Kd.int .u8).sz = 1 := rfl
      rw [e3, Nat.mul_one, Nat.add_zero] at this
      exact this
  · intro u hu
    obtain ⟨y, _, rfl⟩ := List.mem_map.1 hu
    rfl
  · unfold maxLen; omega
  · omega
  · intro v' w' ho' hg _
    have hB : Below w.heap.size w w' := Below.grown (Below.refl _ _) hg (Nat.le_refl _) (fun k hk => by simp [Value.ownBlock] at hk)
    have hcells := fun g (hg : v'.ownBlock = some g) => World.ownsRow.cells ho' hg
    rcases ho'.2 with ⟨_, hn⟩ | ⟨g, c, cur, rfl, hb, hgg, hle, _⟩
    · omega
    · rw [Nat.zero_add] at hle ⊢
      refine h g c w' hb hle (fun j y hj => ⟨?_, frozen_row hgg⟩) hB
      have := hcells g rfl j (.int .u8 (y : Int)) (by rw [List.nil_append, List.getElem?_map, hj]; rfl)
      have e1 : (⟨g, 0, none⟩ : Addr).add j = ⟨g, j, none⟩ := by unfold Addr.add; split <;> simp_all
      rwa [e1] at this
end Go.Proofs.Ytbclmclddpdhlaa.S
