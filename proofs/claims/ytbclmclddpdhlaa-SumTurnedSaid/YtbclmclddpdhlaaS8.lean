/- A region that appends to two slices that the call made, of different types, in whatever order. -/
import Derived.Test.YtbclmclddpdhlaaQ2
import Derived.Laws.AppendOwn
import Derived.OwnWalk
import Derived.WalkKit
import Derived.Handy
namespace Go.Proofs.Ytbclmclddpdhlaa.Calm2
open Go Go.RowKit
set_option linter.unusedVariables false
/-- A slice that the call made, of elements of one cell. -/
def RowOf (w : World) (base : Nat) (e : TypeId) (v : Value) (l : List Value) : Prop := w.ownsRow base e 1 v l.length l
theorem RowOf.nil (w : World) (base : Nat) (e : TypeId) : RowOf w base e (.slice none 0 0) [] := World.ownsRow_nil w base e 1
theorem RowOf.kept {w w' : World} {base : Nat} {e : TypeId} {v : Value} {l : List Value} (h : RowOf w base e v l) (hg : ∀ (k : Nat) (cur : Array Value), w.heap[k]? = some (Obj.cells cur e (0, 0)) → w'.heap[k]? = w.heap[k]?) : RowOf w' base e v l := by
  refine ⟨h.1, ?_⟩
  rcases h.2 with hn | ⟨g, cap, cur, rfl, hb, hgg, rest⟩
  · exact .inl hn
  · exact .inr ⟨g, cap, cur, rfl, hb, (hg g cur hgg).trans hgg, rest⟩
theorem same_of_below {w w' : World} {e : TypeId} (hB : Below w.heap.size w w') : ∀ (k : Nat) (cur : Array Value), w.heap[k]? = some (Obj.cells cur e (0, 0)) → w'.heap[k]? = w.heap[k]? := fun k cur h => hB.block k (Array.getElem?_eq_some_iff.1 h).1
theorem other_type {w w' : World} {base : Nat} {e e' : TypeId} {v : Value} {l : List Value} (h : RowOf w base e v l) (hg : w.grownBy w' v.ownBlock) (hne : e' ≠ e) : ∀ (k : Nat) (cur : Array Value), w.heap[k]? = some (Obj.cells cur e' (0, 0)) → w'.heap[k]? = w.heap[k]? := by
  intro k cur hk
  refine hg.block k (Array.getElem?_eq_some_iff.1 hk).1 (fun e1 => ?_)
  rcases h.2 with ⟨rfl, _⟩ | ⟨g, cap, cur2, rfl, hb, hgg, rest⟩
  · simp [Value.ownBlock] at e1
  · simp [Value.ownBlock] at e1
    subst e1
    rw [hgg] at hk
    injection hk with hk
    injection hk with h1 h2 h3
    exact hne h2.symm
/-- What stands of one of the two, while the region runs: ib, db: the number and the slot of the new element's row; ia, da: of the append. -/
structure Half (base : Nat) (e : TypeId) (ib db ia da iz dz : Nat) (x v : Value) (l : List Value) (listed : Array Bool) (a : Act) (w : World) : Prop where
  old : listed.getD ia false = false → RowOf w base e v l
  new : listed.getD ia false = true → ∃ v', a.tmps[da]? = some v' ∧ RowOf w base e v' (l ++ [x])
  row : listed.getD ib false = true → ∃ g, a.tmps[db]? = some (.slice (some ⟨g, 0, none⟩) 1 1) ∧ (listed.getD ia false = false → w.heap[g]? = some (Obj.cells #[x] e (0, 0)))
  asn : listed.getD iz false = true → listed.getD ia false = true ∧ a.tmps[dz]? = a.tmps[da]?
theorem Half.other {base : Nat} {e : TypeId} {ib db ia da iz dz : Nat} {x v : Value} {l : List Value} {listed : Array Bool} {a : Act} {w w' : World} (h : Half base e ib db ia da iz dz x v l listed a w) {i : Nat} {d : Option Tmp} {u : Value}
    (h1 : ib ≠ i) (h2 : ia ≠ i) (h3 : d ≠ some db) (h4 : d ≠ some da) (h6 : iz ≠ i) (h7 : d ≠ some dz) (hg : ∀ (k : Nat) (cur : Array Value), w.heap[k]? = some (Obj.cells cur e (0, 0)) → w'.heap[k]? = w.heap[k]?) : Half base e ib db ia da iz dz x v l (listed.setIfInBounds i true) (a.put d u) w' := by
  refine ⟨fun hh => ?_, fun hh => ?_, fun hh => ?_, fun hh => ?_⟩
  · rw [getD_set_true h2] at hh; exact (h.old hh).kept hg
  · rw [getD_set_true h2] at hh
    obtain ⟨v', e1, e2⟩ := h.new hh
    exact ⟨v', (put_off h4).trans e1, e2.kept hg⟩
  · rw [getD_set_true h1] at hh
    obtain ⟨g, e1, e2⟩ := h.row hh
    refine ⟨g, (put_off h3).trans e1, fun h5 => ?_⟩
    rw [getD_set_true h2] at h5
    have := e2 h5
    exact (hg g _ this).trans this
  · rw [getD_set_true h6] at hh
    rw [getD_set_true h2, put_off h7, put_off h4]
    exact h.asn hh
theorem Half.built {base : Nat} {e : TypeId} {ib db ia da iz dz : Nat} {x v : Value} {l : List Value} {listed : Array Bool} {a : Act} {w : World} (h : Half base e ib db ia da iz dz x v l listed a w) (hne : ia ≠ ib) (hd : some db ≠ some da) (h6 : iz ≠ ib) (h7 : some db ≠ some dz) (hs : db < a.tmps.size) :
    Half base e ib db ia da iz dz x v l (listed.setIfInBounds ib true) (a.put (some db) (.slice (some ⟨w.heap.size, 0, none⟩) 1 1)) (w.alloc (Obj.cells #[x] e)) := by
  have hg := same_of_below (w := w) (w' := w.alloc (Obj.cells #[x] e)) (e := e) (by go_grown)
  refine ⟨fun hh => ?_, fun hh => ?_, fun hh => ?_, fun hh => ?_⟩
  · rw [getD_set_true hne] at hh; exact (h.old hh).kept hg
  · rw [getD_set_true hne] at hh
    obtain ⟨v', e1, e2⟩ := h.new hh
    exact ⟨v', (put_off hd).trans e1, e2.kept hg⟩
  · exact ⟨w.heap.size, put_at hs, fun _ => heap_alloc_new w _⟩
  · rw [getD_set_true h6] at hh
    rw [getD_set_true hne, put_off h7, put_off hd]
    exact h.asn hh
theorem Half.appended {base : Nat} {e : TypeId} {ib db ia da iz dz : Nat} {x v v' : Value} {l : List Value} {listed : Array Bool} {a : Act} {w w' : World} (h : Half base e ib db ia da iz dz x v l listed a w) (hne : ib ≠ ia) (hd : some da ≠ some db) (h6 : iz ≠ ia) (hun : listed.getD ia false = false) (hs : da < a.tmps.size) (hsz : ia < listed.size)
    (hr : RowOf w' base e v' (l ++ [x])) : Half base e ib db ia da iz dz x v l (listed.setIfInBounds ia true) (a.put (some da) v') w' := by
  have hon : (listed.setIfInBounds ia true).getD ia false = true := by simp [hsz]
  refine ⟨fun hh => (by rw [hon] at hh; cases hh), fun _ => ⟨v', put_at hs, hr⟩, fun hh => ?_, fun hh => ?_⟩
  · rw [getD_set_true hne] at hh
    obtain ⟨g, e1, e2⟩ := h.row hh
    exact ⟨g, (put_off hd).trans e1, fun h5 => (by rw [hon] at h5; cases h5)⟩
  · rw [getD_set_true h6] at hh
    have := (h.asn hh).1
    rw [hun] at this; cases this
theorem Half.assigned {base : Nat} {e : TypeId} {ib db ia da iz dz : Nat} {x v u : Value} {l : List Value} {listed : Array Bool} {a : Act} {w : World} (h : Half base e ib db ia da iz dz x v l listed a w) (h1 : ib ≠ iz) (h2 : ia ≠ iz) (h3 : some dz ≠ some db) (h4 : some dz ≠ some da) (hl : listed.getD ia false = true) (hu : a.tmps[da]? = some u) (hs : dz < a.tmps.size) :
    Half base e ib db ia da iz dz x v l (listed.setIfInBounds iz true) (a.put (some dz) u) w := by
  refine ⟨fun hh => ?_, fun hh => ?_, fun hh => ?_, fun hh => ?_⟩
  · rw [getD_set_true h2] at hh; exact h.old hh
  · rw [getD_set_true h2] at hh
    obtain ⟨v', e1, e2⟩ := h.new hh
    exact ⟨v', (put_off h4).trans e1, e2⟩
  · rw [getD_set_true h1] at hh
    obtain ⟨g, e1, e2⟩ := h.row hh
    refine ⟨g, (put_off h3).trans e1, fun h5 => ?_⟩
    rw [getD_set_true h2] at h5; exact e2 h5
  · rw [getD_set_true h2]
    exact ⟨hl, by rw [put_at hs, put_off h4, hu]⟩
theorem append_does {P : Program} {o : Oper} {a : Act} {w : World} {K : Act → World → Prop} {Q : Exit → Act → World → Prop} {base : Nat} {t e : TypeId} {s b : Operand} {z x v : Value} {l : List Value} {bytes g : Nat}
    (ho : o.op = .call { callee := .builtin .append, args := #[s, b], argTypes := #[t, t] }) (ht : P.underlying t = some (.slice e)) (hinfo : (P.info? e).map (fun i => (i.zero, i.size, i.bytes)) = some (some z, 1, bytes)) (hz : z.cells.size = 1)
    (hs : a.eval s = v) (hb : a.eval b = .slice (some ⟨g, 0, none⟩) 1 1) (hr : RowOf w base e v l) (hx : w.heap[g]? = some (Obj.cells #[x] e (0, 0))) (h1 : x.oneCell' = true) (hl : l.length ≤ 1000) (hbytes : bytes ≤ 100) (hbase : base ≤ w.heap.size)
    (h : ∀ v' w', RowOf w' base e v' (l ++ [x]) → w.grownBy w' v.ownBlock → K (a.put o.dst v') w') : Oper.wp P o a w K Q := by
  obtain ⟨i, hi, hzz, hsz, hby⟩ := info_parts hinfo
  refine wp_append_own w s b t ho base e i z 1 bytes ht hi hzz hsz hby hz (by decide) v l.length l hs hr ⟨g, 0, none⟩ 1 1 [x] hb rfl ?_ ?_ ?_ ?_ hbase ?_
  · intro j u hj
    rcases j with _ | j
    · simp at hj; subst hj
      have e1 : (⟨g, 0, none⟩ : Addr).add 0 = ⟨g, 0, none⟩ := by unfold Addr.add; rfl
      rw [e1, cell_of_row w g 0 _ e (0, 0) hx]; rfl
    · simp at hj
  · intro u hu; simp at hu; subst hu; exact h1
  · unfold maxLen; omega
  · have : (l.length + 1) * bytes ≤ 1001 * 100 := Nat.mul_le_mul (by omega) hbytes
    omega
  · intro v' w' ho' hg _
    refine h v' w' ?_ hg
    unfold RowOf
    rw [List.length_append]
    exact ho'
end Go.Proofs.Ytbclmclddpdhlaa.Calm2
