/- A region that draws its order, where each operation's answer hangs on no order: each operation is shown once. -/
import Derived.Orders
import Derived.Below
import Derived.RegionTactic
namespace Go.Proofs.Ytbclmclddpdhlaa.Calm
open Go Go.RowKit
set_option linter.unusedVariables false
/-- Does an operation wait for number k? -/
def dep (md : Region.Mode) (o : Oper) (k : Nat) : Bool := o.after.any fun e => Region.binds md e && e.on == k
/-- Nobody waits for a later one. -/
def dagOk (md : Region.Mode) (ops : Array Oper) : Bool :=
  (List.range ops.size).all fun i => ((ops[i]?).map fun o => o.after.all fun e => !Region.binds md e || decide (e.on < i)).getD true
/-- No two write the same slot, and all slots are there. -/
def dstOk (ops : Array Oper) (n : Nat) : Bool :=
  (List.range ops.size).all fun i => ((ops[i]?).map fun o => (o.dst.map fun d => decide (d < n) && (List.range ops.size).all fun j => j == i || ((ops[j]?).map fun p => p.dst != some d).getD true).getD true).getD true
/-- Nobody writes the slot. -/
def idle (ops : Array Oper) (t : Nat) : Bool := (List.range ops.size).all fun i => ((ops[i]?).map fun o => o.dst != some t).getD true

theorem dag_spec {md : Region.Mode} {ops : Array Oper} (h : dagOk md ops = true) {i : Nat} {o : Oper} (hi : ops[i]? = some o) {e : Edge} (he : e ∈ o.after) (hb : Region.binds md e = true) : e.on < i := by
  unfold dagOk at h
  rw [List.all_eq_true] at h
  have hl : i < ops.size := (Array.getElem?_eq_some_iff.1 hi).1
  have h1 := h i (List.mem_range.2 hl)
  rw [hi] at h1
  simp only [Option.map_some, Option.getD_some, Array.all_eq_true_iff_forall_mem] at h1
  have h2 := h1 e he
  rw [hb] at h2
  simpa using h2
theorem dst_spec {ops : Array Oper} {n : Nat} (h : dstOk ops n = true) {i : Nat} {o : Oper} (hi : ops[i]? = some o) {d : Tmp} (hd : o.dst = some d) :
    d < n ∧ ∀ j p, ops[j]? = some p → j ≠ i → p.dst ≠ some d := by
  unfold dstOk at h
  rw [List.all_eq_true] at h
  have hl : i < ops.size := (Array.getElem?_eq_some_iff.1 hi).1
  have h1 := h i (List.mem_range.2 hl)
  rw [hi] at h1
  simp only [Option.map_some, Option.getD_some, hd, Bool.and_eq_true, decide_eq_true_eq, List.all_eq_true] at h1
  refine ⟨h1.1, fun j p hj hne => ?_⟩
  have hjl : j < ops.size := (Array.getElem?_eq_some_iff.1 hj).1
  have h2 := h1.2 j (List.mem_range.2 hjl)
  rw [hj] at h2
  have hne' : (j == i) = false := beq_eq_false_iff_ne.mpr hne
  simp only [hne', Bool.false_or, Option.map_some, Option.getD_some, bne_iff_ne, ne_eq] at h2
  exact h2
theorem idle_spec {ops : Array Oper} {t : Nat} (h : idle ops t = true) {i : Nat} {o : Oper} (hi : ops[i]? = some o) : o.dst ≠ some t := by
  unfold idle at h
  rw [List.all_eq_true] at h
  have h1 := h i (List.mem_range.2 (Array.getElem?_eq_some_iff.1 hi).1)
  rw [hi] at h1
  simpa using h1

section
variable {P : Program} {md : Region.Mode} {ops : Array Oper} {Q : Exit → Act → World → Prop}
/-- What is known of the operation number k, once it has come up: its value lies in its slot, and what is claimed of it holds. -/
def Known (ops : Array Oper) (V : Nat → Value → World → Prop) (a : Act) (w : World) (k : Nat) : Prop :=
  ∀ o, ops[k]? = some o → ∃ v, (∀ d, o.dst = some d → a.tmps[d]? = some v) ∧ V k v w
/-- What stands while the region runs. -/
structure Inv (ops : Array Oper) (V : Nat → Value → World → Prop) (S : World → Prop) (a0 : Act) (listed : Array Bool) (a : Act) (w : World) : Prop where
  s : S w
  size : a.tmps.size = a0.tmps.size
  defers : a.defers = a0.defers
  old : ∀ t, idle ops t = true → a.tmps[t]? = a0.tmps[t]?
  new : ∀ k, listed.getD k false = true → Known ops V a w k
/-- What is to be shown of one operation: from what it waits for, to what is claimed of it. -/
def Step (P : Program) (md : Region.Mode) (ops : Array Oper) (Q : Exit → Act → World → Prop) (V : Nat → Value → World → Prop) (S : World → Prop) (R : World → World → Prop) (a0 : Act) (i : Nat) (o : Oper) : Prop :=
  ∀ a w, S w → a.tmps.size = a0.tmps.size → (∀ t, idle ops t = true → a.tmps[t]? = a0.tmps[t]?) → (∀ k, dep md o k = true → Known ops V a w k) →
    ∀ K : Act → World → Prop, (∀ v w', R w w' → V i v w' → K (a.put o.dst v) w') → if Region.wanted o (yielded ops a.tmps) = true then Oper.wp P o a w K Q else K (a.put o.dst undef) w

theorem put_at {a : Act} {d : Tmp} {v : Value} (h : d < a.tmps.size) : (a.put (some d) v).tmps[d]? = some v := by simp [Act.put, h]
theorem put_ne {a : Act} {d t : Tmp} {v : Value} (h : t ≠ d) : (a.put (some d) v).tmps[t]? = a.tmps[t]? := by simp [Act.put, Ne.symm h]
theorem put_off {a : Act} {o : Option Tmp} {t : Tmp} {v : Value} (h : o ≠ some t) : (a.put o v).tmps[t]? = a.tmps[t]? := by
  cases o with
  | none => rfl
  | some d => exact put_ne (fun e => h (by rw [e]))
theorem put_size {a : Act} {o : Option Tmp} {v : Value} : (a.put o v).tmps.size = a.tmps.size := by cases o <;> simp [Act.put]
theorem put_defers {a : Act} {o : Option Tmp} {v : Value} : (a.put o v).defers = a.defers := by cases o <;> rfl

theorem ready_nil {listed : Array Bool} (hdag : dagOk md ops = true) (hsz : listed.size = ops.size) (h : Region.ready md ops listed = []) : ∀ k, k < ops.size → listed.getD k false = true := by
  intro k
  induction k using Nat.strongRecOn with
  | _ k ih =>
    intro hk
    cases hl : listed.getD k false
    · exfalso
      have hm : k ∈ Region.ready md ops listed := by
        refine mem_ready.2 ⟨?_, ops[k], by simp [hk], fun e he hb => ?_⟩
        · have : k < listed.size := by omega
          simp [this] at hl ⊢; exact hl
        · have hlt := dag_spec hdag (i := k) (o := ops[k]) (by simp [hk]) he hb
          exact ih _ hlt (by omega)
      rw [h] at hm; cases hm
    · rfl
theorem count_set {l : Array Bool} {i : Nat} (h : l.getD i true = false) : (l.setIfInBounds i true).toList.count false + 1 = l.toList.count false := by
  have hi : i < l.size := by
    rcases Nat.lt_or_ge i l.size with h' | h'
    · exact h'
    · simp [Array.getElem?_eq_none h'] at h
  have hv : l[i] = false := by simpa [hi] using h
  have hi' : i < l.toList.length := by simpa using hi
  rw [Array.toList_setIfInBounds, List.count_set hi']
  have hv' : l.toList[i] = false := by simpa using hv
  have hpos : 0 < l.toList.count false := List.count_pos_iff.2 (by rw [← hv']; exact List.getElem_mem hi')
  rw [hv']
  simp only [show ((false : Bool) == false) = true from rfl, show ((true : Bool) == false) = false from rfl, if_true, Bool.false_eq_true, if_false]
  omega
theorem all_of_count {l : Array Bool} (h : l.toList.count false = 0) {k : Nat} (hk : k < l.size) : l.getD k false = true := by
  cases hb : l[k] with
  | true => simp [hk, hb]
  | false =>
    have : false ∈ l.toList := by rw [← hb]; exact Array.mem_toList_iff.2 (Array.getElem_mem hk)
    have := List.count_pos_iff.2 this
    omega
theorem ready_of_all {listed : Array Bool} (h : ∀ k, k < ops.size → listed.getD k false = true) (hsz : listed.size = ops.size) : Region.ready md ops listed = [] := by
  rw [List.eq_nil_iff_forall_not_mem]
  intro k hk
  obtain ⟨h1, o, ho, _⟩ := mem_ready.1 hk
  have hl : k < ops.size := (Array.getElem?_eq_some_iff.1 ho).1
  have h2 := h k hl
  have hl2 : k < listed.size := by omega
  simp [hl2] at h1 h2
  rw [h1] at h2; cases h2

/-- THE LAW: each operation once, whatever the order. -/
theorem wpAny_calm {V : Nat → Value → World → Prop} {S : World → Prop} {R : World → World → Prop} {a0 : Act} (hdag : dagOk md ops = true) (hdst : dstOk ops a0.tmps.size = true)
    (stab : ∀ k v w w', V k v w → R w w' → V k v w') (sS : ∀ w w', S w → R w w' → S w')
    (step : ∀ i o, ops[i]? = some o → Step P md ops Q V S R a0 i o)
    (fin : ∀ a w, S w → a.tmps.size = a0.tmps.size → a.defers = a0.defers → (∀ t, idle ops t = true → a.tmps[t]? = a0.tmps[t]?) → (∀ k, Known ops V a w k) → Q .normal a w) :
    ∀ (fuel : Nat) (listed : Array Bool) (a : Act) (w : World), listed.size = ops.size → listed.toList.count false ≤ fuel → Inv ops V S a0 listed a w → wpAny P md ops Q fuel listed a w := by
  have done : ∀ (listed : Array Bool) (a : Act) (w : World), listed.size = ops.size → Inv ops V S a0 listed a w → (∀ k, k < ops.size → listed.getD k false = true) → Q .normal a w := by
    intro listed a w hsz hI hall
    refine fin a w hI.s hI.size hI.defers hI.old fun k => ?_
    rcases Nat.lt_or_ge k ops.size with h | h
    · exact hI.new k (hall k h)
    · intro o ho; rw [Array.getElem?_eq_none h] at ho; cases ho
  intro fuel
  induction fuel with
  | zero =>
    intro listed a w hsz hc hI
    have hall : ∀ k, k < ops.size → listed.getD k false = true := fun k hk => all_of_count (by omega) (by omega)
    exact ⟨ready_of_all hall hsz, done listed a w hsz hI hall⟩
  | succ fuel ih =>
    intro listed a w hsz hc hI
    refine ⟨fun h => done listed a w hsz hI (ready_nil hdag hsz h), fun i hi => ?_⟩
    obtain ⟨hun, o, ho, hall⟩ := mem_ready.1 hi
    have hst := step i o ho a w hI.s hI.size hI.old (fun k hk => by
      unfold dep at hk
      rw [Array.any_eq_true] at hk
      obtain ⟨j, hj, hb⟩ := hk
      simp only [Bool.and_eq_true, beq_iff_eq] at hb
      have := hall o.after[j] (Array.getElem_mem hj) hb.1
      rw [hb.2] at this
      exact hI.new k this) (wpAny P md ops Q fuel (listed.setIfInBounds i true)) (fun v w' hR hV => by
      refine ih _ _ _ (by simpa using hsz) (by have := count_set hun; omega) ⟨sS _ _ hI.s hR, put_size.trans hI.size, put_defers.trans hI.defers, fun t ht => (put_off (idle_spec ht ho)).trans (hI.old t ht), fun k hk => ?_⟩
      intro ok hok
      by_cases hki : k = i
      · subst hki
        obtain rfl : o = ok := by rw [ho] at hok; exact Option.some.inj hok
        refine ⟨v, fun d hd => ?_, hV⟩
        rw [hd]
        exact put_at (by rw [hI.size]; exact (dst_spec hdst ho hd).1)
      · have hk' : listed.getD k false = true := by
          have e : (listed.setIfInBounds i true).getD k false = listed.getD k false := by
            simp only [Array.getD_eq_getD_getElem?, Array.getElem?_setIfInBounds]
            rw [if_neg (Ne.symm hki)]
          rw [e] at hk; exact hk
        obtain ⟨u, hu, hVu⟩ := hI.new k hk' ok hok
        exact ⟨u, fun d hd => (put_off (fun e => (dst_spec hdst hok hd).2 i o ho (Ne.symm hki) e)).trans (hu d hd), stab _ _ _ _ hVu hR⟩)
    unfold wpOp
    simp only [ho]
    split
    · rename_i hw; rw [if_pos hw] at hst; exact .inl hst
    · rename_i hw; rw [if_neg hw] at hst; exact hst
/-- Each of a row of operations, from number n on. -/
def Steps (P : Program) (md : Region.Mode) (ops : Array Oper) (Q : Exit → Act → World → Prop) (V : Nat → Value → World → Prop) (S : World → Prop) (R : World → World → Prop) (a0 : Act) : Nat → List Oper → Prop
  | _, [] => True
  | n, o :: l => Step P md ops Q V S R a0 n o ∧ Steps P md ops Q V S R a0 (n + 1) l
theorem Steps.at {V : Nat → Value → World → Prop} {S : World → Prop} {R : World → World → Prop} {a0 : Act} : ∀ (l : List Oper) (n : Nat), Steps P md ops Q V S R a0 n l → ∀ i o, l[i]? = some o → Step P md ops Q V S R a0 (n + i) o
  | [], _, _, i, o, hi => by simp at hi
  | p :: l, n, h, 0, o, hi => by simp at hi; subst hi; exact h.1
  | p :: l, n, h, i + 1, o, hi => by
    have := Steps.at l (n + 1) h.2 i o (by simpa using hi)
    rw [Nat.add_assoc, Nat.add_comm 1 i] at this
    exact this
theorem wp_region_calm {id : Nat} {a0 : Act} {w : World} (hm : P.follows .mixedOrders = true) (V : Nat → Value → World → Prop) (S : World → Prop) (R : World → World → Prop)
    (hdag : dagOk .any ops = true) (hdst : dstOk ops a0.tmps.size = true)
    (stab : ∀ k v w w', V k v w → R w w' → V k v w') (sS : ∀ w w', S w → R w w' → S w') (hS : S w.drew)
    (step : Steps P .any ops Q V S R a0 0 ops.toList)
    (fin : ∀ a w, S w → a.tmps.size = a0.tmps.size → a.defers = a0.defers → (∀ t, idle ops t = true → a.tmps[t]? = a0.tmps[t]?) → (∀ k, Known ops V a w k) → Q .normal a w) :
    (Code.region id ops true).wp P Q a0 w := by
  refine wp_region_any hm (wpAny_calm hdag hdst stab sS (fun i o ho => ?_) fin ops.size _ a0 _ (by simp) ?_ ⟨hS, rfl, rfl, fun _ _ => rfl, fun k hk => ?_⟩)
  · have := Steps.at ops.toList 0 step i o (by simpa using ho)
    rwa [Nat.zero_add] at this
  · simp
  · exfalso
    rcases Nat.lt_or_ge k ops.size with h | h
    · simp [h] at hk
    · rw [Array.getD_eq_getD_getElem?, Array.getElem?_eq_none (by simpa using h)] at hk; simp at hk
theorem Steps.cons {V : Nat → Value → World → Prop} {S : World → Prop} {R : World → World → Prop} {a0 : Act} {n : Nat} {o : Oper} {l : List Oper} (h1 : Step P md ops Q V S R a0 n o) (h2 : Steps P md ops Q V S R a0 (n + 1) l) : Steps P md ops Q V S R a0 n (o :: l) := ⟨h1, h2⟩
theorem Steps.nil {V : Nat → Value → World → Prop} {S : World → Prop} {R : World → World → Prop} {a0 : Act} {n : Nat} : Steps P md ops Q V S R a0 n [] := trivial
/-- What is to be shown of an operation that is carried out. -/
def Does (P : Program) (md : Region.Mode) (ops : Array Oper) (Q : Exit → Act → World → Prop) (V : Nat → Value → World → Prop) (S : World → Prop) (R : World → World → Prop) (a0 : Act) (i : Nat) (o : Oper) : Prop :=
  ∀ a w, S w → a.tmps.size = a0.tmps.size → (∀ t, idle ops t = true → a.tmps[t]? = a0.tmps[t]?) → (∀ k, dep md o k = true → Known ops V a w k) →
    ∀ K : Act → World → Prop, (∀ v w', R w w' → V i v w' → K (a.put o.dst v) w') → Oper.wp P o a w K Q
theorem step_plain {V : Nat → Value → World → Prop} {S : World → Prop} {R : World → World → Prop} {a0 : Act} {i : Nat} {o : Oper} (hg : o.guard = none) (h : Does P md ops Q V S R a0 i o) : Step P md ops Q V S R a0 i o := fun a w h1 h2 h3 h4 K h5 => by
  rw [if_pos (by unfold Region.wanted; rw [hg])]
  exact h a w h1 h2 h3 h4 K h5
theorem yielded_at {a : Act} {w : World} {V : Nat → Value → World → Prop} {j : Nat} {b : Bool} {oj : Oper} {d : Tmp} (ho : ops[j]? = some oj) (hd : oj.dst = some d) (hk : Known ops V a w j) (hV : ∀ v w, V j v w → v = .bool b) : yielded ops a.tmps j = some b := by
  obtain ⟨v, hv, hVv⟩ := hk oj ho
  obtain rfl := hV v w hVv
  unfold yielded
  rw [ho, Option.bind_some, hd, Option.bind_some, hv d hd]
theorem step_wanted {V : Nat → Value → World → Prop} {S : World → Prop} {R : World → World → Prop} {a0 : Act} {i j : Nat} {b : Bool} {o oj : Oper} {d : Tmp} (hg : o.guard = some (j, b)) (ho : ops[j]? = some oj) (hd : oj.dst = some d) (hdep : dep md o j = true) (hV : ∀ v w, V j v w → v = .bool b)
    (h : Does P md ops Q V S R a0 i o) : Step P md ops Q V S R a0 i o := fun a w h1 h2 h3 h4 K h5 => by
  rw [if_pos (by unfold Region.wanted; rw [hg]; simp only; rw [yielded_at ho hd (h4 j hdep) hV]; exact beq_self_eq_true _)]
  exact h a w h1 h2 h3 h4 K h5
theorem step_unwanted {V : Nat → Value → World → Prop} {S : World → Prop} {R : World → World → Prop} {a0 : Act} {i j : Nat} {b c : Bool} {o oj : Oper} {d : Tmp} (hR : ∀ w, R w w) (hg : o.guard = some (j, b)) (ho : ops[j]? = some oj) (hd : oj.dst = some d) (hdep : dep md o j = true) (hV : ∀ v w, V j v w → v = .bool c) (hne : c ≠ b)
    (h : ∀ w, V i undef w) : Step P md ops Q V S R a0 i o := fun a w h1 h2 h3 h4 K h5 => by
  rw [if_neg (by unfold Region.wanted; rw [hg]; simp only; rw [yielded_at ho hd (h4 j hdep) hV]; simpa using hne)]
  exact h5 _ _ (hR w) (h w)
end
abbrev PV := Value → World → Prop
def isV (x : Value) : PV := fun v _ => v = x
def anyV : PV := fun _ _ => True
/-- A slice of n elements over cells that hold xs. -/
def rowV (xs : List Value) (n : Nat) : PV := fun v w => ∃ g, v = .slice (some ⟨g, 0, none⟩) n n ∧ ∀ j u, xs[j]? = some u → w.cell? ⟨g, j, none⟩ = some u
def Grow (w w' : World) : Prop := Below w.heap.size w w'
def Stable (p : PV) : Prop := ∀ v w w', p v w → Grow w w' → p v w'
theorem stable_is (x : Value) : Stable (isV x) := fun _ _ _ h _ => h
theorem stable_any : Stable anyV := fun _ _ _ h _ => h
theorem stable_row (xs : List Value) (n : Nat) : Stable (rowV xs n) := fun v w w' ⟨g, h1, h2⟩ hg => ⟨g, h1, fun j u hj => by
  have h3 := h2 j u hj
  have hl := World.block_lt_of_cell? w _ h3
  exact (Below.cell hg (p := ⟨g, j, none⟩) hl).trans h3⟩
def pick (l : List PV) (k : Nat) : PV := l.getD k anyV
theorem pick_stable {l : List PV} (h : ∀ p ∈ l, Stable p) : ∀ k v w w', pick l k v w → Grow w w' → pick l k v w' := fun k => by
  unfold pick
  rcases Nat.lt_or_ge k l.length with hk | hk
  · rw [List.getD_eq_getElem?_getD, List.getElem?_eq_getElem hk]; exact h _ (List.getElem_mem hk)
  · rw [List.getD_eq_getElem?_getD, List.getElem?_eq_none hk]; exact stable_any
theorem wp_calm {P : Program} {l : List Oper} {Q : Exit → Act → World → Prop} {id : Nat} {a0 : Act} {w : World} (hm : P.follows .mixedOrders = true) (B : World) (L : List PV) (hL : ∀ p ∈ L, Stable p)
    (hdag : dagOk .any l.toArray = true) (hdst : dstOk l.toArray a0.tmps.size = true) (hB : Below B.heap.size B w)
    (step : Steps P .any l.toArray Q (pick L) (fun W => Below B.heap.size B W) Grow a0 0 l)
    (fin : ∀ a w, Below B.heap.size B w → a.tmps.size = a0.tmps.size → a.defers = a0.defers → (∀ t, idle l.toArray t = true → a.tmps[t]? = a0.tmps[t]?) → (∀ k, Known l.toArray (pick L) a w k) → Q .normal a w) :
    (Code.region id l.toArray true).wp P Q a0 w :=
  wp_region_calm hm (pick L) (fun W => Below B.heap.size B W) Grow hdag hdst (pick_stable hL) (fun w w' h1 h2 => h1.trans (Below.mono h2 h1.size)) (hB.trans ⟨rfl, rfl, rfl, Nat.le_refl _, fun _ _ => rfl⟩) step fin
theorem at_getD {a : Act} {t : Nat} {v : Value} (h : a.tmps[t]? = some v) : a.tmps.getD t undef = v := by rw [Array.getD_eq_getD_getElem?, h]; rfl
theorem at_eval {a : Act} {t : Nat} {v : Value} (h : a.tmps[t]? = some v) : a.eval (.tmp t) = v := at_getD h
end Go.Proofs.Ytbclmclddpdhlaa.Calm
