/- A region that draws its order, where each operation's answer hangs on no order: each operation is shown once. -/
import Derived.Orders
import Derived.Below
import Derived.RegionTactic
namespace Go.Proofs.Ytbclmclddpdhlaa.Calm2
open Go Go.RowKit
set_option linter.unusedVariables false
/-- Does an operation wait for number k? -/
def dep (md : Region.Mode) (o : Oper) (k : Nat) : Bool := o.after.any fun e => Region.binds md e && e.on == k
/-- Nobody waits for a later one. -/
def dagOk (md : Region.Mode) (ops : Array Oper) : Bool :=
  (List.range ops.size).all fun i => ((ops[i]?).map fun o => o.after.all fun e => !Region.binds md e || decide (e.on < i)).getD true
/-- No two write the same slot, and all slots are there. -/
def dstOk (ops : Array Oper) (n : Nat) : Bool :=
  (List.range ops.size).all fun i => ((ops[i]?).map fun o => (o.dst.map fun d => decide (d < n) && (List.range ops.size).all fun j => j == i || ((ops[j]?).map fun p => p.dst != some d).getD true).getD true).getD true
/-- Nobody writes the slot. -/
def idle (ops : Array Oper) (t : Nat) : Bool := (List.range ops.size).all fun i => ((ops[i]?).map fun o => o.dst != some t).getD true

theorem dag_spec {md : Region.Mode} {ops : Array Oper} (h : dagOk md ops = true) {i : Nat} {o : Oper} (hi : ops[i]? = some o) {e : Edge} (he : e ∈ o.after) (hb : Region.binds md e = true) : e.on < i := by
  unfold dagOk at h
  rw [List.all_eq_true] at h
  have hl : i < ops.size := (Array.getElem?_eq_some_iff.1 hi).1
  have h1 := h i (List.mem_range.2 hl)
  rw [hi] at h1
  simp only [Option.map_some, Option.getD_some, Array.all_eq_true_iff_forall_mem] at h1
  have h2 := h1 e he
  rw [hb] at h2
  simpa using h2
theorem dst_spec {ops : Array Oper} {n : Nat} (h : dstOk ops n = true) {i : Nat} {o : Oper} (hi : ops[i]? = some o) {d : Tmp} (hd : o.dst = some d) :
    d < n ∧ ∀ j p, ops[j]? = some p → j ≠ i → p.dst ≠ some d := by
  unfold dstOk at h
  rw [List.all_eq_true] at h
  have hl : i < ops.size := (Array.getElem?_eq_some_iff.1 hi).1
  have h1 := h i (List.mem_range.2 hl)
  rw [hi] at h1
  simp only [Option.map_some, Option.getD_some, hd, Bool.and_eq_true, decide_eq_true_eq, List.all_eq_true] at h1
  refine ⟨h1.1, fun j p hj hne => ?_⟩
  have hjl : j < ops.size := (Array.getElem?_eq_some_iff.1 hj).1
  have h2 := h1.2 j (List.mem_range.2 hjl)
  rw [hj] at h2
  have hne' : (j == i) = false := beq_eq_false_iff_ne.mpr hne
  simp only [hne', Bool.false_or, Option.map_some, Option.getD_some, bne_iff_ne, ne_eq] at h2
  exact h2
theorem idle_spec {ops : Array Oper} {t : Nat} (h : idle ops t = true) {i : Nat} {o : Oper} (hi : ops[i]? = some o) : o.dst ≠ some t := by
  unfold idle at h
  rw [List.all_eq_true] at h
  have h1 := h i (List.mem_range.2 (Array.getElem?_eq_some_iff.1 hi).1)
  rw [hi] at h1
  simpa using h1

section
variable {P : Program} {md : Region.Mode} {ops : Array Oper} {Q : Exit → Act → World → Prop}
/-- What is known of the operation number k, once it has come up: its value lies in its slot, and what is claimed of it holds. -/
def Known (ops : Array Oper) (V : Nat → Value → World → Prop) (a : Act) (w : World) (k : Nat) : Prop :=
  ∀ o, ops[k]? = some o → ∃ v, (∀ d, o.dst = some d → a.tmps[d]? = some v) ∧ V k v w
/-- What stands while the region runs. -/
structure Inv (ops : Array Oper) (V : Nat → Value → World → Prop) (S : World → Prop) (a0 : Act) (listed : Array Bool) (a : Act) (w : World) : Prop where
  s : S w
  size : a.tmps.size = a0.tmps.size
  defers : a.defers = a0.defers
  old : ∀ t, (∀ (k : Nat) (o : Oper), listed.getD k false = true → ops[k]? = some o → o.dst ≠ some t) → a.tmps[t]? = a0.tmps[t]?
  new : ∀ k, listed.getD k false = true → Known ops V a w k
/-- What is to be shown of one operation: from what it waits for, to what is claimed of it. -/
def Step (P : Program) (md : Region.Mode) (ops : Array Oper) (Q : Exit → Act → World → Prop) (V : Nat → Value → World → Prop) (S : World → Prop) (R : World → World → Prop) (a0 : Act) (i : Nat) (o : Oper) : Prop :=
  ∀ a w, S w → a.tmps.size = a0.tmps.size → (∀ t, idle ops t = true → a.tmps[t]? = a0.tmps[t]?) → (∀ k, dep md o k = true → Known ops V a w k) →
    ∀ K : Act → World → Prop, (∀ v w', R w w' → V i v w' → K (a.put o.dst v) w') → if Region.wanted o (yielded ops a.tmps) = true then Oper.wp P o a w K Q else K (a.put o.dst undef) w

theorem put_at {a : Act} {d : Tmp} {v : Value} (h : d < a.tmps.size) : (a.put (some d) v).tmps[d]? = some v := by simp [Act.put, h]
theorem put_ne {a : Act} {d t : Tmp} {v : Value} (h : t ≠ d) : (a.put (some d) v).tmps[t]? = a.tmps[t]? := by simp [Act.put, Ne.symm h]
theorem put_off {a : Act} {o : Option Tmp} {t : Tmp} {v : Value} (h : o ≠ some t) : (a.put o v).tmps[t]? = a.tmps[t]? := by
  cases o with
  | none => rfl
  | some d => exact put_ne (fun e => h (by rw [e]))
theorem put_size {a : Act} {o : Option Tmp} {v : Value} : (a.put o v).tmps.size = a.tmps.size := by cases o <;> simp [Act.put]
theorem put_defers {a : Act} {o : Option Tmp} {v : Value} : (a.put o v).defers = a.defers := by cases o <;> rfl

theorem ready_nil {listed : Array Bool} (hdag : dagOk md ops = true) (hsz : listed.size = ops.size) (h : Region.ready md ops listed = []) : ∀ k, k < ops.size → listed.getD k false = true := by
  intro k
  induction k using Nat.strongRecOn with
  | _ k ih =>
    intro hk
    cases hl : listed.getD k false
    · exfalso
      have hm : k ∈ Region.ready md ops listed := by
        refine mem_ready.2 ⟨?_, ops[k], by simp [hk], fun e he hb => ?_⟩
        · have : k < listed.size := by omega
          simp [this] at hl ⊢; exact hl
        · have hlt := dag_spec hdag (i := k) (o := ops[k]) (by simp [hk]) he hb
          exact ih _ hlt (by omega)
      rw [h] at hm; cases hm
    · rfl
theorem count_set {l : Array Bool} {i : Nat} (h : l.getD i true = false) : (l.setIfInBounds i true).toList.count false + 1 = l.toList.count false := by
  have hi : i < l.size := by
    rcases Nat.lt_or_ge i l.size with h' | h'
    · exact h'
    · simp [Array.getElem?_eq_none h'] at h
  have hv : l[i] = false := by simpa [hi] using h
  have hi' : i < l.toList.length := by simpa using hi
  rw [Array.toList_setIfInBounds, List.count_set hi']
  have hv' : l.toList[i] = false := by simpa using hv
  have hpos : 0 < l.toList.count false := List.count_pos_iff.2 (by rw [← hv']; exact List.getElem_mem hi')
  rw [hv']
  simp only [show ((false : Bool) == false) = true from rfl, show ((true : Bool) == false) = false from rfl, if_true, Bool.false_eq_true, if_false]
  omega
theorem all_of_count {l : Array Bool} (h : l.toList.count false = 0) {k : Nat} (hk : k < l.size) : l.getD k false = true := by
  cases hb : l[k] with
  | true => simp [hk, hb]
  | false =>
    have : false ∈ l.toList := by rw [← hb]; exact Array.mem_toList_iff.2 (Array.getElem_mem hk)
    have := List.count_pos_iff.2 this
    omega
theorem ready_of_all {listed : Array Bool} (h : ∀ k, k < ops.size → listed.getD k false = true) (hsz : listed.size = ops.size) : Region.ready md ops listed = [] := by
  rw [List.eq_nil_iff_forall_not_mem]
  intro k hk
  obtain ⟨h1, o, ho, _⟩ := mem_ready.1 hk
  have hl : k < ops.size := (Array.getElem?_eq_some_iff.1 ho).1
  have h2 := h k hl
  have hl2 : k < listed.size := by omega
  simp [hl2] at h1 h2
  rw [h1] at h2; cases h2

theorem on_set {listed : Array Bool} {i : Nat} {o : Oper} (hun : listed.getD i true = false) (ho : ops[i]? = some o) (hsz : listed.size = ops.size) : (listed.setIfInBounds i true).getD i false = true := by
  have h1 : i < listed.size := by have := (Array.getElem?_eq_some_iff.1 ho).1; omega
  simp [h1]
theorem up_set {listed : Array Bool} {i k : Nat} (h : listed.getD k false = true) : (listed.setIfInBounds i true).getD k false = true := by
  simp only [Array.getD_eq_getD_getElem?, Array.getElem?_setIfInBounds] at h ⊢
  split
  · split
    · rfl
    · rename_i h1 h2; rw [h1] at h2; rw [Array.getElem?_eq_none (by omega)] at h; cases h
  · exact h
/-- THE LAW: each operation once, whatever the order. -/
theorem wpAny_calm {V : Nat → Value → World → Prop} {S : World → Prop} {R : World → World → Prop} {a0 : Act} (hdag : dagOk md ops = true) (hdst : dstOk ops a0.tmps.size = true)
    (stab : ∀ k v w w', V k v w → R w w' → V k v w') (sS : ∀ w w', S w → R w w' → S w')
    (step : ∀ i o, ops[i]? = some o → Step P md ops Q V S R a0 i o)
    (fin : ∀ a w, S w → a.tmps.size = a0.tmps.size → a.defers = a0.defers → (∀ t, idle ops t = true → a.tmps[t]? = a0.tmps[t]?) → (∀ k, Known ops V a w k) → Q .normal a w) :
    ∀ (fuel : Nat) (listed : Array Bool) (a : Act) (w : World), listed.size = ops.size → listed.toList.count false ≤ fuel → Inv ops V S a0 listed a w → wpAny P md ops Q fuel listed a w := by
  have done : ∀ (listed : Array Bool) (a : Act) (w : World), listed.size = ops.size → Inv ops V S a0 listed a w → (∀ k, k < ops.size → listed.getD k false = true) → Q .normal a w := by
    intro listed a w hsz hI hall
    refine fin a w hI.s hI.size hI.defers (fun t ht => hI.old t (fun k o _ ho => idle_spec ht ho)) fun k => ?_
    rcases Nat.lt_or_ge k ops.size with h | h
    · exact hI.new k (hall k h)
    · intro o ho; rw [Array.getElem?_eq_none h] at ho; cases ho
  intro fuel
  induction fuel with
  | zero =>
    intro listed a w hsz hc hI
    have hall : ∀ k, k < ops.size → listed.getD k false = true := fun k hk => all_of_count (by omega) (by omega)
    exact ⟨ready_of_all hall hsz, done listed a w hsz hI hall⟩
  | succ fuel ih =>
    intro listed a w hsz hc hI
    refine ⟨fun h => done listed a w hsz hI (ready_nil hdag hsz h), fun i hi => ?_⟩
    obtain ⟨hun, o, ho, hall⟩ := mem_ready.1 hi
    have hst := step i o ho a w hI.s hI.size (fun t ht => hI.old t (fun k o _ ho => idle_spec ht ho)) (fun k hk => by
      unfold dep at hk
      rw [Array.any_eq_true] at hk
      obtain ⟨j, hj, hb⟩ := hk
      simp only [Bool.and_eq_true, beq_iff_eq] at hb
      have := hall o.after[j] (Array.getElem_mem hj) hb.1
      rw [hb.2] at this
      exact hI.new k this) (wpAny P md ops Q fuel (listed.setIfInBounds i true)) (fun v w' hR hV => by
      refine ih _ _ _ (by simpa using hsz) (by have := count_set hun; omega) ⟨sS _ _ hI.s hR, put_size.trans hI.size, put_defers.trans hI.defers, fun t ht => (put_off (ht i o (on_set hun ho hsz) ho)).trans (hI.old t (fun k p hk hp => ht k p (up_set hk) hp)), fun k hk => ?_⟩
      intro ok hok
      by_cases hki : k = i
      · subst hki
        obtain rfl : o = ok := by rw [ho] at hok; exact Option.some.inj hok
        refine ⟨v, fun d hd => ?_, hV⟩
        rw [hd]
        exact put_at (by rw [hI.size]; exact (dst_spec hdst ho hd).1)
      · have hk' : listed.getD k false = true := by
          have e : (listed.setIfInBounds i true).getD k false = listed.getD k false := by
            simp only [Array.getD_eq_getD_getElem?, Array.getElem?_setIfInBounds]
            rw [if_neg (Ne.symm hki)]
          rw [e] at hk; exact hk
        obtain ⟨u, hu, hVu⟩ := hI.new k hk' ok hok
        exact ⟨u, fun d hd => (put_off (fun e => (dst_spec hdst hok hd).2 i o ho (Ne.symm hki) e)).trans (hu d hd), stab _ _ _ _ hVu hR⟩)
    unfold wpOp
    simp only [ho]
    split
    · rename_i hw; rw [if_pos hw] at hst; exact .inl hst
    · rename_i hw; rw [if_neg hw] at hst; exact hst
/-- Each of a row of operations, from number n on. -/
def Steps (P : Program) (md : Region.Mode) (ops : Array Oper) (Q : Exit → Act → World → Prop) (V : Nat → Value → World → Prop) (S : World → Prop) (R : World → World → Prop) (a0 : Act) : Nat → List Oper → Prop
  | _, [] => True
  | n, o :: l => Step P md ops Q V S R a0 n o ∧ Steps P md ops Q V S R a0 (n + 1) l
theorem Steps.at {V : Nat → Value → World → Prop} {S : World → Prop} {R : World → World → Prop} {a0 : Act} : ∀ (l : List Oper) (n : Nat), Steps P md ops Q V S R a0 n l → ∀ i o, l[i]? = some o → Step P md ops Q V S R a0 (n + i) o
  | [], _, _, i, o, hi => by simp at hi
  | p :: l, n, h, 0, o, hi => by simp at hi; subst hi; exact h.1
  | p :: l, n, h, i + 1, o, hi => by
    have := Steps.at l (n + 1) h.2 i o (by simpa using hi)
    rw [Nat.add_assoc, Nat.add_comm 1 i] at this
    exact this
theorem wp_region_calm {id : Nat} {a0 : Act} {w : World} (hm : P.follows .mixedOrders = true) (V : Nat → Value → World → Prop) (S : World → Prop) (R : World → World → Prop)
    (hdag : dagOk .any ops = true) (hdst : dstOk ops a0.tmps.size = true)
    (stab : ∀ k v w w', V k v w → R w w' → V k v w') (sS : ∀ w w', S w → R w w' → S w') (hS : S w.drew)
    (step : Steps P .any ops Q V S R a0 0 ops.toList)
    (fin : ∀ a w, S w → a.tmps.size = a0.tmps.size → a.defers = a0.defers → (∀ t, idle ops t = true → a.tmps[t]? = a0.tmps[t]?) → (∀ k, Known ops V a w k) → Q .normal a w) :
    (Code.region id ops true).wp P Q a0 w := by
  refine wp_region_any hm (wpAny_calm hdag hdst stab sS (fun i o ho => ?_) fin ops.size _ a0 _ (by simp) ?_ ⟨hS, rfl, rfl, fun _ _ => rfl, fun k hk => ?_⟩)
  · have := Steps.at ops.toList 0 step i o (by simpa using ho)
    rwa [Nat.zero_add] at this
  · simp
  · exfalso
    rcases Nat.lt_or_ge k ops.size with h | h
    · simp [h] at hk
    · rw [Array.getD_eq_getD_getElem?, Array.getElem?_eq_none (by simpa using h)] at hk; simp at hk
theorem Steps.cons {V : Nat → Value → World → Prop} {S : World → Prop} {R : World → World → Prop} {a0 : Act} {n : Nat} {o : Oper} {l : List Oper} (h1 : Step P md ops Q V S R a0 n o) (h2 : Steps P md ops Q V S R a0 (n + 1) l) : Steps P md ops Q V S R a0 n (o :: l) := ⟨h1, h2⟩
theorem Steps.nil {V : Nat → Value → World → Prop} {S : World → Prop} {R : World → World → Prop} {a0 : Act} {n : Nat} : Steps P md ops Q V S R a0 n [] := trivial
/-- What is to be shown of an operation that is carried out. -/
def Does (P : Program) (md : Region.Mode) (ops : Array Oper) (Q : Exit → Act → World → Prop) (V : Nat → Value → World → Prop) (S : World → Prop) (R : World → World → Prop) (a0 : Act) (i : Nat) (o : Oper) : Prop :=
  ∀ a w, S w → a.tmps.size = a0.tmps.size → (∀ t, idle ops t = true → a.tmps[t]? = a0.tmps[t]?) → (∀ k, dep md o k = true → Known ops V a w k) →
    ∀ K : Act → World → Prop, (∀ v w', R w w' → V i v w' → K (a.put o.dst v) w') → Oper.wp P o a w K Q
theorem step_plain {V : Nat → Value → World → Prop} {S : World → Prop} {R : World → World → Prop} {a0 : Act} {i : Nat} {o : Oper} (hg : o.guard = none) (h : Does P md ops Q V S R a0 i o) : Step P md ops Q V S R a0 i o := fun a w h1 h2 h3 h4 K h5 => by
  rw [if_pos (by unfold Region.wanted; rw [hg])]
  exact h a w h1 h2 h3 h4 K h5
theorem yielded_at {a : Act} {w : World} {V : Nat → Value → World → Prop} {j : Nat} {b : Bool} {oj : Oper} {d : Tmp} (ho : ops[j]? = some oj) (hd : oj.dst = some d) (hk : Known ops V a w j) (hV : ∀ v w, V j v w → v = .bool b) : yielded ops a.tmps j = some b := by
  obtain ⟨v, hv, hVv⟩ := hk oj ho
  obtain rfl := hV v w hVv
  unfold yielded
  rw [ho, Option.bind_some, hd, Option.bind_some, hv d hd]
theorem step_wanted {V : Nat → Value → World → Prop} {S : World → Prop} {R : World → World → Prop} {a0 : Act} {i j : Nat} {b : Bool} {o oj : Oper} {d : Tmp} (hg : o.guard = some (j, b)) (ho : ops[j]? = some oj) (hd : oj.dst = some d) (hdep : dep md o j = true) (hV : ∀ v w, V j v w → v = .bool b)
    (h : Does P md ops Q V S R a0 i o) : Step P md ops Q V S R a0 i o := fun a w h1 h2 h3 h4 K h5 => by
  rw [if_pos (by unfold Region.wanted; rw [hg]; simp only; rw [yielded_at ho hd (h4 j hdep) hV]; exact beq_self_eq_true _)]
  exact h a w h1 h2 h3 h4 K h5
theorem step_unwanted {V : Nat → Value → World → Prop} {S : World → Prop} {R : World → World → Prop} {a0 : Act} {i j : Nat} {b c : Bool} {o oj : Oper} {d : Tmp} (hR : ∀ w, R w w) (hg : o.guard = some (j, b)) (ho : ops[j]? = some oj) (hd : oj.dst = some d) (hdep : dep md o j = true) (hV : ∀ v w, V j v w → v = .bool c) (hne : c ≠ b)
    (h : ∀ w, V i undef w) : Step P md ops Q V S R a0 i o := fun a w h1 h2 h3 h4 K h5 => by
  rw [if_neg (by unfold Region.wanted; rw [hg]; simp only; rw [yielded_at ho hd (h4 j hdep) hV]; simpa using hne)]
  exact h5 _ _ (hR w) (h w)
end
abbrev PV := Value → World → Prop
def isV (x : Value) : PV := fun v _ => v = x
def anyV : PV := fun _ _ => True
/-- A slice of n elements over cells that hold xs. -/
def rowV (xs : List Value) (n : Nat) : PV := fun v w => ∃ g, v = .slice (some ⟨g, 0, none⟩) n n ∧ ∀ j u, xs[j]? = some u → w.cell? ⟨g, j, none⟩ = some u
def Grow (w w' : World) : Prop := Below w.heap.size w w'
def Stable (p : PV) : Prop := ∀ v w w', p v w → Grow w w' → p v w'
theorem stable_is (x : Value) : Stable (isV x) := fun _ _ _ h _ => h
theorem stable_any : Stable anyV := fun _ _ _ h _ => h
theorem stable_row (xs : List Value) (n : Nat) : Stable (rowV xs n) := fun v w w' ⟨g, h1, h2⟩ hg => ⟨g, h1, fun j u hj => by
  have h3 := h2 j u hj
  have hl := World.block_lt_of_cell? w _ h3
  exact (Below.cell hg (p := ⟨g, j, none⟩) hl).trans h3⟩
def pick (l : List PV) (k : Nat) : PV := l.getD k anyV
theorem pick_stable {l : List PV} (h : ∀ p ∈ l, Stable p) : ∀ k v w w', pick l k v w → Grow w w' → pick l k v w' := fun k => by
  unfold pick
  rcases Nat.lt_or_ge k l.length with hk | hk
  · rw [List.getD_eq_getElem?_getD, List.getElem?_eq_getElem hk]; exact h _ (List.getElem_mem hk)
  · rw [List.getD_eq_getElem?_getD, List.getElem?_eq_none hk]; exact stable_any
theorem wp_calm {P : Program} {l : List Oper} {Q : Exit → Act → World → Prop} {id : Nat} {a0 : Act} {w : World} (hm : P.follows .mixedOrders = true) (B : World) (L : List PV) (hL : ∀ p ∈ L, Stable p)
    (hdag : dagOk .any l.toArray = true) (hdst : dstOk l.toArray a0.tmps.size = true) (hB : Below B.heap.size B w)
    (step : Steps P .any l.toArray Q (pick L) (fun W => Below B.heap.size B W) Grow a0 0 l)
    (fin : ∀ a w, Below B.heap.size B w → a.tmps.size = a0.tmps.size → a.defers = a0.defers → (∀ t, idle l.toArray t = true → a.tmps[t]? = a0.tmps[t]?) → (∀ k, Known l.toArray (pick L) a w k) → Q .normal a w) :
    (Code.region id l.toArray true).wp P Q a0 w :=
  wp_region_calm hm (pick L) (fun W => Below B.heap.size B W) Grow hdag hdst (pick_stable hL) (fun w w' h1 h2 => h1.trans (Below.mono h2 h1.size)) (hB.trans ⟨rfl, rfl, rfl, Nat.le_refl _, fun _ _ => rfl⟩) step fin
theorem at_getD {a : Act} {t : Nat} {v : Value} (h : a.tmps[t]? = some v) : a.tmps.getD t undef = v := by rw [Array.getD_eq_getD_getElem?, h]; rfl
theorem at_eval {a : Act} {t : Nat} {v : Value} (h : a.tmps[t]? = some v) : a.eval (.tmp t) = v := at_getD h
/-! ### The state behind the region written out; late operations (stores), which wait for all others; a word on the whole state -/
/-- The slots filled in the text's order. -/
def puts (a : Act) (v : Nat → Value) : Nat → List Oper → Act
  | _, [] => a
  | n, o :: l => puts (a.put o.dst (v n)) v (n + 1) l
theorem puts_size (v : Nat → Value) : ∀ (l : List Oper) (n : Nat) (a : Act), (puts a v n l).tmps.size = a.tmps.size
  | [], _, _ => rfl
  | _ :: l, n, _ => (puts_size v l (n + 1) _).trans put_size
theorem puts_defers (v : Nat → Value) : ∀ (l : List Oper) (n : Nat) (a : Act), (puts a v n l).defers = a.defers
  | [], _, _ => rfl
  | _ :: l, n, _ => (puts_defers v l (n + 1) _).trans put_defers
theorem puts_off (v : Nat → Value) (t : Nat) : ∀ (l : List Oper) (n : Nat) (a : Act), (∀ o ∈ l, o.dst ≠ some t) → (puts a v n l).tmps[t]? = a.tmps[t]?
  | [], _, _, _ => rfl
  | o :: l, n, a, h => (puts_off v t l (n + 1) _ (fun p hp => h p (List.mem_cons_of_mem _ hp))).trans (put_off (h o (List.mem_cons_self ..)))
theorem puts_at (v : Nat → Value) (t : Nat) : ∀ (l : List Oper) (n i : Nat) (a : Act) (o : Oper), l[i]? = some o → o.dst = some t → t < a.tmps.size → (∀ j p, l[j]? = some p → j ≠ i → p.dst ≠ some t) → (puts a v n l).tmps[t]? = some (v (n + i))
  | [], _, _, _, _, h, _, _, _ => by simp at h
  | p :: l, n, 0, a, o, h, hd, ht, hn => by
    simp at h
    subst h
    show (puts (a.put p.dst (v n)) v (n + 1) l).tmps[t]? = _
    rw [puts_off v t l (n + 1) _ (fun q hq => by
      obtain ⟨j, hj, rfl⟩ := List.mem_iff_getElem.1 hq
      exact hn (j + 1) l[j] (by simp [hj]) (by omega)), hd]
    exact put_at ht
  | p :: l, n, i + 1, a, o, h, hd, ht, hn => by
    show (puts (a.put p.dst (v n)) v (n + 1) l).tmps[t]? = _
    rw [puts_at v t l (n + 1) i _ o (by simpa using h) hd (by rw [put_size]; exact ht) (fun j q hq hne => hn (j + 1) q (by simpa using hq) (by omega))]
    congr 2
    omega
section
variable {P : Program} {md : Region.Mode} {ops : Array Oper} {Q : Exit → Act → World → Prop}
/-- Does number i wait for number j, maybe through others? -/
def anc (md : Region.Mode) (ops : Array Oper) : Nat → Nat → Nat → Bool
  | 0, _, _ => false
  | n + 1, i, j => ((ops[i]?).map fun o => o.after.any fun e => Region.binds md e && (e.on == j || anc md ops n e.on j)).getD false
theorem anc_listed {listed : Array Bool} (hcl : ∀ k o, listed.getD k false = true → ops[k]? = some o → ∀ e ∈ o.after, Region.binds md e = true → listed.getD e.on false = true) :
    ∀ (n i j : Nat) (o : Oper), ops[i]? = some o → (∀ e ∈ o.after, Region.binds md e = true → listed.getD e.on false = true) → anc md ops n i j = true → listed.getD j false = true
  | 0, _, _, _, _, _, h => by cases h
  | n + 1, i, j, o, ho, hall, h => by
    unfold anc at h
    rw [ho] at h
    simp only [Option.map_some, Option.getD_some] at h
    rw [Array.any_eq_true] at h
    obtain ⟨x, hx, hb⟩ := h
    simp only [Bool.and_eq_true, Bool.or_eq_true, beq_iff_eq] at hb
    have h1 := hall o.after[x] (Array.getElem_mem hx) hb.1
    rcases hb.2 with h2 | h2
    · rwa [h2] at h1
    · cases hp : ops[o.after[x].on]? with
      | none => cases n <;> simp [anc, hp] at h2
      | some p => exact anc_listed hcl n _ j p hp (fun e he hbe => hcl _ p h1 hp e he hbe) h2
/-- Late ones have no slot and wait for all that are early. -/
def lateOk (md : Region.Mode) (ops : Array Oper) (early : Nat → Bool) : Bool :=
  (List.range ops.size).all fun i => early i || ((ops[i]?).map fun o => o.dst.isNone && (List.range ops.size).all fun j => !early j || anc md ops 4 i j).getD true
theorem late_spec {early : Nat → Bool} (h : lateOk md ops early = true) {i : Nat} {o : Oper} (hi : ops[i]? = some o) (he : early i = false) : o.dst = none ∧ ∀ j, j < ops.size → early j = true → anc md ops 4 i j = true := by
  unfold lateOk at h
  rw [List.all_eq_true] at h
  have h1 := h i (List.mem_range.2 (Array.getElem?_eq_some_iff.1 hi).1)
  rw [hi, he] at h1
  simp only [Bool.false_or, Option.map_some, Option.getD_some, Bool.and_eq_true, List.all_eq_true, Option.isNone_iff_eq_none] at h1
  refine ⟨h1.1, fun j hj hej => ?_⟩
  have h2 := h1.2 j (List.mem_range.2 hj)
  rw [hej] at h2
  simpa using h2
theorem not_listed {listed : Array Bool} (hsz : listed.size = ops.size) {i : Nat} {o p : Oper} (ho : ops[i]? = some o) (hun : listed.getD i true = false) (hdp : dep md p i = true) (h2 : ∀ e ∈ p.after, Region.binds md e = true → listed.getD e.on false = true) : False := by
  unfold dep at hdp
  rw [Array.any_eq_true] at hdp
  obtain ⟨j, hj, hb⟩ := hdp
  simp only [Bool.and_eq_true, beq_iff_eq] at hb
  have h3 := h2 p.after[j] (Array.getElem_mem hj) hb.1
  rw [hb.2] at h3
  have h4 : i < listed.size := by have := (Array.getElem?_eq_some_iff.1 ho).1; omega
  simp [h4] at hun h3
  rw [hun] at h3; cases h3
/-- Whoever writes the slot waits for number i. -/
def later (md : Region.Mode) (ops : Array Oper) (i t : Nat) : Bool := (List.range ops.size).all fun k => ((ops[k]?).map fun o => o.dst != some t || dep md o i).getD true
theorem later_spec {i t : Nat} (h : later md ops i t = true) {k : Nat} {o : Oper} (hk : ops[k]? = some o) (hd : o.dst = some t) : dep md o i = true := by
  unfold later at h
  rw [List.all_eq_true] at h
  have h1 := h k (List.mem_range.2 (Array.getElem?_eq_some_iff.1 hk).1)
  rw [hk] at h1
  simpa [hd] using h1
def StepJ (P : Program) (md : Region.Mode) (ops : Array Oper) (Q : Exit → Act → World → Prop) (V : Nat → Value → World → Prop) (S : World → Prop) (R : World → World → Prop) (J : Array Bool → Act → World → Prop) (a0 : Act) (i : Nat) (o : Oper) : Prop :=
  ∀ listed a w, listed.size = ops.size → listed.getD i true = false → (∀ k, dep md o k = true → listed.getD k false = true) → (∀ t, later md ops i t = true → a.tmps[t]? = a0.tmps[t]?) → J listed a w → (∀ k, listed.getD k false = true → Known ops V a w k) → S w → a.tmps.size = a0.tmps.size → (∀ t, idle ops t = true → a.tmps[t]? = a0.tmps[t]?) → (∀ k, dep md o k = true → Known ops V a w k) →
    ∀ K : Act → World → Prop, (∀ v w', R w w' → V i v w' → J (listed.setIfInBounds i true) (a.put o.dst v) w' → K (a.put o.dst v) w') → if Region.wanted o (yielded ops a.tmps) = true then Oper.wp P o a w K Q else K (a.put o.dst undef) w
def earlyList (ops : Array Oper) (early : Nat → Bool) : Array Bool := ((List.range ops.size).map early).toArray
theorem wpAny_late {V : Nat → Value → World → Prop} {S : World → Prop} {R : World → World → Prop} {J : Array Bool → Act → World → Prop} {early : Nat → Bool} {a0 : Act} (hdag : dagOk md ops = true) (hdst : dstOk ops a0.tmps.size = true) (hlate : lateOk md ops early = true)
    (stab : ∀ k v w w', V k v w → R w w' → V k v w') (sS : ∀ w w', S w → R w w' → S w')
    (step : ∀ i o, ops[i]? = some o → early i = true → StepJ P md ops Q V S R J a0 i o)
    (fin : ∀ v w, S w → (∀ k, k < ops.size → early k = true → V k (v k) w) → J (earlyList ops early) (puts a0 v 0 ops.toList) w → wpAny P md ops Q ((earlyList ops early).toList.count false) (earlyList ops early) (puts a0 v 0 ops.toList) w) :
    ∀ (fuel : Nat) (listed : Array Bool) (a : Act) (w : World), listed.size = ops.size → listed.toList.count false = fuel → (∀ k, k < ops.size → early k = false → listed.getD k true = false) → (∀ k o, listed.getD k false = true → ops[k]? = some o → ∀ e ∈ o.after, Region.binds md e = true → listed.getD e.on false = true) → Inv ops V S a0 listed a w → J listed a w → wpAny P md ops Q fuel listed a w := by
  have done : ∀ (listed : Array Bool) (a : Act) (w : World), listed.size = ops.size → (∀ k, k < ops.size → early k = false → listed.getD k true = false) → Inv ops V S a0 listed a w → J listed a w → (∀ k, k < ops.size → early k = true → listed.getD k false = true) → wpAny P md ops Q (listed.toList.count false) listed a w := by
    intro listed a w hsz hl hI hJ hall
    have e1 : listed = earlyList ops early := by
      apply Array.ext
      · simp [earlyList, hsz]
      · intro i h1 h2
        have h3 : i < ops.size := by omega
        have e2 : (earlyList ops early)[i] = early i := by simp [earlyList]
        rw [e2]
        cases hc : early i
        · have := hl i h3 hc; simpa [h1] using this
        · have := hall i h3 hc; simp [h1] at this ⊢; exact this
    subst e1
    have hv : ∀ k, ∃ v, early k = true → ∀ o, ops[k]? = some o → (∀ d, o.dst = some d → a.tmps[d]? = some v) ∧ V k v w := by
      intro k
      by_cases hk : k < ops.size ∧ early k = true
      · obtain ⟨v, h⟩ := hI.new k (hall k hk.1 hk.2) ops[k] (by simp [hk.1])
        refine ⟨v, fun _ o ho => ?_⟩
        obtain rfl : ops[k] = o := by simpa [hk.1] using ho
        exact h
      · refine ⟨undef, fun he o ho => ?_⟩
        exact absurd ⟨(Array.getElem?_eq_some_iff.1 ho).1, he⟩ hk
    obtain ⟨v, hv⟩ := Classical.axiomOfChoice hv
    have ea : a = puts a0 v 0 ops.toList := by
      have et : a.tmps = (puts a0 v 0 ops.toList).tmps := by
        apply Array.ext_getElem?
        intro t
        by_cases hx : ∃ (k : Nat) (o : Oper), ops[k]? = some o ∧ o.dst = some t
        · obtain ⟨k, o, ho, hd⟩ := hx
          have hek : early k = true := by
            cases hc : early k
            · have := (late_spec hlate ho hc).1; rw [this] at hd; cases hd
            · rfl
          rw [((hv k hek o ho).1 t hd), puts_at v t ops.toList 0 k a0 o (by simpa using ho) hd (dst_spec hdst ho hd).1 (fun j p hp hne => (dst_spec hdst ho hd).2 j p (by simpa using hp) hne), Nat.zero_add]
        · have hid : idle ops t = true := by
            unfold idle
            rw [List.all_eq_true]
            intro i hi
            have hi' := List.mem_range.1 hi
            have : ops[i]? = some ops[i] := by simp [hi']
            rw [this]
            simp only [Option.map_some, Option.getD_some, bne_iff_ne, ne_eq]
            exact fun e => hx ⟨i, ops[i], this, e⟩
          rw [hI.old t (fun k o _ ho => idle_spec hid ho), puts_off v t ops.toList 0 a0 (fun o ho e => by
            obtain ⟨j, hj, rfl⟩ := List.mem_iff_getElem.1 ho
            exact hx ⟨j, _, by simp, e⟩)]
      have ed : a.defers = (puts a0 v 0 ops.toList).defers := hI.defers.trans (puts_defers v ops.toList 0 a0).symm
      cases a
      cases hp : puts a0 v 0 ops.toList
      rw [hp] at et ed
      simp only at et ed
      subst et ed
      rfl
    subst ea
    exact fin v w hI.s (fun k hk he => (hv k he ops[k] (by simp [hk])).2) hJ
  intro fuel
  induction fuel with
  | zero =>
    intro listed a w hsz hc hl hcl hI hJ
    have := done listed a w hsz hl hI hJ (fun k hk _ => all_of_count hc (by omega))
    rwa [hc] at this
  | succ fuel ih =>
    intro listed a w hsz hc hl hcl hI hJ
    by_cases hall : ∀ k, k < ops.size → early k = true → listed.getD k false = true
    · have := done listed a w hsz hl hI hJ hall
      rwa [hc] at this
    · refine ⟨fun h => absurd (fun k hk _ => ready_nil hdag hsz h k hk) hall, fun i hi => ?_⟩
      obtain ⟨hun, o, ho, hdeps⟩ := mem_ready.1 hi
      have hdeps' : ∀ k, dep md o k = true → listed.getD k false = true := fun k hk => by
        unfold dep at hk
        rw [Array.any_eq_true] at hk
        obtain ⟨j, hj, hb⟩ := hk
        simp only [Bool.and_eq_true, beq_iff_eq] at hb
        have := hdeps o.after[j] (Array.getElem_mem hj) hb.1
        rwa [hb.2] at this
      have hei : early i = true := by
        cases hc2 : early i
        · exact absurd (fun k hk hek => anc_listed hcl 4 i k o ho hdeps ((late_spec hlate ho hc2).2 k hk hek)) hall
        · rfl
      have hst := step i o ho hei listed a w hsz hun hdeps' (fun t ht => hI.old t (fun k p hk hp e => not_listed hsz ho hun (later_spec ht hp e) (hcl k p hk hp))) hJ hI.new hI.s hI.size (fun t ht => hI.old t (fun k o _ ho => idle_spec ht ho)) (fun k hk => hI.new k (hdeps' k hk)) (wpAny P md ops Q fuel (listed.setIfInBounds i true)) (fun v w' hR hV hJ' => by
        refine ih _ _ _ (by simpa using hsz) (by have := count_set hun; omega) (fun k hk hek => ?_) (fun k p hk hp e he hb => ?_) ⟨sS _ _ hI.s hR, put_size.trans hI.size, put_defers.trans hI.defers, fun t ht => (put_off (ht i o (on_set hun ho hsz) ho)).trans (hI.old t (fun k p hk hp => ht k p (up_set hk) hp)), fun k hk => ?_⟩ hJ'
        · have hki : k ≠ i := fun e => by rw [e, hei] at hek; cases hek
          have e : (listed.setIfInBounds i true).getD k true = listed.getD k true := by
            simp only [Array.getD_eq_getD_getElem?, Array.getElem?_setIfInBounds]
            rw [if_neg (Ne.symm hki)]
          rw [e]; exact hl k hk hek
        · have up : ∀ x, listed.getD x false = true → (listed.setIfInBounds i true).getD x false = true := fun x hx => by
            simp only [Array.getD_eq_getD_getElem?, Array.getElem?_setIfInBounds] at hx ⊢
            split
            · split
              · rfl
              · rename_i h1 h2; rw [h1] at h2; rw [Array.getElem?_eq_none (by omega)] at hx; cases hx
            · exact hx
          by_cases hki : k = i
          · subst hki
            obtain rfl : o = p := by rw [ho] at hp; exact Option.some.inj hp
            exact up _ (hdeps e he hb)
          · have e1 : (listed.setIfInBounds i true).getD k false = listed.getD k false := by
              simp only [Array.getD_eq_getD_getElem?, Array.getElem?_setIfInBounds]
              rw [if_neg (Ne.symm hki)]
            rw [e1] at hk
            exact up _ (hcl k p hk hp e he hb)
        · intro ok hok
          by_cases hki : k = i
          · subst hki
            obtain rfl : o = ok := by rw [ho] at hok; exact Option.some.inj hok
            refine ⟨v, fun d hd => ?_, hV⟩
            rw [hd]
            exact put_at (by rw [hI.size]; exact (dst_spec hdst ho hd).1)
          · have hk' : listed.getD k false = true := by
              have e : (listed.setIfInBounds i true).getD k false = listed.getD k false := by
                simp only [Array.getD_eq_getD_getElem?, Array.getElem?_setIfInBounds]
                rw [if_neg (Ne.symm hki)]
              rw [e] at hk; exact hk
            obtain ⟨u, hu, hVu⟩ := hI.new k hk' ok hok
            exact ⟨u, fun d hd => (put_off (fun e => (dst_spec hdst hok hd).2 i o ho (Ne.symm hki) e)).trans (hu d hd), stab _ _ _ _ hVu hR⟩)
      unfold wpOp
      simp only [ho]
      split
      · rename_i hw; rw [if_pos hw] at hst; exact .inl hst
      · rename_i hw; rw [if_neg hw] at hst; exact hst
end
section
variable {P : Program} {ops : Array Oper} {Q : Exit → Act → World → Prop}
/-- As wp_calm; behind it the state is written out: the values by a function of the operation's number. -/
theorem wp_calm2 {l : List Oper} {id : Nat} {a0 : Act} {w : World} (hm : P.follows .mixedOrders = true) (B : World) (L : List PV) (hL : ∀ p ∈ L, Stable p)
    (hdag : dagOk .any l.toArray = true) (hdst : dstOk l.toArray a0.tmps.size = true) (hB : Below B.heap.size B w)
    (step : Steps P .any l.toArray Q (pick L) (fun W => Below B.heap.size B W) Grow a0 0 l)
    (fin : ∀ v w, Below B.heap.size B w → (∀ k, k < l.length → pick L k (v k) w) → Q .normal (puts a0 v 0 l) w) :
    (Code.region id l.toArray true).wp P Q a0 w := by
  refine wp_region_any hm (wpAny_late (V := pick L) (S := fun W => Below B.heap.size B W) (R := Grow) (J := fun _ _ _ => True) (early := fun _ => true) (a0 := a0) hdag hdst ?_ (pick_stable hL) (fun w w' h1 h2 => h1.trans (Below.mono h2 h1.size))
    (fun i o ho _ => ?_) (fun v w hS hv _ => ?_) l.toArray.size _ a0 _ (by simp) ?_ (fun k _ h => by cases h) (fun k o h => ?_) ⟨hB.trans ⟨rfl, rfl, rfl, Nat.le_refl _, fun _ _ => rfl⟩, rfl, rfl, fun _ _ => rfl, fun k hk => ?_⟩ trivial)
  · unfold lateOk; simp
  · have hst : Step P .any l.toArray Q (pick L) (fun W => Below B.heap.size B W) Grow a0 i o := by
      have := Steps.at l 0 step i o (by simpa using ho)
      rwa [Nat.zero_add] at this
    intro listed a w _ _ _ _ _ _ h1 h2 h3 h4 K hK
    exact hst a w h1 h2 h3 h4 K (fun v w' a b => hK v w' a b trivial)
  · have e : (earlyList l.toArray fun _ => true).toList.count false = 0 := by
      rw [List.count_eq_zero]
      intro hm
      unfold earlyList at hm
      simp at hm
    rw [e]
    refine ⟨ready_of_all (fun k hk => ?_) (by simp [earlyList]), ?_⟩
    · have hk2 : k < l.length := by simpa using hk
      simp [earlyList, hk2]
    · exact fin v w hS (fun k hk => hv k (by simpa using hk) rfl)
  · simp
  · exfalso
    rcases Nat.lt_or_ge k l.toArray.size with h1 | h1
    · have h' : k < l.length := by simpa using h1
      simp [h'] at h
    · rw [Array.getD_eq_getD_getElem?, Array.getElem?_eq_none (by simpa using h1)] at h; simp at h
  · exfalso
    rcases Nat.lt_or_ge k l.toArray.size with h | h
    · have h' : k < l.length := by simpa using h
      simp [h'] at hk
    · rw [Array.getD_eq_getD_getElem?, Array.getElem?_eq_none (by simpa using h)] at hk; simp at hk
/-- A variable that the region makes: its cells, from block b on. -/
def varV (b : Nat) (xs : List Value) : PV := fun v w => ∃ g, v = .pointer (some ⟨g, 0, none⟩) ∧ b ≤ g ∧ ∀ j u, xs[j]? = some u → w.cell? ⟨g, j, none⟩ = some u ∧ w.frozen? ⟨g, j, none⟩ = false
theorem stable_var (b : Nat) (xs : List Value) : Stable (varV b xs) := fun v w w' ⟨g, h1, h0, h2⟩ hg => ⟨g, h1, h0, fun j u hj => by
  obtain ⟨h3, h4⟩ := h2 j u hj
  have hl := World.block_lt_of_cell? w _ h3
  exact ⟨(Below.cell hg (p := ⟨g, j, none⟩) hl).trans h3, (Below.frozen hg (p := ⟨g, j, none⟩) hl).trans h4⟩⟩
theorem var_lt {b : Nat} {x : Value} {xs : List Value} {v : Value} {w : World} {g : Nat} (h : varV b (x :: xs) v w) (e : v = .pointer (some ⟨g, 0, none⟩)) : g < w.heap.size := by
  obtain ⟨g', h1, _, h2⟩ := h
  rw [h1] at e
  injection e with e; injection e with e; injection e with e
  subst e
  exact World.block_lt_of_cell? w _ (h2 0 x rfl).1
/-- Variables that the region makes, by the number of their operation and their slot, lie apart. -/
def apartJ (al : List (Nat × Nat)) (listed : Array Bool) (a : Act) (_ : World) : Prop :=
  ∀ p ∈ al, ∀ q ∈ al, p.1 ≠ q.1 → listed.getD p.1 false = true → listed.getD q.1 false = true → ∀ g h, a.tmps[p.2]? = some (.pointer (some ⟨g, 0, none⟩)) → a.tmps[q.2]? = some (.pointer (some ⟨h, 0, none⟩)) → g ≠ h
theorem getD_set_true {listed : Array Bool} {i k : Nat} (h : k ≠ i) : (listed.setIfInBounds i true).getD k false = listed.getD k false := by
  simp only [Array.getD_eq_getD_getElem?, Array.getElem?_setIfInBounds]
  rw [if_neg (Ne.symm h)]
def alOk (ops : Array Oper) (al : List (Nat × Nat)) : Bool := al.all fun p => ((ops[p.1]?).map fun o => o.dst == some p.2).getD false
theorem al_spec {al : List (Nat × Nat)} (h : alOk ops al = true) {p : Nat × Nat} (hp : p ∈ al) : ∃ o, ops[p.1]? = some o ∧ o.dst = some p.2 := by
  unfold alOk at h
  rw [List.all_eq_true] at h
  have h1 := h p hp
  cases ho : ops[p.1]? with
  | none => rw [ho] at h1; simp at h1
  | some o => rw [ho] at h1; exact ⟨o, rfl, by simpa using h1⟩
theorem stepJ_of {md : Region.Mode} {V : Nat → Value → World → Prop} {S : World → Prop} {R : World → World → Prop} {a0 : Act} {al : List (Nat × Nat)} {i : Nat} {o : Oper} (hal : alOk ops al = true) (hdst : dstOk ops a0.tmps.size = true) (ho : ops[i]? = some o) (hi : (al.all fun p => p.1 != i) = true)
    (h : Step P md ops Q V S R a0 i o) : StepJ P md ops Q V S R (apartJ al) a0 i o := by
  intro listed a w _ _ _ _ hJ _ h1 h2 h3 h4 K hK
  have hne : ∀ p ∈ al, p.1 ≠ i := fun p hp => by have := List.all_eq_true.1 hi p hp; simpa using this
  refine h a w h1 h2 h3 h4 K (fun v w' a1 b1 => hK v w' a1 b1 fun p hp q hq hpq l1 l2 g h g1 g2 => ?_)
  rw [getD_set_true (hne p hp)] at l1
  rw [getD_set_true (hne q hq)] at l2
  have off : ∀ r ∈ al, (a.put o.dst v).tmps[r.2]? = a.tmps[r.2]? := fun r hr => by
    obtain ⟨or, hor, hdr⟩ := al_spec hal hr
    exact put_off (fun e => (dst_spec hdst hor hdr).2 i o ho (Ne.symm (hne r hr)) e)
  rw [off p hp] at g1
  rw [off q hq] at g2
  exact hJ p hp q hq hpq l1 l2 g h g1 g2
theorem stepJ_alloc {md : Region.Mode} {V : Nat → Value → World → Prop} {S : World → Prop} {R : World → World → Prop} {a0 : Act} {al : List (Nat × Nat)} {i : Nat} {o : Oper} (hal : alOk ops al = true) (hdst : dstOk ops a0.tmps.size = true) (ho : ops[i]? = some o) (hg : o.guard = none)
    (hV : ∀ p ∈ al, ∀ v w h, V p.1 v w → v = .pointer (some ⟨h, 0, none⟩) → h < w.heap.size)
    (h : ∀ a w, S w → ∀ K : Act → World → Prop, (∀ w', R w w' → V i (.pointer (some ⟨w.heap.size, 0, none⟩)) w' → K (a.put o.dst (.pointer (some ⟨w.heap.size, 0, none⟩))) w') → Oper.wp P o a w K Q) : StepJ P md ops Q V S R (apartJ al) a0 i o := by
  intro listed a w hsz _ _ _ hJ hnew h1 h2 h3 h4 K hK
  rw [if_pos (by unfold Region.wanted; rw [hg])]
  refine h a w h1 K (fun w' a1 b1 => hK _ w' a1 b1 fun p hp q hq hpq l1 l2 g k g1 g2 => ?_)
  have off : ∀ r ∈ al, r.1 ≠ i → (a.put o.dst (.pointer (some ⟨w.heap.size, 0, none⟩))).tmps[r.2]? = a.tmps[r.2]? := fun r hr hri => by
    obtain ⟨or, hor, hdr⟩ := al_spec hal hr
    exact put_off (fun e => (dst_spec hdst hor hdr).2 i o ho (Ne.symm hri) e)
  have old : ∀ r ∈ al, r.1 ≠ i → listed.getD r.1 false = true → ∀ x, a.tmps[r.2]? = some (.pointer (some ⟨x, 0, none⟩)) → x < w.heap.size := fun r hr hri hl x hx => by
    obtain ⟨or, hor, hdr⟩ := al_spec hal hr
    obtain ⟨v, hv, hVv⟩ := hnew r.1 hl or hor
    have e := (hv r.2 hdr).symm.trans hx
    exact hV r hr v w x hVv (Option.some.inj e)
  have new : ∀ r ∈ al, r.1 = i → ∀ x, (a.put o.dst (.pointer (some ⟨w.heap.size, 0, none⟩))).tmps[r.2]? = some (.pointer (some ⟨x, 0, none⟩)) → x = w.heap.size := fun r hr hri x hx => by
    obtain ⟨or, hor, hdr⟩ := al_spec hal hr
    rw [hri, ho] at hor
    obtain rfl := Option.some.inj hor
    rw [hdr, put_at (by rw [h2]; exact (dst_spec hdst ho hdr).1)] at hx
    have := Option.some.inj hx
    injection this with this; injection this with this; injection this with this
    exact this.symm
  by_cases hpi : p.1 = i
  · have hqi : q.1 ≠ i := fun e => hpq (hpi.trans e.symm)
    have e1 := new p hp hpi g g1
    rw [getD_set_true hqi] at l2
    rw [off q hq hqi] at g2
    have e2 := old q hq hqi l2 k g2
    omega
  · rw [getD_set_true hpi] at l1
    rw [off p hp hpi] at g1
    have e1 := old p hp hpi l1 g g1
    by_cases hqi : q.1 = i
    · have e2 := new q hq hqi k g2
      omega
    · rw [getD_set_true hqi] at l2
      rw [off q hq hqi] at g2
      exact hJ p hp q hq hpq l1 l2 g k g1 g2
def StepsJ (P : Program) (md : Region.Mode) (ops : Array Oper) (Q : Exit → Act → World → Prop) (V : Nat → Value → World → Prop) (S : World → Prop) (R : World → World → Prop) (J : Array Bool → Act → World → Prop) (early : Nat → Bool) (a0 : Act) : Nat → List Oper → Prop
  | _, [] => True
  | n, o :: l => (early n = true → StepJ P md ops Q V S R J a0 n o) ∧ StepsJ P md ops Q V S R J early a0 (n + 1) l
section
variable {md : Region.Mode} {V : Nat → Value → World → Prop} {S : World → Prop} {R : World → World → Prop} {J : Array Bool → Act → World → Prop} {early : Nat → Bool} {a0 : Act}
theorem StepsJ.cons {n : Nat} {o : Oper} {l : List Oper} (h1 : StepJ P md ops Q V S R J a0 n o) (h2 : StepsJ P md ops Q V S R J early a0 (n + 1) l) : StepsJ P md ops Q V S R J early a0 n (o :: l) := ⟨fun _ => h1, h2⟩
theorem StepsJ.skip {n : Nat} {o : Oper} {l : List Oper} (h1 : early n = false) (h2 : StepsJ P md ops Q V S R J early a0 (n + 1) l) : StepsJ P md ops Q V S R J early a0 n (o :: l) := ⟨fun h => (by rw [h1] at h; cases h), h2⟩
theorem StepsJ.nil {n : Nat} : StepsJ P md ops Q V S R J early a0 n [] := trivial
theorem StepsJ.at : ∀ (l : List Oper) (n : Nat), StepsJ P md ops Q V S R J early a0 n l → ∀ i o, l[i]? = some o → early (n + i) = true → StepJ P md ops Q V S R J a0 (n + i) o
  | [], _, _, i, o, hi, _ => by simp at hi
  | p :: l, n, h, 0, o, hi, he => by simp at hi; subst hi; exact h.1 he
  | p :: l, n, h, i + 1, o, hi, he => by
    have e : n + 1 + i = n + (i + 1) := by omega
    have := StepsJ.at l (n + 1) h.2 i o (by simpa using hi) (by rw [e]; exact he)
    rwa [e] at this
end
/-- A region that makes variables and ends in stores into them. -/
theorem wp_calm_late {l : List Oper} {id : Nat} {a0 : Act} {w : World} (hm : P.follows .mixedOrders = true) (B : World) (L : List PV) (early : Nat → Bool) (al : List (Nat × Nat)) (hL : ∀ p ∈ L, Stable p)
    (hdag : dagOk .any l.toArray = true) (hdst : dstOk l.toArray a0.tmps.size = true) (hlate : lateOk .any l.toArray early = true) (hB : Below B.heap.size B w)
    (step : StepsJ P .any l.toArray Q (pick L) (fun W => Below B.heap.size B W) Grow (apartJ al) early a0 0 l)
    (fin : ∀ v w, Below B.heap.size B w → (∀ k, k < l.length → early k = true → pick L k (v k) w) → apartJ al (earlyList l.toArray early) (puts a0 v 0 l) w → wpAny P .any l.toArray Q ((earlyList l.toArray early).toList.count false) (earlyList l.toArray early) (puts a0 v 0 l) w) :
    (Code.region id l.toArray true).wp P Q a0 w := by
  refine wp_region_any hm (wpAny_late (V := pick L) (S := fun W => Below B.heap.size B W) (R := Grow) (J := apartJ al) (early := early) (a0 := a0) hdag hdst hlate (pick_stable hL) (fun w w' h1 h2 => h1.trans (Below.mono h2 h1.size))
    (fun i o ho he => ?_) (fun v w hS hv hJ => ?_) l.toArray.size _ a0 _ (by simp) ?_ (fun k hk _ => ?_) (fun k o h => ?_) ⟨hB.trans ⟨rfl, rfl, rfl, Nat.le_refl _, fun _ _ => rfl⟩, rfl, rfl, fun _ _ => rfl, fun k hk => ?_⟩ ?_)
  · have := StepsJ.at l 0 step i o (by simpa using ho) (by rw [Nat.zero_add]; exact he)
    rwa [Nat.zero_add] at this
  · exact fin v w hS (fun k hk he => hv k (by simpa using hk) he) hJ
  · simp
  · have hk2 : k < l.length := by simpa using hk
    simp [hk2]
  · exfalso
    rcases Nat.lt_or_ge k l.toArray.size with h1 | h1
    · have h' : k < l.length := by simpa using h1
      simp [h'] at h
    · rw [Array.getD_eq_getD_getElem?, Array.getElem?_eq_none (by simpa using h1)] at h; simp at h
  · exfalso
    rcases Nat.lt_or_ge k l.toArray.size with h | h
    · have h' : k < l.length := by simpa using h
      simp [h'] at hk
    · rw [Array.getD_eq_getD_getElem?, Array.getElem?_eq_none (by simpa using h)] at hk; simp at hk
  · intro p _ q _ _ h1
    exfalso
    rcases Nat.lt_or_ge p.1 l.toArray.size with h | h
    · have h' : p.1 < l.length := by simpa using h
      simp [h'] at h1
    · rw [Array.getD_eq_getD_getElem?, Array.getElem?_eq_none (by simpa using h)] at h1; simp at h1
theorem wpAny_one {md : Region.Mode} {fuel i : Nat} {listed : Array Bool} {a : Act} {w : World} {o : Oper} (hr : Region.ready md ops listed = [i]) (ho : ops[i]? = some o) (hg : o.guard = none)
    (h : ∀ K : Act → World → Prop, (∀ a w, wpAny P md ops Q fuel (listed.setIfInBounds i true) a w → K a w) → Oper.wp P o a w K Q) : wpAny P md ops Q (fuel + 1) listed a w := by
  refine ⟨fun h0 => (by rw [h0] at hr; cases hr), fun j hj => ?_⟩
  rw [hr] at hj
  obtain rfl := List.mem_singleton.1 hj
  unfold wpOp
  simp only [ho]
  rw [if_pos (by unfold Region.wanted; rw [hg])]
  exact .inl (h _ (fun _ _ h => h))
theorem wpAny_end {md : Region.Mode} {listed : Array Bool} {a : Act} {w : World} (hr : Region.ready md ops listed = []) (h : Q .normal a w) : wpAny P md ops Q 0 listed a w := ⟨hr, h⟩
end
theorem wpAny_cast {P : Program} {md : Region.Mode} {ops : Array Oper} {Q : Exit → Act → World → Prop} {n n' : Nat} {L L' : Array Bool} {a : Act} {w : World} (h1 : n = n') (h2 : L = L') (h : wpAny P md ops Q n' L' a w) : wpAny P md ops Q n L a w := by subst h1 h2; exact h
/-- A value that is claimed where a letter is true. -/
def ifV (u : Bool) (x : Value) : PV := fun v _ => u = true → v = x
theorem stable_if (u : Bool) (x : Value) : Stable (ifV u x) := fun _ _ _ h _ => h
theorem is_at {ops : Array Oper} {md : Region.Mode} {o : Oper} {V : Nat → Value → World → Prop} {a : Act} {w : World} {x : Value} (hdep : ∀ k, dep md o k = true → Known ops V a w k) {k : Nat} (hd : dep md o k = true) {p : Oper} (hp : ops[k]? = some p) {d : Tmp} (hs : p.dst = some d)
    (hV : ∀ v w, V k v w → v = x) : a.tmps[d]? = some x := by
  obtain ⟨v, h1, h2⟩ := hdep k hd p hp
  obtain rfl := hV v w h2
  exact h1 d hs
end Go.Proofs.Ytbclmclddpdhlaa.Calm2
