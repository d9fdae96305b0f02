/- A region that appends to two slices: its operations' obligations. -/
import Derived.Test.YtbclmclddpdhlaaS8
namespace Go.Proofs.Ytbclmclddpdhlaa.Calm2
open Go Go.RowKit
set_option linter.unusedVariables false
section
variable {P : Program} {ops : Array Oper} {Q : Exit → Act → World → Prop} {L : List PV} {B : World} {J O : Array Bool → Act → World → Prop} {a0 : Act}
abbrev SB (B : World) : World → Prop := fun W => Below B.heap.size B W
abbrev RB (B : World) : World → World → Prop := fun _ W => Below B.heap.size B W
/-- What is kept whatever another operation lays into its own slot, if the rows of type e stay. -/
def Pres (e : TypeId) (i : Nat) (d : Option Tmp) (O : Array Bool → Act → World → Prop) : Prop :=
  ∀ listed a w w' u, O listed a w → (∀ (k : Nat) (cur : Array Value), w.heap[k]? = some (Obj.cells cur e (0, 0)) → w'.heap[k]? = w.heap[k]?) → O (listed.setIfInBounds i true) (a.put d u) w'
theorem pres_half {base : Nat} {e : TypeId} {ib db ia da iz dz i : Nat} {d : Option Tmp} {x v : Value} {l : List Value} (h1 : ib ≠ i) (h2 : ia ≠ i) (h3 : d ≠ some db) (h4 : d ≠ some da) (h6 : iz ≠ i) (h7 : d ≠ some dz) : Pres e i d (Half base e ib db ia da iz dz x v l) :=
  fun _ _ _ _ _ h hg => h.other h1 h2 h3 h4 h6 h7 hg
theorem quietJ {i : Nat} {o : Oper} {e1 e2 : TypeId} {O1 O2 : Array Bool → Act → World → Prop} (hJ : ∀ L a w, J L a w ↔ (O1 L a w ∧ O2 L a w)) (hg : o.guard = none) (p1 : Pres e1 i o.dst O1) (p2 : Pres e2 i o.dst O2)
    (h : ∀ a w, Below B.heap.size B w → (∀ t, later .any ops i t = true → a.tmps[t]? = a0.tmps[t]?) → (∀ k, dep .any o k = true → Known ops (pick L) a w k) → ∀ K : Act → World → Prop, (∀ v, pick L i v w → K (a.put o.dst v) w) → Oper.wp P o a w K Q) :
    StepJ P .any ops Q (pick L) (SB B) (RB B) J a0 i o := by
  intro listed a w _ _ _ hold hj _ hS _ _ hdep K hK
  rw [if_pos (by unfold Region.wanted; rw [hg])]
  obtain ⟨j1, j2⟩ := (hJ _ _ _).1 hj
  exact h a w hS hold hdep K (fun v hv => hK v w hS hv ((hJ _ _ _).2 ⟨p1 _ _ _ _ _ j1 (fun _ _ _ => rfl), p2 _ _ _ _ _ j2 (fun _ _ _ => rfl)⟩))
theorem buildJ {base ib db ia da iz dz : Nat} {e e' : TypeId} {x v : Value} {l : List Value} {o : Oper} (hJ : ∀ L a w, J L a w ↔ (Half base e ib db ia da iz dz x v l L a w ∧ O L a w)) (hg : o.guard = none) (hd : o.dst = some db) (hne : ia ≠ ib) (hdd : some db ≠ some da) (h6 : iz ≠ ib) (h7 : some db ≠ some dz) (hs : db < a0.tmps.size) (p : Pres e' ib (some db) O)
    (hV : ∀ u w, pick L ib u w) (h : ∀ a w, (∀ t, later .any ops ib t = true → a.tmps[t]? = a0.tmps[t]?) → (∀ k, dep .any o k = true → Known ops (pick L) a w k) → ∀ K : Act → World → Prop, K (a.put o.dst (.slice (some ⟨w.heap.size, 0, none⟩) 1 1)) (w.alloc (Obj.cells #[x] e)) → Oper.wp P o a w K Q) :
    StepJ P .any ops Q (pick L) (SB B) (RB B) J a0 ib o := by
  intro listed a w _ _ _ hold hj _ hS hsz _ hdep K hK
  rw [if_pos (by unfold Region.wanted; rw [hg])]
  obtain ⟨j1, j2⟩ := (hJ _ _ _).1 hj
  have hB : Below w.heap.size w (w.alloc (Obj.cells #[x] e)) := by go_grown
  refine h a w hold hdep K (hK _ _ (Below.trans hS (hB.mono hS.size)) (hV _ _) ((hJ _ _ _).2 ⟨?_, ?_⟩))
  · rw [hd]; exact j1.built hne hdd h6 h7 (by rw [hsz]; exact hs)
  · rw [hd]; exact p _ _ _ _ _ j2 (same_of_below hB)
theorem appJ {ib db ia da iz dz t jv dv : Nat} {e e' : TypeId} {x v z : Value} {l : List Value} {bytes : Nat} {o ov : Oper} (hJ : ∀ L a w, J L a w ↔ (Half B.heap.size e ib db ia da iz dz x v l L a w ∧ O L a w)) (hg : o.guard = none) (hd : o.dst = some da) (hne : ib ≠ ia) (hdd : some da ≠ some db) (h6 : iz ≠ ia) (hs : da < a0.tmps.size) (hio : ops[ia]? = some o)
    (p : Pres e' ia (some da) O) (hee : e' ≠ e) (hV : ∀ u w, pick L ia u w)
    (ho : o.op = .call { callee := .builtin .append, args := #[.tmp dv, .tmp db], argTypes := #[t, t] }) (ht : P.underlying t = some (.slice e)) (hinfo : (P.info? e).map (fun i => (i.zero, i.size, i.bytes)) = some (some z, 1, bytes)) (hz : z.cells.size = 1)
    (hdb : dep .any o ib = true) (hdv : dep .any o jv = true) (hov : ops[jv]? = some ov) (hdov : ov.dst = some dv) (hVv : ∀ u w, pick L jv u w → u = v) (h1 : x.oneCell' = true) (hl : l.length ≤ 1000) (hbytes : bytes ≤ 100) :
    StepJ P .any ops Q (pick L) (SB B) (RB B) J a0 ia o := by
  intro listed a w hlz hun hdl _ hj _ hS hsz hold hdep K hK
  rw [if_pos (by unfold Region.wanted; rw [hg])]
  obtain ⟨j1, j2⟩ := (hJ _ _ _).1 hj
  have hia : ia < ops.size := (Array.getElem?_eq_some_iff.1 hio).1
  have hun' : listed.getD ia false = false := by
    have h2 : ia < listed.size := by omega
    simp [h2] at hun ⊢; exact hun
  obtain ⟨g, e1, e2⟩ := j1.row (hdl ib hdb)
  have hrow := j1.old hun'
  obtain ⟨u, hu, hVu⟩ := hdep jv hdv ov hov
  obtain rfl := hVv u w hVu
  refine append_does (s := .tmp dv) (b := .tmp db) ho ht hinfo hz (at_eval (hu dv hdov)) (at_eval e1) hrow (e2 hun') h1 hl hbytes hS.size (fun v' w' hr hgr => hK v' w' ?_ (hV _ _) ((hJ _ _ _).2 ⟨?_, ?_⟩))
  · exact Below.grown hS hgr hS.size (fun k hk => (World.ownsRow.lt hrow k hk).1)
  · rw [hd]; exact j1.appended hne hdd h6 hun' (by rw [hsz]; exact hs) (by omega) hr
  · rw [hd]; exact p _ _ _ _ _ j2 (other_type hrow hgr hee)
theorem assignJ {base ib db ia da iz dz : Nat} {e e' : TypeId} {x v : Value} {l : List Value} {o oa : Oper} (hJ : ∀ L a w, J L a w ↔ (Half base e ib db ia da iz dz x v l L a w ∧ O L a w)) (hg : o.guard = none) (hd : o.dst = some dz) (h1 : ib ≠ iz) (h2 : ia ≠ iz) (h3 : some dz ≠ some db) (h4 : some dz ≠ some da) (hs : dz < a0.tmps.size) (p : Pres e' iz (some dz) O)
    (hV : ∀ u w, pick L iz u w) (hda : dep .any o ia = true) (hoa : ops[ia]? = some oa) (hdoa : oa.dst = some da)
    (h : ∀ a w u, a.tmps[da]? = some u → ∀ K : Act → World → Prop, K (a.put o.dst u) w → Oper.wp P o a w K Q) : StepJ P .any ops Q (pick L) (SB B) (RB B) J a0 iz o := by
  intro listed a w _ _ hdl _ hj _ hS hsz hold hdep K hK
  rw [if_pos (by unfold Region.wanted; rw [hg])]
  obtain ⟨j1, j2⟩ := (hJ _ _ _).1 hj
  obtain ⟨u, hu, _⟩ := hdep ia hda oa hoa
  refine h a w u (hu da hdoa) K (hK _ _ hS (hV _ _) ((hJ _ _ _).2 ⟨?_, ?_⟩))
  · rw [hd]; exact j1.assigned h1 h2 h3 h4 (hdl ia hda) (hu da hdoa) (by rw [hsz]; exact hs)
  · rw [hd]; exact p _ _ _ _ _ j2 (fun _ _ _ => rfl)
/-- The region, begun: J at the state in which it begins. -/
theorem wp_calm_J {l : List Oper} {id : Nat} {w : World} (hm : P.follows .mixedOrders = true) (B : World) (L : List PV) (J : Array Bool → Act → World → Prop) (hL : ∀ p ∈ L, ∀ v w w', p v w → p v w')
    (hdag : dagOk .any l.toArray = true) (hdst : dstOk l.toArray a0.tmps.size = true) (hB : Below B.heap.size B w) (hJ0 : ∀ listed : Array Bool, (∀ k, listed.getD k false = false) → J listed a0 w.drew)
    (step : StepsJ P .any l.toArray Q (pick L) (SB B) (RB B) J (fun _ => true) a0 0 l)
    (fin : ∀ v w, Below B.heap.size B w → (∀ k, k < l.length → pick L k (v k) w) → ∀ listed : Array Bool, (∀ k, k < l.length → listed.getD k false = true) → J listed (puts a0 v 0 l) w → Q .normal (puts a0 v 0 l) w) :
    (Code.region id l.toArray true).wp P Q a0 w := by
  have hfalse : ∀ k, (Array.replicate l.toArray.size false).getD k false = false := fun k => by
    rcases Nat.lt_or_ge k l.toArray.size with h | h
    · have h' : k < l.length := by simpa using h
      simp [h']
    · rw [Array.getD_eq_getD_getElem?, Array.getElem?_eq_none (by simpa using h)]; rfl
  refine wp_region_any hm (wpAny_late (V := pick L) (S := SB B) (R := RB B) (J := J) (early := fun _ => true) (a0 := a0) hdag hdst ?_ (fun k v w w' h _ => ?_) (fun w w' _ h => h)
    (fun i o ho _ => ?_) (fun v w hS hv hJ => ?_) l.toArray.size _ a0 _ (by simp) ?_ (fun k _ h => by cases h) (fun k o h => ?_) ⟨hB.trans ⟨rfl, rfl, rfl, Nat.le_refl _, fun _ _ => rfl⟩, rfl, rfl, fun _ _ => rfl, fun k hk => ?_⟩ (hJ0 _ hfalse))
  · unfold lateOk; simp
  · unfold pick at h ⊢
    rcases Nat.lt_or_ge k L.length with hk | hk
    · rw [List.getD_eq_getElem?_getD, List.getElem?_eq_getElem hk] at h ⊢; exact hL _ (List.getElem_mem hk) v w w' h
    · rw [List.getD_eq_getElem?_getD, List.getElem?_eq_none hk]; exact trivial
  · have := StepsJ.at l 0 step i o (by simpa using ho) rfl
    rwa [Nat.zero_add] at this
  · have e : (earlyList l.toArray fun _ => true).toList.count false = 0 := by
      rw [List.count_eq_zero]
      intro hm
      unfold earlyList at hm
      simp at hm
    have hall : ∀ k, k < l.length → (earlyList l.toArray fun _ => true).getD k false = true := fun k hk => by simp [earlyList, hk]
    rw [e]
    refine ⟨ready_of_all (fun k hk => hall k (by simpa using hk)) (by simp [earlyList]), ?_⟩
    exact fin v w hS (fun k hk => hv k (by simpa using hk) rfl) _ hall hJ
  · simp
  · rw [hfalse] at h; cases h
  · rw [hfalse] at hk; cases hk
end
end Go.Proofs.Ytbclmclddpdhlaa.Calm2
