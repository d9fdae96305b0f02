/- The CRC's polynomial: no sum of three powers below 4000 is a multiple of it (a finite check). -/
namespace Go.Proofs.Ytbclmclddpdhlaa.S
/-- One bit of the CRC, on natural numbers. -/
def stN (c : Nat) : Nat := bif Nat.beq (Nat.land c 1) 1 then Nat.xor (Nat.div c 2) 3988292384 else Nat.div c 2
def seqN : Nat → Nat → List Nat
  | 0, _ => []
  | n + 1, c => c :: seqN n (stN c)
def one (b x : Nat) : Bool := Nat.beq (Nat.land (Nat.shiftRight x b) 1) 1
/-- The numbers that have the bit, those that don't. -/
def parts : Nat → List Nat → List Nat → List Nat → List Nat × List Nat
  | _, [], p, q => (p, q)
  | b, x :: l, p, q => bif one b x then parts b l (x :: p) q else parts b l p (x :: q)
/-- Two lists of numbers of b bits without a common one. -/
def disj : Nat → List Nat → List Nat → Bool
  | _, [], _ => true
  | _, _ :: _, [] => true
  | 0, _ :: _, _ :: _ => false
  | b + 1, x :: l, y :: m =>
    let p := parts b (x :: l) [] []
    let q := parts b (y :: m) [] []
    disj b p.1 q.1 && disj b p.2 q.2
theorem mem_parts (b : Nat) : ∀ (l p q : List Nat) (z : Nat), (z ∈ l ∨ z ∈ p ∨ z ∈ q) ∧ (∀ x ∈ p, one b x = true) ∧ (∀ x ∈ q, one b x = false) → (one b z = true → z ∈ (parts b l p q).1) ∧ (one b z = false → z ∈ (parts b l p q).2)
  | [], p, q, z, ⟨h, hp, hq⟩ => by
    simp only [parts]
    rcases h with h | h | h
    · cases h
    · exact ⟨fun _ => h, fun hz => (by rw [hp z h] at hz; cases hz)⟩
    · exact ⟨fun hz => (by rw [hq z h] at hz; cases hz), fun _ => h⟩
  | x :: l, p, q, z, ⟨h, hp, hq⟩ => by
    simp only [parts]
    cases hx : one b x
    · simp only [cond_false]
      refine mem_parts b l p (x :: q) z ⟨?_, hp, fun y hy => ?_⟩
      · rcases h with h | h | h
        · rcases List.mem_cons.1 h with rfl | h
          · exact .inr (.inr (List.mem_cons_self ..))
          · exact .inl h
        · exact .inr (.inl h)
        · exact .inr (.inr (List.mem_cons_of_mem _ h))
      · rcases List.mem_cons.1 hy with rfl | hy
        · exact hx
        · exact hq y hy
    · simp only [cond_true]
      refine mem_parts b l (x :: p) q z ⟨?_, fun y hy => ?_, hq⟩
      · rcases h with h | h | h
        · rcases List.mem_cons.1 h with rfl | h
          · exact .inr (.inl (List.mem_cons_self ..))
          · exact .inl h
        · exact .inr (.inl (List.mem_cons_of_mem _ h))
        · exact .inr (.inr h)
      · rcases List.mem_cons.1 hy with rfl | hy
        · exact hx
        · exact hp y hy
theorem disj_spec : ∀ (b : Nat) (l m : List Nat), disj b l m = true → ∀ z, z ∈ l → z ∈ m → False
  | _, [], _, _, z, h, _ => by cases h
  | _, _ :: _, [], _, z, _, h => by cases h
  | 0, _ :: _, _ :: _, h, _, _, _ => by simp [disj] at h
  | b + 1, x :: l, y :: m, h, z, h1, h2 => by
    simp only [disj, Bool.and_eq_true] at h
    have e1 := mem_parts b (x :: l) [] [] z ⟨.inl h1, (fun _ h => (by cases h)), (fun _ h => (by cases h))⟩
    have e2 := mem_parts b (y :: m) [] [] z ⟨.inl h2, (fun _ h => (by cases h)), (fun _ h => (by cases h))⟩
    cases hz : one b z
    · exact disj_spec b _ _ h.2 z (e1.2 hz) (e2.2 hz)
    · exact disj_spec b _ _ h.1 z (e1.1 hz) (e2.1 hz)
def powers : List Nat := seqN 4000 3988292384
def flip1 : List Nat → List Nat
  | [] => []
  | x :: l => Nat.xor x 1 :: flip1 l
theorem apart : disj 32 powers (flip1 powers) = true := by decide +kernel
end Go.Proofs.Ytbclmclddpdhlaa.S
