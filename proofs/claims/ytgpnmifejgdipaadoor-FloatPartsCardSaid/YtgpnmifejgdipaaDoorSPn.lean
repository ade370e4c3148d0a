/-
  Natural numbers as lists of binary digits. By the session's own hand.
-/
import Derived.Test.YtgpnmifejgdipaaDoorSPr
namespace Go.Proofs.YtgpnmifejgdipaaDoor.RM

/-- the binary digits, the lowest first -/
def nat (n : Nat) : List Int := if h : n = 0 then [] else ((n % 2 : Nat) : Int) :: nat (n / 2)
termination_by n
decreasing_by exact Nat.div_lt_self (Nat.pos_of_ne_zero h) (by omega)

def val : List Int → Nat
  | [] => 0
  | d :: l => d.toNat + 2 * val l

def Dig (l : List Int) : Prop := ∀ d ∈ l, d = 0 ∨ d = 1

theorem nat_zero : nat 0 = [] := by rw [nat]; simp
theorem nat_succ {n : Nat} (h : n ≠ 0) : nat n = ((n % 2 : Nat) : Int) :: nat (n / 2) := by rw [nat, dif_neg h]
theorem nat_eq_nil {n : Nat} : nat n = [] ↔ n = 0 := by
  constructor
  · intro h; apply Classical.byContradiction; intro hn; rw [nat_succ hn] at h; cases h
  · rintro rfl; exact nat_zero
theorem val_nat (n : Nat) : val (nat n) = n := by
  induction n using Nat.strongRecOn with
  | _ n ih =>
    by_cases h : n = 0
    · subst h; rw [nat_zero]; rfl
    · rw [nat_succ h]; simp only [val]; rw [ih (n / 2) (Nat.div_lt_self (Nat.pos_of_ne_zero h) (by omega))]; omega
theorem dig_nat (n : Nat) : Dig (nat n) := by
  induction n using Nat.strongRecOn with
  | _ n ih =>
    by_cases h : n = 0
    · subst h; rw [nat_zero]; intro d hd; cases hd
    · rw [nat_succ h]
      intro d hd
      rcases List.mem_cons.1 hd with rfl | hd
      · omega
      · exact ih _ (Nat.div_lt_self (Nat.pos_of_ne_zero h) (by omega)) d hd
theorem blen_half {n : Nat} (h : n ≠ 0) : blen n = blen (n / 2) + 1 := by
  have := blen_div_pow n 1
  have := blen_pos h
  simp at *; omega
theorem length_nat (n : Nat) : (nat n).length = blen n := by
  induction n using Nat.strongRecOn with
  | _ n ih =>
    by_cases h : n = 0
    · subst h; rw [nat_zero]; rfl
    · rw [nat_succ h, List.length_cons, ih _ (Nat.div_lt_self (Nat.pos_of_ne_zero h) (by omega)), blen_half h]
theorem getD_nat (n i : Nat) : (nat n).getD i 0 = ((n / 2 ^ i % 2 : Nat) : Int) := by
  induction i generalizing n with
  | zero =>
    by_cases h : n = 0
    · subst h; rw [nat_zero]; rfl
    · rw [nat_succ h]; simp
  | succ i ih =>
    by_cases h : n = 0
    · subst h; rw [nat_zero]; simp
    · rw [nat_succ h, List.getD_cons_succ, ih, Nat.div_div_eq_div_mul, Nat.pow_succ, Nat.mul_comm (2 ^ i)]
theorem val_snoc (l : List Int) (d : Int) : val (l ++ [d]) = val l + 2 ^ l.length * d.toNat := by
  induction l with
  | nil => simp [val]
  | cons x l ih => simp only [List.cons_append, val, ih, List.length_cons, Nat.pow_succ]; rw [Nat.mul_add, ← Nat.mul_assoc, Nat.mul_comm 2 (2 ^ _)]; omega
theorem val_append (l m : List Int) : val (l ++ m) = val l + 2 ^ l.length * val m := by
  induction l with
  | nil => simp [val]
  | cons x l ih => simp only [List.cons_append, val, ih, List.length_cons, Nat.pow_succ]; rw [Nat.mul_add, ← Nat.mul_assoc, Nat.mul_comm 2 (2 ^ _)]; omega
theorem val_lt {l : List Int} (h : Dig l) : val l < 2 ^ l.length := by
  induction l with
  | nil => simp [val]
  | cons x l ih =>
    have := ih fun d hd => h d (List.mem_cons_of_mem _ hd)
    have := h x (List.mem_cons_self ..)
    simp only [val, List.length_cons, Nat.pow_succ]; omega
theorem dig_cons {x : Int} {l : List Int} (h : Dig (x :: l)) : (x = 0 ∨ x = 1) ∧ Dig l := ⟨h x (List.mem_cons_self ..), fun d hd => h d (List.mem_cons_of_mem _ hd)⟩
theorem dig_append {l m : List Int} (h : Dig l) (h' : Dig m) : Dig (l ++ m) := fun d hd => (List.mem_append.1 hd).elim (h d) (h' d)
theorem dig_one {d : Int} (h : d = 0 ∨ d = 1) : Dig [d] := fun x hx => by rw [List.mem_singleton.1 hx]; exact h
theorem dig_drop {l : List Int} (h : Dig l) (n : Nat) : Dig (l.drop n) := fun d hd => h d (List.mem_of_mem_drop hd)
theorem dig_take {l : List Int} (h : Dig l) (n : Nat) : Dig (l.take n) := fun d hd => h d (List.mem_of_mem_take hd)
theorem dig_zeros (n : Nat) : Dig (List.replicate n 0) := fun _ hd => .inl (List.eq_of_mem_replicate hd)
theorem val_zeros (n : Nat) : val (List.replicate n 0) = 0 := by
  induction n with
  | zero => rfl
  | succ n ih => simp [List.replicate_succ, val, ih]
/-- Digits that end in 1 are the number's own. -/
theorem nat_val {l : List Int} (h : Dig l) (hl : l = [] ∨ l.getLast? = some 1) : nat (val l) = l := by
  induction l with
  | nil => exact nat_zero
  | cons x l ih =>
    obtain ⟨hx, hd⟩ := dig_cons h
    have hl' : l = [] ∨ l.getLast? = some 1 := by
      rcases hl with hl | hl
      · cases hl
      · cases l with
        | nil => exact .inl rfl
        | cons y m => right; simpa [List.getLast?_cons_cons] using hl
    have e := ih hd hl'
    have hne : x.toNat + 2 * val l ≠ 0 := by
      intro h0
      have h1 : val l = 0 := by omega
      rw [h1, nat_zero] at e
      subst e
      rcases hl with hl | hl
      · cases hl
      · simp at hl; omega
    simp only [val]
    rw [nat_succ hne]
    have h1 : (x.toNat + 2 * val l) / 2 = val l := by omega
    have h2 : (((x.toNat + 2 * val l) % 2 : Nat) : Int) = x := by omega
    rw [h1, h2, e]
/-- Digits with zeros behind. -/
theorem nat_val_zeros {l : List Int} (h : Dig l) : ∃ k, l = nat (val l) ++ List.replicate k 0 := by
  induction l with
  | nil => exact ⟨0, by simp [val, nat_zero]⟩
  | cons x l ih =>
    obtain ⟨hx, hd⟩ := dig_cons h
    obtain ⟨k, hk⟩ := ih hd
    by_cases h0 : x.toNat + 2 * val l = 0
    · refine ⟨k + 1, ?_⟩
      have h1 : val l = 0 := by omega
      have h2 : x = 0 := by omega
      simp only [val]
      rw [h0, nat_zero]
      rw [h1, nat_zero] at hk
      rw [hk, h2]; simp [List.replicate_succ]
    · refine ⟨k, ?_⟩
      simp only [val]
      rw [nat_succ h0]
      have h1 : (x.toNat + 2 * val l) / 2 = val l := by omega
      have h2 : (((x.toNat + 2 * val l) % 2 : Nat) : Int) = x := by omega
      rw [h1, h2, List.cons_append, ← hk]
theorem nat_up {n : Nat} (h : n ≠ 0) (k : Nat) : List.replicate k 0 ++ nat n = nat (n * 2 ^ k) := by
  induction k with
  | zero => simp
  | succ k ih =>
    have h1 : n * 2 ^ (k + 1) = n * 2 ^ k * 2 := by rw [Nat.pow_succ, Nat.mul_assoc]
    have h2 : n * 2 ^ k ≠ 0 := Nat.mul_ne_zero h (Nat.ne_of_gt (Nat.two_pow_pos k))
    rw [h1, nat_succ (n := n * 2 ^ k * 2) (by omega), List.replicate_succ, List.cons_append, ih]
    have h3 : n * 2 ^ k * 2 / 2 = n * 2 ^ k := by omega
    have h4 : n * 2 ^ k * 2 % 2 = 0 := by omega
    rw [h3, h4]; rfl
theorem nat_down (n k : Nat) : (nat n).drop k = nat (n / 2 ^ k) := by
  induction k generalizing n with
  | zero => simp
  | succ k ih =>
    by_cases h : n = 0
    · subst h; simp [nat_zero]
    · rw [nat_succ h, List.drop_succ_cons, ih, Nat.div_div_eq_div_mul, Nat.pow_succ, Nat.mul_comm (2 ^ k)]
theorem nat_take (n k : Nat) : val ((nat n).take k) = n % 2 ^ k := by
  induction k generalizing n with
  | zero => simp [val, Nat.mod_one]
  | succ k ih =>
    by_cases h : n = 0
    · subst h; simp [nat_zero, val]
    · rw [nat_succ h, List.take_succ_cons]
      simp only [val]
      rw [ih, Nat.pow_succ, Nat.mul_comm (2 ^ k), Nat.mod_mul]; omega
end Go.Proofs.YtgpnmifejgdipaaDoor.RM
