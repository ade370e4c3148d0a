/-
  The reference's natural numbers: what its functions come to on lists of binary digits. By the session's own hand.
-/
import Derived.Test.YtgpnmifejgdipaaDoorSPc
import Derived.Test.YtgpnmifejgdipaaDoorDf
namespace Go.Proofs.YtgpnmifejgdipaaDoor.Pf
open Go.RowKit Go.Proofs.YtgpnmifejgdipaaDoor.My Go.Proofs.YtgpnmifejgdipaaDoor.RM Go.Proofs.YtgpnmifejgdipaaDoorW.PrintWords Go.Proofs.YtgpnmifejgdipaaDoorW.PrintLast Go.Proofs.YtgpnmifejgdipaaDoorW.PrintMore

/-- A fact that omega shall not look at. -/
def Hid (p : Prop) : Prop := p
theorem w64n (n : Nat) (h : n < 9223372036854775808) : wrap64 (n : Int) = n := w64_id (by omega) (by omega)
theorem digit_nat (n i : Nat) : quadratref01_digit.f (nat n) (i : Int) = some ((n / 2 ^ i % 2 : Nat) : Int) := by
  unfold quadratref01_digit.f
  rw [if_neg (by omega), length_nat]
  by_cases h : blen n ≤ i
  · rw [if_pos (by omega)]
    have : n / 2 ^ i = 0 := Nat.div_eq_of_lt (blen_le.1 h)
    rw [this]; rfl
  · rw [if_neg (by omega), if_pos (by omega), if_pos (by omega)]
    unfold rd
    rw [Int.toNat_natCast, getD_nat]
theorem take_snoc (l : List Int) (m : Nat) (h : m < l.length) : l.take (m + 1) = l.take m ++ [l.getD m 0] := by
  rw [List.take_add_one]
  rw [List.getElem?_eq_getElem h]
  simp [List.getD_eq_getElem?_getD, List.getElem?_eq_getElem h]
theorem drop_getD (l : List Int) (m : Nat) (h : m < l.length) : l.drop m = l.getD m 0 :: l.drop (m + 1) := by
  rw [List.drop_eq_getElem_cons h]
  simp [List.getD_eq_getElem?_getD, List.getElem?_eq_getElem h]
theorem getD_dig {l : List Int} (hd : Dig l) (m : Nat) (h : m < l.length) : l.getD m 0 = 0 ∨ l.getD m 0 = 1 := by
  have : l.getD m 0 = l[m] := by simp [List.getD_eq_getElem?_getD, List.getElem?_eq_getElem h]
  rw [this]; exact hd _ (List.getElem_mem h)
theorem trim_l0 (l : List Int) (hd : Dig l) (hl : l.length < 140737488355328) : ∀ (m k : Nat), m ≤ l.length → val (l.drop m) = 0 → m < k → quadratref01_trim.l0 k l (m : Int) = some (nat (val l)) := by
  intro m
  induction m with
  | zero =>
    intro k _ h0 hk
    obtain ⟨k, rfl⟩ : ∃ j, k = j + 1 := ⟨k - 1, by omega⟩
    simp only [quadratref01_trim.l0]
    rw [if_neg (by omega), bs, if_pos (by omega), if_pos (by omega), if_pos (by simp)]
    rw [List.drop_zero] at h0
    rw [h0, nat_zero]; rfl
  | succ m ih =>
    intro k hm h0 hk
    obtain ⟨k, rfl⟩ : ∃ j, k = j + 1 := ⟨k - 1, by omega⟩
    have e1 : wrap64 (((m + 1 : Nat) : Int) - 1) = (m : Int) := by rw [w64_id (by omega) (by omega)]; omega
    simp only [quadratref01_trim.l0, e1]
    rw [if_pos (by omega), if_pos (by omega), if_pos (by omega)]
    have hr : rd l (m : Int) = l.getD m 0 := by unfold rd; rw [Int.toNat_natCast]
    rw [hr]
    by_cases h : l.getD m 0 = 0
    · rw [if_pos h]
      refine ih k (by omega) ?_ (by omega)
      rw [drop_getD l m (by omega)]
      simp only [val]; rw [h0, h]; rfl
    · rw [if_neg h, bs, if_pos (by omega), if_pos (by omega), if_pos (by simp; omega)]
      rw [Int.toNat_natCast, List.nil_append]
      have h1 : l.getD m 0 = 1 := (getD_dig hd m (by omega)).resolve_left h
      have h2 : val l = val (l.take (m + 1)) := by
        conv => lhs; rw [← List.take_append_drop (m + 1) l]
        rw [val_append, h0]; simp
      rw [h2, nat_val (dig_take hd _)]
      right
      rw [take_snoc l m (by omega), h1]; simp
theorem trim_dig (k : Nat) (l : List Int) (hd : Dig l) (hl : l.length < 140737488355328) (hk : l.length < k) : quadratref01_trim.f k l = some (nat (val l)) := by
  unfold quadratref01_trim.f
  exact trim_l0 l hd hl l.length k (Nat.le_refl _) (by simp [val]) hk
theorem up_nat (n a : Nat) (h : a + blen n < 140737488355328) : quadratref01_Up.f (nat n) (a : Int) = some (nat (n * 2 ^ a)) := by
  unfold quadratref01_Up.f
  rw [length_nat]
  by_cases h0 : n = 0
  · subst h0; simp [blen_zero, nat_zero]
  · have := blen_pos h0
    rw [if_neg (by omega), if_pos (by omega), if_pos (by omega), bs, if_pos (by rw [List.length_replicate, Int.toNat_natCast]; omega), Int.toNat_natCast, nat_up h0]
theorem down_nat (n a : Nat) (h : blen n < 140737488355328) : quadratref01_Down.f (nat n) (a : Int) = some (nat (n / 2 ^ a)) := by
  unfold quadratref01_Down.f
  rw [length_nat]
  by_cases h0 : blen n ≤ a
  · rw [if_pos (by omega)]
    have : n / 2 ^ a = 0 := Nat.div_eq_of_lt (blen_le.1 h0)
    rw [this, nat_zero]
  · rw [if_neg (by omega), bs, if_pos (by omega), if_pos (by omega), Int.toNat_natCast, nat_down, if_pos (by rw [length_nat, blen_div_pow]; simp; omega), List.nil_append]
theorem bit_mod (a i : Nat) : a % 2 ^ (i + 1) = a % 2 ^ i + 2 ^ i * (a / 2 ^ i % 2) := by
  rw [Nat.pow_succ, Nat.mod_mul]
theorem plus_arith (P x y c u v A B V : Nat) (h : x + y + c = 2 * u + v) (hv : A + B = V + c * P) : (A + P * x) + (B + P * y) = V + P * v + u * (P * 2) := by
  have h1 : P * (x + y + c) = P * (2 * u + v) := by rw [h]
  simp only [Nat.mul_add] at h1
  have h2 : c * P = P * c := Nat.mul_comm _ _
  have h3 : u * (P * 2) = P * (2 * u) := by rw [Nat.mul_comm u, Nat.mul_assoc]
  rw [h3]; rw [h2] at hv
  omega
theorem half_lt {a i : Nat} (h : blen a < i) : a * 2 < 2 ^ i := by
  have h1 := lt_pow_blen a
  have h2 : 2 ^ (blen a + 1) ≤ 2 ^ i := Nat.pow_le_pow_right (by omega) (by omega)
  rw [Nat.pow_succ] at h2; omega
theorem plus_l0 (a b : Nat) : ∀ (j i c k : Nat) (acc : List Int), Dig acc → acc.length = i → c ≤ 1 → a % 2 ^ i + b % 2 ^ i = val acc + c * 2 ^ i → blen a + blen b + 1 < i + j → i + j + 3 < 140737488355328 → i ≤ blen a + blen b + 1 → blen a + blen b + 3 * j + 8 < k →
    quadratref01_Plus.l0 k (nat a) (nat b) acc (c : Int) (i : Int) = some (nat (a + b)) := by
  intro j
  induction j with
  | zero => intro i c k acc _ _ _ _ h _ h'; exact absurd h (by omega)
  | succ j ih =>
    intro i c k acc hd hl hc hv hj hb hi hk
    obtain ⟨k, rfl⟩ : ∃ m, k = m + 1 + 1 := ⟨k - 2, by omega⟩
    have hgo : ∀ x : Bool, x = decide (i < blen a ∨ i < blen b ∨ 0 < c) → quadratref01_Plus.j1 (k + 1) (nat a) (nat b) acc (c : Int) (i : Int) x = some (nat (a + b)) := by
      intro x hx
      simp only [quadratref01_Plus.j1]
      by_cases hgo : i < blen a ∨ i < blen b ∨ 0 < c
      · rw [decide_eq_true hgo] at hx
        rw [if_pos hx, digit_nat, bs, digit_nat, bs, if_pos (by omega)]
        have da : a / 2 ^ i % 2 < 2 := Nat.mod_lt _ (by omega)
        have db : b / 2 ^ i % 2 < 2 := Nat.mod_lt _ (by omega)
        obtain ⟨x, hx'⟩ : ∃ x, a / 2 ^ i % 2 = x := ⟨_, rfl⟩
        obtain ⟨y, hy'⟩ : ∃ y, b / 2 ^ i % 2 = y := ⟨_, rfl⟩
        have hi2 : i + 1 ≤ blen a + blen b + 1 := by
          apply Classical.byContradiction
          intro hcon
          have ha := half_lt (a := a) (i := i) (by omega)
          have hb := half_lt (a := b) (i := i) (by omega)
          have hmax : ¬ i < blen a ∧ ¬ i < blen b := by omega
          have hc1 : c = 1 := by omega
          rw [Nat.mod_eq_of_lt (show a < 2 ^ i by omega), Nat.mod_eq_of_lt (show b < 2 ^ i by omega), hc1] at hv
          omega
        rw [hx'] at da ⊢
        rw [hy'] at db ⊢
        have hgl : Hid (Dig acc ∧ (a % 2 ^ (i + 1) = a % 2 ^ i + 2 ^ i * x) ∧ (b % 2 ^ (i + 1) = b % 2 ^ i + 2 ^ i * y) ∧ a % 2 ^ i + b % 2 ^ i = val acc + c * 2 ^ i) := ⟨hd, by rw [bit_mod, hx'], by rw [bit_mod, hy'], hv⟩
        clear hv hx' hy' hd
        have q3 : blen a + blen b + 1 < i + 1 + j := by omega
        have q4 : i + 1 + j + 3 < 140737488355328 := by omega
        have q5 : blen a + blen b + 3 * j + 8 < k := by omega
        have e1 : (x : Int) + (y : Int) + (c : Int) = ((x + y + c : Nat) : Int) := by omega
        have e2 : ((x + y + c : Nat) : Int) % 256 / 2 = (((x + y + c) / 2 : Nat) : Int) := by omega
        have e3 : ((x + y + c : Nat) : Int) % 2 = (((x + y + c) % 2 : Nat) : Int) := by omega
        have e4 : wrap64 ((i : Int) + 1) = ((i + 1 : Nat) : Int) := by rw [w64_id (by omega) (by omega)]; omega
        rw [e1, e2, e3, e4]
        have h2 : x + y + c = 2 * ((x + y + c) / 2) + (x + y + c) % 2 := by omega
        have h3 : (x + y + c) / 2 ≤ 1 := by omega
        have h4 : (((x + y + c) % 2 : Nat) : Int) = 0 ∨ (((x + y + c) % 2 : Nat) : Int) = 1 := by omega
        refine ih (i + 1) ((x + y + c) / 2) k _ (dig_append (show Dig acc from hgl.1) (dig_one h4)) (by simp [hl]) h3 ?_ q3 q4 hi2 q5
        obtain ⟨_, hg2, hg3, hg4⟩ := (show _ ∧ _ ∧ _ ∧ _ from hgl)
        rw [val_snoc, hg2, hg3, hl, Int.toNat_natCast, Nat.pow_succ]
        exact plus_arith _ _ _ _ _ _ _ _ _ h2 hg4
      · rw [decide_eq_false hgo] at hx
        rw [if_neg (by rw [hx]; simp)]
        have hv2 : val acc = a + b := by
          have ha : a < 2 ^ i := blen_le.1 (by omega)
          have hb2 : b < 2 ^ i := blen_le.1 (by omega)
          rw [Nat.mod_eq_of_lt ha, Nat.mod_eq_of_lt hb2] at hv
          have hc0 : c = 0 := by omega
          rw [hc0, Nat.zero_mul] at hv; omega
        rw [trim_dig k acc hd (by omega) (by omega), bs, hv2]
    simp only [quadratref01_Plus.l0, length_nat]
    by_cases h1 : i < blen a
    · rw [if_pos (by omega)]; exact hgo true (by simp [h1])
    · rw [if_neg (by omega)]
      by_cases h2 : i < blen b
      · rw [if_pos (by omega)]; exact hgo true (by simp [h2])
      · rw [if_neg (by omega)]; exact hgo _ (by simp [h1, h2])
theorem plus_nat (a b k : Nat) (h : blen a + blen b + 20 < 140737488355328) (hk : 4 * (blen a + blen b) + 20 ≤ k) : quadratref01_Plus.f k (nat a) (nat b) = some (nat (a + b)) := by
  unfold quadratref01_Plus.f
  exact plus_l0 a b (blen a + blen b + 2) 0 0 k [] (fun _ h => by cases h) rfl (by omega) (by simp [Nat.mod_one, val]) (by omega) (by omega) (by omega) (by omega)
theorem minus_arith (P x y o u v A B V : Nat) (h : x + 2 * u = v + y + o) (hv : A + o * P = V + B) : (A + P * x) + u * (P * 2) = V + P * v + (B + P * y) := by
  have h1 : P * (x + 2 * u) = P * (v + y + o) := by rw [h]
  simp only [Nat.mul_add] at h1
  have h2 : o * P = P * o := Nat.mul_comm _ _
  have h3 : u * (P * 2) = P * (2 * u) := by rw [Nat.mul_comm u, Nat.mul_assoc]
  rw [h3]; rw [h2] at hv
  omega
theorem minus_l0 (a b : Nat) (hab : b ≤ a) : ∀ (j i o k : Nat) (acc : List Int), Dig acc → acc.length = i → o ≤ 1 → a % 2 ^ i + o * 2 ^ i = val acc + b % 2 ^ i → i + j = blen a → blen a < 140737488355328 → blen a + j + 2 < k →
    quadratref01_Minus.l0 k (nat a) (nat b) acc (o : Int) (i : Int) = some (nat (a - b)) := by
  intro j
  induction j with
  | zero =>
    intro i o k acc hd hl ho hv hij hb hk
    obtain ⟨k, rfl⟩ : ∃ m, k = m + 1 := ⟨k - 1, by omega⟩
    simp only [quadratref01_Minus.l0, length_nat]
    rw [if_neg (by omega), trim_dig k acc hd (by omega) (by omega), bs]
    have ha : a < 2 ^ i := blen_le.1 (by omega)
    have hb2 : b < 2 ^ i := by omega
    rw [Nat.mod_eq_of_lt ha, Nat.mod_eq_of_lt hb2] at hv
    have hlt := val_lt hd
    rw [hl] at hlt
    have ho0 : o = 0 := by
      apply Classical.byContradiction
      intro h
      have h1 : o = 1 := by omega
      rw [h1] at hv; omega
    rw [ho0, Nat.zero_mul] at hv
    have : val acc = a - b := by omega
    rw [this]
  | succ j ih =>
    intro i o k acc hd hl ho hv hij hb hk
    obtain ⟨k, rfl⟩ : ∃ m, k = m + 1 := ⟨k - 1, by omega⟩
    simp only [quadratref01_Minus.l0, length_nat]
    rw [if_pos (by omega), digit_nat, bs, digit_nat, bs, if_pos (by omega)]
    have da : a / 2 ^ i % 2 < 2 := Nat.mod_lt _ (by omega)
    have db : b / 2 ^ i % 2 < 2 := Nat.mod_lt _ (by omega)
    obtain ⟨x, hx⟩ : ∃ x, a / 2 ^ i % 2 = x := ⟨_, rfl⟩
    obtain ⟨y, hy⟩ : ∃ y, b / 2 ^ i % 2 = y := ⟨_, rfl⟩
    rw [hx] at da ⊢
    rw [hy] at db ⊢
    have hma : a % 2 ^ (i + 1) = a % 2 ^ i + 2 ^ i * x := by rw [bit_mod, hx]
    have hmb : b % 2 ^ (i + 1) = b % 2 ^ i + 2 ^ i * y := by rw [bit_mod, hy]
    have hgl : Hid (Dig acc ∧ (a % 2 ^ (i + 1) = a % 2 ^ i + 2 ^ i * x) ∧ (b % 2 ^ (i + 1) = b % 2 ^ i + 2 ^ i * y) ∧ a % 2 ^ i + o * 2 ^ i = val acc + b % 2 ^ i) := ⟨hd, hma, hmb, hv⟩
    clear hma hmb hv hx hy hd
    have q3 : i + 1 + j = blen a := by omega
    have q4 : blen a + j + 2 < k := by omega
    have e2 : (1 - (2 + (x : Int) - (y : Int) - (o : Int)) % 256 / 2) % 256 = ((1 - (2 + x - y - o) / 2 : Nat) : Int) := by omega
    have e3 : (2 + (x : Int) - (y : Int) - (o : Int)) % 2 = (((2 + x - y - o) % 2 : Nat) : Int) := by omega
    have e4 : wrap64 ((i : Int) + 1) = ((i + 1 : Nat) : Int) := by rw [w64_id (by omega) (by omega)]; omega
    have e5 : x + 2 * (1 - (2 + x - y - o) / 2) = (2 + x - y - o) % 2 + y + o := by omega
    have e6 : (((2 + x - y - o) % 2 : Nat) : Int) = 0 ∨ (((2 + x - y - o) % 2 : Nat) : Int) = 1 := by omega
    rw [e2, e3, e4]
    have e7 : 1 - (2 + x - y - o) / 2 ≤ 1 := by omega
    refine ih (i + 1) _ k _ (dig_append (show Dig acc from hgl.1) (dig_one e6)) (by simp [hl]) e7 ?_ q3 hb q4
    obtain ⟨_, hg2, hg3, hg4⟩ := (show _ ∧ _ ∧ _ ∧ _ from hgl)
    rw [val_snoc, hg2, hg3, hl, Int.toNat_natCast, Nat.pow_succ]
    exact minus_arith _ _ _ _ _ _ _ _ _ e5 hg4
theorem minus_nat (a b k : Nat) (hab : b ≤ a) (h : blen a < 140737488355328) (hk : 2 * blen a + 8 ≤ k) : quadratref01_Minus.f k (nat a) (nat b) = some (nat (a - b)) := by
  unfold quadratref01_Minus.f
  exact minus_l0 a b hab (blen a) 0 0 k [] (fun _ h => by cases h) rfl (by omega) (by simp [Nat.mod_one, val]) (by omega) h (by omega)
/-- How two numbers compare. -/
def cmpn (a b : Nat) : Int := if a < b then -1 else if a = b then 0 else 1
theorem cmp_l0 (a b : Nat) : ∀ (i k : Nat), a / 2 ^ i = b / 2 ^ i → i < k → i < 140737488355328 → quadratref01_Cmp.l0 k (nat a) (nat b) ((i : Int) - 1) = some (cmpn a b) := by
  intro i
  induction i with
  | zero =>
    intro k h hk _
    obtain ⟨k, rfl⟩ : ∃ m, k = m + 1 := ⟨k - 1, by omega⟩
    simp only [quadratref01_Cmp.l0]
    rw [if_neg (by omega)]
    simp at h; subst h; simp [cmpn]
  | succ i ih =>
    intro k h hk hb
    obtain ⟨k, rfl⟩ : ∃ m, k = m + 1 := ⟨k - 1, by omega⟩
    simp only [quadratref01_Cmp.l0]
    have e1 : ((i + 1 : Nat) : Int) - 1 = (i : Int) := by omega
    rw [e1, if_pos (by omega), digit_nat, bs, digit_nat, bs]
    have ha : a / 2 ^ i = 2 * (a / 2 ^ (i + 1)) + a / 2 ^ i % 2 := by rw [Nat.pow_succ, ← Nat.div_div_eq_div_mul]; omega
    have hb' : b / 2 ^ i = 2 * (b / 2 ^ (i + 1)) + b / 2 ^ i % 2 := by rw [Nat.pow_succ, ← Nat.div_div_eq_div_mul]; omega
    have da : a / 2 ^ i % 2 < 2 := Nat.mod_lt _ (by omega)
    have db : b / 2 ^ i % 2 < 2 := Nat.mod_lt _ (by omega)
    by_cases he : a / 2 ^ i % 2 = b / 2 ^ i % 2
    · rw [if_pos (by rw [he])]
      rw [w64_id (by omega) (by omega)]
      exact ih k (by omega) (by omega) (by omega)
    · rw [if_neg (by omega)]
      simp only [bs]
      rw [w64n _ (by omega), w64n _ (by omega), w64_id (by omega) (by omega)]
      congr 1
      unfold cmpn
      have hlt : a / 2 ^ i < b / 2 ^ i → a < b := fun hh => by
        apply Classical.byContradiction; intro hc
        have := Nat.div_le_div_right (c := 2 ^ i) (show b ≤ a by omega)
        omega
      have hgt : b / 2 ^ i < a / 2 ^ i → b < a := fun hh => by
        apply Classical.byContradiction; intro hc
        have := Nat.div_le_div_right (c := 2 ^ i) (show a ≤ b by omega)
        omega
      rcases Nat.lt_or_ge (a / 2 ^ i) (b / 2 ^ i) with h1 | h1
      · rw [if_pos (hlt h1)]; omega
      · have := hgt (by omega)
        rw [if_neg (by omega), if_neg (by omega)]; omega
theorem cmp_nat (a b k : Nat) (h : blen a < 140737488355328) (h' : blen b < 140737488355328) (hk : max (blen a) (blen b) + 2 ≤ k) : quadratref01_Cmp.f k (nat a) (nat b) = some (cmpn a b) := by
  unfold quadratref01_Cmp.f
  rw [length_nat, length_nat]
  have e : mx (blen a : Int) (blen b : Int) = ((max (blen a) (blen b) : Nat) : Int) := by unfold mx; split <;> omega
  rw [e, w64_id (by omega) (by omega)]
  refine cmp_l0 a b _ k ?_ (by omega) (by omega)
  have h1 : a < 2 ^ max (blen a) (blen b) := blen_le.1 (Nat.le_max_left _ _)
  have h2 : b < 2 ^ max (blen a) (blen b) := blen_le.1 (Nat.le_max_right _ _)
  rw [Nat.div_eq_of_lt h1, Nat.div_eq_of_lt h2]
theorem int_l0 (n : Nat) (hn : n < 18446744073709551616) : ∀ (j i k : Nat), i + j = blen n → j < k → quadratref01_Int.l0 k (nat n) ((n % 2 ^ i : Nat) : Int) (i : Int) = some (wrap64 (n : Int)) := by
  intro j
  have h64 := blen_word hn
  induction j with
  | zero =>
    intro i k hij hk
    obtain ⟨k, rfl⟩ : ∃ m, k = m + 1 := ⟨k - 1, by omega⟩
    simp only [quadratref01_Int.l0, length_nat]
    rw [if_neg (by omega), Nat.mod_eq_of_lt (blen_le.1 (by omega))]
  | succ j ih =>
    intro i k hij hk
    obtain ⟨k, rfl⟩ : ∃ m, k = m + 1 := ⟨k - 1, by omega⟩
    simp only [quadratref01_Int.l0, length_nat]
    rw [if_pos (by omega), if_pos (by omega), if_pos (by omega)]
    have e4 : wrap64 ((i : Int) + 1) = ((i + 1 : Nat) : Int) := by rw [w64_id (by omega) (by omega)]; omega
    have hr : rd (nat n) (i : Int) = ((n / 2 ^ i % 2 : Nat) : Int) := by unfold rd; rw [Int.toNat_natCast, getD_nat]
    have hd : n / 2 ^ i % 2 < 2 := Nat.mod_lt _ (by omega)
    have hm := bit_mod n i
    have hp : (2 : Nat) ^ i < 18446744073709551616 := by
      have : (2 : Nat) ^ i < 2 ^ 64 := Nat.pow_lt_pow_right (by omega) (by omega)
      simpa using this
    have hlt := Nat.mod_lt n (Nat.two_pow_pos i)
    have hmn : n % 2 ^ (i + 1) ≤ n := Nat.mod_le _ _
    rw [hr, e4]
    have hs : shl .u64 (IntKind.u64.wrap ((n / 2 ^ i % 2 : Nat) : Int)) (i : Int) = ((2 ^ i * (n / 2 ^ i % 2) : Nat) : Int) := by
      unfold shl
      rw [wrap_u64, wrap_u64, Int.toNat_natCast]
      have : min i IntKind.u64.bits = i := by simp only [IntKind.bits]; omega
      rw [this, Int.emod_eq_of_lt (a := ((n / 2 ^ i % 2 : Nat) : Int)) (by omega) (by omega)]
      have hc : (((n / 2 ^ i % 2 : Nat) : Int) * 2 ^ i) = ((2 ^ i * (n / 2 ^ i % 2) : Nat) : Int) := by push_cast; rw [Int.mul_comm]
      rw [hc]; omega
    rw [hs, or_split _ _ i ?_ (by omega) (by omega) (by omega) ?_ (by omega)]
    · have e5 : ((2 ^ i * (n / 2 ^ i % 2) : Nat) : Int) + ((n % 2 ^ i : Nat) : Int) = ((n % 2 ^ (i + 1) : Nat) : Int) := by omega
      rw [e5]
      exact ih (i + 1) k (by omega) (by omega)
    · push_cast; exact Int.mul_emod_right _ _
    · have : ((2 : Int) ^ i) = ((2 ^ i : Nat) : Int) := by push_cast; rfl
      rw [this]; omega
theorem int_nat (n k : Nat) (hn : n < 18446744073709551616) (hk : 70 ≤ k) : quadratref01_Int.f k (nat n) = some (wrap64 (n : Int)) := by
  have h64 := blen_word hn
  unfold quadratref01_Int.f
  have := int_l0 n hn (blen n) 0 k (by omega) (by omega)
  simpa [Nat.mod_one] using this
theorem one_nat (k : Nat) (hk : 70 ≤ k) : quadratref01_Of.f k 1 = some (nat 1) := Of_pos' k hk 1 (by omega) (by omega)
end Go.Proofs.YtgpnmifejgdipaaDoor.Pf
