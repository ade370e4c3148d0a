/-
  FloatBack: a float is made again of its parts, and is the same behind a greater kind. By the session's own hand.
-/
import Derived.Test.YtgpnmifejgdipaaDoorSPbl
import Derived.Test.YtgpnmifejgdipaaDoorSPaw
import Derived.Lib.TrailingZeros
import Derived.Test.YtgpnmifejgdipaaDoorDf
set_option linter.unusedVariables false
set_option linter.unusedSimpArgs false
namespace Go.Proofs.YtgpnmifejgdipaaDoor.Pf
open Go.RowKit Go.Proofs.YtgpnmifejgdipaaDoor.My Go.Proofs.YtgpnmifejgdipaaDoor.RM Go.Proofs.YtgpnmifejgdipaaDoorW.PrintWords Go.Proofs.YtgpnmifejgdipaaDoorW.PrintLast Go.Proofs.YtgpnmifejgdipaaDoorW.PrintMore
theorem tz_val (m : Nat) (h0 : m ≠ 0) (h1 : m < 9007199254740992) : ∃ N n : Nat, m = N * 2 ^ n ∧ n < 64 ∧ bits_TrailingZeros64.f (m : Int) = some (n : Int) ∧ wrap64 (shr .u64 (m : Int) (n : Int)) = (N : Int) := by
  obtain ⟨q, hq, hn⟩ := Lib.ctzFrom_spec 64 m (by omega) (by omega)
  have e : Lib.ctz 64 m = Lib.ctzFrom 64 m := by simp [Lib.ctz, h0]
  have hm : m = (2 * q + 1) * 2 ^ Lib.ctzFrom 64 m := by rw [Nat.mul_comm]; exact hq
  generalize Lib.ctzFrom 64 m = n at *
  refine ⟨2 * q + 1, n, hm, hn, ?_, ?_⟩
  · unfold bits_TrailingZeros64.f
    rw [if_pos (by omega), Int.toNat_natCast, e]
  · have hd : m / 2 ^ n = 2 * q + 1 := by
      rw [hm]; exact Nat.mul_div_cancel _ (Nat.two_pow_pos n)
    have hs : shr .u64 (m : Int) (n : Int) = ((m / 2 ^ n : Nat) : Int) := by
      unfold shr
      rw [Int.toNat_natCast, show min n IntKind.u64.bits = n from Nat.min_eq_left (by show n ≤ 64; omega)]
      push_cast; rfl
    have hle : m / 2 ^ n ≤ m := Nat.div_le_self ..
    rw [hs, hd, w64_id (by omega) (by omega)]
section
variable {V : Int → Prop} {kind w bias T P W l o : Int} {p : Nat} (H : BK V kind p w bias T P W l o)
include H
theorem parts_open (k : Nat) (a : Int) (ha : V a) {y : Int × Int × Int × Int × Bool} (hy : rdv P W l o (wd a) = y) (h5 : y.2.2.2.2 = true) : float_Parts.f (k + 3) kind a = if y.1 = 2 then float_Parts.j0 (k + 3) true y.1 y.2.1 y.2.2.1 y.2.2.2.1 else float_Parts.j0 (k + 3) (y.1 == 3) y.1 y.2.1 y.2.2.1 y.2.2.2.1 := by
  unfold float_Parts.f
  rw [H.two k 0 a a (by decide) (by decide) ha ha, bs, hy]
  rw [if_pos (show (twv (p : Int) w y y).2.2.2.2.2.2.2.2.2.2 = true by simp only [twv, h5]; rfl)]
  rfl
/-- What Parts answers, and that Make answers the float again. -/
theorem parts_made (k : Nat) (hk : 40000 ≤ k) (mode a : Int) (m0 : 0 ≤ mode) (m1 : mode < 4) (ha : V a) : ∃ s N e r, float_Parts.f (k + 3) kind a = some (s, N, e, r) ∧ r ≠ 2 ∧ (r = 0 → float_Make.f (k + 1) kind mode s N e = some (a, 0, 0)) := by
  have hp1 := H.pkk.p1
  have hv := H.view a
  generalize hx : rdv P W l o (wd a) = x at hv
  generalize tkv P W l o (wd a) = x' at hv
  cases hv with
  | none s hs =>
    refine ⟨0, 0, 0, 10, ?_, by decide, fun h => by simp at h⟩
    rw [parts_open H k a ha hx rfl]
    rfl
  | inf s hs =>
    refine ⟨0, 0, 0, 10, ?_, by decide, fun h => by simp at h⟩
    rw [parts_open H k a ha hx rfl]
    rfl
  | zero s hs =>
    refine ⟨s, 0, 0, 0, ?_, by decide, fun _ => ?_⟩
    · rw [parts_open H k a ha hx rfl]
      rfl
    · rw [make_zero H k mode s 0 m0 m1 hs (by decide) (by decide), H.zer a s _ _ ha hx]
  | fin s hs m e hm0 hm1 he0 he1 hl =>
    have hm53 : m < 9007199254740992 := Nat.lt_of_lt_of_le hm1 (Nat.le_trans (Nat.pow_le_pow_right (by omega) hp1) (by decide))
    obtain ⟨N, n, hm, hn, h1, h2⟩ := tz_val m hm0 hm53
    have hp0 := H.pkk.p0; have hb0 := H.pkk.b0; have hb1 := H.pkk.b1
    refine ⟨s, N, e + n, 0, ?_, by decide, fun _ => made H k hk mode a s e m N n m0 m1 ha hx hm⟩
    rw [parts_open H k a ha hx rfl]
    dsimp only
    rw [if_neg (by decide)]
    rw [show k + 3 = (k + 2) + 1 from rfl]
    simp only [float_Parts.j0]
    rw [if_neg (by decide), if_neg (by decide), h1, bs, if_pos (by omega), h2, w64_id (by omega) (by omega)]
theorem class_none (k : Nat) (a : Int) (ha : V a) (h : (rdv P W l o (wd a)).1 = 3) : ∃ s : ByteArray, float_Class.f (k + 3) kind a = some s ∧ s.toList = ([110, 111, 110, 101] : List UInt8) := by
  refine ⟨⟨#[110, 111, 110, 101]⟩, ?_, by decide +kernel⟩
  unfold float_Class.f
  rw [H.two k 0 a a (by decide) (by decide) ha ha, bs]
  rw [if_pos (show (twv (p : Int) w (rdv P W l o (wd a)) (rdv P W l o (wd a))).2.2.2.2.2.2.2.2.2.2 = true by simp only [twv, rdv_ok]; rfl)]
  simp only [twv, h]
  rfl
end
section
variable {V V' : Int → Prop} {kind tk w w' bias bias' T T' P P' W W' l l' o o' : Int} {p p' : Nat} (H : BK V kind p w bias T P W l o) (H' : BK V' tk p' w' bias' T' P' W' l' o')
include H H'
theorem back_step (hpp : p ≤ p') (hbb : bias ≤ bias') (ht : tk ≤ 8) (k : Nat) (hk : 40000 ≤ k) (mode a : Int) (m0 : 0 ≤ mode) (m1 : mode < 4) (ha : V a) (next : Int) (hn : wrap64 (tk * 2) = next) (hnx : quadratlaw01_FloatBack.l0 (k + 3) kind mode a next = some true) : quadratlaw01_FloatBack.l0 (k + 4) kind mode a tk = some true := by
  obtain ⟨b, c, h1, h2, h3⟩ := there H H' hpp hbb k hk mode a m0 m1 ha
  have hcl := class_none H k a ha
  show quadratlaw01_FloatBack.l0 ((k + 3) + 1) kind mode a tk = some true
  generalize k + 3 = j at *
  simp only [quadratlaw01_FloatBack.l0]
  rw [if_pos ht, h1, bs, h2, bs, if_pos rfl, if_pos rfl, if_pos rfl, if_pos rfl, hn]
  by_cases hc : c = a
  · rw [if_pos hc]; exact hnx
  · rw [if_neg hc]
    obtain ⟨s, g1, g2⟩ := hcl (by rcases h3 with h | h; exact h; exact absurd h hc)
    rw [g1, bs, if_pos g2]; exact hnx
end
theorem back_end (k : Nat) (kind mode a t : Int) (ht : ¬ t ≤ 8) : quadratlaw01_FloatBack.l0 (k + 101) kind mode a t = some true := by
  show quadratlaw01_FloatBack.l0 ((k + 100) + 1) kind mode a t = some true
  have ha := awake k
  generalize k + 100 = j at *
  simp only [quadratlaw01_FloatBack.l0]
  rw [if_neg ht, ha, bs]
theorem back_awake (k : Nat) (kind mode a x7 x8 x9 x10 : Int) : quadratlaw01_FloatBack.j0 (k + 101) kind mode a x7 x8 x9 x10 true = some true := by
  show quadratlaw01_FloatBack.j0 ((k + 100) + 1) kind mode a x7 x8 x9 x10 true = some true
  simp only [quadratlaw01_FloatBack.j0]
  rw [if_pos trivial, awake k, bs]
section
variable {V : Int → Prop} {kind w bias T P W l o : Int} {p : Nat} (H : BK V kind p w bias T P W l o)
include H
theorem back_seen (k : Nat) (hk : 41000 ≤ k) (hval : ∀ (k : Nat) (a : Int), V a → float_Valid.f (k + 3) kind a = some true) (mode a : Int) (ha : V a) (hl : 0 ≤ mode → mode < 4 → quadratlaw01_FloatBack.l0 (k + 1) kind mode a (wrap64 (2 * kind)) = some true) : quadratlaw01_FloatBack.f (k + 3) kind mode a = some true := by
  unfold quadratlaw01_FloatBack.f
  by_cases hm : mode < 0 ∨ 4 ≤ mode
  · obtain ⟨s, N, e, r, h1, _, _⟩ := parts_made H k (by omega) 0 a (by decide) (by decide) ha
    rw [h1, bs]
    obtain ⟨j, rfl⟩ : ∃ j, k = j + 98 := ⟨k - 98, by omega⟩
    by_cases hm0 : mode < 0
    · rw [if_pos hm0]; exact back_awake j ..
    · rw [if_neg hm0, if_pos (by omega)]; exact back_awake j ..
  · obtain ⟨s, N, e, r, h1, h2, h3⟩ := parts_made H k (by omega) mode a (by omega) (by omega) ha
    rw [h1, bs, if_neg (by omega), if_neg (by omega), if_neg h2, hval k a ha, bs]
    show quadratlaw01_FloatBack.j0 ((k + 2) + 1) kind mode a s N e r (!true) = some true
    simp only [quadratlaw01_FloatBack.j0, Bool.not_true, Bool.false_eq_true, if_false]
    have hj : quadratlaw01_FloatBack.j1 (k + 2) kind mode a = some true := by
      show quadratlaw01_FloatBack.j1 ((k + 1) + 1) kind mode a = some true
      simp only [quadratlaw01_FloatBack.j1]
      exact hl (by omega) (by omega)
    by_cases hr : r = 0
    · have h4 := float_Make.mono kind mode s N e (k + 1) _ (h3 hr)
      rw [if_pos hr, h4, bs, if_pos rfl, if_pos rfl, if_pos rfl]; exact hj
    · rw [if_neg hr]; exact hj
end
theorem back_bad (k : Nat) (kind mode a : Int) (h : ∃ p w x1 x2 x3 x4 y1 y2 y3 y4, float_two.f (k + 101) kind 0 a a = some (p, w, x1, x2, x3, x4, y1, y2, y3, y4, false)) : quadratlaw01_FloatBack.f (k + 101) kind mode a = some true := by
  obtain ⟨p, w, x1, x2, x3, x4, y1, y2, y3, y4, h⟩ := h
  have hp : float_Parts.f (k + 101) kind a = some (0, 0, 0, 2) := by
    unfold float_Parts.f
    rw [h, bs, if_neg (by simp)]
  unfold quadratlaw01_FloatBack.f
  rw [hp, bs]
  by_cases hm0 : mode < 0
  · rw [if_pos hm0]; exact back_awake k ..
  · rw [if_neg hm0]
    by_cases hm1 : mode > 3
    · rw [if_pos hm1]; exact back_awake k ..
    · rw [if_neg hm1, if_pos rfl]; exact back_awake k ..
theorem FloatBack (kind mode a : Int) (a0 : -9223372036854775808 ≤ a) (a1 : a < 9223372036854775808) : ∃ k, quadratlaw01_FloatBack.f k kind mode a = some true := by
  refine ⟨200003, ?_⟩
  by_cases h2 : kind = 2
  · subst h2
    by_cases ha : 0 ≤ a ∧ a < 65536
    · refine back_seen bk_2 200000 (by decide) (fun k a ha => ?_) mode a ha fun m0 m1 => ?_
      · unfold float_Valid.f
        have hr := read_11 k a ha.1 ha.2
        rw [bk_2.of, bs, if_pos rfl]
        show (float_shape_read.f (k + 3) (11 : Int) 5 a).bind _ = _
        rw [hr, bs, rdv_ok]
      · rw [show wrap64 (2 * 2) = 4 by decide +kernel]
        refine back_step bk_2 bk_4 (by decide) (by decide) (by decide) 199997 (by decide) mode a m0 m1 ha 8 (by decide +kernel) ?_
        refine back_step bk_2 bk_8 (by decide) (by decide) (by decide) 199996 (by decide) mode a m0 m1 ha 16 (by decide +kernel) ?_
        exact back_end 199898 _ _ _ _ (by decide)
    · obtain ⟨y1, y2, y3, y4, z1, z2, z3, z4, ht⟩ := two_bad_2 199999 0 a a (by decide) (by decide) a0 a1 a0 a1 (.inl ha)
      exact back_bad 199902 2 mode a ⟨_, _, y1, y2, y3, y4, z1, z2, z3, z4, by first | exact ht | (have := float_two.mono 2 0 a a _ _ ht; exact this)⟩
  by_cases h4 : kind = 4
  · subst h4
    by_cases ha : 0 ≤ a ∧ a < 4294967296
    · refine back_seen bk_4 200000 (by decide) (fun k a ha => ?_) mode a ha fun m0 m1 => ?_
      · unfold float_Valid.f
        have hr := read_24 k a ha.1 ha.2
        rw [bk_4.of, bs, if_pos rfl]
        show (float_shape_read.f (k + 3) (24 : Int) 8 a).bind _ = _
        rw [hr, bs, rdv_ok]
      · rw [show wrap64 (2 * 4) = 8 by decide +kernel]
        refine back_step bk_4 bk_8 (by decide) (by decide) (by decide) 199997 (by decide) mode a m0 m1 ha 16 (by decide +kernel) ?_
        exact back_end 199899 _ _ _ _ (by decide)
    · obtain ⟨y1, y2, y3, y4, z1, z2, z3, z4, ht⟩ := two_bad_4 200000 0 a a (by decide) (by decide) a0 a1 a0 a1 (.inl ha)
      exact back_bad 199902 4 mode a ⟨_, _, y1, y2, y3, y4, z1, z2, z3, z4, ht⟩
  by_cases h8 : kind = 8
  · subst h8
    refine back_seen bk_8 200000 (by decide) (fun k a ha => ?_) mode a ⟨a0, a1⟩ fun m0 m1 => ?_
    · unfold float_Valid.f
      have hr := read_53 k a
      rw [bk_8.of, bs, if_pos rfl]
      show (float_shape_read.f (k + 3) (53 : Int) 11 a).bind _ = _
      rw [hr, bs, rdv_ok]
    · exact back_end 199900 _ _ _ _ (by decide +kernel)
  · exact back_bad 199902 kind mode a ⟨_, _, _, _, _, _, _, _, _, _, two_none 200003 kind 0 a a h2 h4 h8⟩
end Go.Proofs.YtgpnmifejgdipaaDoor.Pf
