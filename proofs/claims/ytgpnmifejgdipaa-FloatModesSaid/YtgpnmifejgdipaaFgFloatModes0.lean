/-
  FloatModes: the functions that it reaches, by VX: contracts. By the session's own hand.
-/
import Derived.Test.YtgpnmifejgdipaaFh
namespace Go.Proofs.Ytgpnmifejgdipaa.Fx
open Go.Proofs.YtgpnmifejgdipaaVX Go.RowKit Go.Proofs.Ytgpnmifejgdipaa.My Go.Proofs.YtgpnmifejgdipaaW Go.Proofs.YtgpnmifejgdipaaW.PrintMore
set_option linter.unusedVariables false
set_option linter.unusedSimpArgs false
set_option maxRecDepth 100000
def R53 : Ct := fun ss r new => ∃ a0 r0_0 r0_1 r1, ss = [S.v (.c (.d (.int .i64 a0)))] ∧ float_of.f a0 = some (r0_0, r0_1, r1) ∧ r = S.tup [.ag [.d (.int .i64 r0_0), .d (.int .i64 r0_1)], .c (.d (.bool r1))] ∧ new = []
def F53 : List (Nat × Ct) := []
def P53 : List (Nat × List (List Nat) × Plan) := []
def G53 : Cx := cx ty F53 P53 false []
def R64 : Ct := fun ss r new => ∃ a0_0 a0_1 r0, ss = [S.v (.ag [.d (.int .i64 a0_0), .d (.int .i64 a0_1)])] ∧ float_shape_top.f a0_0 a0_1 = some (r0) ∧ r = S.v (.c (.d (.int .u64 r0))) ∧ new = []
def F64 : List (Nat × Ct) := []
def P64 : List (Nat × List (List Nat) × Plan) := []
def G64 : Cx := cx ty F64 P64 false []
def R90 : Ct := fun ss r new => ∃ a0_0 a0_1 r0, ss = [S.v (.ag [.d (.int .i64 a0_0), .d (.int .i64 a0_1)])] ∧ float_shape_bias.f a0_0 a0_1 = some (r0) ∧ r = S.v (.c (.d (.int .i64 r0))) ∧ new = []
def F90 : List (Nat × Ct) := []
def P90 : List (Nat × List (List Nat) × Plan) := []
def G90 : Cx := cx ty F90 P90 false []
def R89 : Ct := fun ss r new => ∃ a0_0 a0_1 r0, ss = [S.v (.ag [.d (.int .i64 a0_0), .d (.int .i64 a0_1)])] ∧ float_shape_least.f a0_0 a0_1 = some (r0) ∧ r = S.v (.c (.d (.int .i64 r0))) ∧ new = []
def F89 : List (Nat × Ct) := [(90, R90)]
def P89 : List (Nat × List (List Nat) × Plan) := [(1, [[], [0], [0, 1], [], [3], [0, 1, 2, 3, 4], [0, 1, 2, 3, 4, 5]], .look 0 (.look 3 (.look 4 (.act 1 [3, 4] (.look 2 (.look 5 (.look 6 .done))) .stop))))]
def G89 : Cx := cx ty F89 P89 false []
def R63 : Ct := fun ss r new => ∃ k a0_0 a0_1 a1 r0_0 r0_1 r0_2 r0_3 r1, ss = [S.v (.ag [.d (.int .i64 a0_0), .d (.int .i64 a0_1)]), S.v (.c (.d (.int .i64 a1)))] ∧ float_shape_read.f k a0_0 a0_1 a1 = some (r0_0, r0_1, r0_2, r0_3, r1) ∧ r = S.tup [.ag [.d (.int .i64 r0_0), .d (.int .i64 r0_1), .d (.int .u64 r0_2), .d (.int .i64 r0_3)], .c (.d (.bool r1))] ∧ new = []
def F63 : List (Nat × Ct) := [(64, R64), (89, R89), (90, R90)]
def P63 : List (Nat × List (List Nat) × Plan) := [(6, [[], [], [1], [1, 2], [0, 1, 2, 3], [], [5], [0, 1, 2, 3, 4, 5, 6], [], [], [9], [9, 10], [9, 10, 11], [9, 10, 11, 12], [8, 9, 10, 11, 12, 13], [0, 1, 2, 3, 4, 5, 6, 7], [0, 1, 2, 3, 4, 5, 6, 7, 8, 9, 10, 11, 12, 13, 14, 15]], .look 0 (.look 1 (.look 2 (.look 3 (.look 4 (.look 5 (.look 8 (.look 9 (.look 10 (.look 11 (.look 12 (.look 13 (.look 14 (.act 6 [0, 1, 2, 3, 4, 8, 9, 10, 11, 12, 13, 14] (.look 7 (.look 15 (.look 16 .done))) .stop)))))))))))))), (7, [[], [], [1], [1, 2], [1, 2, 3], [0, 1, 2, 3, 4], [], [6], [], [8], [6, 7, 8, 9], [], [11], [6, 7, 8, 9, 10, 11, 12], [6, 7, 8, 9, 10, 11, 12, 13], [], [8, 9, 15], [0, 1, 2, 3, 4, 5, 8, 9, 15, 16], [0, 1, 2, 3, 4, 5, 8, 9, 15, 16, 17], [0, 1, 2, 3, 4, 5, 6, 7, 8, 9, 10, 11, 12, 13, 14, 15, 16, 17, 18], [0, 1, 2, 3, 4, 5, 6, 7, 8, 9, 10, 11, 12, 13, 14, 15, 16, 17, 18, 19]], .look 0 (.look 1 (.look 2 (.look 3 (.look 4 (.look 5 (.look 6 (.look 7 (.look 8 (.look 11 (.look 12 (.look 15 (.act 9 [0, 1, 2, 3, 4, 5, 6, 7, 11, 12, 15] (.look 10 (.look 13 (.look 14 (.act 16 [0, 1, 2, 3, 4, 5, 6, 7, 10, 11, 12, 13, 14] (.look 17 (.act 18 [6, 7, 10, 11, 12, 13, 14] (.look 19 (.act 20 [] .done .stop)) .stop)) .stop)))) .stop)))))))))))))]
def G63 : Cx := cx ty F63 P63 false []
def R40 : Ct := fun ss r new => ∃ k a0 a1 a2 a3 r0_0 r0_1 r1_0 r1_1 r1_2 r1_3 r2_0 r2_1 r2_2 r2_3 r3, ss = [S.v (.c (.d (.int .i64 a0))), S.v (.c (.d (.int .i64 a1))), S.v (.c (.d (.int .i64 a2))), S.v (.c (.d (.int .i64 a3)))] ∧ float_two.f k a0 a1 a2 a3 = some (r0_0, r0_1, r1_0, r1_1, r1_2, r1_3, r2_0, r2_1, r2_2, r2_3, r3) ∧ r = S.tup [.ag [.d (.int .i64 r0_0), .d (.int .i64 r0_1)], .ag [.d (.int .i64 r1_0), .d (.int .i64 r1_1), .d (.int .u64 r1_2), .d (.int .i64 r1_3)], .ag [.d (.int .i64 r2_0), .d (.int .i64 r2_1), .d (.int .u64 r2_2), .d (.int .i64 r2_3)], .c (.d (.bool r3))] ∧ new = []
def F40 : List (Nat × Ct) := [(53, R53), (63, R63)]
def P40 : List (Nat × List (List Nat) × Plan) := [(3, [[], [], [], [0], [0, 1, 3], [0, 1, 2, 3, 4], [0, 1, 2, 3, 4, 5]], .look 0 (.look 1 (.look 2 (.act 3 [1, 2] (.act 4 [2] (.act 5 [] (.look 6 .done) .stop) .stop) .stop)))), (6, [[], [], [], [], [3], [3, 4], [3, 4, 5], [0, 3, 4], [0, 1, 3, 4, 7], [0, 1, 2, 3, 4, 7, 8], [0, 1, 2, 3, 4, 5, 6, 7, 8, 9]], .look 0 (.look 1 (.look 2 (.look 3 (.look 4 (.look 5 (.look 6 (.act 7 [1, 2, 5, 6] (.act 8 [2, 5, 6] (.act 9 [5, 6] (.look 10 .done) .stop) .stop) .stop))))))))]
def G40 : Cx := cx ty F40 P40 false []
def R87 : Ct := fun ss r new => ∃ a0_0 a0_1 a1 a2 a3 r0, ss = [S.v (.ag [.d (.int .i64 a0_0), .d (.int .i64 a0_1)]), S.v (.c (.d (.int .i64 a1))), S.v (.c (.d (.int .u64 a2))), S.v (.c (.d (.int .u64 a3)))] ∧ float_shape_pack.f a0_0 a0_1 a1 a2 a3 = some (r0) ∧ r = S.v (.c (.d (.int .i64 r0))) ∧ new = []
def F87 : List (Nat × Ct) := []
def P87 : List (Nat × List (List Nat) × Plan) := [(1, [[], [0], [], [2], [], [4], [2, 3, 4, 5], [2, 3, 4, 5, 6], [0, 1, 2, 3, 4, 5, 6, 7], [], [], [10], [10, 11], [9, 10, 11, 12], [0, 1, 2, 3, 4, 5, 6, 7, 8, 9, 10, 11, 12, 13], [], [0, 1, 2, 3, 4, 5, 6, 7, 8, 9, 10, 11, 12, 13, 14, 15], [0, 1, 2, 3, 4, 5, 6, 7, 8, 9, 10, 11, 12, 13, 14, 15, 16], [0, 1, 2, 3, 4, 5, 6, 7, 8, 9, 10, 11, 12, 13, 14, 15, 16, 17]], .look 0 (.look 1 (.look 2 (.look 3 (.look 4 (.look 5 (.look 6 (.look 7 (.look 8 (.look 9 (.look 10 (.look 11 (.look 12 (.look 13 (.look 14 (.look 15 (.look 16 (.look 17 (.look 18 .done)))))))))))))))))))]
def G87 : Cx := cx ty F87 P87 false []
def R54 : Ct := fun ss r new => ∃ a0_0 a0_1 a1 r0, ss = [S.v (.ag [.d (.int .i64 a0_0), .d (.int .i64 a0_1)]), S.v (.c (.d (.int .i64 a1)))] ∧ float_shape_zero.f a0_0 a0_1 a1 = some (r0) ∧ r = S.v (.c (.d (.int .i64 r0))) ∧ new = []
def F54 : List (Nat × Ct) := [(87, R87)]
def P54 : List (Nat × List (List Nat) × Plan) := []
def G54 : Cx := cx ty F54 P54 false []
def R60 : Ct := fun ss r new => ∃ a0_0 a0_1 a1 r0, ss = [S.v (.ag [.d (.int .i64 a0_0), .d (.int .i64 a0_1)]), S.v (.c (.d (.int .i64 a1)))] ∧ float_shape_infinite.f a0_0 a0_1 a1 = some (r0) ∧ r = S.v (.c (.d (.int .i64 r0))) ∧ new = []
def F60 : List (Nat × Ct) := [(64, R64), (87, R87)]
def P60 : List (Nat × List (List Nat) × Plan) := [(1, [[], [], [], [2], [0, 1, 2, 3], [0, 1, 2, 3, 4]], .look 0 (.look 1 (.look 2 (.act 3 [0, 1] (.act 4 [] (.look 5 .done) .stop) .stop))))]
def G60 : Cx := cx ty F60 P60 false []
def R66 : Ct := fun ss r new => ∃ k a0_0 a0_1 a0_2 a0_3 a1 r0 r1, ss = [S.v (.ag [.d (.int .u64 a0_0), .d (.int .u64 a0_1), .d (.int .i64 a0_2), .d (.bool a0_3)]), S.v (.c (.d (.int .i64 a1)))] ∧ float_exact_right.f k a0_0 a0_1 a0_2 a0_3 a1 = some (r0, r1) ∧ r = S.tup [.c (.d (.int .u64 r0)), .c (.d (.int .i64 r1))] ∧ new = []
def F66 : List (Nat × Ct) := []
def P66 : List (Nat × List (List Nat) × Plan) := [(1, [[], [0], [], [2], [0, 1], [0, 1, 2, 3, 4]], .look 0 (.look 1 (.look 2 (.look 3 (.look 4 (.look 5 .done)))))), (2, [[], [0], [], [0, 1, 2]], .look 0 (.look 1 (.look 2 (.look 3 .done))))]
def G66 : Cx := cx ty F66 P66 false []
def R67 : Ct := fun ss r new => ∃ a0 a1 a2 a3 r0, ss = [S.v (.c (.d (.int .i64 a0))), S.v (.c (.d (.int .i64 a1))), S.v (.c (.d (.bool a2))), S.v (.c (.d (.int .i64 a3)))] ∧ float_away.f a0 a1 a2 a3 = some (r0) ∧ r = S.v (.c (.d (.bool r0))) ∧ new = []
def F67 : List (Nat × Ct) := []
def P67 : List (Nat × List (List Nat) × Plan) := []
def G67 : Cx := cx ty F67 P67 false []
def R95 : Ct := fun ss r new => ∃ a0 r0, ss = [S.v (.c (.d (.int .u64 a0)))] ∧ bits_Len64.f a0 = some (r0) ∧ r = S.v (.c (.d (.int .i64 r0))) ∧ new = []
theorem ok95 : VSound Try.prog (95, R95) := by
  refine shelved (by kernel_rfl) ?_
  rintro _ _ _ ⟨a0, r0, rfl, h, rfl, rfl⟩
  unfold bits_Len64.f at h
  split at h
  · rename_i hr
    cases h
    refine ⟨rfl, _, fun _ _ _ => sdi _ _, fun X w args ha => ?_⟩
    obtain ⟨l⟩ := args
    cases ha with
    | cons h1 h2 =>
    cases h2
    rw [sdi_inv h1]
    exact Try.bits_Len64 a0 w hr.1 hr.2
  · cases h
def R88 : Ct := fun ss r new => ∃ a0_0 a0_1 a0_2 a0_3 r0, ss = [S.v (.ag [.d (.int .u64 a0_0), .d (.int .u64 a0_1), .d (.int .i64 a0_2), .d (.bool a0_3)])] ∧ float_exact_long.f a0_0 a0_1 a0_2 a0_3 = some (r0) ∧ r = S.v (.c (.d (.int .i64 r0))) ∧ new = []
def F88 : List (Nat × Ct) := [(95, R95)]
def P88 : List (Nat × List (List Nat) × Plan) := []
def G88 : Cx := cx ty F88 P88 false []
def R91 : Ct := fun ss r new => ∃ a0_0 a0_1 a1 r0, ss = [S.v (.ag [.d (.int .i64 a0_0), .d (.int .i64 a0_1)]), S.v (.c (.d (.int .i64 a1)))] ∧ float_shape_greatest.f a0_0 a0_1 a1 = some (r0) ∧ r = S.v (.c (.d (.int .i64 r0))) ∧ new = []
def F91 : List (Nat × Ct) := [(64, R64), (87, R87)]
def P91 : List (Nat × List (List Nat) × Plan) := [(1, [[], [], [], [2], [2, 3], [], [5], [5, 6], [5, 6, 7], [5, 6, 7, 8], [0, 1, 2, 3, 4, 5, 6, 7, 8, 9], [0, 1, 2, 3, 4, 5, 6, 7, 8, 9, 10]], .look 0 (.look 1 (.look 2 (.look 5 (.look 6 (.look 7 (.look 8 (.look 9 (.act 3 [0, 1, 5, 6, 7, 8, 9] (.look 4 (.act 10 [] (.look 11 .done) .stop)) .stop)))))))))]
def G91 : Cx := cx ty F91 P91 false []
def R55 : Ct := fun ss r new => ∃ k a0_0 a0_1 a1 a2 a3_0 a3_1 a3_2 a3_3 r0 r1, ss = [S.v (.ag [.d (.int .i64 a0_0), .d (.int .i64 a0_1)]), S.v (.c (.d (.int .i64 a1))), S.v (.c (.d (.int .i64 a2))), S.v (.ag [.d (.int .u64 a3_0), .d (.int .u64 a3_1), .d (.int .i64 a3_2), .d (.bool a3_3)])] ∧ float_shape_round.f k a0_0 a0_1 a1 a2 a3_0 a3_1 a3_2 a3_3 = some (r0, r1) ∧ r = S.tup [.c (.d (.int .i64 r0)), .c (.d (.int .i64 r1))] ∧ new = []
def F55 : List (Nat × Ct) := [(60, R60), (64, R64), (66, R66), (67, R67), (87, R87), (88, R88), (89, R89), (90, R90), (91, R91)]
def P55 : List (Nat × List (List Nat) × Plan) := [(1, [[], [0], [], [2], [0, 1, 2, 3], [0, 1, 2, 3, 4], [0, 1, 2, 3, 4, 5]], .look 0 (.look 1 (.look 2 (.act 3 [0, 1] (.look 4 (.look 5 (.look 6 .done))) .stop)))), (2, [[], [], [1], [0, 1, 2], [0, 1, 2, 3], [], [5], [0, 1, 2, 3, 4, 5, 6], [0, 1, 2, 3, 4, 5, 6, 7]], .look 0 (.look 1 (.look 2 (.look 3 (.look 4 (.look 5 (.act 6 [0, 1, 2, 3, 4] (.look 7 (.look 8 .done)) .stop))))))), (10, [[], [], [1], [], [3], [1, 2, 3, 4], [1, 2, 3, 4, 5], [0, 1, 2, 3, 4, 5, 6]], .look 0 (.look 1 (.look 3 (.look 4 (.act 2 [0, 3, 4] (.look 5 (.look 6 (.look 7 .done))) .stop))))), (19, [[], [], [1], [0, 1, 2], [0, 1, 2, 3], [], [5], [0, 1, 2, 3, 4, 5, 6], [0, 1, 2, 3, 4, 5, 6, 7]], .look 0 (.look 1 (.look 2 (.look 3 (.look 4 (.look 5 (.act 6 [0, 1, 2, 3, 4] (.look 7 (.look 8 .done)) .stop))))))), (21, [[], [], [], [2], [], [], [5], [5, 6], [5, 6, 7], [5, 6, 7, 8], [4, 5, 6, 7, 8, 9], [0, 1, 2, 3, 4, 5, 6, 7, 8, 9, 10], [], [0, 1, 2, 3, 4, 5, 6, 7, 8, 9, 10, 11], [0, 1, 2, 3, 4, 5, 6, 7, 8, 9, 10, 11, 12, 13]], .look 0 (.look 1 (.look 2 (.look 3 (.look 4 (.look 5 (.look 6 (.look 7 (.look 8 (.look 9 (.look 10 (.look 12 (.act 11 [12] (.look 13 (.look 14 .done)) .stop)))))))))))))]
def G55 : Cx := cx ty F55 P55 false [8, 12, 14, 17]
def R59 : Ct := fun ss r new => ∃ a0_0 a0_1 r0, ss = [S.v (.ag [.d (.int .i64 a0_0), .d (.int .i64 a0_1)])] ∧ float_shape_quiet.f a0_0 a0_1 = some (r0) ∧ r = S.v (.c (.d (.int .i64 r0))) ∧ new = []
def F59 : List (Nat × Ct) := [(64, R64), (87, R87)]
def P59 : List (Nat × List (List Nat) × Plan) := [(1, [[], [], [1], [], [3], [3, 4], [3, 4, 5], [0, 1, 2, 3, 4, 5, 6], [0, 1, 2, 3, 4, 5, 6, 7]], .look 0 (.look 1 (.look 3 (.look 4 (.look 5 (.look 6 (.act 2 [0, 3, 4, 5, 6] (.act 7 [] (.look 8 .done) .stop) .stop)))))))]
def G59 : Cx := cx ty F59 P59 false []
def R80 : Ct := fun ss r new => ∃ a0_0 a0_1 a1 r0, ss = [S.v (.ag [.d (.int .i64 a0_0), .d (.int .i64 a0_1)]), S.v (.c (.d (.int .i64 a1)))] ∧ float_shape_none.f a0_0 a0_1 a1 = some (r0) ∧ r = S.v (.c (.d (.int .i64 r0))) ∧ new = []
def F80 : List (Nat × Ct) := [(54, R54)]
def P80 : List (Nat × List (List Nat) × Plan) := []
def G80 : Cx := cx ty F80 P80 false []
def R73 : Ct := fun ss r new => ∃ a0 a1 r0 r1, ss = [S.v (.c (.d (.int .u64 a0))), S.v (.c (.d (.int .i64 a1)))] ∧ float_left.f a0 a1 = some (r0, r1) ∧ r = S.tup [.c (.d (.int .u64 r0)), .c (.d (.int .u64 r1))] ∧ new = []
def F73 : List (Nat × Ct) := []
def P73 : List (Nat × List (List Nat) × Plan) := [(3, [[], [], [1], [0, 1, 2], [], [], [4, 5], [0, 1, 2, 3], [0, 1, 2, 3, 4, 5, 6, 7]], .look 0 (.look 1 (.look 2 (.look 3 (.look 4 (.look 5 (.look 6 (.look 7 (.look 8 .done)))))))))]
def G73 : Cx := cx ty F73 P73 false []
def R93 : Ct := fun ss r new => ∃ x y c, ss = [S.v (.c (.d (.int .u64 x))), S.v (.c (.d (.int .u64 y))), S.v (.c (.d (.int .u64 c)))] ∧ 0 ≤ c ∧ c ≤ 1 ∧ r = S.tup [.c (.d (.int .u64 (addS x y c))), .c (.d (.int .u64 (addC x y c)))] ∧ new = []
theorem ok93 : VSound Try.prog (93, R93) := by
  refine .inr fun X w args ss r new hX ha hR => ?_
  obtain ⟨x, y, c, rfl, h0, h1, rfl, rfl⟩ := hR
  obtain ⟨l⟩ := args
  cases ha with
  | cons g1 ha =>
  cases ha with
  | cons g2 ha =>
  cases ha with
  | cons g3 ha =>
  cases ha
  rw [sdi_inv g1, sdi_inv g2, sdi_inv g3]
  exact ⟨_, [], _, run_addS x y c h0 h1 w, ⟨#[_, _], rfl, .cons (sdi _ _) (.cons (sdi _ _) .nil)⟩, HpRel_nil X _, Nat.le_refl _, Str.refl _, fun _ _ => rfl, fun b ⟨_, _, _, h, _⟩ => by simp at h⟩
def R94 : Ct := fun ss r new => ∃ x y c, ss = [S.v (.c (.d (.int .u64 x))), S.v (.c (.d (.int .u64 y))), S.v (.c (.d (.int .u64 c)))] ∧ 0 ≤ c ∧ c ≤ 1 ∧ r = S.tup [.c (.d (.int .u64 (subS x y c))), .c (.d (.int .u64 (subB x y c)))] ∧ new = []
theorem ok94 : VSound Try.prog (94, R94) := by
  refine .inr fun X w args ss r new hX ha hR => ?_
  obtain ⟨x, y, c, rfl, h0, h1, rfl, rfl⟩ := hR
  obtain ⟨l⟩ := args
  cases ha with
  | cons g1 ha =>
  cases ha with
  | cons g2 ha =>
  cases ha with
  | cons g3 ha =>
  cases ha
  rw [sdi_inv g1, sdi_inv g2, sdi_inv g3]
  exact ⟨_, [], _, run_subS x y c h0 h1 w, ⟨#[_, _], rfl, .cons (sdi _ _) (.cons (sdi _ _) .nil)⟩, HpRel_nil X _, Nat.le_refl _, Str.refl _, fun _ _ => rfl, fun b ⟨_, _, _, h, _⟩ => by simp at h⟩
def R81 : Ct := fun ss r new => ∃ k a0_0 a0_1 a1 a2_0 a2_1 a2_2 a2_3 a3_0 a3_1 a3_2 a3_3 r0 r1, ss = [S.v (.ag [.d (.int .i64 a0_0), .d (.int .i64 a0_1)]), S.v (.c (.d (.int .i64 a1))), S.v (.ag [.d (.int .i64 a2_0), .d (.int .i64 a2_1), .d (.int .u64 a2_2), .d (.int .i64 a2_3)]), S.v (.ag [.d (.int .i64 a3_0), .d (.int .i64 a3_1), .d (.int .u64 a3_2), .d (.int .i64 a3_3)])] ∧ float_shape_sum.f k a0_0 a0_1 a1 a2_0 a2_1 a2_2 a2_3 a3_0 a3_1 a3_2 a3_3 = some (r0, r1) ∧ r = S.tup [.c (.d (.int .i64 r0)), .c (.d (.int .i64 r1))] ∧ new = []
def F81 : List (Nat × Ct) := [(55, R55), (73, R73), (80, R80), (93, R93), (94, R94)]
def P81 : List (Nat × List (List Nat) × Plan) := []
def G81 : Cx := cx ty F81 P81 false [5, 10, 17, 24]
def R41 : Ct := fun ss r new => ∃ k a0_0 a0_1 a1 a2_0 a2_1 a2_2 a2_3 a3_0 a3_1 a3_2 a3_3 r0 r1, ss = [S.v (.ag [.d (.int .i64 a0_0), .d (.int .i64 a0_1)]), S.v (.c (.d (.int .i64 a1))), S.v (.ag [.d (.int .i64 a2_0), .d (.int .i64 a2_1), .d (.int .u64 a2_2), .d (.int .i64 a2_3)]), S.v (.ag [.d (.int .i64 a3_0), .d (.int .i64 a3_1), .d (.int .u64 a3_2), .d (.int .i64 a3_3)])] ∧ float_shape_add.f k a0_0 a0_1 a1 a2_0 a2_1 a2_2 a2_3 a3_0 a3_1 a3_2 a3_3 = some (r0, r1) ∧ r = S.tup [.c (.d (.int .i64 r0)), .c (.d (.int .i64 r1))] ∧ new = []
def F41 : List (Nat × Ct) := [(54, R54), (55, R55), (59, R59), (60, R60), (80, R80), (81, R81)]
def P41 : List (Nat × List (List Nat) × Plan) := []
def G41 : Cx := cx ty F41 P41 false []
def R13 : Ct := fun ss r new => ∃ k a0 a1 a2 a3 r0 r1 r2, ss = [S.v (.c (.d (.int .i64 a0))), S.v (.c (.d (.int .i64 a1))), S.v (.c (.d (.int .i64 a2))), S.v (.c (.d (.int .i64 a3)))] ∧ float_Add.f k a0 a1 a2 a3 = some (r0, r1, r2) ∧ r = S.tup [.c (.d (.int .i64 r0)), .c (.d (.int .i64 r1)), .c (.d (.int .i64 r2))] ∧ new = []
def F13 : List (Nat × Ct) := [(40, R40), (41, R41)]
def P13 : List (Nat × List (List Nat) × Plan) := []
def G13 : Cx := cx ty F13 P13 false []
def R32 : Ct := fun ss r new => ∃ k a0 a1 r0, ss = [S.v (.c (.d (.int .i64 a0))), S.v (.c (.d (.int .i64 a1)))] ∧ float_Class.f k a0 a1 = some (r0) ∧ r = S.v (.c (.d (.str r0))) ∧ new = []
def F32 : List (Nat × Ct) := [(40, R40)]
def P32 : List (Nat × List (List Nat) × Plan) := [(10, [[], [0], [], [2], [2, 3], [2, 3, 4], [0, 1, 2, 3, 4, 5], [0, 1, 2, 3, 4, 5, 6]], .look 0 (.look 1 (.look 2 (.look 3 (.look 4 (.look 5 (.look 6 (.look 7 .done))))))))]
def G32 : Cx := cx ty F32 P32 false []
def R17 : Ct := fun ss r new => ∃ k r0, ss = [] ∧ quadratlaw01_Awake.f k = some (r0) ∧ r = S.v (.c (.d (.bool r0))) ∧ new = []
def F17 : List (Nat × Ct) := [(13, R13), (32, R32)]
def P17 : List (Nat × List (List Nat) × Plan) := []
def G17 : Cx := cx ty F17 P17 false []
def R24 : Ct := fun ss r new => ∃ k a0 a1 r0, ss = [S.v (.c (.d (.int .i64 a0))), S.v (.c (.d (.int .i64 a1)))] ∧ float_Valid.f k a0 a1 = some (r0) ∧ r = S.v (.c (.d (.bool r0))) ∧ new = []
def F24 : List (Nat × Ct) := [(53, R53), (63, R63)]
def P24 : List (Nat × List (List Nat) × Plan) := []
def G24 : Cx := cx ty F24 P24 false []
def R76 : Ct := fun ss r new => ∃ a0 a1 r0 r1, ss = [S.v (.c (.d (.int .u64 a0))), S.v (.c (.d (.int .u64 a1)))] ∧ bits_Mul64.f a0 a1 = some (r0, r1) ∧ r = S.tup [.c (.d (.int .u64 r0)), .c (.d (.int .u64 r1))] ∧ new = []
theorem ok76 : VSound Try.prog (76, R76) := by
  refine shelved (by kernel_rfl) ?_
  rintro _ _ _ ⟨a0, a1, r0, r1, rfl, h, rfl, rfl⟩
  unfold bits_Mul64.f at h
  split at h
  · rename_i hr
    cases h
    obtain ⟨⟨h1, h2⟩, h3, h4⟩ := hr
    obtain ⟨x, rfl⟩ : ∃ n : Nat, a0 = n := ⟨a0.toNat, by omega⟩
    obtain ⟨y, rfl⟩ : ∃ n : Nat, a1 = n := ⟨a1.toNat, by omega⟩
    refine ⟨rfl, _, fun _ _ _ => ⟨#[_, _], rfl, .cons (sdi _ _) (.cons (sdi _ _) .nil)⟩, fun X w args ha => ?_⟩
    obtain ⟨l⟩ := args
    cases ha with
    | cons h1 h2 =>
    cases h2 with
    | cons h2 h3 =>
    cases h3
    rw [sdi_inv h1, sdi_inv h2]
    exact Try.bits_Mul64 x y (by omega) (by omega) w
  · cases h
def R35 : Ct := fun ss r new => ∃ k a0 a1 a2 a3 r0 r1 r2, ss = [S.v (.c (.d (.int .i64 a0))), S.v (.c (.d (.int .i64 a1))), S.v (.c (.d (.int .i64 a2))), S.v (.c (.d (.int .i64 a3)))] ∧ float_Mul.f k a0 a1 a2 a3 = some (r0, r1, r2) ∧ r = S.tup [.c (.d (.int .i64 r0)), .c (.d (.int .i64 r1)), .c (.d (.int .i64 r2))] ∧ new = []
def F35 : List (Nat × Ct) := [(40, R40), (54, R54), (55, R55), (59, R59), (60, R60), (76, R76)]
def P35 : List (Nat × List (List Nat) × Plan) := []
def G35 : Cx := cx ty F35 P35 false []
def R61 : Ct := fun ss r new => ∃ a0_0 a0_1 a1 r0, ss = [S.v (.ag [.d (.int .i64 a0_0), .d (.int .i64 a0_1)]), S.v (.c (.d (.int .i64 a1)))] ∧ float_shape_place.f a0_0 a0_1 a1 = some (r0) ∧ r = S.v (.c (.d (.int .i64 r0))) ∧ new = []
def F61 : List (Nat × Ct) := []
def P61 : List (Nat × List (List Nat) × Plan) := []
def G61 : Cx := cx ty F61 P61 false []
def R22 : Ct := fun ss r new => ∃ k a0 a1 a2 r0 r1, ss = [S.v (.c (.d (.int .i64 a0))), S.v (.c (.d (.int .i64 a1))), S.v (.c (.d (.int .i64 a2)))] ∧ float_Compare.f k a0 a1 a2 = some (r0, r1) ∧ r = S.tup [.c (.d (.int .i64 r0)), .c (.d (.int .i64 r1))] ∧ new = []
def F22 : List (Nat × Ct) := [(40, R40), (61, R61)]
def P22 : List (Nat × List (List Nat) × Plan) := [(8, [[], [], [0, 1], [], [], [0, 1, 2, 3, 4], [0, 1, 2, 3, 4, 5], [0, 1, 2, 3, 4, 5, 6]], .look 0 (.look 1 (.look 3 (.look 4 (.act 2 [3, 4] (.act 5 [] (.look 6 (.look 7 .done)) .stop) .stop)))))]
def G22 : Cx := cx ty F22 P22 false []
def R92 : Ct := fun ss r new => ∃ a0 r0, ss = [S.v (.c (.d (.int .u64 a0)))] ∧ bits_LeadingZeros64.f a0 = some (r0) ∧ r = S.v (.c (.d (.int .i64 r0))) ∧ new = []
theorem ok92 : VSound Try.prog (92, R92) := by
  refine shelved (by kernel_rfl) ?_
  rintro _ _ _ ⟨a0, r0, rfl, h, rfl, rfl⟩
  unfold bits_LeadingZeros64.f at h
  split at h
  · rename_i hr
    cases h
    refine ⟨rfl, _, fun _ _ _ => sdi _ _, fun X w args ha => ?_⟩
    obtain ⟨l⟩ := args
    cases ha with
    | cons h1 h2 =>
    cases h2
    rw [sdi_inv h1]
    exact Try.bits_LeadingZeros64 a0 w hr.1 hr.2
  · cases h
def R72 : Ct := fun ss r new => ∃ a0_0 a0_1 a0_2 a0_3 r0_0 r0_1 r0_2 r0_3, ss = [S.v (.ag [.d (.int .i64 a0_0), .d (.int .i64 a0_1), .d (.int .u64 a0_2), .d (.int .i64 a0_3)])] ∧ float_number_high.f a0_0 a0_1 a0_2 a0_3 = some (r0_0, r0_1, r0_2, r0_3) ∧ r = S.v (.ag [.d (.int .i64 r0_0), .d (.int .i64 r0_1), .d (.int .u64 r0_2), .d (.int .i64 r0_3)]) ∧ new = []
def F72 : List (Nat × Ct) := [(92, R92)]
def P72 : List (Nat × List (List Nat) × Plan) := []
def G72 : Cx := cx ty F72 P72 false []
def R78 : Ct := fun ss r new => ∃ k a0 a1 a2 r0 r1, ss = [S.v (.c (.d (.int .u64 a0))), S.v (.c (.d (.int .u64 a1))), S.v (.c (.d (.int .u64 a2)))] ∧ bits_Div64.f k a0 a1 a2 = some (r0, r1) ∧ r = S.tup [.c (.d (.int .u64 r0)), .c (.d (.int .u64 r1))] ∧ new = []
def F78 : List (Nat × Ct) := [(92, R92)]
def P78 : List (Nat × List (List Nat) × Plan) := [(6, [[], [], [0, 1], [], [], [3, 4], [0, 1, 2], [0, 1, 2, 3, 4, 5, 6]], .look 0 (.look 1 (.look 2 (.look 3 (.look 4 (.look 5 (.look 6 (.look 7 .done))))))))]
def G78 : Cx := cx ty F78 P78 false []
def R37 : Ct := fun ss r new => ∃ k a0 a1 a2 a3 r0 r1 r2, ss = [S.v (.c (.d (.int .i64 a0))), S.v (.c (.d (.int .i64 a1))), S.v (.c (.d (.int .i64 a2))), S.v (.c (.d (.int .i64 a3)))] ∧ float_Div.f k a0 a1 a2 a3 = some (r0, r1, r2) ∧ r = S.tup [.c (.d (.int .i64 r0)), .c (.d (.int .i64 r1)), .c (.d (.int .i64 r2))] ∧ new = []
def F37 : List (Nat × Ct) := [(40, R40), (54, R54), (55, R55), (59, R59), (60, R60), (72, R72), (78, R78)]
def P37 : List (Nat × List (List Nat) × Plan) := [(15, [[], [0], [], [0, 1, 2], [0, 1, 2, 3], [0, 1, 2, 3, 4]], .look 0 (.look 2 (.act 1 [2] (.act 3 [] (.act 4 [] (.act 5 [] .done .stop) .stop) .stop) .stop)))]
def G37 : Cx := cx ty F37 P37 false []
def R39 : Ct := fun ss r new => ∃ k a0 a1 a2 r0, ss = [S.v (.c (.d (.int .i64 a0))), S.v (.c (.d (.int .i64 a1))), S.v (.c (.d (.int .i64 a2)))] ∧ quadratlaw01_between.f k a0 a1 a2 = some (r0) ∧ r = S.v (.c (.d (.bool r0))) ∧ new = []
def F39 : List (Nat × Ct) := [(13, R13), (22, R22), (37, R37)]
def P39 : List (Nat × List (List Nat) × Plan) := []
def G39 : Cx := cx ty F39 P39 false []
def R12 : Ct := fun ss r new => ∃ k a0 a1 a2 r0, ss = [S.v (.c (.d (.int .i64 a0))), S.v (.c (.d (.int .i64 a1))), S.v (.c (.d (.int .i64 a2)))] ∧ quadratlaw01_FloatModes.f k a0 a1 a2 = some (r0) ∧ r = S.v (.c (.d (.bool r0))) ∧ new = []
def F12 : List (Nat × Ct) := [(13, R13), (17, R17), (24, R24), (35, R35), (39, R39)]
def P12 : List (Nat × List (List Nat) × Plan) := []
def G12 : Cx := cx ty F12 P12 false []
end Go.Proofs.Ytgpnmifejgdipaa.Fx
