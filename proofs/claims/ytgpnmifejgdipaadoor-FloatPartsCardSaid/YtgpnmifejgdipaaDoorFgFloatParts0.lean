/-
  FloatParts: the functions that it reaches, by VX: contracts. By the session's own hand.
-/
import Derived.Test.YtgpnmifejgdipaaDoorFh
namespace Go.Proofs.YtgpnmifejgdipaaDoor.Fx
open Go.Proofs.YtgpnmifejgdipaaDoorVX Go.RowKit Go.Proofs.YtgpnmifejgdipaaDoor.My Go.Proofs.YtgpnmifejgdipaaDoorW Go.Proofs.YtgpnmifejgdipaaDoorW.PrintMore
set_option linter.unusedVariables false
set_option linter.unusedSimpArgs false
set_option maxRecDepth 100000
def R31 : Ct := fun ss r new => ∃ a0 r0_0 r0_1 r1, ss = [S.v (.c (.d (.int .i64 a0)))] ∧ float_of.f a0 = some (r0_0, r0_1, r1) ∧ r = S.tup [.ag [.d (.int .i64 r0_0), .d (.int .i64 r0_1)], .c (.d (.bool r1))] ∧ new = []
def F31 : List (Nat × Ct) := []
def P31 : List (Nat × List (List Nat) × Plan) := []
def G31 : Cx := cx ty F31 P31 false []
def R43 : Ct := fun ss r new => ∃ a0_0 a0_1 r0, ss = [S.v (.ag [.d (.int .i64 a0_0), .d (.int .i64 a0_1)])] ∧ float_shape_top.f a0_0 a0_1 = some (r0) ∧ r = S.v (.c (.d (.int .u64 r0))) ∧ new = []
def F43 : List (Nat × Ct) := []
def P43 : List (Nat × List (List Nat) × Plan) := []
def G43 : Cx := cx ty F43 P43 false []
def R45 : Ct := fun ss r new => ∃ a0_0 a0_1 r0, ss = [S.v (.ag [.d (.int .i64 a0_0), .d (.int .i64 a0_1)])] ∧ float_shape_bias.f a0_0 a0_1 = some (r0) ∧ r = S.v (.c (.d (.int .i64 r0))) ∧ new = []
def F45 : List (Nat × Ct) := []
def P45 : List (Nat × List (List Nat) × Plan) := []
def G45 : Cx := cx ty F45 P45 false []
def R44 : Ct := fun ss r new => ∃ a0_0 a0_1 r0, ss = [S.v (.ag [.d (.int .i64 a0_0), .d (.int .i64 a0_1)])] ∧ float_shape_least.f a0_0 a0_1 = some (r0) ∧ r = S.v (.c (.d (.int .i64 r0))) ∧ new = []
def F44 : List (Nat × Ct) := [(45, R45)]
def P44 : List (Nat × List (List Nat) × Plan) := [(1, [[], [0], [0, 1], [], [3], [0, 1, 2, 3, 4], [0, 1, 2, 3, 4, 5]], .look 0 (.look 3 (.look 4 (.act 1 [3, 4] (.look 2 (.look 5 (.look 6 .done))) .stop))))]
def G44 : Cx := cx ty F44 P44 false []
def R32 : Ct := fun ss r new => ∃ k a0_0 a0_1 a1 r0_0 r0_1 r0_2 r0_3 r1, ss = [S.v (.ag [.d (.int .i64 a0_0), .d (.int .i64 a0_1)]), S.v (.c (.d (.int .i64 a1)))] ∧ float_shape_read.f k a0_0 a0_1 a1 = some (r0_0, r0_1, r0_2, r0_3, r1) ∧ r = S.tup [.ag [.d (.int .i64 r0_0), .d (.int .i64 r0_1), .d (.int .u64 r0_2), .d (.int .i64 r0_3)], .c (.d (.bool r1))] ∧ new = []
def F32 : List (Nat × Ct) := [(43, R43), (44, R44), (45, R45)]
def P32 : List (Nat × List (List Nat) × Plan) := [(6, [[], [], [1], [1, 2], [0, 1, 2, 3], [], [5], [0, 1, 2, 3, 4, 5, 6], [], [], [9], [9, 10], [9, 10, 11], [9, 10, 11, 12], [8, 9, 10, 11, 12, 13], [0, 1, 2, 3, 4, 5, 6, 7], [0, 1, 2, 3, 4, 5, 6, 7, 8, 9, 10, 11, 12, 13, 14, 15]], .look 0 (.look 1 (.look 2 (.look 3 (.look 4 (.look 5 (.look 8 (.look 9 (.look 10 (.look 11 (.look 12 (.look 13 (.look 14 (.act 6 [0, 1, 2, 3, 4, 8, 9, 10, 11, 12, 13, 14] (.look 7 (.look 15 (.look 16 .done))) .stop)))))))))))))), (7, [[], [], [1], [1, 2], [1, 2, 3], [0, 1, 2, 3, 4], [], [6], [], [8], [6, 7, 8, 9], [], [11], [6, 7, 8, 9, 10, 11, 12], [6, 7, 8, 9, 10, 11, 12, 13], [], [8, 9, 15], [0, 1, 2, 3, 4, 5, 8, 9, 15, 16], [0, 1, 2, 3, 4, 5, 8, 9, 15, 16, 17], [0, 1, 2, 3, 4, 5, 6, 7, 8, 9, 10, 11, 12, 13, 14, 15, 16, 17, 18], [0, 1, 2, 3, 4, 5, 6, 7, 8, 9, 10, 11, 12, 13, 14, 15, 16, 17, 18, 19]], .look 0 (.look 1 (.look 2 (.look 3 (.look 4 (.look 5 (.look 6 (.look 7 (.look 8 (.look 11 (.look 12 (.look 15 (.act 9 [0, 1, 2, 3, 4, 5, 6, 7, 11, 12, 15] (.look 10 (.look 13 (.look 14 (.act 16 [0, 1, 2, 3, 4, 5, 6, 7, 10, 11, 12, 13, 14] (.look 17 (.act 18 [6, 7, 10, 11, 12, 13, 14] (.look 19 (.act 20 [] .done .stop)) .stop)) .stop)))) .stop)))))))))))))]
def G32 : Cx := cx ty F32 P32 false []
def R17 : Ct := fun ss r new => ∃ k a0 a1 a2 a3 r0_0 r0_1 r1_0 r1_1 r1_2 r1_3 r2_0 r2_1 r2_2 r2_3 r3, ss = [S.v (.c (.d (.int .i64 a0))), S.v (.c (.d (.int .i64 a1))), S.v (.c (.d (.int .i64 a2))), S.v (.c (.d (.int .i64 a3)))] ∧ float_two.f k a0 a1 a2 a3 = some (r0_0, r0_1, r1_0, r1_1, r1_2, r1_3, r2_0, r2_1, r2_2, r2_3, r3) ∧ r = S.tup [.ag [.d (.int .i64 r0_0), .d (.int .i64 r0_1)], .ag [.d (.int .i64 r1_0), .d (.int .i64 r1_1), .d (.int .u64 r1_2), .d (.int .i64 r1_3)], .ag [.d (.int .i64 r2_0), .d (.int .i64 r2_1), .d (.int .u64 r2_2), .d (.int .i64 r2_3)], .c (.d (.bool r3))] ∧ new = []
def F17 : List (Nat × Ct) := [(31, R31), (32, R32)]
def P17 : List (Nat × List (List Nat) × Plan) := [(3, [[], [], [], [0], [0, 1, 3], [0, 1, 2, 3, 4], [0, 1, 2, 3, 4, 5]], .look 0 (.look 1 (.look 2 (.act 3 [1, 2] (.act 4 [2] (.act 5 [] (.look 6 .done) .stop) .stop) .stop)))), (6, [[], [], [], [], [3], [3, 4], [3, 4, 5], [0, 3, 4], [0, 1, 3, 4, 7], [0, 1, 2, 3, 4, 7, 8], [0, 1, 2, 3, 4, 5, 6, 7, 8, 9]], .look 0 (.look 1 (.look 2 (.look 3 (.look 4 (.look 5 (.look 6 (.act 7 [1, 2, 5, 6] (.act 8 [2, 5, 6] (.act 9 [5, 6] (.look 10 .done) .stop) .stop) .stop))))))))]
def G17 : Cx := cx ty F17 P17 false []
def R18 : Ct := fun ss r new => ∃ a0 r0, ss = [S.v (.c (.d (.int .u64 a0)))] ∧ bits_TrailingZeros64.f a0 = some (r0) ∧ r = S.v (.c (.d (.int .i64 r0))) ∧ new = []
theorem rdC_cells {A : Nat → Prop} {w : World} {b : Nat} : ∀ (l : List Nat) (off : Nat), RdC A w b off (l.map fun (n : Nat) => D.int .u8 n) → ∀ j, j < l.length → w.cell? ⟨b, off + j, none⟩ = some (.int .u8 (l.getD j 0))
  | [], _, _, j, hj => by simp at hj
  | x :: l, off, h, j, hj => by
    simp only [List.map_cons, RdC] at h
    obtain ⟨⟨v, hv, hx⟩, h⟩ := h
    cases j with
    | zero => simp only [Rd] at hx; subst hx; simpa using hv
    | succ j =>
      have := rdC_cells l (off + 1) h j (by simpa using hj)
      rw [show off + 1 + j = off + (j + 1) by omega] at this
      simpa using this
theorem cells_rdC {A : Nat → Prop} {w : World} {b : Nat} : ∀ (l : List Nat) (off : Nat), (∀ j, j < l.length → w.cell? ⟨b, off + j, none⟩ = some (.int .u8 (l.getD j 0))) → RdC A w b off (l.map fun (n : Nat) => D.int .u8 n)
  | [], _, _ => by simp only [List.map_nil, RdC]
  | x :: l, off, h => by
    simp only [List.map_cons, RdC]
    refine ⟨⟨_, by simpa using h 0 (by simp), by simp only [Rd]⟩, cells_rdC l (off + 1) fun j hj => ?_⟩
    have := h (j + 1) (by simpa using hj)
    rw [show off + (j + 1) = off + 1 + j by omega] at this
    simpa using this
theorem ok18 : VSound Tryd.prog (18, R18) := by
  refine .inl ⟨fun X w args ss r new hG hX ha hR => ?_, enterB_ok (by kernel_rfl)⟩
  obtain ⟨a0, r0, rfl, h, rfl, rfl⟩ := hR
  unfold bits_TrailingZeros64.f at h
  split at h
  · rename_i hr
    cases h
    obtain ⟨x, rfl⟩ : ∃ n : Nat, a0 = n := ⟨a0.toNat, by omega⟩
    obtain ⟨l⟩ := args
    cases ha with
    | cons h1 h2 =>
    cases h2
    rw [sdi_inv h1]
    have ht : TabAt 0 Lib.deBruijn64tab w := fun j hj => by
      obtain ⟨_, _, _, h⟩ := hG.gl 0 _ (List.mem_cons_self ..)
      have := rdC_cells Lib.deBruijn64tab 0 h j hj
      rwa [Nat.zero_add] at this
    refine (Tryd.bits_TrailingZeros64 x (by omega) w fun _ => ht).mono ?_
    rintro e w' ⟨rfl, rfl⟩
    exact ⟨_, [], rfl, sdi _ _, HpRel_nil X _, Nat.le_refl _, Str.refl _, fun _ _ => rfl, fun b ⟨_, _, _, h, _⟩ => by simp at h⟩
  · cases h
def R5 : Ct := fun ss r new => ∃ k a0 a1 r0 r1 r2 r3, ss = [S.v (.c (.d (.int .i64 a0))), S.v (.c (.d (.int .i64 a1)))] ∧ float_Parts.f k a0 a1 = some (r0, r1, r2, r3) ∧ r = S.tup [.c (.d (.int .i64 r0)), .c (.d (.int .i64 r1)), .c (.d (.int .i64 r2)), .c (.d (.int .i64 r3))] ∧ new = []
def F5 : List (Nat × Ct) := [(17, R17), (18, R18)]
def P5 : List (Nat × List (List Nat) × Plan) := [(9, [[], [0], [], [2], [], [2, 3, 4], [2, 3, 4, 5], [], [7], [], [7, 8, 9], [0, 1], [0, 1, 2, 3, 4, 5, 6, 11], [0, 1, 2, 3, 4, 5, 6, 7, 8, 9, 10, 11, 12], [0, 1, 2, 3, 4, 5, 6, 7, 8, 9, 10, 11, 12, 13]], .look 0 (.look 1 (.look 2 (.look 3 (.look 4 (.look 5 (.look 6 (.look 7 (.look 8 (.look 9 (.look 10 (.look 11 (.look 12 (.look 13 (.look 14 .done)))))))))))))))]
def G5 : Cx := cx ty F5 P5 false []
def R19 : Ct := fun ss r new => ∃ a0 a1 r0, ss = [S.v (.c (.d (.int .i64 a0))), S.v (.c (.d (.int .i64 a1)))] ∧ quadratref01_Valid.f a0 a1 = some (r0) ∧ r = S.v (.c (.d (.bool r0))) ∧ new = []
def F19 : List (Nat × Ct) := []
def P19 : List (Nat × List (List Nat) × Plan) := []
def G19 : Cx := cx ty F19 P19 false []
def R29 : Ct := fun ss r new => ∃ a0 r0, ss = [S.v (.c (.d (.int .i64 a0)))] ∧ quadratref01_Digits.f a0 = some (r0) ∧ r = S.v (.c (.d (.int .i64 r0))) ∧ new = []
def F29 : List (Nat × Ct) := []
def P29 : List (Nat × List (List Nat) × Plan) := []
def G29 : Cx := cx ty F29 P29 false []
def R37 : Ct := fun ss r new => ∃ k a0 r0, ss = [S.v (.c (.d (.int .i64 a0)))] ∧ quadratref01_Of.f k a0 = some (r0) ∧ r = S.v (.c (.d (.sl 1 (bytes r0)))) ∧ new = []
def F37 : List (Nat × Ct) := []
def P37 : List (Nat × List (List Nat) × Plan) := []
def G37 : Cx := cx ty F37 P37 false []
def R39 : Ct := fun ss r new => ∃ a0 r0, ss = [S.v (.c (.d (.int .i64 a0)))] ∧ quadratref01_Bias.f a0 = some (r0) ∧ r = S.v (.c (.d (.int .i64 r0))) ∧ new = []
def F39 : List (Nat × Ct) := []
def P39 : List (Nat × List (List Nat) × Plan) := []
def G39 : Cx := cx ty F39 P39 false []
def R38 : Ct := fun ss r new => ∃ a0 r0, ss = [S.v (.c (.d (.int .i64 a0)))] ∧ quadratref01_least.f a0 = some (r0) ∧ r = S.v (.c (.d (.int .i64 r0))) ∧ new = []
def F38 : List (Nat × Ct) := [(29, R29), (39, R39)]
def P38 : List (Nat × List (List Nat) × Plan) := []
def G38 : Cx := cx ty F38 P38 false []
def R20 : Ct := fun ss r new => ∃ k a0 a1 r0_0 r0_1 r0_2 r0_3, ss = [S.v (.c (.d (.int .i64 a0))), S.v (.c (.d (.int .i64 a1)))] ∧ quadratref01_taken.f k a0 a1 = some (r0_0, r0_1, r0_2, r0_3) ∧ r = S.v (.ag [.d (.str r0_0), .d (.int .i64 r0_1), .d (.sl 1 (bytes r0_2)), .d (.int .i64 r0_3)]) ∧ new = []
def F20 : List (Nat × Ct) := [(29, R29), (37, R37), (38, R38), (39, R39)]
def P20 : List (Nat × List (List Nat) × Plan) := [(4, [[], [], [1], [0, 1, 2], [], [4], [4, 5], [0, 1, 2, 3, 4, 5, 6], [0, 1, 2, 3, 4, 5, 6, 7], [0, 1, 2, 3, 4, 5, 6, 7, 8]], .look 0 (.look 1 (.look 2 (.look 3 (.look 4 (.look 5 (.look 6 (.look 7 (.look 8 (.look 9 .done))))))))))]
def G20 : Cx := cx ty F20 P20 false []
def R21 : Ct := fun ss r new => ∃ k a0 r0, ss = [S.v (.c (.d (.sl 1 (bytes a0))))] ∧ quadratref01_Int.f k a0 = some (r0) ∧ r = S.v (.c (.d (.int .i64 r0))) ∧ new = []
def F21 : List (Nat × Ct) := []
def P21 : List (Nat × List (List Nat) × Plan) := []
def G21 : Cx := cx ty F21 P21 false []
def R22 : Ct := fun ss r new => ∃ a0 a1 r0, ss = [S.v (.c (.d (.sl 1 (bytes a0)))), S.v (.c (.d (.int .i64 a1)))] ∧ quadratref01_Down.f a0 a1 = some (r0) ∧ r = S.v (.c (.d (.sl 1 (bytes r0)))) ∧ new = []
def F22 : List (Nat × Ct) := []
def P22 : List (Nat × List (List Nat) × Plan) := []
def G22 : Cx := cx ty F22 P22 false []
def R6 : Ct := fun ss r new => ∃ k a0 a1 r0 r1 r2 r3, ss = [S.v (.c (.d (.int .i64 a0))), S.v (.c (.d (.int .i64 a1)))] ∧ quadratref01_Parts.f k a0 a1 = some (r0, r1, r2, r3) ∧ r = S.tup [.c (.d (.int .i64 r0)), .c (.d (.int .i64 r1)), .c (.d (.int .i64 r2)), .c (.d (.int .i64 r3))] ∧ new = []
def F6 : List (Nat × Ct) := [(19, R19), (20, R20), (21, R21), (22, R22)]
def P6 : List (Nat × List (List Nat) × Plan) := [(13, [[], [0], [], [2], [], [2, 3, 4], [2, 3, 4, 5], [], [7], [], [7, 8, 9], [0, 1, 2, 3, 4, 5, 6], [0, 1, 2, 3, 4, 5, 6, 11], [0, 1, 2, 3, 4, 5, 6, 7, 8, 9, 10, 11, 12], [0, 1, 2, 3, 4, 5, 6, 7, 8, 9, 10, 11, 12, 13]], .look 0 (.look 1 (.look 2 (.look 3 (.look 4 (.look 7 (.look 8 (.look 9 (.look 10 (.act 5 [0, 1, 7, 8, 9, 10] (.act 6 [0, 1, 7, 8, 9, 10] (.look 11 (.look 12 (.look 13 (.look 14 .done)))) .stop) .stop))))))))))]
def G6 : Cx := cx ty F6 P6 false []
def R46 : Ct := fun ss r new => ∃ a0_0 a0_1 a1 a2 a3 r0, ss = [S.v (.ag [.d (.int .i64 a0_0), .d (.int .i64 a0_1)]), S.v (.c (.d (.int .i64 a1))), S.v (.c (.d (.int .u64 a2))), S.v (.c (.d (.int .u64 a3)))] ∧ float_shape_pack.f a0_0 a0_1 a1 a2 a3 = some (r0) ∧ r = S.v (.c (.d (.int .i64 r0))) ∧ new = []
def F46 : List (Nat × Ct) := []
def P46 : List (Nat × List (List Nat) × Plan) := [(1, [[], [0], [], [2], [], [4], [2, 3, 4, 5], [2, 3, 4, 5, 6], [0, 1, 2, 3, 4, 5, 6, 7], [], [], [10], [10, 11], [9, 10, 11, 12], [0, 1, 2, 3, 4, 5, 6, 7, 8, 9, 10, 11, 12, 13], [], [0, 1, 2, 3, 4, 5, 6, 7, 8, 9, 10, 11, 12, 13, 14, 15], [0, 1, 2, 3, 4, 5, 6, 7, 8, 9, 10, 11, 12, 13, 14, 15, 16], [0, 1, 2, 3, 4, 5, 6, 7, 8, 9, 10, 11, 12, 13, 14, 15, 16, 17]], .look 0 (.look 1 (.look 2 (.look 3 (.look 4 (.look 5 (.look 6 (.look 7 (.look 8 (.look 9 (.look 10 (.look 11 (.look 12 (.look 13 (.look 14 (.look 15 (.look 16 (.look 17 (.look 18 .done)))))))))))))))))))]
def G46 : Cx := cx ty F46 P46 false []
def R35 : Ct := fun ss r new => ∃ a0_0 a0_1 r0, ss = [S.v (.ag [.d (.int .i64 a0_0), .d (.int .i64 a0_1)])] ∧ float_shape_quiet.f a0_0 a0_1 = some (r0) ∧ r = S.v (.c (.d (.int .i64 r0))) ∧ new = []
def F35 : List (Nat × Ct) := [(43, R43), (46, R46)]
def P35 : List (Nat × List (List Nat) × Plan) := [(1, [[], [], [1], [], [3], [3, 4], [3, 4, 5], [0, 1, 2, 3, 4, 5, 6], [0, 1, 2, 3, 4, 5, 6, 7]], .look 0 (.look 1 (.look 3 (.look 4 (.look 5 (.look 6 (.act 2 [0, 3, 4, 5, 6] (.act 7 [] (.look 8 .done) .stop) .stop)))))))]
def G35 : Cx := cx ty F35 P35 false []
def R24 : Ct := fun ss r new => ∃ a0, ss = [S.v (.c (.d (.int .i64 a0)))] ∧ r = S.v (.c (.d (.int .i64 (wrap64 (1 - a0))))) ∧ new = []
theorem ok24 : VSound Tryd.prog (24, R24) := by
  refine vsound (T := ty) (F := []) (pl := []) (nw := false) (cuts := []) mix tyOk .nil Tryd.func24 (by kernel_rfl) (by kernel_rfl) ?_
  rintro _ _ _ ⟨a0, rfl, rfl, rfl⟩
  show vcFn (cx ty [] [] false []) _ _ _ _
  conv => whnf
  (refine ⟨[], .nil, .nil, ?_⟩; (conv => whnf)); (repeat' (first | exact All2.nil | (refine All2.cons ?_ ?_ <;> (conv => whnf)))); (all_goals (first | (with_reducible rfl) | (congr 1; done) | (congr 1; grind) | (congr 1; simp [*, ByteArray.toList_mk]; done) | exact rfl | exact .inl ⟨rfl, by simp⟩ | exact .inr rfl | exact ⟨rfl, rfl⟩ | (refine .inl ⟨?_, by simp⟩; simp only [bx, lenpos, shr_1, shl_63]; rfl) | (simp only [bx, lenpos, shr_1, shl_63]; rfl)))
def R26 : Ct := fun ss r new => ∃ a0, ss = [S.v (.c (.d (.int .i64 a0)))] ∧ r = S.v (.c (.d (.int .i64 (0)))) ∧ new = []
theorem ok26 : VSound Tryd.prog (26, R26) := by
  refine vsound (T := ty) (F := []) (pl := []) (nw := false) (cuts := []) mix tyOk .nil Tryd.func26 (by kernel_rfl) (by kernel_rfl) ?_
  rintro _ _ _ ⟨a0, rfl, rfl, rfl⟩
  show vcFn (cx ty [] [] false []) _ _ _ _
  conv => whnf
  (refine ⟨[], .nil, .nil, ?_⟩; (conv => whnf)); (repeat' (first | exact All2.nil | (refine All2.cons ?_ ?_ <;> (conv => whnf)))); (all_goals (first | (with_reducible rfl) | (congr 1; done) | (congr 1; grind) | (congr 1; simp [*, ByteArray.toList_mk]; done) | exact rfl | exact .inl ⟨rfl, by simp⟩ | exact .inr rfl | exact ⟨rfl, rfl⟩ | (refine .inl ⟨?_, by simp⟩; simp only [bx, lenpos, shr_1, shl_63]; rfl) | (simp only [bx, lenpos, shr_1, shl_63]; rfl)))
def R23 : Ct := fun ss r new => ∃ k g f a0 a1 r0 r1, ss = [S.v (.c (.d (.int .i64 a0))), S.v (.c (.d (.int .i64 a1))), S.v (.c (.fn f []))] ∧ ((f = 24 ∧ g = fun own => wrap64 (1 - own)) ∨ (f = 26 ∧ g = fun _ => 0)) ∧ float_signed.f k g a0 a1 = some (r0, r1) ∧ r = S.tup [.c (.d (.int .i64 r0)), .c (.d (.int .i64 r1))] ∧ new = []
def F23 : List (Nat × Ct) := [(17, R17), (35, R35), (24, R24), (26, R26)]
def P23 : List (Nat × List (List Nat) × Plan) := [(7, [[], [], [1], [0, 1, 2], [0, 1, 2, 3], [], [5], [], [7], [5, 6, 7, 8], [5, 6, 7, 8, 9], [0, 1, 2, 3, 4, 5, 6, 7, 8, 9, 10], [], [0, 1, 2, 3, 4, 5, 6, 7, 8, 9, 10, 11, 12], [0, 1, 2, 3, 4, 5, 6, 7, 8, 9, 10, 11, 12, 13], [0, 1, 2, 3, 4, 5, 6, 7, 8, 9, 10, 11, 12, 13, 14], [0, 1, 2, 3, 4, 5, 6, 7, 8, 9, 10, 11, 12, 13, 14, 15]], .look 0 (.look 1 (.look 2 (.look 5 (.look 6 (.look 7 (.look 8 (.look 9 (.look 10 (.look 12 (.act 3 [5, 6, 7, 8, 9, 10, 12] (.look 4 (.look 11 (.look 13 (.look 14 (.look 15 (.look 16 .done)))))) .stop)))))))))))]
def G23 : Cx := cx ty F23 P23 false []
def R7 : Ct := fun ss r new => ∃ k a0 a1 r0 r1, ss = [S.v (.c (.d (.int .i64 a0))), S.v (.c (.d (.int .i64 a1)))] ∧ float_Neg.f k a0 a1 = some (r0, r1) ∧ r = S.tup [.c (.d (.int .i64 r0)), .c (.d (.int .i64 r1))] ∧ new = []
def F7 : List (Nat × Ct) := [(23, R23)]
def P7 : List (Nat × List (List Nat) × Plan) := []
def G7 : Cx := cx ty F7 P7 false []
def R40 : Ct := fun ss r new => ∃ a0 a1 a2 a3 r0, ss = [S.v (.c (.d (.int .i64 a0))), S.v (.c (.d (.int .i64 a1))), S.v (.c (.d (.int .i64 a2))), S.v (.c (.d (.int .i64 a3)))] ∧ quadratref01_bits.f a0 a1 a2 a3 = some (r0) ∧ r = S.v (.c (.d (.int .i64 r0))) ∧ new = []
def F40 : List (Nat × Ct) := [(29, R29)]
def P40 : List (Nat × List (List Nat) × Plan) := [(2, [[], [0], [], [2], [2, 3], [0, 1, 2, 3, 4], [], [6], [], [8], [6, 7, 8, 9], [0, 1, 2, 3, 4, 5, 6, 7, 8, 9, 10], [], [12], [0, 1, 2, 3, 4, 5, 6, 7, 8, 9, 10, 11, 12, 13], [0, 1, 2, 3, 4, 5, 6, 7, 8, 9, 10, 11, 12, 13, 14], [0, 1, 2, 3, 4, 5, 6, 7, 8, 9, 10, 11, 12, 13, 14, 15]], .look 0 (.look 1 (.look 2 (.look 3 (.look 4 (.look 5 (.look 6 (.look 7 (.look 8 (.look 9 (.look 10 (.look 11 (.look 12 (.look 13 (.look 14 (.look 15 (.look 16 .done)))))))))))))))))]
def G40 : Cx := cx ty F40 P40 false []
def R41 : Ct := fun ss r new => ∃ a0 r0, ss = [S.v (.c (.d (.int .i64 a0)))] ∧ quadratref01_all.f a0 = some (r0) ∧ r = S.v (.c (.d (.int .i64 r0))) ∧ new = []
def F41 : List (Nat × Ct) := [(29, R29)]
def P41 : List (Nat × List (List Nat) × Plan) := []
def G41 : Cx := cx ty F41 P41 false []
def R27 : Ct := fun ss r new => ∃ a0 r0, ss = [S.v (.c (.d (.int .i64 a0)))] ∧ quadratref01_Quiet.f a0 = some (r0) ∧ r = S.v (.c (.d (.int .i64 r0))) ∧ new = []
def F27 : List (Nat × Ct) := [(29, R29), (40, R40), (41, R41)]
def P27 : List (Nat × List (List Nat) × Plan) := []
def G27 : Cx := cx ty F27 P27 false []
def R25 : Ct := fun ss r new => ∃ k a0 a1 r0, ss = [S.v (.c (.d (.int .i64 a0))), S.v (.c (.d (.int .i64 a1)))] ∧ quadratref01_negative.f k a0 a1 = some (r0) ∧ r = S.v (.c (.d (.int .i64 r0))) ∧ new = []
def F25 : List (Nat × Ct) := [(20, R20), (27, R27)]
def P25 : List (Nat × List (List Nat) × Plan) := []
def G25 : Cx := cx ty F25 P25 false []
def R8 : Ct := fun ss r new => ∃ k a0 a1 r0 r1, ss = [S.v (.c (.d (.int .i64 a0))), S.v (.c (.d (.int .i64 a1)))] ∧ quadratref01_Neg.f k a0 a1 = some (r0, r1) ∧ r = S.tup [.c (.d (.int .i64 r0)), .c (.d (.int .i64 r1))] ∧ new = []
def F8 : List (Nat × Ct) := [(19, R19), (25, R25)]
def P8 : List (Nat × List (List Nat) × Plan) := []
def G8 : Cx := cx ty F8 P8 false []
def R9 : Ct := fun ss r new => ∃ k a0 a1 r0 r1, ss = [S.v (.c (.d (.int .i64 a0))), S.v (.c (.d (.int .i64 a1)))] ∧ float_Abs.f k a0 a1 = some (r0, r1) ∧ r = S.tup [.c (.d (.int .i64 r0)), .c (.d (.int .i64 r1))] ∧ new = []
def F9 : List (Nat × Ct) := [(23, R23)]
def P9 : List (Nat × List (List Nat) × Plan) := []
def G9 : Cx := cx ty F9 P9 false []
def R28 : Ct := fun ss r new => ∃ a0 a1 r0, ss = [S.v (.c (.d (.int .i64 a0))), S.v (.c (.d (.int .i64 a1)))] ∧ quadratref01_size.f a0 a1 = some (r0) ∧ r = S.v (.c (.d (.int .i64 r0))) ∧ new = []
def F28 : List (Nat × Ct) := []
def P28 : List (Nat × List (List Nat) × Plan) := []
def G28 : Cx := cx ty F28 P28 false []
def R10 : Ct := fun ss r new => ∃ k a0 a1 r0 r1, ss = [S.v (.c (.d (.int .i64 a0))), S.v (.c (.d (.int .i64 a1)))] ∧ quadratref01_Abs.f k a0 a1 = some (r0, r1) ∧ r = S.tup [.c (.d (.int .i64 r0)), .c (.d (.int .i64 r1))] ∧ new = []
def F10 : List (Nat × Ct) := [(19, R19), (20, R20), (27, R27), (28, R28)]
def P10 : List (Nat × List (List Nat) × Plan) := []
def G10 : Cx := cx ty F10 P10 false []
def R11 : Ct := fun ss r new => ∃ k a0 a1 r0, ss = [S.v (.c (.d (.int .i64 a0))), S.v (.c (.d (.int .i64 a1)))] ∧ float_Class.f k a0 a1 = some (r0) ∧ r = S.v (.c (.d (.str r0))) ∧ new = []
def F11 : List (Nat × Ct) := [(17, R17)]
def P11 : List (Nat × List (List Nat) × Plan) := [(10, [[], [0], [], [2], [2, 3], [2, 3, 4], [0, 1, 2, 3, 4, 5], [0, 1, 2, 3, 4, 5, 6]], .look 0 (.look 1 (.look 2 (.look 3 (.look 4 (.look 5 (.look 6 (.look 7 .done))))))))]
def G11 : Cx := cx ty F11 P11 false []
def R12 : Ct := fun ss r new => ∃ k a0 a1 r0, ss = [S.v (.c (.d (.int .i64 a0))), S.v (.c (.d (.int .i64 a1)))] ∧ quadratref01_Class.f k a0 a1 = some (r0) ∧ r = S.v (.c (.d (.str r0))) ∧ new = []
def F12 : List (Nat × Ct) := [(19, R19), (20, R20), (28, R28), (29, R29)]
def P12 : List (Nat × List (List Nat) × Plan) := []
def G12 : Cx := cx ty F12 P12 false []
def R33 : Ct := fun ss r new => ∃ a0_0 a0_1 a1 r0, ss = [S.v (.ag [.d (.int .i64 a0_0), .d (.int .i64 a0_1)]), S.v (.c (.d (.int .i64 a1)))] ∧ float_shape_zero.f a0_0 a0_1 a1 = some (r0) ∧ r = S.v (.c (.d (.int .i64 r0))) ∧ new = []
def F33 : List (Nat × Ct) := [(46, R46)]
def P33 : List (Nat × List (List Nat) × Plan) := []
def G33 : Cx := cx ty F33 P33 false []
def R36 : Ct := fun ss r new => ∃ a0_0 a0_1 a1 r0, ss = [S.v (.ag [.d (.int .i64 a0_0), .d (.int .i64 a0_1)]), S.v (.c (.d (.int .i64 a1)))] ∧ float_shape_infinite.f a0_0 a0_1 a1 = some (r0) ∧ r = S.v (.c (.d (.int .i64 r0))) ∧ new = []
def F36 : List (Nat × Ct) := [(43, R43), (46, R46)]
def P36 : List (Nat × List (List Nat) × Plan) := [(1, [[], [], [], [2], [0, 1, 2, 3], [0, 1, 2, 3, 4]], .look 0 (.look 1 (.look 2 (.act 3 [0, 1] (.act 4 [] (.look 5 .done) .stop) .stop))))]
def G36 : Cx := cx ty F36 P36 false []
def R53 : Ct := fun ss r new => ∃ a0 r0, ss = [S.v (.c (.d (.int .u64 a0)))] ∧ bits_Len64.f a0 = some (r0) ∧ r = S.v (.c (.d (.int .i64 r0))) ∧ new = []
theorem ok53 : VSound Tryd.prog (53, R53) := by
  refine shelved (by kernel_rfl) ?_
  rintro _ _ _ ⟨a0, r0, rfl, h, rfl, rfl⟩
  unfold bits_Len64.f at h
  split at h
  · rename_i hr
    cases h
    refine ⟨rfl, _, fun _ _ _ => sdi _ _, fun X w args ha => ?_⟩
    obtain ⟨l⟩ := args
    cases ha with
    | cons h1 h2 =>
    cases h2
    rw [sdi_inv h1]
    exact Tryd.bits_Len64 a0 w hr.1 hr.2
  · cases h
def R47 : Ct := fun ss r new => ∃ a0_0 a0_1 a0_2 a0_3 r0, ss = [S.v (.ag [.d (.int .u64 a0_0), .d (.int .u64 a0_1), .d (.int .i64 a0_2), .d (.bool a0_3)])] ∧ float_exact_long.f a0_0 a0_1 a0_2 a0_3 = some (r0) ∧ r = S.v (.c (.d (.int .i64 r0))) ∧ new = []
def F47 : List (Nat × Ct) := [(53, R53)]
def P47 : List (Nat × List (List Nat) × Plan) := []
def G47 : Cx := cx ty F47 P47 false []
def R48 : Ct := fun ss r new => ∃ k a0_0 a0_1 a0_2 a0_3 a1 r0 r1, ss = [S.v (.ag [.d (.int .u64 a0_0), .d (.int .u64 a0_1), .d (.int .i64 a0_2), .d (.bool a0_3)]), S.v (.c (.d (.int .i64 a1)))] ∧ float_exact_right.f k a0_0 a0_1 a0_2 a0_3 a1 = some (r0, r1) ∧ r = S.tup [.c (.d (.int .u64 r0)), .c (.d (.int .i64 r1))] ∧ new = []
def F48 : List (Nat × Ct) := []
def P48 : List (Nat × List (List Nat) × Plan) := [(1, [[], [0], [], [2], [0, 1], [0, 1, 2, 3, 4]], .look 0 (.look 1 (.look 2 (.look 3 (.look 4 (.look 5 .done)))))), (2, [[], [0], [], [0, 1, 2]], .look 0 (.look 1 (.look 2 (.look 3 .done))))]
def G48 : Cx := cx ty F48 P48 false []
def R49 : Ct := fun ss r new => ∃ a0 a1 a2 a3 r0, ss = [S.v (.c (.d (.int .i64 a0))), S.v (.c (.d (.int .i64 a1))), S.v (.c (.d (.bool a2))), S.v (.c (.d (.int .i64 a3)))] ∧ float_away.f a0 a1 a2 a3 = some (r0) ∧ r = S.v (.c (.d (.bool r0))) ∧ new = []
def F49 : List (Nat × Ct) := []
def P49 : List (Nat × List (List Nat) × Plan) := []
def G49 : Cx := cx ty F49 P49 false []
def R50 : Ct := fun ss r new => ∃ a0_0 a0_1 a1 r0, ss = [S.v (.ag [.d (.int .i64 a0_0), .d (.int .i64 a0_1)]), S.v (.c (.d (.int .i64 a1)))] ∧ float_shape_greatest.f a0_0 a0_1 a1 = some (r0) ∧ r = S.v (.c (.d (.int .i64 r0))) ∧ new = []
def F50 : List (Nat × Ct) := [(43, R43), (46, R46)]
def P50 : List (Nat × List (List Nat) × Plan) := [(1, [[], [], [], [2], [2, 3], [], [5], [5, 6], [5, 6, 7], [5, 6, 7, 8], [0, 1, 2, 3, 4, 5, 6, 7, 8, 9], [0, 1, 2, 3, 4, 5, 6, 7, 8, 9, 10]], .look 0 (.look 1 (.look 2 (.look 5 (.look 6 (.look 7 (.look 8 (.look 9 (.act 3 [0, 1, 5, 6, 7, 8, 9] (.look 4 (.act 10 [] (.look 11 .done) .stop)) .stop)))))))))]
def G50 : Cx := cx ty F50 P50 false []
def R34 : Ct := fun ss r new => ∃ k a0_0 a0_1 a1 a2 a3_0 a3_1 a3_2 a3_3 r0 r1, ss = [S.v (.ag [.d (.int .i64 a0_0), .d (.int .i64 a0_1)]), S.v (.c (.d (.int .i64 a1))), S.v (.c (.d (.int .i64 a2))), S.v (.ag [.d (.int .u64 a3_0), .d (.int .u64 a3_1), .d (.int .i64 a3_2), .d (.bool a3_3)])] ∧ float_shape_round.f k a0_0 a0_1 a1 a2 a3_0 a3_1 a3_2 a3_3 = some (r0, r1) ∧ r = S.tup [.c (.d (.int .i64 r0)), .c (.d (.int .i64 r1))] ∧ new = []
def F34 : List (Nat × Ct) := [(36, R36), (43, R43), (44, R44), (45, R45), (46, R46), (47, R47), (48, R48), (49, R49), (50, R50)]
def P34 : List (Nat × List (List Nat) × Plan) := [(1, [[], [0], [], [2], [0, 1, 2, 3], [0, 1, 2, 3, 4], [0, 1, 2, 3, 4, 5]], .look 0 (.look 1 (.look 2 (.act 3 [0, 1] (.look 4 (.look 5 (.look 6 .done))) .stop)))), (2, [[], [], [1], [0, 1, 2], [0, 1, 2, 3], [], [5], [0, 1, 2, 3, 4, 5, 6], [0, 1, 2, 3, 4, 5, 6, 7]], .look 0 (.look 1 (.look 2 (.look 3 (.look 4 (.look 5 (.act 6 [0, 1, 2, 3, 4] (.look 7 (.look 8 .done)) .stop))))))), (10, [[], [], [1], [], [3], [1, 2, 3, 4], [1, 2, 3, 4, 5], [0, 1, 2, 3, 4, 5, 6]], .look 0 (.look 1 (.look 3 (.look 4 (.act 2 [0, 3, 4] (.look 5 (.look 6 (.look 7 .done))) .stop))))), (19, [[], [], [1], [0, 1, 2], [0, 1, 2, 3], [], [5], [0, 1, 2, 3, 4, 5, 6], [0, 1, 2, 3, 4, 5, 6, 7]], .look 0 (.look 1 (.look 2 (.look 3 (.look 4 (.look 5 (.act 6 [0, 1, 2, 3, 4] (.look 7 (.look 8 .done)) .stop))))))), (21, [[], [], [], [2], [], [], [5], [5, 6], [5, 6, 7], [5, 6, 7, 8], [4, 5, 6, 7, 8, 9], [0, 1, 2, 3, 4, 5, 6, 7, 8, 9, 10], [], [0, 1, 2, 3, 4, 5, 6, 7, 8, 9, 10, 11], [0, 1, 2, 3, 4, 5, 6, 7, 8, 9, 10, 11, 12, 13]], .look 0 (.look 1 (.look 2 (.look 3 (.look 4 (.look 5 (.look 6 (.look 7 (.look 8 (.look 9 (.look 10 (.look 12 (.act 11 [12] (.look 13 (.look 14 .done)) .stop)))))))))))))]
def G34 : Cx := cx ty F34 P34 false [8, 12, 14, 17]
def R51 : Ct := fun ss r new => ∃ a0_0 a0_1 a1 r0, ss = [S.v (.ag [.d (.int .i64 a0_0), .d (.int .i64 a0_1)]), S.v (.c (.d (.int .i64 a1)))] ∧ float_shape_none.f a0_0 a0_1 a1 = some (r0) ∧ r = S.v (.c (.d (.int .i64 r0))) ∧ new = []
def F51 : List (Nat × Ct) := [(33, R33)]
def P51 : List (Nat × List (List Nat) × Plan) := []
def G51 : Cx := cx ty F51 P51 false []
def R54 : Ct := fun ss r new => ∃ a0 a1 r0 r1, ss = [S.v (.c (.d (.int .u64 a0))), S.v (.c (.d (.int .i64 a1)))] ∧ float_left.f a0 a1 = some (r0, r1) ∧ r = S.tup [.c (.d (.int .u64 r0)), .c (.d (.int .u64 r1))] ∧ new = []
def F54 : List (Nat × Ct) := []
def P54 : List (Nat × List (List Nat) × Plan) := [(3, [[], [], [1], [0, 1, 2], [], [], [4, 5], [0, 1, 2, 3], [0, 1, 2, 3, 4, 5, 6, 7]], .look 0 (.look 1 (.look 2 (.look 3 (.look 4 (.look 5 (.look 6 (.look 7 (.look 8 .done)))))))))]
def G54 : Cx := cx ty F54 P54 false []
def R55 : Ct := fun ss r new => ∃ x y c, ss = [S.v (.c (.d (.int .u64 x))), S.v (.c (.d (.int .u64 y))), S.v (.c (.d (.int .u64 c)))] ∧ 0 ≤ c ∧ c ≤ 1 ∧ r = S.tup [.c (.d (.int .u64 (addS x y c))), .c (.d (.int .u64 (addC x y c)))] ∧ new = []
theorem ok55 : VSound Tryd.prog (55, R55) := by
  refine .inr fun X w args ss r new hG hX ha hR => ?_
  obtain ⟨x, y, c, rfl, h0, h1, rfl, rfl⟩ := hR
  obtain ⟨l⟩ := args
  cases ha with
  | cons g1 ha =>
  cases ha with
  | cons g2 ha =>
  cases ha with
  | cons g3 ha =>
  cases ha
  rw [sdi_inv g1, sdi_inv g2, sdi_inv g3]
  exact ⟨_, [], _, run_addS x y c h0 h1 w, ⟨#[_, _], rfl, .cons (sdi _ _) (.cons (sdi _ _) .nil)⟩, HpRel_nil X _, Nat.le_refl _, Str.refl _, fun _ _ => rfl, fun b ⟨_, _, _, h, _⟩ => by simp at h⟩
def R56 : Ct := fun ss r new => ∃ x y c, ss = [S.v (.c (.d (.int .u64 x))), S.v (.c (.d (.int .u64 y))), S.v (.c (.d (.int .u64 c)))] ∧ 0 ≤ c ∧ c ≤ 1 ∧ r = S.tup [.c (.d (.int .u64 (subS x y c))), .c (.d (.int .u64 (subB x y c)))] ∧ new = []
theorem ok56 : VSound Tryd.prog (56, R56) := by
  refine .inr fun X w args ss r new hG hX ha hR => ?_
  obtain ⟨x, y, c, rfl, h0, h1, rfl, rfl⟩ := hR
  obtain ⟨l⟩ := args
  cases ha with
  | cons g1 ha =>
  cases ha with
  | cons g2 ha =>
  cases ha with
  | cons g3 ha =>
  cases ha
  rw [sdi_inv g1, sdi_inv g2, sdi_inv g3]
  exact ⟨_, [], _, run_subS x y c h0 h1 w, ⟨#[_, _], rfl, .cons (sdi _ _) (.cons (sdi _ _) .nil)⟩, HpRel_nil X _, Nat.le_refl _, Str.refl _, fun _ _ => rfl, fun b ⟨_, _, _, h, _⟩ => by simp at h⟩
def R52 : Ct := fun ss r new => ∃ k a0_0 a0_1 a1 a2_0 a2_1 a2_2 a2_3 a3_0 a3_1 a3_2 a3_3 r0 r1, ss = [S.v (.ag [.d (.int .i64 a0_0), .d (.int .i64 a0_1)]), S.v (.c (.d (.int .i64 a1))), S.v (.ag [.d (.int .i64 a2_0), .d (.int .i64 a2_1), .d (.int .u64 a2_2), .d (.int .i64 a2_3)]), S.v (.ag [.d (.int .i64 a3_0), .d (.int .i64 a3_1), .d (.int .u64 a3_2), .d (.int .i64 a3_3)])] ∧ float_shape_sum.f k a0_0 a0_1 a1 a2_0 a2_1 a2_2 a2_3 a3_0 a3_1 a3_2 a3_3 = some (r0, r1) ∧ r = S.tup [.c (.d (.int .i64 r0)), .c (.d (.int .i64 r1))] ∧ new = []
def F52 : List (Nat × Ct) := [(34, R34), (51, R51), (54, R54), (55, R55), (56, R56)]
def P52 : List (Nat × List (List Nat) × Plan) := []
def G52 : Cx := cx ty F52 P52 false [5, 10, 17, 24]
def R42 : Ct := fun ss r new => ∃ k a0_0 a0_1 a1 a2_0 a2_1 a2_2 a2_3 a3_0 a3_1 a3_2 a3_3 r0 r1, ss = [S.v (.ag [.d (.int .i64 a0_0), .d (.int .i64 a0_1)]), S.v (.c (.d (.int .i64 a1))), S.v (.ag [.d (.int .i64 a2_0), .d (.int .i64 a2_1), .d (.int .u64 a2_2), .d (.int .i64 a2_3)]), S.v (.ag [.d (.int .i64 a3_0), .d (.int .i64 a3_1), .d (.int .u64 a3_2), .d (.int .i64 a3_3)])] ∧ float_shape_add.f k a0_0 a0_1 a1 a2_0 a2_1 a2_2 a2_3 a3_0 a3_1 a3_2 a3_3 = some (r0, r1) ∧ r = S.tup [.c (.d (.int .i64 r0)), .c (.d (.int .i64 r1))] ∧ new = []
def F42 : List (Nat × Ct) := [(33, R33), (34, R34), (35, R35), (36, R36), (51, R51), (52, R52)]
def P42 : List (Nat × List (List Nat) × Plan) := []
def G42 : Cx := cx ty F42 P42 false []
def R30 : Ct := fun ss r new => ∃ k a0 a1 a2 a3 r0 r1 r2, ss = [S.v (.c (.d (.int .i64 a0))), S.v (.c (.d (.int .i64 a1))), S.v (.c (.d (.int .i64 a2))), S.v (.c (.d (.int .i64 a3)))] ∧ float_Add.f k a0 a1 a2 a3 = some (r0, r1, r2) ∧ r = S.tup [.c (.d (.int .i64 r0)), .c (.d (.int .i64 r1)), .c (.d (.int .i64 r2))] ∧ new = []
def F30 : List (Nat × Ct) := [(17, R17), (42, R42)]
def P30 : List (Nat × List (List Nat) × Plan) := []
def G30 : Cx := cx ty F30 P30 false []
def R13 : Ct := fun ss r new => ∃ k r0, ss = [] ∧ quadratlaw01_Awake.f k = some (r0) ∧ r = S.v (.c (.d (.bool r0))) ∧ new = []
def F13 : List (Nat × Ct) := [(11, R11), (30, R30)]
def P13 : List (Nat × List (List Nat) × Plan) := []
def G13 : Cx := cx ty F13 P13 false []
def R3 : Ct := fun ss r new => ∃ k a0 a1 r0, ss = [S.v (.c (.d (.int .i64 a0))), S.v (.c (.d (.int .i64 a1)))] ∧ quadratlaw01_FloatParts.f k a0 a1 = some (r0) ∧ r = S.v (.c (.d (.bool r0))) ∧ new = []
def F3 : List (Nat × Ct) := [(5, R5), (6, R6), (7, R7), (8, R8), (9, R9), (10, R10), (11, R11), (12, R12), (13, R13)]
def P3 : List (Nat × List (List Nat) × Plan) := []
def G3 : Cx := cx ty F3 P3 false []
end Go.Proofs.YtgpnmifejgdipaaDoor.Fx
