/-
  What bodies come to, told over typed data, printed by wp.py.
-/
import Derived.Test.YtfhgjhchjekbgaaGC
import Derived.KernelRfl
set_option linter.unusedVariables false
set_option linter.unusedSimpArgs false
set_option maxHeartbeats 4000000
namespace Go.Proofs.Ytfhgjhchjekbgaa
open Go

def ac_spec_l8Step : AC :=
  .seq (.reg false [
    { dst := some 2, k := .mv (.c (.bool false)) }])
  (.seq (.reg true [
    { dst := some 5, k := .mv (.t 0) },
    { dst := some 6, k := .nc (.t 5) },
    { dst := some 7, k := .fa (.t 6) 2 },
    { dst := some 8, k := .ld (.t 7) 1 false, vb := .only [0] },
    { dst := some 9, k := .mv (.t 0) },
    { dst := some 10, k := .nc (.t 9) },
    { dst := some 11, k := .fa (.t 10) 0 },
    { dst := some 12, k := .ld (.t 11) 1 false, vb := .only [0] },
    { dst := some 13, k := .ia (.t 12) (.c (.int .i64 (0))) 4 },
    { dst := some 14, k := .ld (.t 13) 4 true, vb := .only [] },
    { dst := some 15, k := .call 46 [(.t 8, .fz), (.t 14, .fz)], vb := .but [3], vl := .but [3] },
    { dst := some 3, k := .al [.p (.int .i64 0), .p (.int .i64 0), .p (.str []), .p (.slice [])] },
    { dst := none, k := .st (.t 3) (.t 15) 4 3, vb := .only [3] }])
  (.wk (.seq (.reg true [
    { dst := some 16, k := .mv (.t 0) },
    { dst := some 17, k := .nc (.t 16) },
    { dst := some 18, k := .fa (.t 17) 2 },
    { dst := some 19, k := .ld (.t 18) 1 false, vb := .only [0] },
    { dst := some 20, k := .mv (.t 0) },
    { dst := some 21, k := .nc (.t 20) },
    { dst := some 22, k := .fa (.t 21) 1 },
    { dst := some 23, k := .ld (.t 22) 1 false, vb := .only [0] },
    { dst := some 24, k := .ia (.t 23) (.c (.int .i64 (0))) 4 },
    { dst := some 25, k := .ld (.t 24) 4 true, vb := .only [] },
    { dst := some 26, k := .call 46 [(.t 19, .fz), (.t 25, .fz)], vb := .but [4], vl := .but [4] },
    { dst := some 4, k := .al [.p (.int .i64 0), .p (.int .i64 0), .p (.str []), .p (.slice [])] },
    { dst := none, k := .st (.t 4) (.t 26) 4 4, vb := .only [4] }])
  (.wk (.seq (.reg false [
    { dst := some 27, k := .mv (.t 0) },
    { dst := some 28, k := .mv (.t 0) },
    { dst := some 29, k := .nc (.t 28) },
    { dst := some 30, k := .fa (.t 29) 0 },
    { dst := some 31, k := .ld (.t 30) 1 false },
    { dst := some 32, k := .sl (.t 31) (some (.c (.int .i64 (1)))) none 4 },
    { dst := some 33, k := .nc (.t 27) },
    { dst := some 34, k := .fa (.t 33) 0 },
    { dst := none, k := .st (.t 34) (.t 32) 1 0 }])
  (.wk (.seq (.reg false [
    { dst := some 35, k := .mv (.t 0) },
    { dst := some 36, k := .mv (.t 0) },
    { dst := some 37, k := .nc (.t 36) },
    { dst := some 38, k := .fa (.t 37) 1 },
    { dst := some 39, k := .ld (.t 38) 1 false },
    { dst := some 40, k := .sl (.t 39) (some (.c (.int .i64 (1)))) none 4 },
    { dst := some 41, k := .nc (.t 35) },
    { dst := some 42, k := .fa (.t 41) 1 },
    { dst := none, k := .st (.t 42) (.t 40) 1 0 }])
  (.wk (.seq (.block 0 (.seq (.reg false [
      { dst := some 44, k := .ld (.t 3) 4 true },
      { dst := some 45, k := .ld (.t 4) 4 true },
      { dst := some 46, k := .call 13 [(.t 44, .fz), (.t 45, .fz)] },
      { dst := some 43, k := .mv (.t 46) }])
    (.wk (.cond (.t 43) (.seq (.reg false [
        { dst := some 2, k := .mv (.c (.bool true)) }])
      (.ret))
    (.seq (.reg false [
        { dst := some 48, k := .fa (.t 3) 0 },
        { dst := some 49, k := .ld (.t 48) 1 false },
        { dst := some 50, k := .bin .eql (.t 49) (.c (.int .i64 (1))) },
        { dst := some 47, k := .mv (.t 50) }])
      (.wk (.cond (.t 47) (.seq (.reg false [
          { dst := some 51, k := .mv (.t 0) },
          { dst := some 52, k := .fa (.t 3) 2 },
          { dst := some 53, k := .ld (.t 52) 1 false },
          { dst := some 54, k := .ld (.t 4) 4 true },
          { dst := some 55, k := .call 78 [(.t 51, .io [false, false, false]), (.t 53, .fz), (.t 54, .fz)] },
          { dst := some 2, k := .mv (.t 55) }])
        (.ret))
      (.seq (.reg false [
          { dst := some 57, k := .fa (.t 4) 0 },
          { dst := some 58, k := .ld (.t 57) 1 false },
          { dst := some 59, k := .bin .eql (.t 58) (.c (.int .i64 (1))) },
          { dst := some 56, k := .mv (.t 59) }])
        (.wk (.cond (.t 56) (.seq (.reg false [
            { dst := some 60, k := .mv (.t 0) },
            { dst := some 61, k := .fa (.t 4) 2 },
            { dst := some 62, k := .ld (.t 61) 1 false },
            { dst := some 63, k := .ld (.t 3) 4 true },
            { dst := some 64, k := .call 78 [(.t 60, .io [false, false, false]), (.t 62, .fz), (.t 63, .fz)] },
            { dst := some 2, k := .mv (.t 64) }])
          (.ret))
        (.skip)))))))))))
  (.wk (.seq (.seq (.reg false [
    { dst := some 65, k := .fa (.t 3) 0 },
    { dst := some 66, k := .ld (.t 65) 1 false },
    { dst := some 67, k := .bin .neq (.t 66) (.c (.int .i64 (2))) },
    { dst := some 68, k := .mv (.t 67) },
    { dst := some 69, k := .fa (.t 4) 0, g := some (68, false) },
    { dst := some 70, k := .ld (.t 69) 1 false, g := some (68, false) },
    { dst := some 71, k := .bin .neq (.t 70) (.c (.int .i64 (2))), g := some (68, false) },
    { dst := some 72, k := .pick (.t 68) (.c (.bool true)) (.t 71) },
    { dst := some 73, k := .mv (.t 72) },
    { dst := some 74, k := .fa (.t 3) 2, g := some (73, false) },
    { dst := some 75, k := .ld (.t 74) 1 false, g := some (73, false) },
    { dst := some 76, k := .fa (.t 4) 2, g := some (73, false) },
    { dst := some 77, k := .ld (.t 76) 1 false, g := some (73, false) },
    { dst := some 78, k := .bin .neq (.t 75) (.t 77), g := some (73, false) },
    { dst := some 79, k := .pick (.t 73) (.c (.bool true)) (.t 78) },
    { dst := some 80, k := .mv (.t 79) },
    { dst := some 81, k := .fa (.t 3) 3, g := some (80, false) },
    { dst := some 82, k := .ld (.t 81) 1 false, g := some (80, false) },
    { dst := some 83, k := .len (.t 82), g := some (80, false) },
    { dst := some 84, k := .fa (.t 4) 3, g := some (80, false) },
    { dst := some 85, k := .ld (.t 84) 1 false, g := some (80, false) },
    { dst := some 86, k := .len (.t 85), g := some (80, false) },
    { dst := some 87, k := .bin .neq (.t 83) (.t 86), g := some (80, false) },
    { dst := some 88, k := .pick (.t 80) (.c (.bool true)) (.t 87) }])
  (.cond (.t 88) (.seq (.reg false [
      { dst := some 2, k := .mv (.c (.bool false)) }])
    (.ret))
  (.skip)))
  (.wk (.seq (.reg true [
    { dst := some 89, k := .mv (.t 0) },
    { dst := some 90, k := .bs 4 [] },
    { dst := some 91, k := .fa (.t 3) 3 },
    { dst := some 92, k := .ld (.t 91) 1 false, vb := .only [3] },
    { dst := some 93, k := .app (.t 90) (.t 92) 4 56 },
    { dst := some 94, k := .mv (.t 0) },
    { dst := some 95, k := .nc (.t 94) },
    { dst := some 96, k := .fa (.t 95) 0 },
    { dst := some 97, k := .ld (.t 96) 1 false, vb := .only [0] },
    { dst := some 98, k := .app (.t 93) (.t 97) 4 56 },
    { dst := some 99, k := .nc (.t 89) },
    { dst := some 100, k := .fa (.t 99) 0 },
    { dst := none, k := .st (.t 100) (.t 98) 1 0, vb := .only [0] }])
  (.wk (.seq (.reg true [
    { dst := some 101, k := .mv (.t 0) },
    { dst := some 102, k := .bs 4 [] },
    { dst := some 103, k := .fa (.t 4) 3 },
    { dst := some 104, k := .ld (.t 103) 1 false, vb := .only [4] },
    { dst := some 105, k := .app (.t 102) (.t 104) 4 56 },
    { dst := some 106, k := .mv (.t 0) },
    { dst := some 107, k := .nc (.t 106) },
    { dst := some 108, k := .fa (.t 107) 1 },
    { dst := some 109, k := .ld (.t 108) 1 false, vb := .only [0] },
    { dst := some 110, k := .app (.t 105) (.t 109) 4 56 },
    { dst := some 111, k := .nc (.t 101) },
    { dst := some 112, k := .fa (.t 111) 1 },
    { dst := none, k := .st (.t 112) (.t 110) 1 0, vb := .only [0] }])
  (.seq (.reg false [
    { dst := some 2, k := .mv (.c (.bool true)) }])
  (.ret)))))))))))))))))
theorem chk_spec_l8Step : fnOK Try.prog 1 Try.f60 ac_spec_l8Step [(.tmp 2, .fz)] = true := by kernel_rfl
def wp_spec_l8Step (p0 : T_spec_l8Equations) (post : (Bool × T_spec_l8Equations) → Prop) : Prop :=
  (∃ u1, GETI (T_spec_l8Equations.left_ p0) (0 : Int) u1 ∧ (∃ r3 : Tm, C_spec_ApplySubst (T_spec_l8Equations.subst p0) u1 r3 ∧ (∃ u5, GETI (T_spec_l8Equations.right_ p0) (0 : Int) u5 ∧ (∃ r7 : Tm, C_spec_ApplySubst (T_spec_l8Equations.subst p0) u5 r7 ∧ (SUB ((List.length (T_spec_l8Equations.left_ p0) : Nat) : Int) (1 : Int) ((List.length (T_spec_l8Equations.left_ p0) : Nat) : Int) ∧ (SUB ((List.length (T_spec_l8Equations.right_ p0) : Nat) : Int) (1 : Int) ((List.length (T_spec_l8Equations.right_ p0) : Nat) : Int) ∧ (∃ r11 : Bool, C_spec_EqualTerm r3 r7 r11 ∧ ((r11 = true → post (true, (T_spec_l8Equations.mk (List.drop (Int.toNat (1 : Int)) (List.take (List.length (T_spec_l8Equations.left_ p0)) (T_spec_l8Equations.left_ p0))) (List.drop (Int.toNat (1 : Int)) (List.take (List.length (T_spec_l8Equations.right_ p0)) (T_spec_l8Equations.right_ p0))) (T_spec_l8Equations.subst p0)))) ∧ (r11 = false → ((((Tm.kind r3) == (1 : Int)) = true → (∃ r15 : Bool × T_spec_l8Equations, C_spec_l8Bind (T_spec_l8Equations.mk (List.drop (Int.toNat (1 : Int)) (List.take (List.length (T_spec_l8Equations.left_ p0)) (T_spec_l8Equations.left_ p0))) (List.drop (Int.toNat (1 : Int)) (List.take (List.length (T_spec_l8Equations.right_ p0)) (T_spec_l8Equations.right_ p0))) (T_spec_l8Equations.subst p0)) (Tm.name r3) r7 r15 ∧ post (r15.1, r15.2))) ∧ (((Tm.kind r3) == (1 : Int)) = false → ((((Tm.kind r7) == (1 : Int)) = true → (∃ r18 : Bool × T_spec_l8Equations, C_spec_l8Bind (T_spec_l8Equations.mk (List.drop (Int.toNat (1 : Int)) (List.take (List.length (T_spec_l8Equations.left_ p0)) (T_spec_l8Equations.left_ p0))) (List.drop (Int.toNat (1 : Int)) (List.take (List.length (T_spec_l8Equations.right_ p0)) (T_spec_l8Equations.right_ p0))) (T_spec_l8Equations.subst p0)) (Tm.name r7) r3 r18 ∧ post (r18.1, r18.2))) ∧ (((Tm.kind r7) == (1 : Int)) = false → ((((Tm.kind r3) != (2 : Int)) = true → post (false, (T_spec_l8Equations.mk (List.drop (Int.toNat (1 : Int)) (List.take (List.length (T_spec_l8Equations.left_ p0)) (T_spec_l8Equations.left_ p0))) (List.drop (Int.toNat (1 : Int)) (List.take (List.length (T_spec_l8Equations.right_ p0)) (T_spec_l8Equations.right_ p0))) (T_spec_l8Equations.subst p0)))) ∧ (((Tm.kind r3) != (2 : Int)) = false → ((((Tm.kind r7) != (2 : Int)) = true → post (false, (T_spec_l8Equations.mk (List.drop (Int.toNat (1 : Int)) (List.take (List.length (T_spec_l8Equations.left_ p0)) (T_spec_l8Equations.left_ p0))) (List.drop (Int.toNat (1 : Int)) (List.take (List.length (T_spec_l8Equations.right_ p0)) (T_spec_l8Equations.right_ p0))) (T_spec_l8Equations.subst p0)))) ∧ (((Tm.kind r7) != (2 : Int)) = false → (((!((Tm.name r3) == (Tm.name r7))) = true → post (false, (T_spec_l8Equations.mk (List.drop (Int.toNat (1 : Int)) (List.take (List.length (T_spec_l8Equations.left_ p0)) (T_spec_l8Equations.left_ p0))) (List.drop (Int.toNat (1 : Int)) (List.take (List.length (T_spec_l8Equations.right_ p0)) (T_spec_l8Equations.right_ p0))) (T_spec_l8Equations.subst p0)))) ∧ ((!((Tm.name r3) == (Tm.name r7))) = false → (((((List.length (Tm.args r3) : Nat) : Int) != ((List.length (Tm.args r7) : Nat) : Int)) = true → post (false, (T_spec_l8Equations.mk (List.drop (Int.toNat (1 : Int)) (List.take (List.length (T_spec_l8Equations.left_ p0)) (T_spec_l8Equations.left_ p0))) (List.drop (Int.toNat (1 : Int)) (List.take (List.length (T_spec_l8Equations.right_ p0)) (T_spec_l8Equations.right_ p0))) (T_spec_l8Equations.subst p0)))) ∧ ((((List.length (Tm.args r3) : Nat) : Int) != ((List.length (Tm.args r7) : Nat) : Int)) = false → ((List.length ([] : List Tm) + List.length (Tm.args r3)) * 56 ≤ 140737488355328 ∧ ((List.length (([] : List Tm) ++ (Tm.args r3)) + List.length (List.drop (Int.toNat (1 : Int)) (List.take (List.length (T_spec_l8Equations.left_ p0)) (T_spec_l8Equations.left_ p0)))) * 56 ≤ 140737488355328 ∧ ((List.length ([] : List Tm) + List.length (Tm.args r7)) * 56 ≤ 140737488355328 ∧ ((List.length (([] : List Tm) ++ (Tm.args r7)) + List.length (List.drop (Int.toNat (1 : Int)) (List.take (List.length (T_spec_l8Equations.right_ p0)) (T_spec_l8Equations.right_ p0)))) * 56 ≤ 140737488355328 ∧ post (true, (T_spec_l8Equations.mk ((([] : List Tm) ++ (Tm.args r3)) ++ (List.drop (Int.toNat (1 : Int)) (List.take (List.length (T_spec_l8Equations.left_ p0)) (T_spec_l8Equations.left_ p0)))) ((([] : List Tm) ++ (Tm.args r7)) ++ (List.drop (Int.toNat (1 : Int)) (List.take (List.length (T_spec_l8Equations.right_ p0)) (T_spec_l8Equations.right_ p0)))) (T_spec_l8Equations.subst p0))))))))))))))))))))))))))))
theorem w_spec_l8Step (p0 : T_spec_l8Equations) (post : (Bool × T_spec_l8Equations) → Prop) (h : wp_spec_l8Step p0 post) : ∃ r, post r ∧ C_spec_l8Step p0 r := by
  unfold wp_spec_l8Step at h
  refine evs_of (encR := fun r : Bool × T_spec_l8Equations => .one (.l (.fz (.bool r.1)))) (encO := fun r => [.ptr [.fz (.slice (Tm.encL (T_spec_l8Equations.left_ r.2))), .fz (.slice (Tm.encL (T_spec_l8Equations.right_ r.2))), .fz (.slice (e_Bd (T_spec_l8Equations.subst r.2)))]]) 1 [(.tmp 2, .fz)] [.io [false, false, false]] Try.func60 chk_spec_l8Step rfl rfl [(0, .ptr 0 0)] [(0, [pL (Tm.encL (T_spec_l8Equations.left_ p0)), pL (Tm.encL (T_spec_l8Equations.right_ p0)), pL (e_Bd (T_spec_l8Equations.subst p0))])] [] rfl ?_
  refine aw_seq (s_reg ?_)
  refine s_run 1 [(2, pB false)] [] [] rfl ?_
  refine seq_n (aw_seq (s_reg ?_))
  refine s_run 8 [(12, pL (Tm.encL (T_spec_l8Equations.left_ p0))), (11, .ptr 0 0), (10, .ptr 0 0), (9, .ptr 0 0), (8, pL (e_Bd (T_spec_l8Equations.subst p0))), (7, .ptr 0 2), (6, .ptr 0 0), (5, .ptr 0 0)] [] [] rfl ?_
  obtain ⟨u1, ⟨g2a, g2b⟩, h⟩ := h
  refine s_ia rfl rfl g2a (enc_get (e := Tm.encL) g2b) rfl ?_
  refine s_run 1 [(14, .p (.agg (Tm.cells u1)))] [] [] rfl ?_
  obtain ⟨r3, k4, h⟩ := h
  refine s_call (.p (.agg (Tm.cells r3))) [] [] rfl k4 rfl ?_
  refine s_run 2 [(3, .ptr 3 0)] [(3, [pI (Tm.kind r3), pI (Tm.n r3), pS (Tm.name r3), pL (Tm.encL (Tm.args r3))]), (3, [pI (0 : Int), pI (0 : Int), pS ([] : Str), pL (Tm.encL ([] : List Tm))])] [] rfl ?_
  refine seq_n (aw_wk (St [(0, .ptr 0 0), (3, .ptr 3 0)] [(0, [pL (Tm.encL (T_spec_l8Equations.left_ p0)), pL (Tm.encL (T_spec_l8Equations.right_ p0)), pL (e_Bd (T_spec_l8Equations.subst p0))]), (3, [pI (Tm.kind r3), pI (Tm.n r3), pS (Tm.name r3), pL (Tm.encL (Tm.args r3))])] []) (wk_St ⟨le_rfl _, le_rfl _, trivial⟩ ⟨box_rfl rfl, box_rfl rfl, trivial⟩ trivial rfl ⟨rfl, trivial⟩ ⟨rfl, trivial⟩) ?_)
  refine aw_seq (s_reg ?_)
  refine s_run 8 [(23, pL (Tm.encL (T_spec_l8Equations.right_ p0))), (22, .ptr 0 1), (21, .ptr 0 0), (20, .ptr 0 0), (19, pL (e_Bd (T_spec_l8Equations.subst p0))), (18, .ptr 0 2), (17, .ptr 0 0), (16, .ptr 0 0)] [] [] rfl ?_
  obtain ⟨u5, ⟨g6a, g6b⟩, h⟩ := h
  refine s_ia rfl rfl g6a (enc_get (e := Tm.encL) g6b) rfl ?_
  refine s_run 1 [(25, .p (.agg (Tm.cells u5)))] [] [] rfl ?_
  obtain ⟨r7, k8, h⟩ := h
  refine s_call (.p (.agg (Tm.cells r7))) [] [] rfl k8 rfl ?_
  refine s_run 2 [(4, .ptr 4 0)] [(4, [pI (Tm.kind r7), pI (Tm.n r7), pS (Tm.name r7), pL (Tm.encL (Tm.args r7))]), (4, [pI (0 : Int), pI (0 : Int), pS ([] : Str), pL (Tm.encL ([] : List Tm))])] [] rfl ?_
  refine seq_n (aw_wk (St [(0, .ptr 0 0), (3, .ptr 3 0), (4, .ptr 4 0)] [(0, [pL (Tm.encL (T_spec_l8Equations.left_ p0)), pL (Tm.encL (T_spec_l8Equations.right_ p0)), pL (e_Bd (T_spec_l8Equations.subst p0))]), (3, [pI (Tm.kind r3), pI (Tm.n r3), pS (Tm.name r3), pL (Tm.encL (Tm.args r3))]), (4, [pI (Tm.kind r7), pI (Tm.n r7), pS (Tm.name r7), pL (Tm.encL (Tm.args r7))])] []) (wk_St ⟨le_rfl _, le_rfl _, le_rfl _, trivial⟩ ⟨box_rfl rfl, box_rfl rfl, box_rfl rfl, trivial⟩ trivial rfl ⟨rfl, trivial⟩ ⟨rfl, trivial⟩) ?_)
  refine aw_seq (s_reg ?_)
  refine s_run 5 [(31, pL (Tm.encL (T_spec_l8Equations.left_ p0))), (30, .ptr 0 0), (29, .ptr 0 0), (28, .ptr 0 0), (27, .ptr 0 0)] [] [] rfl ?_
  obtain ⟨g9, h⟩ := h
  refine s_sl rfl (enc_len (e := Tm.encL) _) (bound_some rfl g9.a) rfl g9.c g9.d (enc_sz (e := Tm.encL) _) (enc_sub (e := Tm.encL) _ _ _) ?_
  refine s_run 3 [(34, .ptr 0 0), (33, .ptr 0 0)] [(0, [pL (Tm.encL (List.drop (Int.toNat (1 : Int)) (List.take (List.length (T_spec_l8Equations.left_ p0)) (T_spec_l8Equations.left_ p0)))), pL (Tm.encL (T_spec_l8Equations.right_ p0)), pL (e_Bd (T_spec_l8Equations.subst p0))])] [] rfl ?_
  refine seq_n (aw_wk (St [(0, .ptr 0 0), (3, .ptr 3 0), (4, .ptr 4 0)] [(0, [pL (Tm.encL (List.drop (Int.toNat (1 : Int)) (List.take (List.length (T_spec_l8Equations.left_ p0)) (T_spec_l8Equations.left_ p0)))), pL (Tm.encL (T_spec_l8Equations.right_ p0)), pL (e_Bd (T_spec_l8Equations.subst p0))]), (3, [pI (Tm.kind r3), pI (Tm.n r3), pS (Tm.name r3), pL (Tm.encL (Tm.args r3))]), (4, [pI (Tm.kind r7), pI (Tm.n r7), pS (Tm.name r7), pL (Tm.encL (Tm.args r7))])] []) (wk_St ⟨le_rfl _, le_rfl _, le_rfl _, trivial⟩ ⟨box_rfl rfl, box_rfl rfl, box_rfl rfl, trivial⟩ trivial rfl ⟨rfl, trivial⟩ ⟨rfl, trivial⟩) ?_)
  refine aw_seq (s_reg ?_)
  refine s_run 5 [(39, pL (Tm.encL (T_spec_l8Equations.right_ p0))), (38, .ptr 0 1), (37, .ptr 0 0), (36, .ptr 0 0), (35, .ptr 0 0)] [] [] rfl ?_
  obtain ⟨g10, h⟩ := h
  refine s_sl rfl (enc_len (e := Tm.encL) _) (bound_some rfl g10.a) rfl g10.c g10.d (enc_sz (e := Tm.encL) _) (enc_sub (e := Tm.encL) _ _ _) ?_
  refine s_run 3 [(42, .ptr 0 1), (41, .ptr 0 0)] [(0, [pL (Tm.encL (List.drop (Int.toNat (1 : Int)) (List.take (List.length (T_spec_l8Equations.left_ p0)) (T_spec_l8Equations.left_ p0)))), pL (Tm.encL (List.drop (Int.toNat (1 : Int)) (List.take (List.length (T_spec_l8Equations.right_ p0)) (T_spec_l8Equations.right_ p0)))), pL (e_Bd (T_spec_l8Equations.subst p0))])] [] rfl ?_
  refine seq_n (aw_wk (St [(0, .ptr 0 0), (3, .ptr 3 0), (4, .ptr 4 0)] [(0, [pL (Tm.encL (List.drop (Int.toNat (1 : Int)) (List.take (List.length (T_spec_l8Equations.left_ p0)) (T_spec_l8Equations.left_ p0)))), pL (Tm.encL (List.drop (Int.toNat (1 : Int)) (List.take (List.length (T_spec_l8Equations.right_ p0)) (T_spec_l8Equations.right_ p0)))), pL (e_Bd (T_spec_l8Equations.subst p0))]), (3, [pI (Tm.kind r3), pI (Tm.n r3), pS (Tm.name r3), pL (Tm.encL (Tm.args r3))]), (4, [pI (Tm.kind r7), pI (Tm.n r7), pS (Tm.name r7), pL (Tm.encL (Tm.args r7))])] []) (wk_St ⟨le_rfl _, le_rfl _, le_rfl _, trivial⟩ ⟨box_rfl rfl, box_rfl rfl, box_rfl rfl, trivial⟩ trivial rfl ⟨rfl, trivial⟩ ⟨rfl, trivial⟩) ?_)
  refine aw_seq (aw_blk (aw_seq (s_reg ?_)))
  refine s_run 2 [(45, .agg [pI (Tm.kind r7), pI (Tm.n r7), pS (Tm.name r7), pL (Tm.encL (Tm.args r7))]), (44, .agg [pI (Tm.kind r3), pI (Tm.n r3), pS (Tm.name r3), pL (Tm.encL (Tm.args r3))])] [] [] rfl ?_
  obtain ⟨r11, k12, h⟩ := h
  refine s_call (pB r11) [] [] rfl k12 rfl ?_
  refine s_run 1 [(43, pB r11)] [] [] rfl ?_
  refine seq_n (aw_wk (St [(0, .ptr 0 0), (3, .ptr 3 0), (4, .ptr 4 0), (43, pB r11)] [(0, [pL (Tm.encL (List.drop (Int.toNat (1 : Int)) (List.take (List.length (T_spec_l8Equations.left_ p0)) (T_spec_l8Equations.left_ p0)))), pL (Tm.encL (List.drop (Int.toNat (1 : Int)) (List.take (List.length (T_spec_l8Equations.right_ p0)) (T_spec_l8Equations.right_ p0)))), pL (e_Bd (T_spec_l8Equations.subst p0))]), (3, [pI (Tm.kind r3), pI (Tm.n r3), pS (Tm.name r3), pL (Tm.encL (Tm.args r3))]), (4, [pI (Tm.kind r7), pI (Tm.n r7), pS (Tm.name r7), pL (Tm.encL (Tm.args r7))])] []) (wk_St ⟨le_rfl _, le_rfl _, le_rfl _, le_rfl _, trivial⟩ ⟨box_rfl rfl, box_rfl rfl, box_rfl rfl, trivial⟩ trivial rfl ⟨rfl, trivial⟩ ⟨rfl, trivial⟩) ?_)
  refine s_if rfl (fun c13 => ?_) (fun c13 => ?_)
  · have h := h.1 c13
    refine aw_seq (s_reg ?_)
    refine s_run 1 [(2, pB true)] [] [] rfl ?_
    refine seq_n (aw_ret ?_)
    exact endp_ret _ h rfl
  · have h := h.2 c13
    refine aw_seq (s_reg ?_)
    refine s_run 4 [(47, pB ((Tm.kind r3) == (1 : Int))), (50, pB ((Tm.kind r3) == (1 : Int))), (49, pI (Tm.kind r3)), (48, .ptr 3 0)] [] [] rfl ?_
    refine seq_n (aw_wk (St [(0, .ptr 0 0), (3, .ptr 3 0), (4, .ptr 4 0), (47, pB ((Tm.kind r3) == (1 : Int)))] [(0, [pL (Tm.encL (List.drop (Int.toNat (1 : Int)) (List.take (List.length (T_spec_l8Equations.left_ p0)) (T_spec_l8Equations.left_ p0)))), pL (Tm.encL (List.drop (Int.toNat (1 : Int)) (List.take (List.length (T_spec_l8Equations.right_ p0)) (T_spec_l8Equations.right_ p0)))), pL (e_Bd (T_spec_l8Equations.subst p0))]), (3, [pI (Tm.kind r3), pI (Tm.n r3), pS (Tm.name r3), pL (Tm.encL (Tm.args r3))]), (4, [pI (Tm.kind r7), pI (Tm.n r7), pS (Tm.name r7), pL (Tm.encL (Tm.args r7))])] []) (wk_St ⟨le_rfl _, le_rfl _, le_rfl _, le_rfl _, trivial⟩ ⟨box_rfl rfl, box_rfl rfl, box_rfl rfl, trivial⟩ trivial rfl ⟨rfl, trivial⟩ ⟨rfl, trivial⟩) ?_)
    refine s_if rfl (fun c14 => ?_) (fun c14 => ?_)
    · have h := h.1 c14
      refine aw_seq (s_reg ?_)
      refine s_run 4 [(54, .agg [pI (Tm.kind r7), pI (Tm.n r7), pS (Tm.name r7), pL (Tm.encL (Tm.args r7))]), (53, pS (Tm.name r3)), (52, .ptr 3 2), (51, .ptr 0 0)] [] [] rfl ?_
      obtain ⟨r15, k16, h⟩ := h
      refine s_call (pB r15.1) [(0, [pL (Tm.encL (T_spec_l8Equations.left_ r15.2)), pL (Tm.encL (T_spec_l8Equations.right_ r15.2)), pL (e_Bd (T_spec_l8Equations.subst r15.2))])] [] rfl k16 rfl ?_
      refine s_run 1 [(2, pB r15.1)] [] [] rfl ?_
      refine seq_n (aw_ret ?_)
      exact endp_ret _ h rfl
    · have h := h.2 c14
      refine aw_seq (s_reg ?_)
      refine s_run 4 [(56, pB ((Tm.kind r7) == (1 : Int))), (59, pB ((Tm.kind r7) == (1 : Int))), (58, pI (Tm.kind r7)), (57, .ptr 4 0)] [] [] rfl ?_
      refine seq_n (aw_wk (St [(0, .ptr 0 0), (3, .ptr 3 0), (4, .ptr 4 0), (56, pB ((Tm.kind r7) == (1 : Int)))] [(0, [pL (Tm.encL (List.drop (Int.toNat (1 : Int)) (List.take (List.length (T_spec_l8Equations.left_ p0)) (T_spec_l8Equations.left_ p0)))), pL (Tm.encL (List.drop (Int.toNat (1 : Int)) (List.take (List.length (T_spec_l8Equations.right_ p0)) (T_spec_l8Equations.right_ p0)))), pL (e_Bd (T_spec_l8Equations.subst p0))]), (3, [pI (Tm.kind r3), pI (Tm.n r3), pS (Tm.name r3), pL (Tm.encL (Tm.args r3))]), (4, [pI (Tm.kind r7), pI (Tm.n r7), pS (Tm.name r7), pL (Tm.encL (Tm.args r7))])] []) (wk_St ⟨le_rfl _, le_rfl _, le_rfl _, le_rfl _, trivial⟩ ⟨box_rfl rfl, box_rfl rfl, box_rfl rfl, trivial⟩ trivial rfl ⟨rfl, trivial⟩ ⟨rfl, trivial⟩) ?_)
      refine s_if rfl (fun c17 => ?_) (fun c17 => ?_)
      · have h := h.1 c17
        refine aw_seq (s_reg ?_)
        refine s_run 4 [(63, .agg [pI (Tm.kind r3), pI (Tm.n r3), pS (Tm.name r3), pL (Tm.encL (Tm.args r3))]), (62, pS (Tm.name r7)), (61, .ptr 4 2), (60, .ptr 0 0)] [] [] rfl ?_
        obtain ⟨r18, k19, h⟩ := h
        refine s_call (pB r18.1) [(0, [pL (Tm.encL (T_spec_l8Equations.left_ r18.2)), pL (Tm.encL (T_spec_l8Equations.right_ r18.2)), pL (e_Bd (T_spec_l8Equations.subst r18.2))])] [] rfl k19 rfl ?_
        refine s_run 1 [(2, pB r18.1)] [] [] rfl ?_
        refine seq_n (aw_ret ?_)
        exact endp_ret _ h rfl
      · have h := h.2 c17
        refine aw_skip (blk_n (seq_n (aw_wk (St [(0, .ptr 0 0), (3, .ptr 3 0), (4, .ptr 4 0)] [(0, [pL (Tm.encL (List.drop (Int.toNat (1 : Int)) (List.take (List.length (T_spec_l8Equations.left_ p0)) (T_spec_l8Equations.left_ p0)))), pL (Tm.encL (List.drop (Int.toNat (1 : Int)) (List.take (List.length (T_spec_l8Equations.right_ p0)) (T_spec_l8Equations.right_ p0)))), pL (e_Bd (T_spec_l8Equations.subst p0))]), (3, [pI (Tm.kind r3), pI (Tm.n r3), pS (Tm.name r3), pL (Tm.encL (Tm.args r3))]), (4, [pI (Tm.kind r7), pI (Tm.n r7), pS (Tm.name r7), pL (Tm.encL (Tm.args r7))])] []) (wk_St ⟨le_rfl _, le_rfl _, le_rfl _, trivial⟩ ⟨box_rfl rfl, box_rfl rfl, box_rfl rfl, trivial⟩ trivial rfl ⟨rfl, trivial⟩ ⟨rfl, trivial⟩) ?_)))
        refine aw_seq (aw_seq (s_reg ?_))
        refine s_run 4 [(68, pB ((Tm.kind r3) != (2 : Int))), (67, pB ((Tm.kind r3) != (2 : Int))), (66, pI (Tm.kind r3)), (65, .ptr 3 0)] [] [] rfl ?_
        refine s_op_if rfl rfl (fun c20 => ?_) (fun c20 => ?_)
        · have h := h.1 c20
          refine s_run 20 [(88, pB true), (87, .p (.tup [])), (86, .p (.tup [])), (85, .p (.tup [])), (84, .p (.tup [])), (83, .p (.tup [])), (82, .p (.tup [])), (81, .p (.tup [])), (80, pB true), (79, pB true), (78, .p (.tup [])), (77, .p (.tup [])), (76, .p (.tup [])), (75, .p (.tup [])), (74, .p (.tup [])), (73, pB true), (72, pB true), (71, .p (.tup [])), (70, .p (.tup [])), (69, .p (.tup []))] [] [] rfl ?_
          refine seq_n (s_yes rfl (aw_seq (s_reg ?_)))
          refine s_run 1 [(2, pB false)] [] [] rfl ?_
          refine seq_n (aw_ret ?_)
          exact endp_ret _ h rfl
        · have h := h.2 c20
          refine s_run 5 [(73, pB ((Tm.kind r7) != (2 : Int))), (72, pB ((Tm.kind r7) != (2 : Int))), (71, pB ((Tm.kind r7) != (2 : Int))), (70, pI (Tm.kind r7)), (69, .ptr 4 0)] [] [] rfl ?_
          refine s_op_if rfl rfl (fun c21 => ?_) (fun c21 => ?_)
          · have h := h.1 c21
            refine s_run 15 [(88, pB true), (87, .p (.tup [])), (86, .p (.tup [])), (85, .p (.tup [])), (84, .p (.tup [])), (83, .p (.tup [])), (82, .p (.tup [])), (81, .p (.tup [])), (80, pB true), (79, pB true), (78, .p (.tup [])), (77, .p (.tup [])), (76, .p (.tup [])), (75, .p (.tup [])), (74, .p (.tup []))] [] [] rfl ?_
            refine seq_n (s_yes rfl (aw_seq (s_reg ?_)))
            refine s_run 1 [(2, pB false)] [] [] rfl ?_
            refine seq_n (aw_ret ?_)
            exact endp_ret _ h rfl
          · have h := h.2 c21
            refine s_run 7 [(80, pB (!((Tm.name r3) == (Tm.name r7)))), (79, pB (!((Tm.name r3) == (Tm.name r7)))), (78, pB (!((Tm.name r3) == (Tm.name r7)))), (77, pS (Tm.name r7)), (76, .ptr 4 2), (75, pS (Tm.name r3)), (74, .ptr 3 2)] [] [] rfl ?_
            refine s_op_if rfl rfl (fun c22 => ?_) (fun c22 => ?_)
            · have h := h.1 c22
              refine s_run 8 [(88, pB true), (87, .p (.tup [])), (86, .p (.tup [])), (85, .p (.tup [])), (84, .p (.tup [])), (83, .p (.tup [])), (82, .p (.tup [])), (81, .p (.tup []))] [] [] rfl ?_
              refine seq_n (s_yes rfl (aw_seq (s_reg ?_)))
              refine s_run 1 [(2, pB false)] [] [] rfl ?_
              refine seq_n (aw_ret ?_)
              exact endp_ret _ h rfl
            · have h := h.2 c22
              refine s_run 2 [(82, pL (Tm.encL (Tm.args r3))), (81, .ptr 3 3)] [] [] rfl ?_
              refine s_on rfl ?_
              refine s_len rfl (enc_len (e := Tm.encL) _) ?_
              refine s_run 2 [(85, pL (Tm.encL (Tm.args r7))), (84, .ptr 4 3)] [] [] rfl ?_
              refine s_on rfl ?_
              refine s_len rfl (enc_len (e := Tm.encL) _) ?_
              refine s_run 2 [(88, pB (((List.length (Tm.args r3) : Nat) : Int) != ((List.length (Tm.args r7) : Nat) : Int))), (87, pB (((List.length (Tm.args r3) : Nat) : Int) != ((List.length (Tm.args r7) : Nat) : Int)))] [] [] rfl ?_
              refine seq_n (s_if rfl (fun c23 => ?_) (fun c23 => ?_))
              · have h := h.1 c23
                refine aw_seq (s_reg ?_)
                refine s_run 1 [(2, pB false)] [] [] rfl ?_
                refine seq_n (aw_ret ?_)
                exact endp_ret _ h rfl
              · have h := h.2 c23
                refine aw_skip (seq_n (aw_wk (St [(0, .ptr 0 0), (3, .ptr 3 0), (4, .ptr 4 0)] [(0, [pL (Tm.encL (List.drop (Int.toNat (1 : Int)) (List.take (List.length (T_spec_l8Equations.left_ p0)) (T_spec_l8Equations.left_ p0)))), pL (Tm.encL (List.drop (Int.toNat (1 : Int)) (List.take (List.length (T_spec_l8Equations.right_ p0)) (T_spec_l8Equations.right_ p0)))), pL (e_Bd (T_spec_l8Equations.subst p0))]), (3, [pI (Tm.kind r3), pI (Tm.n r3), pS (Tm.name r3), pL (Tm.encL (Tm.args r3))]), (4, [pI (Tm.kind r7), pI (Tm.n r7), pS (Tm.name r7), pL (Tm.encL (Tm.args r7))])] []) (wk_St ⟨le_rfl _, le_rfl _, le_rfl _, trivial⟩ ⟨box_rfl rfl, box_rfl rfl, box_rfl rfl, trivial⟩ trivial rfl ⟨rfl, trivial⟩ ⟨rfl, trivial⟩) ?_))
                refine aw_seq (s_reg ?_)
                refine s_run 1 [(89, .ptr 0 0)] [] [] rfl ?_
                refine s_bs rfl rfl (enc_nil (e := Tm.encL)) ?_
                refine s_run 2 [(92, pL (Tm.encL (Tm.args r3))), (91, .ptr 3 3)] [] [] rfl ?_
                obtain ⟨g24, h⟩ := h
                refine s_app rfl rfl rfl (enc_sz (e := Tm.encL) _) (enc_len (e := Tm.encL) _) (enc_len (e := Tm.encL) _) g24 (enc_app (e := Tm.encL) _ _) ?_
                refine s_run 4 [(97, pL (Tm.encL (List.drop (Int.toNat (1 : Int)) (List.take (List.length (T_spec_l8Equations.left_ p0)) (T_spec_l8Equations.left_ p0))))), (96, .ptr 0 0), (95, .ptr 0 0), (94, .ptr 0 0)] [] [] rfl ?_
                obtain ⟨g25, h⟩ := h
                refine s_app rfl rfl rfl (enc_sz (e := Tm.encL) _) (enc_len (e := Tm.encL) _) (enc_len (e := Tm.encL) _) g25 (enc_app (e := Tm.encL) _ _) ?_
                refine s_run 3 [(100, .ptr 0 0), (99, .ptr 0 0)] [(0, [.tip (0, 90, 0) (0) (Tm.encL ((([] : List Tm) ++ (Tm.args r3)) ++ (List.drop (Int.toNat (1 : Int)) (List.take (List.length (T_spec_l8Equations.left_ p0)) (T_spec_l8Equations.left_ p0))))), pL (Tm.encL (List.drop (Int.toNat (1 : Int)) (List.take (List.length (T_spec_l8Equations.right_ p0)) (T_spec_l8Equations.right_ p0)))), pL (e_Bd (T_spec_l8Equations.subst p0))])] [] rfl ?_
                refine seq_n (aw_wk (St [(0, .ptr 0 0), (4, .ptr 4 0)] [(0, [.tip (0, 90, 0) (0) (Tm.encL ((([] : List Tm) ++ (Tm.args r3)) ++ (List.drop (Int.toNat (1 : Int)) (List.take (List.length (T_spec_l8Equations.left_ p0)) (T_spec_l8Equations.left_ p0))))), pL (Tm.encL (List.drop (Int.toNat (1 : Int)) (List.take (List.length (T_spec_l8Equations.right_ p0)) (T_spec_l8Equations.right_ p0)))), pL (e_Bd (T_spec_l8Equations.subst p0))]), (4, [pI (Tm.kind r7), pI (Tm.n r7), pS (Tm.name r7), pL (Tm.encL (Tm.args r7))])] [((0, 90, 0), 0, .tip (Tm.encL ((([] : List Tm) ++ (Tm.args r3)) ++ (List.drop (Int.toNat (1 : Int)) (List.take (List.length (T_spec_l8Equations.left_ p0)) (T_spec_l8Equations.left_ p0))))).length 4)]) (wk_St ⟨le_rfl _, le_rfl _, trivial⟩ ⟨box_rfl rfl, box_rfl rfl, trivial⟩ ⟨rfl, trivial⟩ rfl ⟨rfl, trivial⟩ ⟨rfl, trivial⟩) ?_)
                refine aw_seq (s_reg ?_)
                refine s_run 1 [(101, .ptr 0 0)] [] [] rfl ?_
                refine s_bs rfl rfl (enc_nil (e := Tm.encL)) ?_
                refine s_run 2 [(104, pL (Tm.encL (Tm.args r7))), (103, .ptr 4 3)] [] [] rfl ?_
                obtain ⟨g26, h⟩ := h
                refine s_app rfl rfl rfl (enc_sz (e := Tm.encL) _) (enc_len (e := Tm.encL) _) (enc_len (e := Tm.encL) _) g26 (enc_app (e := Tm.encL) _ _) ?_
                refine s_run 4 [(109, pL (Tm.encL (List.drop (Int.toNat (1 : Int)) (List.take (List.length (T_spec_l8Equations.right_ p0)) (T_spec_l8Equations.right_ p0))))), (108, .ptr 0 1), (107, .ptr 0 0), (106, .ptr 0 0)] [] [] rfl ?_
                obtain ⟨g27, h⟩ := h
                refine s_app rfl rfl rfl (enc_sz (e := Tm.encL) _) (enc_len (e := Tm.encL) _) (enc_len (e := Tm.encL) _) g27 (enc_app (e := Tm.encL) _ _) ?_
                refine s_run 3 [(112, .ptr 0 1), (111, .ptr 0 0)] [(0, [.tip (0, 90, 0) (0) (Tm.encL ((([] : List Tm) ++ (Tm.args r3)) ++ (List.drop (Int.toNat (1 : Int)) (List.take (List.length (T_spec_l8Equations.left_ p0)) (T_spec_l8Equations.left_ p0))))), .tip (0, 102, 0) (0) (Tm.encL ((([] : List Tm) ++ (Tm.args r7)) ++ (List.drop (Int.toNat (1 : Int)) (List.take (List.length (T_spec_l8Equations.right_ p0)) (T_spec_l8Equations.right_ p0))))), pL (e_Bd (T_spec_l8Equations.subst p0))])] [] rfl ?_
                refine seq_n (aw_seq (s_reg ?_))
                refine s_run 1 [(2, pB true)] [] [] rfl ?_
                refine seq_n (aw_ret ?_)
                exact endp_ret _ h rfl


def ac_spec_SortNames : AC :=
  .seq (.reg false [
    { dst := some 2, k := .asg (.nl 1) }])
  (.seq (.reg false [
    { dst := some 7, k := .bs 1 [] },
    { dst := some 3, k := .asgo (.t 7) }])
  (.seq (.seq (.reg false [
    { dst := some 4, k := .mv (.c (.int .i64 (0))) }])
  (.block 0 (.loop (.seq (.seq (.reg false [
        { dst := some 8, k := .mv (.t 4) },
        { dst := some 9, k := .mv (.t 0) },
        { dst := some 10, k := .len (.t 9) },
        { dst := some 11, k := .bin .lss (.t 8) (.t 10) }])
      (.cond (.t 11) (.skip)
      (.exit 0)))
      (.wk (.seq (.block 1 (.seq (.reg false [
          { dst := some 5, k := .mv (.c (.int .i64 (0))) }])
        (.seq (.block 2 (.loop (.seq (.seq (.reg true [
              { dst := some 14, k := .mv (.t 5) },
              { dst := some 15, k := .mv (.t 3) },
              { dst := some 16, k := .len (.t 15) },
              { dst := some 17, k := .bin .lss (.t 14) (.t 16) },
              { dst := some 18, k := .mv (.t 17) },
              { dst := some 19, k := .mv (.t 3), g := some (18, true) },
              { dst := some 20, k := .mv (.t 5), g := some (18, true) },
              { dst := some 21, k := .ia (.t 19) (.t 20) 1, g := some (18, true) },
              { dst := some 22, k := .ld (.t 21) 1 false, g := some (18, true), vb := .only [] },
              { dst := some 23, k := .mv (.t 0), g := some (18, true) },
              { dst := some 24, k := .mv (.t 4), g := some (18, true) },
              { dst := some 25, k := .ia (.t 23) (.t 24) 1, g := some (18, true) },
              { dst := some 26, k := .ld (.t 25) 1 false, g := some (18, true), vb := .only [] },
              { dst := some 27, k := .bin .lss (.t 22) (.t 26), g := some (18, true) },
              { dst := some 28, k := .pick (.t 18) (.t 27) (.c (.bool false)) }])
            (.cond (.t 28) (.skip)
            (.exit 2)))
            (.wk (.block 3 (.reg false [
                { dst := some 29, k := .mv (.t 5) },
                { dst := some 30, k := .bin .add (.t 29) (.c (.int .i64 (1))) },
                { dst := some 5, k := .mv (.t 30) }]))))))
        (.wk (.seq (.seq (.reg true [
          { dst := some 31, k := .mv (.t 5) },
          { dst := some 32, k := .mv (.t 3) },
          { dst := some 33, k := .len (.t 32) },
          { dst := some 34, k := .bin .lss (.t 31) (.t 33) },
          { dst := some 35, k := .mv (.t 34) },
          { dst := some 36, k := .mv (.t 3), g := some (35, true) },
          { dst := some 37, k := .mv (.t 5), g := some (35, true) },
          { dst := some 38, k := .ia (.t 36) (.t 37) 1, g := some (35, true) },
          { dst := some 39, k := .ld (.t 38) 1 false, g := some (35, true), vb := .only [] },
          { dst := some 40, k := .mv (.t 0), g := some (35, true) },
          { dst := some 41, k := .mv (.t 4), g := some (35, true) },
          { dst := some 42, k := .ia (.t 40) (.t 41) 1, g := some (35, true) },
          { dst := some 43, k := .ld (.t 42) 1 false, g := some (35, true), vb := .only [] },
          { dst := some 44, k := .bin .eql (.t 39) (.t 43), g := some (35, true) },
          { dst := some 45, k := .pick (.t 35) (.t 44) (.c (.bool false)) }])
        (.cond (.t 45) (.exit 1)
        (.skip)))
        (.wk (.seq (.reg false [
          { dst := some 46, k := .bs 1 [] },
          { dst := some 47, k := .mv (.t 3) },
          { dst := some 48, k := .mv (.t 5) },
          { dst := some 49, k := .sl (.t 47) none (some (.t 48)) 1 },
          { dst := some 50, k := .app (.t 46) (.t 49) 1 16 },
          { dst := some 6, k := .asgo (.t 50) }])
        (.wk (.seq (.reg false [
          { dst := some 51, k := .mv (.t 6) },
          { dst := some 52, k := .mv (.t 0) },
          { dst := some 53, k := .mv (.t 4) },
          { dst := some 54, k := .ia (.t 52) (.t 53) 1 },
          { dst := some 55, k := .ld (.t 54) 1 false },
          { dst := some 56, k := .bs 1 [.t 55] },
          { dst := some 57, k := .app (.t 51) (.t 56) 1 16 },
          { dst := some 6, k := .mv (.t 57) }])
        (.wk (.reg false [
          { dst := some 58, k := .mv (.t 6) },
          { dst := some 59, k := .mv (.t 3) },
          { dst := some 60, k := .mv (.t 5) },
          { dst := some 61, k := .sl (.t 59) (some (.t 60)) none 1 },
          { dst := some 62, k := .app (.t 58) (.t 61) 1 16 },
          { dst := some 3, k := .asgo (.t 62) }])))))))))))
      (.wk (.reg false [
        { dst := some 12, k := .mv (.t 4) },
        { dst := some 13, k := .bin .add (.t 12) (.c (.int .i64 (1))) },
        { dst := some 4, k := .mv (.t 13) }]))))))))
  (.seq (.reg false [
    { dst := some 63, k := .mv (.t 3) },
    { dst := some 2, k := .mv (.t 63) }])
  (.ret))))
theorem chk_spec_SortNames : fnOK Try.prog 1 Try.f52 ac_spec_SortNames [(.tmp 2, .ow)] = true := by kernel_rfl
def wp_spec_SortNames (p0 : (List Str)) (post : (List Str) → Prop) : Prop :=
  LOOP (fun (N150 : (Int × (List Str)) → Prop) (s1 : Int × (List Str)) => (((decide (s1.1 < ((List.length p0 : Nat) : Int))) = true → JOIN (fun (N179 : Int → Prop) => LOOP (fun (N218 : Int → Prop) (s205 : Int) => (((decide (s205 < ((List.length s1.2 : Nat) : Int))) = true → (∃ u223, GETI s1.2 s205 u223 ∧ (∃ u225, GETI p0 s1.1 u225 ∧ (((Op.bytesLess u223 u225) = true → N218 (IntKind.i64.wrap (s205 + (1 : Int)))) ∧ ((Op.bytesLess u223 u225) = false → N179 s205))))) ∧ ((decide (s205 < ((List.length s1.2 : Nat) : Int))) = false → N179 s205))) (0 : Int)) (fun (t178 : Int) => JOIN (fun (N189 : Unit → Prop) => (((decide (t178 < ((List.length s1.2 : Nat) : Int))) = true → (∃ u200, GETI s1.2 t178 u200 ∧ (∃ u202, GETI p0 s1.1 u202 ∧ (((u200 == u202) = true → N150 ((IntKind.i64.wrap (s1.1 + (1 : Int))), s1.2)) ∧ ((u200 == u202) = false → N189 ()))))) ∧ ((decide (t178 < ((List.length s1.2 : Nat) : Int))) = false → N189 ()))) (fun (t188 : Unit) => (SUB ((List.length s1.2 : Nat) : Int) (0 : Int) t178 ∧ ((List.length ([] : List Str) + List.length (List.drop 0 (List.take (Int.toNat t178) s1.2))) * 16 ≤ 140737488355328 ∧ (∃ u194, GETI p0 s1.1 u194 ∧ ((List.length (([] : List Str) ++ (List.drop 0 (List.take (Int.toNat t178) s1.2))) + List.length ([u194] : List Str)) * 16 ≤ 140737488355328 ∧ (SUB ((List.length s1.2 : Nat) : Int) t178 ((List.length s1.2 : Nat) : Int) ∧ ((List.length ((([] : List Str) ++ (List.drop 0 (List.take (Int.toNat t178) s1.2))) ++ ([u194] : List Str)) + List.length (List.drop (Int.toNat t178) (List.take (List.length s1.2) s1.2))) * 16 ≤ 140737488355328 ∧ N150 ((IntKind.i64.wrap (s1.1 + (1 : Int))), (((([] : List Str) ++ (List.drop 0 (List.take (Int.toNat t178) s1.2))) ++ ([u194] : List Str)) ++ (List.drop (Int.toNat t178) (List.take (List.length s1.2) s1.2))))))))))))) ∧ ((decide (s1.1 < ((List.length p0 : Nat) : Int))) = false → post s1.2))) ((0 : Int), ([] : List Str))
theorem w_spec_SortNames (p0 : (List Str)) (post : (List Str) → Prop) (h : wp_spec_SortNames p0 post) : ∃ r, post r ∧ C_spec_SortNames p0 r := by
  unfold wp_spec_SortNames at h
  refine evs_of (encR := fun r : (List Str) => .one (.l (.ow 1 (e_str r)))) (encO := fun r => []) 1 [(.tmp 2, .ow)] [.fz] Try.func52 chk_spec_SortNames rfl rfl [(0, pL (e_str p0))] [] [] rfl ?_
  refine aw_seq (s_reg ?_)
  refine s_run 1 [(2, .tip (0, 2, 0) (0) (e_str ([] : List Str)))] [] [((0, 2, 0), 0, .tip (e_str ([] : List Str)).length 1)] rfl ?_
  refine seq_n (aw_seq (s_reg ?_))
  refine s_bs rfl rfl (enc_nil (e := e_str)) ?_
  refine s_asgo (g := (0, 7, 0)) (r := 0) (q := 0) (sz := 1) (xs := e_str ([] : List Str)) rfl rfl (by decide) rfl ?_
  refine seq_n (aw_seq (aw_seq (s_reg ?_)))
  refine s_run 1 [(4, pI (0 : Int))] [] [] rfl ?_
  refine seq_n (aw_blk ?_)
  obtain ⟨I152, m153, h0, h⟩ := h
  refine aw_loop' (ι := { y : (Int × (List Str)) × (Nat) // I152 y.1 }) (fun x151 => St [(0, pL (e_str p0)), (3, .tip (0, 3, 0) (x151.1.2) (e_str x151.1.1.2)), (4, pI x151.1.1.1)] [] [((0, 3, 0), x151.1.2, .tip (e_str x151.1.1.2).length 1)]) (fun x151 => m153 x151.1.1) ⟨(_, 0), h0⟩ ?_ ?_
  · exact wk_St ⟨le_rfl _, le_rfl _, le_rfl _, trivial⟩ trivial ⟨rfl, trivial⟩ rfl ⟨rfl, trivial⟩ ⟨rfl, trivial⟩
  · rintro ⟨⟨s1, s1q⟩, hs1⟩
    replace h := h s1 hs1
    refine aw_seq (aw_seq (s_reg ?_))
    refine s_run 2 [(9, pL (e_str p0)), (8, pI s1.1)] [] [] rfl ?_
    refine s_len rfl (enc_len (e := e_str) _) ?_
    refine s_run 1 [(11, pB (decide (s1.1 < ((List.length p0 : Nat) : Int))))] [] [] rfl ?_
    refine seq_n (s_if rfl (fun c154 => ?_) (fun c154 => ?_))
    · have h := h.1 c154
      refine aw_skip (seq_n (aw_wk (St [(0, pL (e_str p0)), (3, .tip (0, 3, 0) (s1q) (e_str s1.2)), (4, pI s1.1)] [] [((0, 3, 0), s1q, .tip (e_str s1.2).length 1)]) (wk_St ⟨le_rfl _, le_rfl _, le_rfl _, trivial⟩ trivial ⟨rfl, trivial⟩ rfl ⟨rfl, trivial⟩ ⟨rfl, trivial⟩) ?_))
      refine aw_seq (aw_blk (aw_seq (s_reg ?_)))
      refine s_run 1 [(5, pI (0 : Int))] [] [] rfl ?_
      refine seq_n ?_
      obtain ⟨J181, hJ181, h⟩ := h
      refine aw_join (ι := { y : Int // J181 y }) (fun x180 => St [(0, pL (e_str p0)), (3, .tip (0, 3, 0) (s1q) (e_str s1.2)), (4, pI s1.1), (5, pI x180.1)] [] [((0, 3, 0), s1q, .tip (e_str s1.2).length 1)]) ?_ ?_
      · rintro ⟨t178, ht178⟩
        replace h := hJ181 t178 ht178
        obtain ⟨J191, hJ191, h⟩ := h
        refine aw_join (ι := { y : Unit // J191 y }) (fun x190 => St [(0, pL (e_str p0)), (3, .tip (0, 3, 0) (s1q) (e_str s1.2)), (4, pI s1.1), (5, pI t178)] [] [((0, 3, 0), s1q, .tip (e_str s1.2).length 1)]) ?_ ?_
        · rintro ⟨t188, ht188⟩
          replace h := hJ191 t188 ht188
          refine aw_seq (s_reg ?_)
          refine s_bs rfl rfl (enc_nil (e := e_str)) ?_
          refine s_run 2 [(48, pI t178), (47, .tip (0, 3, 0) (s1q) (e_str s1.2))] [] [] rfl ?_
          obtain ⟨g192, h⟩ := h
          refine s_sl rfl (enc_len (e := e_str) _) rfl (bound_some rfl g192.b) g192.c g192.d (enc_sz (e := e_str) _) (enc_sub (e := e_str) _ _ _) ?_
          obtain ⟨g193, h⟩ := h
          refine s_app rfl rfl rfl (enc_sz (e := e_str) _) (enc_len (e := e_str) _) (enc_len (e := e_str) _) g193 (enc_app (e := e_str) _ _) ?_
          refine s_asgo (g := (0, 46, 0)) (r := 0) (q := 0) (sz := 1) (xs := e_str (([] : List Str) ++ (List.drop 0 (List.take (Int.toNat t178) s1.2)))) rfl rfl (by decide) rfl ?_
          refine seq_n (aw_wk (St [(0, pL (e_str p0)), (3, .tip (0, 3, 0) (s1q) (e_str s1.2)), (4, pI s1.1), (5, pI t178), (6, .tip (0, 6, 0) (0) (e_str (([] : List Str) ++ (List.drop 0 (List.take (Int.toNat t178) s1.2)))))] [] [((0, 3, 0), s1q, .tip (e_str s1.2).length 1), ((0, 6, 0), 0, .tip (e_str (([] : List Str) ++ (List.drop 0 (List.take (Int.toNat t178) s1.2)))).length 1)]) (wk_St ⟨le_rfl _, le_rfl _, le_rfl _, le_rfl _, le_rfl _, trivial⟩ trivial ⟨rfl, rfl, trivial⟩ rfl ⟨rfl, trivial⟩ ⟨rfl, trivial⟩) ?_)
          refine aw_seq (s_reg ?_)
          refine s_run 3 [(53, pI s1.1), (52, pL (e_str p0)), (51, .tip (0, 6, 0) (0) (e_str (([] : List Str) ++ (List.drop 0 (List.take (Int.toNat t178) s1.2)))))] [] [] rfl ?_
          obtain ⟨u194, ⟨g195a, g195b⟩, h⟩ := h
          refine s_ia rfl rfl g195a (enc_get (e := e_str) g195b) rfl ?_
          refine s_run 1 [(55, pS u194)] [] [] rfl ?_
          refine s_bs rfl rfl (enc_cons (e := e_str) u194 (enc_nil (e := e_str))) ?_
          obtain ⟨g196, h⟩ := h
          refine s_app rfl rfl rfl (enc_sz (e := e_str) _) (enc_len (e := e_str) _) (enc_len (e := e_str) _) g196 (enc_app (e := e_str) _ _) ?_
          refine s_run 1 [(6, .tip (0, 6, 0) (0) (e_str ((([] : List Str) ++ (List.drop 0 (List.take (Int.toNat t178) s1.2))) ++ ([u194] : List Str))))] [] [] rfl ?_
          refine seq_n (aw_wk (St [(0, pL (e_str p0)), (3, .tip (0, 3, 0) (s1q) (e_str s1.2)), (4, pI s1.1), (5, pI t178), (6, .tip (0, 6, 0) (0) (e_str ((([] : List Str) ++ (List.drop 0 (List.take (Int.toNat t178) s1.2))) ++ ([u194] : List Str))))] [] [((0, 3, 0), s1q, .tip (e_str s1.2).length 1), ((0, 6, 0), 0, .tip (e_str ((([] : List Str) ++ (List.drop 0 (List.take (Int.toNat t178) s1.2))) ++ ([u194] : List Str))).length 1)]) (wk_St ⟨le_rfl _, le_rfl _, le_rfl _, le_rfl _, le_rfl _, trivial⟩ trivial ⟨rfl, rfl, trivial⟩ rfl ⟨rfl, trivial⟩ ⟨rfl, trivial⟩) ?_)
          refine s_reg ?_
          refine s_run 3 [(60, pI t178), (59, .tip (0, 3, 0) (s1q) (e_str s1.2)), (58, .tip (0, 6, 0) (0) (e_str ((([] : List Str) ++ (List.drop 0 (List.take (Int.toNat t178) s1.2))) ++ ([u194] : List Str))))] [] [] rfl ?_
          obtain ⟨g197, h⟩ := h
          refine s_sl rfl (enc_len (e := e_str) _) (bound_some rfl g197.a) rfl g197.c g197.d (enc_sz (e := e_str) _) (enc_sub (e := e_str) _ _ _) ?_
          obtain ⟨g198, h⟩ := h
          refine s_app rfl rfl rfl (enc_sz (e := e_str) _) (enc_len (e := e_str) _) (enc_len (e := e_str) _) g198 (enc_app (e := e_str) _ _) ?_
          refine s_asgo (g := (0, 6, 0)) (r := 0) (q := s1q + 1) (sz := 1) (xs := e_str (((([] : List Str) ++ (List.drop 0 (List.take (Int.toNat t178) s1.2))) ++ ([u194] : List Str)) ++ (List.drop (Int.toNat t178) (List.take (List.length s1.2) s1.2)))) rfl rfl (by decide) rfl ?_
          refine blk_n (seq_n (aw_wk (St [(0, pL (e_str p0)), (3, .tip (0, 3, 0) (s1q + 1) (e_str (((([] : List Str) ++ (List.drop 0 (List.take (Int.toNat t178) s1.2))) ++ ([u194] : List Str)) ++ (List.drop (Int.toNat t178) (List.take (List.length s1.2) s1.2))))), (4, pI s1.1)] [] [((0, 3, 0), s1q + 1, .tip (e_str (((([] : List Str) ++ (List.drop 0 (List.take (Int.toNat t178) s1.2))) ++ ([u194] : List Str)) ++ (List.drop (Int.toNat t178) (List.take (List.length s1.2) s1.2)))).length 1)]) (wk_St ⟨le_rfl _, le_rfl _, le_rfl _, trivial⟩ trivial ⟨rfl, trivial⟩ rfl ⟨rfl, trivial⟩ ⟨rfl, trivial⟩) ?_))
          refine s_reg ?_
          refine s_run 3 [(4, pI (IntKind.i64.wrap (s1.1 + (1 : Int)))), (13, pI (IntKind.i64.wrap (s1.1 + (1 : Int)))), (12, pI s1.1)] [] [] rfl ?_
          exact loop_n ⟨(_, s1q + 1), h.1⟩ h.2 (wk_St ⟨le_rfl _, le_rfl _, le_rfl _, trivial⟩ trivial ⟨rfl, trivial⟩ rfl ⟨rfl, trivial⟩ ⟨rfl, trivial⟩)
        · refine aw_seq (s_reg ?_)
          refine s_run 2 [(32, .tip (0, 3, 0) (s1q) (e_str s1.2)), (31, pI t178)] [] [] rfl ?_
          refine s_len rfl (enc_len (e := e_str) _) ?_
          refine s_run 2 [(35, pB (decide (t178 < ((List.length s1.2 : Nat) : Int)))), (34, pB (decide (t178 < ((List.length s1.2 : Nat) : Int))))] [] [] rfl ?_
          refine s_op_if rfl rfl (fun c199 => ?_) (fun c199 => ?_)
          · have h := h.1 c199
            refine s_run 2 [(37, pI t178), (36, .tip (0, 3, 0) (s1q) (e_str s1.2))] [] [] rfl ?_
            refine s_on rfl ?_
            obtain ⟨u200, ⟨g201a, g201b⟩, h⟩ := h
            refine s_ia rfl rfl g201a (enc_get (e := e_str) g201b) rfl ?_
            refine s_run 3 [(41, pI s1.1), (40, pL (e_str p0)), (39, pS u200)] [] [] rfl ?_
            refine s_on rfl ?_
            obtain ⟨u202, ⟨g203a, g203b⟩, h⟩ := h
            refine s_ia rfl rfl g203a (enc_get (e := e_str) g203b) rfl ?_
            refine s_run 3 [(45, pB (u200 == u202)), (44, pB (u200 == u202)), (43, pS u202)] [] [] rfl ?_
            refine seq_n (s_if rfl (fun c204 => ?_) (fun c204 => ?_))
            · have h := h.1 c204
              refine aw_exit (join_x (blk_x (seq_n (aw_wk (St [(0, pL (e_str p0)), (3, .tip (0, 3, 0) (s1q) (e_str s1.2)), (4, pI s1.1)] [] [((0, 3, 0), s1q, .tip (e_str s1.2).length 1)]) (wk_St ⟨le_rfl _, le_rfl _, le_rfl _, trivial⟩ trivial ⟨rfl, trivial⟩ rfl ⟨rfl, trivial⟩ ⟨rfl, trivial⟩) ?_))))
              refine s_reg ?_
              refine s_run 3 [(4, pI (IntKind.i64.wrap (s1.1 + (1 : Int)))), (13, pI (IntKind.i64.wrap (s1.1 + (1 : Int)))), (12, pI s1.1)] [] [] rfl ?_
              exact loop_n ⟨(_, s1q), h.1⟩ h.2 (wk_St ⟨le_rfl _, le_rfl _, le_rfl _, trivial⟩ trivial ⟨rfl, trivial⟩ rfl ⟨rfl, trivial⟩ ⟨rfl, trivial⟩)
            · have h := h.2 c204
              refine aw_skip ?_
              exact join_n ⟨_, h⟩ (wk_St ⟨le_rfl _, le_rfl _, le_rfl _, le_rfl _, trivial⟩ trivial ⟨rfl, trivial⟩ rfl ⟨rfl, trivial⟩ ⟨rfl, trivial⟩)
          · have h := h.2 c199
            refine s_run 10 [(45, pB false), (44, .p (.tup [])), (43, .p (.tup [])), (42, .p (.tup [])), (41, .p (.tup [])), (40, .p (.tup [])), (39, .p (.tup [])), (38, .p (.tup [])), (37, .p (.tup [])), (36, .p (.tup []))] [] [] rfl ?_
            refine seq_n (s_no rfl (aw_skip ?_))
            exact join_n ⟨_, h⟩ (wk_St ⟨le_rfl _, le_rfl _, le_rfl _, le_rfl _, trivial⟩ trivial ⟨rfl, trivial⟩ rfl ⟨rfl, trivial⟩ ⟨rfl, trivial⟩)
      · refine aw_blk ?_
        obtain ⟨I220, m221, h0, h⟩ := h
        refine aw_loop' (ι := { y : Int // I220 y }) (fun x219 => St [(0, pL (e_str p0)), (3, .tip (0, 3, 0) (s1q) (e_str s1.2)), (4, pI s1.1), (5, pI x219.1)] [] [((0, 3, 0), s1q, .tip (e_str s1.2).length 1)]) (fun x219 => m221 x219.1) ⟨_, h0⟩ ?_ ?_
        · exact wk_St ⟨le_rfl _, le_rfl _, le_rfl _, le_rfl _, trivial⟩ trivial ⟨rfl, trivial⟩ rfl ⟨rfl, trivial⟩ ⟨rfl, trivial⟩
        · rintro ⟨s205, hs205⟩
          replace h := h s205 hs205
          refine aw_seq (aw_seq (s_reg ?_))
          refine s_run 2 [(15, .tip (0, 3, 0) (s1q) (e_str s1.2)), (14, pI s205)] [] [] rfl ?_
          refine s_len rfl (enc_len (e := e_str) _) ?_
          refine s_run 2 [(18, pB (decide (s205 < ((List.length s1.2 : Nat) : Int)))), (17, pB (decide (s205 < ((List.length s1.2 : Nat) : Int))))] [] [] rfl ?_
          refine s_op_if rfl rfl (fun c222 => ?_) (fun c222 => ?_)
          · have h := h.1 c222
            refine s_run 2 [(20, pI s205), (19, .tip (0, 3, 0) (s1q) (e_str s1.2))] [] [] rfl ?_
            refine s_on rfl ?_
            obtain ⟨u223, ⟨g224a, g224b⟩, h⟩ := h
            refine s_ia rfl rfl g224a (enc_get (e := e_str) g224b) rfl ?_
            refine s_run 3 [(24, pI s1.1), (23, pL (e_str p0)), (22, pS u223)] [] [] rfl ?_
            refine s_on rfl ?_
            obtain ⟨u225, ⟨g226a, g226b⟩, h⟩ := h
            refine s_ia rfl rfl g226a (enc_get (e := e_str) g226b) rfl ?_
            refine s_run 3 [(28, pB (Op.bytesLess u223 u225)), (27, pB (Op.bytesLess u223 u225)), (26, pS u225)] [] [] rfl ?_
            refine seq_n (s_if rfl (fun c227 => ?_) (fun c227 => ?_))
            · have h := h.1 c227
              refine aw_skip (seq_n (aw_wk (St [(0, pL (e_str p0)), (3, .tip (0, 3, 0) (s1q) (e_str s1.2)), (4, pI s1.1), (5, pI s205)] [] [((0, 3, 0), s1q, .tip (e_str s1.2).length 1)]) (wk_St ⟨le_rfl _, le_rfl _, le_rfl _, le_rfl _, trivial⟩ trivial ⟨rfl, trivial⟩ rfl ⟨rfl, trivial⟩ ⟨rfl, trivial⟩) ?_))
              refine aw_blk (s_reg ?_)
              refine s_run 3 [(5, pI (IntKind.i64.wrap (s205 + (1 : Int)))), (30, pI (IntKind.i64.wrap (s205 + (1 : Int)))), (29, pI s205)] [] [] rfl ?_
              refine blk_n ?_
              exact loop_n ⟨_, h.1⟩ h.2 (wk_St ⟨le_rfl _, le_rfl _, le_rfl _, le_rfl _, trivial⟩ trivial ⟨rfl, trivial⟩ rfl ⟨rfl, trivial⟩ ⟨rfl, trivial⟩)
            · have h := h.2 c227
              refine aw_exit (seq_x (loop_x (blk_x ?_)))
              exact join_n ⟨_, h⟩ (wk_St ⟨le_rfl _, le_rfl _, le_rfl _, le_rfl _, trivial⟩ trivial ⟨rfl, trivial⟩ rfl ⟨rfl, trivial⟩ ⟨rfl, trivial⟩)
          · have h := h.2 c222
            refine s_run 10 [(28, pB false), (27, .p (.tup [])), (26, .p (.tup [])), (25, .p (.tup [])), (24, .p (.tup [])), (23, .p (.tup [])), (22, .p (.tup [])), (21, .p (.tup [])), (20, .p (.tup [])), (19, .p (.tup []))] [] [] rfl ?_
            refine seq_n (s_no rfl (aw_exit (seq_x (loop_x (blk_x ?_)))))
            exact join_n ⟨_, h⟩ (wk_St ⟨le_rfl _, le_rfl _, le_rfl _, le_rfl _, trivial⟩ trivial ⟨rfl, trivial⟩ rfl ⟨rfl, trivial⟩ ⟨rfl, trivial⟩)
    · have h := h.2 c154
      refine aw_exit (seq_x (loop_x (blk_x (seq_n (aw_seq (s_reg ?_))))))
      refine s_run 2 [(2, .tip (0, 3, 0) (s1q) (e_str s1.2)), (63, .tip (0, 3, 0) (s1q) (e_str s1.2))] [] [] rfl ?_
      refine seq_n (aw_ret ?_)
      exact endp_ret _ h (endB_of (end_one rfl (arg_own rfl rfl) (end_nil)) (end_nil) (of_decide_eq_true rfl) rfl rfl)


def ac_impl_UnifyTerms : AC :=
  .seq (.reg false [
    { dst := some 2, k := .bx (.t 0) 4 },
    { dst := some 3, k := .bx (.t 1) 4 },
    { dst := some 4, k := .mv (.c (.slice [])) },
    { dst := some 5, k := .mv (.c (.bool false)) }])
  (.wk (.seq (.reg false [
    { dst := some 6, k := .mv (.c (.slice [])) }])
  (.seq (.seq (.reg false [
    { dst := some 13, k := .ld (.t 2) 4 true },
    { dst := some 14, k := .ld (.t 3) 4 true },
    { dst := some 15, k := .bd [.p (.int .i64 0), .p (.int .i64 0), .p (.str []), .p (.slice []), .p (.int .i64 0), .p (.int .i64 0), .p (.str []), .p (.slice [])] [(0, 4, .t 13), (4, 4, .t 14)] },
    { dst := some 16, k := .bs 8 [.t 15] },
    { dst := some 7, k := .mv (.t 16) }])
  (.wk (.block 0 (.loop (.seq (.seq (.reg false [
        { dst := some 17, k := .mv (.t 7) },
        { dst := some 18, k := .len (.t 17) },
        { dst := some 19, k := .bin .gtr (.t 18) (.c (.int .i64 (0))) }])
      (.cond (.t 19) (.skip)
      (.exit 0)))
      (.block 1 (.seq (.reg false [
          { dst := some 21, k := .mv (.t 7) },
          { dst := some 22, k := .ia (.t 21) (.c (.int .i64 (0))) 8 },
          { dst := some 23, k := .ld (.t 22) 8 true },
          { dst := some 24, k := .mv (.t 6) },
          { dst := some 25, k := .call 58 [(.t 23, .fz), (.t 24, .fz)] },
          { dst := some 20, k := .mv (.t 25) },
          { dst := some 26, k := .ex (.t 20) 0 },
          { dst := some 27, k := .ex (.t 20) 1 },
          { dst := some 28, k := .ex (.t 20) 2 },
          { dst := some 8, k := .mv (.t 26) },
          { dst := some 9, k := .mv (.t 27) },
          { dst := some 10, k := .mv (.t 28) }])
        (.wk (.seq (.seq (.reg false [
          { dst := some 29, k := .mv (.t 10) },
          { dst := some 30, k := .un .not (.t 29) }])
        (.cond (.t 30) (.seq (.reg false [
            { dst := some 4, k := .mv (.c (.slice [])) },
            { dst := some 5, k := .mv (.c (.bool false)) }])
          (.ret))
        (.skip)))
        (.wk (.seq (.seq (.reg false [
          { dst := some 31, k := .mv (.t 8) },
          { dst := some 32, k := .len (.t 31) },
          { dst := some 33, k := .mv (.c (.int .i64 (0))) }])
        (.block 2 (.loop (.seq (.reg false [
              { dst := some 34, k := .bin .lss (.t 33) (.t 32) }])
            (.seq (.cond (.t 34) (.skip)
            (.exit 2))
            (.seq (.block 3 (.seq (.reg false [
                { dst := some 35, k := .ia (.t 31) (.t 33) 5 },
                { dst := some 36, k := .ld (.t 35) 5 true },
                { dst := some 12, k := .al [.p (.str []), .p (.int .i64 0), .p (.int .i64 0), .p (.str []), .p (.slice [])] },
                { dst := none, k := .st (.t 12) (.t 36) 5 12 }])
              (.wk (.seq (.reg false [
                { dst := some 37, k := .fa (.t 12) 1 },
                { dst := some 38, k := .ld (.t 37) 4 true },
                { dst := some 39, k := .call 59 [(.t 38, .fz)] },
                { dst := some 40, k := .bin .gtr (.t 39) (.c (.int .i64 (400))) }])
              (.cond (.t 40) (.seq (.reg false [
                  { dst := some 4, k := .mv (.c (.slice [])) },
                  { dst := some 5, k := .mv (.c (.bool false)) }])
                (.ret))
              (.skip))))))
            (.reg false [
              { dst := some 41, k := .bin .add (.t 33) (.c (.int .i64 (1))) },
              { dst := some 33, k := .mv (.t 41) }])))))))
        (.wk (.reg false [
          { dst := some 42, k := .mv (.t 8) },
          { dst := some 43, k := .mv (.t 9) },
          { dst := some 44, k := .mv (.t 7) },
          { dst := some 45, k := .sl (.t 44) (some (.c (.int .i64 (1)))) none 8 },
          { dst := some 46, k := .app (.t 43) (.t 45) 8 112 },
          { dst := some 6, k := .mv (.t 42) },
          { dst := some 7, k := .mv (.t 46) }])))))))))))))
  (.wk (.seq (.reg true [
    { dst := some 47, k := .mv (.t 6) },
    { dst := some 48, k := .ld (.t 2) 4 true, vb := .only [2] },
    { dst := some 49, k := .call 34 [(.t 48, .fz)], vb := .but [3], vl := .but [3] },
    { dst := some 50, k := .ld (.t 3) 4 true, vb := .only [3] },
    { dst := some 51, k := .call 34 [(.t 50, .fz)] },
    { dst := some 52, k := .app (.t 49) (.t 51) 1 16 },
    { dst := some 53, k := .call 22 [(.t 47, .fz), (.t 52, .fz)] },
    { dst := some 4, k := .mv (.t 53) },
    { dst := some 5, k := .mv (.c (.bool true)) }])
  (.ret))))))
theorem chk_impl_UnifyTerms : fnOK Try.prog 2 Try.f28 ac_impl_UnifyTerms [(.tmp 4, .fz), (.tmp 5, .fz)] = true := by kernel_rfl
def wp_impl_UnifyTerms (p0 : Tm) (p1 : Tm) (post : ((List Bd) × Bool) → Prop) : Prop :=
  LOOP (fun (N95 : ((List Bd) × (List T_impl_equation)) → Prop) (s1 : (List Bd) × (List T_impl_equation)) => (((decide (((List.length s1.2 : Nat) : Int) > (0 : Int))) = true → (∃ u100, GETI s1.2 (0 : Int) u100 ∧ (∃ r102 : (List Bd) × (List T_impl_equation) × Bool, C_impl_treat u100 s1.1 r102 ∧ (((!r102.2.2) = true → post (([] : List Bd), false)) ∧ ((!r102.2.2) = false → LOOP (fun (N118 : Int → Prop) (s105 : Int) => (((decide (s105 < ((List.length r102.1 : Nat) : Int))) = true → (∃ u123, GETI r102.1 s105 u123 ∧ (∃ r125 : Int, C_impl_CountTerm (Bd.term u123) r125 ∧ (((decide (r125 > (400 : Int))) = true → post (([] : List Bd), false)) ∧ ((decide (r125 > (400 : Int))) = false → N118 (IntKind.i64.wrap (s105 + (1 : Int)))))))) ∧ ((decide (s105 < ((List.length r102.1 : Nat) : Int))) = false → (SUB ((List.length s1.2 : Nat) : Int) (1 : Int) ((List.length s1.2 : Nat) : Int) ∧ ((List.length r102.2.1 + List.length (List.drop (Int.toNat (1 : Int)) (List.take (List.length s1.2) s1.2))) * 112 ≤ 140737488355328 ∧ N95 (r102.1, (r102.2.1 ++ (List.drop (Int.toNat (1 : Int)) (List.take (List.length s1.2) s1.2))))))))) (0 : Int)))))) ∧ ((decide (((List.length s1.2 : Nat) : Int) > (0 : Int))) = false → (∃ r130 : (List Str), C_impl_VarsOfTerm p0 r130 ∧ (∃ r132 : (List Str), C_impl_VarsOfTerm p1 r132 ∧ ((List.length r130 + List.length r132) * 16 ≤ 140737488355328 ∧ (∃ r135 : (List Bd), C_impl_RestrictSubst s1.1 (r130 ++ r132) r135 ∧ post (r135, true)))))))) (([] : List Bd), ([(T_impl_equation.mk p0 p1)] : List T_impl_equation))
theorem w_impl_UnifyTerms (p0 : Tm) (p1 : Tm) (post : ((List Bd) × Bool) → Prop) (h : wp_impl_UnifyTerms p0 p1 post) : ∃ r, post r ∧ C_impl_UnifyTerms p0 p1 r := by
  unfold wp_impl_UnifyTerms at h
  refine evs_of (encR := fun r : (List Bd) × Bool => .tup [.l (.fz (.slice (e_Bd r.1))), .l (.fz (.bool r.2))]) (encO := fun r => []) 2 [(.tmp 4, .fz), (.tmp 5, .fz)] [.fz, .fz] Try.func28 chk_impl_UnifyTerms rfl rfl [(1, .p (.agg (Tm.cells p1))), (0, .p (.agg (Tm.cells p0)))] [] [] rfl ?_
  refine aw_seq (s_reg ?_)
  refine s_run 4 [(5, pB false), (4, pL (e_Bd ([] : List Bd))), (3, .ptr 3 0), (2, .ptr 2 0)] [(3, [pI (Tm.kind p1), pI (Tm.n p1), pS (Tm.name p1), pL (Tm.encL (Tm.args p1))]), (2, [pI (Tm.kind p0), pI (Tm.n p0), pS (Tm.name p0), pL (Tm.encL (Tm.args p0))])] [] rfl ?_
  refine seq_n (aw_wk (St [(2, .ptr 2 0), (3, .ptr 3 0)] [(2, [pI (Tm.kind p0), pI (Tm.n p0), pS (Tm.name p0), pL (Tm.encL (Tm.args p0))]), (3, [pI (Tm.kind p1), pI (Tm.n p1), pS (Tm.name p1), pL (Tm.encL (Tm.args p1))])] []) (wk_St ⟨le_rfl _, le_rfl _, trivial⟩ ⟨box_rfl rfl, box_rfl rfl, trivial⟩ trivial rfl ⟨rfl, rfl, trivial⟩ ⟨rfl, rfl, trivial⟩) ?_)
  refine aw_seq (s_reg ?_)
  refine s_run 1 [(6, pL (e_Bd ([] : List Bd)))] [] [] rfl ?_
  refine seq_n (aw_seq (aw_seq (s_reg ?_)))
  refine s_run 3 [(15, .agg [pI (Tm.kind p0), pI (Tm.n p0), pS (Tm.name p0), pL (Tm.encL (Tm.args p0)), pI (Tm.kind p1), pI (Tm.n p1), pS (Tm.name p1), pL (Tm.encL (Tm.args p1))]), (14, .agg [pI (Tm.kind p1), pI (Tm.n p1), pS (Tm.name p1), pL (Tm.encL (Tm.args p1))]), (13, .agg [pI (Tm.kind p0), pI (Tm.n p0), pS (Tm.name p0), pL (Tm.encL (Tm.args p0))])] [] [] rfl ?_
  refine s_bs rfl rfl (enc_cons (e := e_T_impl_equation) (T_impl_equation.mk p0 p1) (enc_nil (e := e_T_impl_equation))) ?_
  refine s_run 1 [(7, .tip (0, 16, 0) (0) (e_T_impl_equation ([(T_impl_equation.mk p0 p1)] : List T_impl_equation)))] [] [] rfl ?_
  refine seq_n (aw_wk (St [(2, .ptr 2 0), (3, .ptr 3 0), (6, pL (e_Bd ([] : List Bd))), (7, .tip (0, 16, 0) (0) (e_T_impl_equation ([(T_impl_equation.mk p0 p1)] : List T_impl_equation)))] [(2, [pI (Tm.kind p0), pI (Tm.n p0), pS (Tm.name p0), pL (Tm.encL (Tm.args p0))]), (3, [pI (Tm.kind p1), pI (Tm.n p1), pS (Tm.name p1), pL (Tm.encL (Tm.args p1))])] [((0, 16, 0), 0, .tip (e_T_impl_equation ([(T_impl_equation.mk p0 p1)] : List T_impl_equation)).length 8)]) (wk_St ⟨le_rfl _, le_rfl _, le_rfl _, le_rfl _, trivial⟩ ⟨box_rfl rfl, box_rfl rfl, trivial⟩ ⟨rfl, trivial⟩ rfl ⟨rfl, rfl, trivial⟩ ⟨rfl, rfl, trivial⟩) ?_)
  refine aw_blk ?_
  obtain ⟨I97, m98, h0, h⟩ := h
  refine aw_loop' (ι := { y : (List Bd) × (List T_impl_equation) // I97 y }) (fun x96 => St [(2, .ptr 2 0), (3, .ptr 3 0), (6, pL (e_Bd x96.1.1)), (7, pL (e_T_impl_equation x96.1.2))] [(2, [pI (Tm.kind p0), pI (Tm.n p0), pS (Tm.name p0), pL (Tm.encL (Tm.args p0))]), (3, [pI (Tm.kind p1), pI (Tm.n p1), pS (Tm.name p1), pL (Tm.encL (Tm.args p1))])] []) (fun x96 => m98 x96.1) ⟨_, h0⟩ ?_ ?_
  · exact wk_St ⟨le_rfl _, le_rfl _, le_rfl _, le_fz rfl, trivial⟩ ⟨box_rfl rfl, box_rfl rfl, trivial⟩ trivial rfl ⟨rfl, rfl, trivial⟩ ⟨rfl, rfl, trivial⟩
  · rintro ⟨s1, hs1⟩
    replace h := h s1 hs1
    refine aw_seq (aw_seq (s_reg ?_))
    refine s_run 1 [(17, pL (e_T_impl_equation s1.2))] [] [] rfl ?_
    refine s_len rfl (enc_len (e := e_T_impl_equation) _) ?_
    refine s_run 1 [(19, pB (decide (((List.length s1.2 : Nat) : Int) > (0 : Int))))] [] [] rfl ?_
    refine seq_n (s_if rfl (fun c99 => ?_) (fun c99 => ?_))
    · have h := h.1 c99
      refine aw_skip (seq_n (aw_blk (aw_seq (s_reg ?_))))
      refine s_run 1 [(21, pL (e_T_impl_equation s1.2))] [] [] rfl ?_
      obtain ⟨u100, ⟨g101a, g101b⟩, h⟩ := h
      refine s_ia rfl rfl g101a (enc_get (e := e_T_impl_equation) g101b) rfl ?_
      refine s_run 2 [(24, pL (e_Bd s1.1)), (23, .p (.agg (T_impl_equation.cells u100)))] [] [] rfl ?_
      obtain ⟨r102, k103, h⟩ := h
      refine s_call (.tup [pL (e_Bd r102.1), .tip (0, 25, 100) (0) (e_T_impl_equation r102.2.1), pB r102.2.2]) [] [((0, 25, 100), 0, .tip (e_T_impl_equation r102.2.1).length 8)] (args_one rfl (args_one rfl (args_nil))) k103 rfl ?_
      refine s_run 7 [(10, pB r102.2.2), (9, .tip (0, 25, 100) (0) (e_T_impl_equation r102.2.1)), (8, pL (e_Bd r102.1)), (28, pB r102.2.2), (27, .tip (0, 25, 100) (0) (e_T_impl_equation r102.2.1)), (26, pL (e_Bd r102.1)), (20, .tup [pL (e_Bd r102.1), .tip (0, 25, 100) (0) (e_T_impl_equation r102.2.1), pB r102.2.2])] [] [] rfl ?_
      refine seq_n (aw_wk (St [(2, .ptr 2 0), (3, .ptr 3 0), (7, pL (e_T_impl_equation s1.2)), (8, pL (e_Bd r102.1)), (9, .tip (0, 25, 100) (0) (e_T_impl_equation r102.2.1)), (10, pB r102.2.2)] [(2, [pI (Tm.kind p0), pI (Tm.n p0), pS (Tm.name p0), pL (Tm.encL (Tm.args p0))]), (3, [pI (Tm.kind p1), pI (Tm.n p1), pS (Tm.name p1), pL (Tm.encL (Tm.args p1))])] [((0, 25, 100), 0, .tip (e_T_impl_equation r102.2.1).length 8)]) (wk_St ⟨le_rfl _, le_rfl _, le_rfl _, le_rfl _, le_rfl _, le_rfl _, trivial⟩ ⟨box_rfl rfl, box_rfl rfl, trivial⟩ ⟨rfl, trivial⟩ rfl ⟨rfl, rfl, trivial⟩ ⟨rfl, rfl, trivial⟩) ?_)
      refine aw_seq (aw_seq (s_reg ?_))
      refine s_run 2 [(30, pB (!r102.2.2)), (29, pB r102.2.2)] [] [] rfl ?_
      refine seq_n (s_if rfl (fun c104 => ?_) (fun c104 => ?_))
      · have h := h.1 c104
        refine aw_seq (s_reg ?_)
        refine s_run 2 [(5, pB false), (4, pL (e_Bd ([] : List Bd)))] [] [] rfl ?_
        refine seq_n (aw_ret ?_)
        exact endp_ret _ h rfl
      · have h := h.2 c104
        refine aw_skip (seq_n (aw_wk (St [(2, .ptr 2 0), (3, .ptr 3 0), (7, pL (e_T_impl_equation s1.2)), (8, pL (e_Bd r102.1)), (9, .tip (0, 25, 100) (0) (e_T_impl_equation r102.2.1))] [(2, [pI (Tm.kind p0), pI (Tm.n p0), pS (Tm.name p0), pL (Tm.encL (Tm.args p0))]), (3, [pI (Tm.kind p1), pI (Tm.n p1), pS (Tm.name p1), pL (Tm.encL (Tm.args p1))])] [((0, 25, 100), 0, .tip (e_T_impl_equation r102.2.1).length 8)]) (wk_St ⟨le_rfl _, le_rfl _, le_rfl _, le_rfl _, le_rfl _, trivial⟩ ⟨box_rfl rfl, box_rfl rfl, trivial⟩ ⟨rfl, trivial⟩ rfl ⟨rfl, rfl, trivial⟩ ⟨rfl, rfl, trivial⟩) ?_))
        refine aw_seq (aw_seq (s_reg ?_))
        refine s_run 1 [(31, pL (e_Bd r102.1))] [] [] rfl ?_
        refine s_len rfl (enc_len (e := e_Bd) _) ?_
        refine s_run 1 [(33, pI (0 : Int))] [] [] rfl ?_
        refine seq_n (aw_blk ?_)
        obtain ⟨I120, m121, h0, h⟩ := h
        refine aw_loop' (ι := { y : Int // I120 y }) (fun x119 => St [(2, .ptr 2 0), (3, .ptr 3 0), (7, pL (e_T_impl_equation s1.2)), (8, pL (e_Bd r102.1)), (9, .tip (0, 25, 100) (0) (e_T_impl_equation r102.2.1)), (31, pL (e_Bd r102.1)), (32, pI ((List.length r102.1 : Nat) : Int)), (33, pI x119.1)] [(2, [pI (Tm.kind p0), pI (Tm.n p0), pS (Tm.name p0), pL (Tm.encL (Tm.args p0))]), (3, [pI (Tm.kind p1), pI (Tm.n p1), pS (Tm.name p1), pL (Tm.encL (Tm.args p1))])] [((0, 25, 100), 0, .tip (e_T_impl_equation r102.2.1).length 8)]) (fun x119 => m121 x119.1) ⟨_, h0⟩ ?_ ?_
        · exact wk_St ⟨le_rfl _, le_rfl _, le_rfl _, le_rfl _, le_rfl _, le_rfl _, le_rfl _, le_rfl _, trivial⟩ ⟨box_rfl rfl, box_rfl rfl, trivial⟩ ⟨rfl, trivial⟩ rfl ⟨rfl, rfl, trivial⟩ ⟨rfl, rfl, trivial⟩
        · rintro ⟨s105, hs105⟩
          replace h := h s105 hs105
          refine aw_seq (s_reg ?_)
          refine s_run 1 [(34, pB (decide (s105 < ((List.length r102.1 : Nat) : Int))))] [] [] rfl ?_
          refine seq_n (aw_seq (s_if rfl (fun c122 => ?_) (fun c122 => ?_)))
          · have h := h.1 c122
            refine aw_skip (seq_n (aw_seq (aw_blk (aw_seq (s_reg ?_)))))
            obtain ⟨u123, ⟨g124a, g124b⟩, h⟩ := h
            refine s_ia rfl rfl g124a (enc_get (e := e_Bd) g124b) rfl ?_
            refine s_run 3 [(12, .ptr 12 0), (36, .p (.agg (Bd.cells u123)))] [(12, [pS (Bd.name u123), pI (Tm.kind (Bd.term u123)), pI (Tm.n (Bd.term u123)), pS (Tm.name (Bd.term u123)), pL (Tm.encL (Tm.args (Bd.term u123)))]), (12, [pS ([] : Str), pI (0 : Int), pI (0 : Int), pS ([] : Str), pL (Tm.encL ([] : List Tm))])] [] rfl ?_
            refine seq_n (aw_wk (St [(2, .ptr 2 0), (3, .ptr 3 0), (7, pL (e_T_impl_equation s1.2)), (8, pL (e_Bd r102.1)), (9, .tip (0, 25, 100) (0) (e_T_impl_equation r102.2.1)), (12, .ptr 12 0), (31, pL (e_Bd r102.1)), (32, pI ((List.length r102.1 : Nat) : Int)), (33, pI s105)] [(2, [pI (Tm.kind p0), pI (Tm.n p0), pS (Tm.name p0), pL (Tm.encL (Tm.args p0))]), (3, [pI (Tm.kind p1), pI (Tm.n p1), pS (Tm.name p1), pL (Tm.encL (Tm.args p1))]), (12, [pS (Bd.name u123), pI (Tm.kind (Bd.term u123)), pI (Tm.n (Bd.term u123)), pS (Tm.name (Bd.term u123)), pL (Tm.encL (Tm.args (Bd.term u123)))])] [((0, 25, 100), 0, .tip (e_T_impl_equation r102.2.1).length 8)]) (wk_St ⟨le_rfl _, le_rfl _, le_rfl _, le_rfl _, le_rfl _, le_rfl _, le_rfl _, le_rfl _, le_rfl _, trivial⟩ ⟨box_rfl rfl, box_rfl rfl, box_rfl rfl, trivial⟩ ⟨rfl, trivial⟩ rfl ⟨rfl, rfl, trivial⟩ ⟨rfl, rfl, trivial⟩) ?_)
            refine aw_seq (s_reg ?_)
            refine s_run 2 [(38, .agg [pI (Tm.kind (Bd.term u123)), pI (Tm.n (Bd.term u123)), pS (Tm.name (Bd.term u123)), pL (Tm.encL (Tm.args (Bd.term u123)))]), (37, .ptr 12 1)] [] [] rfl ?_
            obtain ⟨r125, k126, h⟩ := h
            refine s_call (pI r125) [] [] rfl k126 rfl ?_
            refine s_run 1 [(40, pB (decide (r125 > (400 : Int))))] [] [] rfl ?_
            refine seq_n (s_if rfl (fun c127 => ?_) (fun c127 => ?_))
            · have h := h.1 c127
              refine aw_seq (s_reg ?_)
              refine s_run 2 [(5, pB false), (4, pL (e_Bd ([] : List Bd)))] [] [] rfl ?_
              refine seq_n (aw_ret ?_)
              exact endp_ret _ h rfl
            · have h := h.2 c127
              refine aw_skip (blk_n (seq_n (s_reg ?_)))
              refine s_run 2 [(33, pI (IntKind.i64.wrap (s105 + (1 : Int)))), (41, pI (IntKind.i64.wrap (s105 + (1 : Int))))] [] [] rfl ?_
              exact loop_n ⟨_, h.1⟩ h.2 (wk_St ⟨le_rfl _, le_rfl _, le_rfl _, le_rfl _, le_rfl _, le_rfl _, le_rfl _, le_rfl _, trivial⟩ ⟨box_rfl rfl, box_rfl rfl, trivial⟩ ⟨rfl, trivial⟩ rfl ⟨rfl, rfl, trivial⟩ ⟨rfl, rfl, trivial⟩)
          · have h := h.2 c122
            refine aw_exit (seq_x (loop_x (blk_x (seq_n (aw_wk (St [(2, .ptr 2 0), (3, .ptr 3 0), (7, pL (e_T_impl_equation s1.2)), (8, pL (e_Bd r102.1)), (9, .tip (0, 25, 100) (0) (e_T_impl_equation r102.2.1))] [(2, [pI (Tm.kind p0), pI (Tm.n p0), pS (Tm.name p0), pL (Tm.encL (Tm.args p0))]), (3, [pI (Tm.kind p1), pI (Tm.n p1), pS (Tm.name p1), pL (Tm.encL (Tm.args p1))])] [((0, 25, 100), 0, .tip (e_T_impl_equation r102.2.1).length 8)]) (wk_St ⟨le_rfl _, le_rfl _, le_rfl _, le_rfl _, le_rfl _, trivial⟩ ⟨box_rfl rfl, box_rfl rfl, trivial⟩ ⟨rfl, trivial⟩ rfl ⟨rfl, rfl, trivial⟩ ⟨rfl, rfl, trivial⟩) ?_)))))
            refine s_reg ?_
            refine s_run 3 [(44, pL (e_T_impl_equation s1.2)), (43, .tip (0, 25, 100) (0) (e_T_impl_equation r102.2.1)), (42, pL (e_Bd r102.1))] [] [] rfl ?_
            obtain ⟨g128, h⟩ := h
            refine s_sl rfl (enc_len (e := e_T_impl_equation) _) (bound_some rfl g128.a) rfl g128.c g128.d (enc_sz (e := e_T_impl_equation) _) (enc_sub (e := e_T_impl_equation) _ _ _) ?_
            obtain ⟨g129, h⟩ := h
            refine s_app rfl rfl rfl (enc_sz (e := e_T_impl_equation) _) (enc_len (e := e_T_impl_equation) _) (enc_len (e := e_T_impl_equation) _) g129 (enc_app (e := e_T_impl_equation) _ _) ?_
            refine s_run 2 [(7, .tip (0, 25, 100) (0) (e_T_impl_equation (r102.2.1 ++ (List.drop (Int.toNat (1 : Int)) (List.take (List.length s1.2) s1.2))))), (6, pL (e_Bd r102.1))] [] [] rfl ?_
            refine blk_n ?_
            exact loop_n ⟨_, h.1⟩ h.2 (wk_St ⟨le_rfl _, le_rfl _, le_rfl _, le_fz rfl, trivial⟩ ⟨box_rfl rfl, box_rfl rfl, trivial⟩ trivial rfl ⟨rfl, rfl, trivial⟩ ⟨rfl, rfl, trivial⟩)
    · have h := h.2 c99
      refine aw_exit (seq_x (loop_x (blk_x (seq_n (aw_wk (St [(2, .ptr 2 0), (3, .ptr 3 0), (6, pL (e_Bd s1.1))] [(2, [pI (Tm.kind p0), pI (Tm.n p0), pS (Tm.name p0), pL (Tm.encL (Tm.args p0))]), (3, [pI (Tm.kind p1), pI (Tm.n p1), pS (Tm.name p1), pL (Tm.encL (Tm.args p1))])] []) (wk_St ⟨le_rfl _, le_rfl _, le_rfl _, trivial⟩ ⟨box_rfl rfl, box_rfl rfl, trivial⟩ trivial rfl ⟨rfl, rfl, trivial⟩ ⟨rfl, rfl, trivial⟩) ?_)))))
      refine aw_seq (s_reg ?_)
      refine s_run 2 [(48, .agg [pI (Tm.kind p0), pI (Tm.n p0), pS (Tm.name p0), pL (Tm.encL (Tm.args p0))]), (47, pL (e_Bd s1.1))] [] [] rfl ?_
      obtain ⟨r130, k131, h⟩ := h
      refine s_call (.tip (0, 49, 0) (0) (e_str r130)) [] [((0, 49, 0), 0, .tip (e_str r130).length 1)] (args_one rfl (args_nil)) k131 rfl ?_
      refine s_run 1 [(50, .agg [pI (Tm.kind p1), pI (Tm.n p1), pS (Tm.name p1), pL (Tm.encL (Tm.args p1))])] [] [] rfl ?_
      obtain ⟨r132, k133, h⟩ := h
      refine s_call (.tip (0, 51, 0) (0) (e_str r132)) [] [((0, 51, 0), 0, .tip (e_str r132).length 1)] (args_one rfl (args_nil)) k133 rfl ?_
      obtain ⟨g134, h⟩ := h
      refine s_app rfl rfl rfl (enc_sz (e := e_str) _) (enc_len (e := e_str) _) (enc_len (e := e_str) _) g134 (enc_app (e := e_str) _ _) ?_
      obtain ⟨r135, k136, h⟩ := h
      refine s_call (pL (e_Bd r135)) [] [] rfl k136 rfl ?_
      refine s_run 2 [(5, pB true), (4, pL (e_Bd r135))] [] [] rfl ?_
      refine seq_n (aw_ret ?_)
      exact endp_ret _ h rfl


def ac_impl_ApplySubst : AC :=
  .seq (.reg false [
    { dst := some 3, k := .bx (.t 1) 4 },
    { dst := some 4, k := .al [.p (.int .i64 0), .p (.int .i64 0), .p (.str []), .p (.slice [])] }])
  (.seq (.seq (.reg false [
    { dst := some 10, k := .fa (.t 3) 0 },
    { dst := some 11, k := .ld (.t 10) 1 false },
    { dst := some 12, k := .bin .eql (.t 11) (.c (.int .i64 (1))) }])
  (.cond (.t 12) (.seq (.reg false [
      { dst := some 14, k := .mv (.t 0) },
      { dst := some 15, k := .fa (.t 3) 2 },
      { dst := some 16, k := .ld (.t 15) 1 false },
      { dst := some 17, k := .call 41 [(.t 14, .fz), (.t 16, .fz)] },
      { dst := some 13, k := .mv (.t 17) },
      { dst := some 18, k := .ex (.t 13) 0 },
      { dst := some 19, k := .ex (.t 13) 1 },
      { dst := some 5, k := .al [.p (.int .i64 0), .p (.int .i64 0), .p (.str []), .p (.slice [])] },
      { dst := none, k := .st (.t 5) (.t 18) 4 5 },
      { dst := some 6, k := .mv (.t 19) }])
    (.wk (.seq (.reg false [
      { dst := some 20, k := .mv (.t 6) }])
    (.cond (.t 20) (.seq (.reg false [
        { dst := some 21, k := .ld (.t 5) 4 true },
        { dst := some 22, k := .call 42 [(.t 21, .fz)] },
        { dst := none, k := .st (.t 4) (.t 22) 4 4 }])
      (.ret))
    (.skip)))))
  (.skip)))
  (.wk (.seq (.reg false [
    { dst := some 23, k := .fa (.t 3) 0 },
    { dst := some 24, k := .ld (.t 23) 1 false },
    { dst := some 25, k := .fa (.t 3) 1 },
    { dst := some 26, k := .ld (.t 25) 1 false },
    { dst := some 27, k := .fa (.t 3) 2 },
    { dst := some 28, k := .ld (.t 27) 1 false },
    { dst := some 29, k := .bd [.p (.int .i64 0), .p (.int .i64 0), .p (.str []), .nil 4] [(0, 1, .t 24), (1, 1, .t 26), (2, 1, .t 28)] },
    { dst := some 7, k := .al [.p (.int .i64 0), .p (.int .i64 0), .p (.str []), .nil 4] },
    { dst := none, k := .stn (.t 7) (.t 29) 4 7 }])
  (.wk (.seq (.seq (.reg false [
    { dst := some 30, k := .fa (.t 3) 3 },
    { dst := some 31, k := .ld (.t 30) 1 false },
    { dst := some 32, k := .len (.t 31) },
    { dst := some 33, k := .mv (.c (.int .i64 (0))) }])
  (.wk (.block 0 (.loop (.seq (.reg false [
        { dst := some 34, k := .bin .lss (.t 33) (.t 32) }])
      (.seq (.cond (.t 34) (.skip)
      (.exit 0))
      (.seq (.block 1 (.seq (.reg false [
          { dst := some 35, k := .ia (.t 31) (.t 33) 4 },
          { dst := some 36, k := .ld (.t 35) 4 true },
          { dst := some 9, k := .al [.p (.int .i64 0), .p (.int .i64 0), .p (.str []), .p (.slice [])] },
          { dst := none, k := .st (.t 9) (.t 36) 4 9 }])
        (.wk (.reg true [
          { dst := some 37, k := .fa (.t 7) 3 },
          { dst := some 38, k := .ld (.t 37) 1 false, vb := .only [7] },
          { dst := some 39, k := .mv (.t 0) },
          { dst := some 40, k := .ld (.t 9) 4 true, vb := .only [9] },
          { dst := some 41, k := .call 14 [(.t 39, .fz), (.t 40, .fz)], vb := .but [7], vl := .but [7] },
          { dst := some 42, k := .bs 4 [.t 41] },
          { dst := some 43, k := .app (.t 38) (.t 42) 4 56 },
          { dst := some 44, k := .fa (.t 7) 3 },
          { dst := none, k := .st (.t 44) (.t 43) 1 7, vb := .only [7] }]))))
      (.reg false [
        { dst := some 45, k := .bin .add (.t 33) (.c (.int .i64 (1))) },
        { dst := some 33, k := .mv (.t 45) }]))))))))
  (.seq (.reg false [
    { dst := some 46, k := .ld (.t 7) 4 true },
    { dst := none, k := .st (.t 4) (.t 46) 4 4 }])
  (.ret)))))))
theorem chk_impl_ApplySubst : fnOK Try.prog 2 Try.f14 ac_impl_ApplySubst [(.cell 4 4 true, .fz)] = true := by kernel_rfl
def wp_impl_ApplySubst (p0 : (List Bd)) (p1 : Tm) (post : Tm → Prop) : Prop :=
  JOIN (fun (N8 : Unit → Prop) => ((((Tm.kind p1) == (1 : Int)) = true → (∃ r35 : Tm × Bool, C_impl_bound p0 (Tm.name p1) r35 ∧ ((r35.2 = true → (∃ r38 : Tm, C_impl_copyTerm r35.1 r38 ∧ post r38)) ∧ (r35.2 = false → N8 ())))) ∧ (((Tm.kind p1) == (1 : Int)) = false → N8 ()))) (fun (t7 : Unit) => LOOP (fun (N24 : (Int × (List Tm)) → Prop) (s11 : Int × (List Tm)) => (((decide (s11.1 < ((List.length (Tm.args p1) : Nat) : Int))) = true → (∃ u29, GETI (Tm.args p1) s11.1 u29 ∧ (∃ r31 : Tm, C_impl_ApplySubst p0 u29 r31 ∧ ((List.length s11.2 + List.length ([r31] : List Tm)) * 56 ≤ 140737488355328 ∧ N24 ((IntKind.i64.wrap (s11.1 + (1 : Int))), (s11.2 ++ ([r31] : List Tm))))))) ∧ ((decide (s11.1 < ((List.length (Tm.args p1) : Nat) : Int))) = false → post (Tm.mk (Tm.kind p1) (Tm.n p1) (Tm.name p1) s11.2)))) ((0 : Int), ([] : List Tm)))
theorem w_impl_ApplySubst (p0 : (List Bd)) (p1 : Tm) (post : Tm → Prop) (h : wp_impl_ApplySubst p0 p1 post) : ∃ r, post r ∧ C_impl_ApplySubst p0 p1 r := by
  unfold wp_impl_ApplySubst at h
  refine evs_of (encR := fun r : Tm => .one (.l (.fz (.agg (Tm.cells r))))) (encO := fun r => []) 2 [(.cell 4 4 true, .fz)] [.fz, .fz] Try.func14 chk_impl_ApplySubst rfl rfl [(1, .p (.agg (Tm.cells p1))), (0, pL (e_Bd p0))] [] [] rfl ?_
  refine aw_seq (s_reg ?_)
  refine s_run 2 [(4, .ptr 4 0), (3, .ptr 3 0)] [(4, [pI (0 : Int), pI (0 : Int), pS ([] : Str), pL (Tm.encL ([] : List Tm))]), (3, [pI (Tm.kind p1), pI (Tm.n p1), pS (Tm.name p1), pL (Tm.encL (Tm.args p1))])] [] rfl ?_
  refine seq_n ?_
  obtain ⟨J10, hJ10, h⟩ := h
  refine aw_join (ι := { y : Unit // J10 y }) (fun x9 => St [(0, pL (e_Bd p0)), (3, .ptr 3 0), (4, .ptr 4 0)] [(3, [pI (Tm.kind p1), pI (Tm.n p1), pS (Tm.name p1), pL (Tm.encL (Tm.args p1))]), (4, [pI (0 : Int), pI (0 : Int), pS ([] : Str), pL (Tm.encL ([] : List Tm))])] []) ?_ ?_
  · rintro ⟨t7, ht7⟩
    replace h := hJ10 t7 ht7
    refine aw_seq (s_reg ?_)
    refine s_run 9 [(7, .ptr 7 0), (29, .agg [pI (Tm.kind p1), pI (Tm.n p1), pS (Tm.name p1), .nil 4]), (28, pS (Tm.name p1)), (27, .ptr 3 2), (26, pI (Tm.n p1)), (25, .ptr 3 1), (24, pI (Tm.kind p1)), (23, .ptr 3 0)] [(7, [pI (Tm.kind p1), pI (Tm.n p1), pS (Tm.name p1), .tip (3, 7, 3) (0) (Tm.encL ([] : List Tm))]), (7, [pI (0 : Int), pI (0 : Int), pS ([] : Str), .tip (1, 7, 3) (0) (Tm.encL ([] : List Tm))])] [((3, 7, 3), 0, .tip (Tm.encL ([] : List Tm)).length 4), ((1, 7, 3), 0, .tip (Tm.encL ([] : List Tm)).length 4)] rfl ?_
    refine seq_n (aw_wk (St [(0, pL (e_Bd p0)), (3, .ptr 3 0), (4, .ptr 4 0), (7, .ptr 7 0)] [(3, [pI (Tm.kind p1), pI (Tm.n p1), pS (Tm.name p1), pL (Tm.encL (Tm.args p1))]), (4, [pI (0 : Int), pI (0 : Int), pS ([] : Str), pL (Tm.encL ([] : List Tm))]), (7, [pI (Tm.kind p1), pI (Tm.n p1), pS (Tm.name p1), .tip (3, 7, 3) (0) (Tm.encL ([] : List Tm))])] [((3, 7, 3), 0, .tip (Tm.encL ([] : List Tm)).length 4)]) (wk_St ⟨le_rfl _, le_rfl _, le_rfl _, le_rfl _, trivial⟩ ⟨box_rfl rfl, box_rfl rfl, box_rfl rfl, trivial⟩ ⟨rfl, trivial⟩ rfl ⟨rfl, rfl, trivial⟩ ⟨rfl, rfl, trivial⟩) ?_)
    refine aw_seq (aw_seq (s_reg ?_))
    refine s_run 2 [(31, pL (Tm.encL (Tm.args p1))), (30, .ptr 3 3)] [] [] rfl ?_
    refine s_len rfl (enc_len (e := Tm.encL) _) ?_
    refine s_run 1 [(33, pI (0 : Int))] [] [] rfl ?_
    refine seq_n (aw_wk (St [(0, pL (e_Bd p0)), (4, .ptr 4 0), (7, .ptr 7 0), (31, pL (Tm.encL (Tm.args p1))), (32, pI ((List.length (Tm.args p1) : Nat) : Int)), (33, pI (0 : Int))] [(4, [pI (0 : Int), pI (0 : Int), pS ([] : Str), pL (Tm.encL ([] : List Tm))]), (7, [pI (Tm.kind p1), pI (Tm.n p1), pS (Tm.name p1), .tip (3, 7, 3) (0) (Tm.encL ([] : List Tm))])] [((3, 7, 3), 0, .tip (Tm.encL ([] : List Tm)).length 4)]) (wk_St ⟨le_rfl _, le_rfl _, le_rfl _, le_rfl _, le_rfl _, le_rfl _, trivial⟩ ⟨box_rfl rfl, box_rfl rfl, trivial⟩ ⟨rfl, trivial⟩ rfl ⟨rfl, rfl, trivial⟩ ⟨rfl, rfl, trivial⟩) ?_)
    refine aw_blk ?_
    obtain ⟨I26, m27, h0, h⟩ := h
    refine aw_loop' (ι := { y : Int × (List Tm) // I26 y }) (fun x25 => St [(0, pL (e_Bd p0)), (4, .ptr 4 0), (7, .ptr 7 0), (31, pL (Tm.encL (Tm.args p1))), (32, pI ((List.length (Tm.args p1) : Nat) : Int)), (33, pI x25.1.1)] [(4, [pI (0 : Int), pI (0 : Int), pS ([] : Str), pL (Tm.encL ([] : List Tm))]), (7, [pI (Tm.kind p1), pI (Tm.n p1), pS (Tm.name p1), .tip (3, 7, 3) (0) (Tm.encL x25.1.2)])] [((3, 7, 3), 0, .tip (Tm.encL x25.1.2).length 4)]) (fun x25 => m27 x25.1) ⟨_, h0⟩ ?_ ?_
    · exact wk_St ⟨le_rfl _, le_rfl _, le_rfl _, le_rfl _, le_rfl _, le_rfl _, trivial⟩ ⟨box_rfl rfl, box_rfl rfl, trivial⟩ ⟨rfl, trivial⟩ rfl ⟨rfl, rfl, trivial⟩ ⟨rfl, rfl, trivial⟩
    · rintro ⟨s11, hs11⟩
      replace h := h s11 hs11
      refine aw_seq (s_reg ?_)
      refine s_run 1 [(34, pB (decide (s11.1 < ((List.length (Tm.args p1) : Nat) : Int))))] [] [] rfl ?_
      refine seq_n (aw_seq (s_if rfl (fun c28 => ?_) (fun c28 => ?_)))
      · have h := h.1 c28
        refine aw_skip (seq_n (aw_seq (aw_blk (aw_seq (s_reg ?_)))))
        obtain ⟨u29, ⟨g30a, g30b⟩, h⟩ := h
        refine s_ia rfl rfl g30a (enc_get (e := Tm.encL) g30b) rfl ?_
        refine s_run 3 [(9, .ptr 9 0), (36, .p (.agg (Tm.cells u29)))] [(9, [pI (Tm.kind u29), pI (Tm.n u29), pS (Tm.name u29), pL (Tm.encL (Tm.args u29))]), (9, [pI (0 : Int), pI (0 : Int), pS ([] : Str), pL (Tm.encL ([] : List Tm))])] [] rfl ?_
        refine seq_n (aw_wk (St [(0, pL (e_Bd p0)), (4, .ptr 4 0), (7, .ptr 7 0), (9, .ptr 9 0), (31, pL (Tm.encL (Tm.args p1))), (32, pI ((List.length (Tm.args p1) : Nat) : Int)), (33, pI s11.1)] [(4, [pI (0 : Int), pI (0 : Int), pS ([] : Str), pL (Tm.encL ([] : List Tm))]), (7, [pI (Tm.kind p1), pI (Tm.n p1), pS (Tm.name p1), .tip (3, 7, 3) (0) (Tm.encL s11.2)]), (9, [pI (Tm.kind u29), pI (Tm.n u29), pS (Tm.name u29), pL (Tm.encL (Tm.args u29))])] [((3, 7, 3), 0, .tip (Tm.encL s11.2).length 4)]) (wk_St ⟨le_rfl _, le_rfl _, le_rfl _, le_rfl _, le_rfl _, le_rfl _, le_rfl _, trivial⟩ ⟨box_rfl rfl, box_rfl rfl, box_rfl rfl, trivial⟩ ⟨rfl, trivial⟩ rfl ⟨rfl, rfl, trivial⟩ ⟨rfl, rfl, trivial⟩) ?_)
        refine s_reg ?_
        refine s_run 4 [(40, .agg [pI (Tm.kind u29), pI (Tm.n u29), pS (Tm.name u29), pL (Tm.encL (Tm.args u29))]), (39, pL (e_Bd p0)), (38, .tip (3, 7, 3) (0) (Tm.encL s11.2)), (37, .ptr 7 3)] [] [] rfl ?_
        obtain ⟨r31, k32, h⟩ := h
        refine s_call (.p (.agg (Tm.cells r31))) [] [] rfl k32 rfl ?_
        refine s_bs rfl rfl (enc_cons (e := Tm.encL) r31 (enc_nil (e := Tm.encL))) ?_
        obtain ⟨g33, h⟩ := h
        refine s_app rfl rfl rfl (enc_sz (e := Tm.encL) _) (enc_len (e := Tm.encL) _) (enc_len (e := Tm.encL) _) g33 (enc_app (e := Tm.encL) _ _) ?_
        refine s_run 2 [(44, .ptr 7 3)] [(7, [pI (Tm.kind p1), pI (Tm.n p1), pS (Tm.name p1), .tip (3, 7, 3) (0) (Tm.encL (s11.2 ++ ([r31] : List Tm)))])] [] rfl ?_
        refine blk_n (seq_n (s_reg ?_))
        refine s_run 2 [(33, pI (IntKind.i64.wrap (s11.1 + (1 : Int)))), (45, pI (IntKind.i64.wrap (s11.1 + (1 : Int))))] [] [] rfl ?_
        exact loop_n ⟨_, h.1⟩ h.2 (wk_St ⟨le_rfl _, le_rfl _, le_rfl _, le_rfl _, le_rfl _, le_rfl _, trivial⟩ ⟨box_rfl rfl, box_rfl rfl, trivial⟩ ⟨rfl, trivial⟩ rfl ⟨rfl, rfl, trivial⟩ ⟨rfl, rfl, trivial⟩)
      · have h := h.2 c28
        refine aw_exit (seq_x (loop_x (blk_x (seq_n (aw_seq (s_reg ?_))))))
        refine s_run 2 [(46, .agg [pI (Tm.kind p1), pI (Tm.n p1), pS (Tm.name p1), .tip (3, 7, 3) (0) (Tm.encL s11.2)])] [(4, [pI (Tm.kind p1), pI (Tm.n p1), pS (Tm.name p1), .tip (3, 7, 3) (0) (Tm.encL s11.2)])] [] rfl ?_
        refine seq_n (aw_ret ?_)
        exact endp_ret _ h rfl
  · refine aw_seq (s_reg ?_)
    refine s_run 3 [(12, pB ((Tm.kind p1) == (1 : Int))), (11, pI (Tm.kind p1)), (10, .ptr 3 0)] [] [] rfl ?_
    refine seq_n (s_if rfl (fun c34 => ?_) (fun c34 => ?_))
    · have h := h.1 c34
      refine aw_seq (s_reg ?_)
      refine s_run 3 [(16, pS (Tm.name p1)), (15, .ptr 3 2), (14, pL (e_Bd p0))] [] [] rfl ?_
      obtain ⟨r35, k36, h⟩ := h
      refine s_call (.tup [.p (.agg (Tm.cells r35.1)), pB r35.2]) [] [] rfl k36 rfl ?_
      refine s_run 6 [(6, pB r35.2), (5, .ptr 5 0), (19, pB r35.2), (18, .p (.agg (Tm.cells r35.1))), (13, .tup [.p (.agg (Tm.cells r35.1)), pB r35.2])] [(5, [pI (Tm.kind r35.1), pI (Tm.n r35.1), pS (Tm.name r35.1), pL (Tm.encL (Tm.args r35.1))]), (5, [pI (0 : Int), pI (0 : Int), pS ([] : Str), pL (Tm.encL ([] : List Tm))])] [] rfl ?_
      refine seq_n (aw_wk (St [(0, pL (e_Bd p0)), (3, .ptr 3 0), (4, .ptr 4 0), (5, .ptr 5 0), (6, pB r35.2)] [(3, [pI (Tm.kind p1), pI (Tm.n p1), pS (Tm.name p1), pL (Tm.encL (Tm.args p1))]), (4, [pI (0 : Int), pI (0 : Int), pS ([] : Str), pL (Tm.encL ([] : List Tm))]), (5, [pI (Tm.kind r35.1), pI (Tm.n r35.1), pS (Tm.name r35.1), pL (Tm.encL (Tm.args r35.1))])] []) (wk_St ⟨le_rfl _, le_rfl _, le_rfl _, le_rfl _, le_rfl _, trivial⟩ ⟨box_rfl rfl, box_rfl rfl, box_rfl rfl, trivial⟩ trivial rfl ⟨rfl, rfl, trivial⟩ ⟨rfl, rfl, trivial⟩) ?_)
      refine aw_seq (s_reg ?_)
      refine s_run 1 [(20, pB r35.2)] [] [] rfl ?_
      refine seq_n (s_if rfl (fun c37 => ?_) (fun c37 => ?_))
      · have h := h.1 c37
        refine aw_seq (s_reg ?_)
        refine s_run 1 [(21, .agg [pI (Tm.kind r35.1), pI (Tm.n r35.1), pS (Tm.name r35.1), pL (Tm.encL (Tm.args r35.1))])] [] [] rfl ?_
        obtain ⟨r38, k39, h⟩ := h
        refine s_call (.p (.agg (Tm.cells r38))) [] [] rfl k39 rfl ?_
        refine s_run 1 [] [(4, [pI (Tm.kind r38), pI (Tm.n r38), pS (Tm.name r38), pL (Tm.encL (Tm.args r38))])] [] rfl ?_
        refine seq_n (aw_ret ?_)
        exact endp_ret _ h rfl
      · have h := h.2 c37
        refine aw_skip ?_
        exact join_n ⟨_, h⟩ (wk_St ⟨le_rfl _, le_rfl _, le_rfl _, trivial⟩ ⟨box_rfl rfl, box_rfl rfl, trivial⟩ trivial rfl ⟨rfl, rfl, trivial⟩ ⟨rfl, rfl, trivial⟩)
    · have h := h.2 c34
      refine aw_skip ?_
      exact join_n ⟨_, h⟩ (wk_St ⟨le_rfl _, le_rfl _, le_rfl _, trivial⟩ ⟨box_rfl rfl, box_rfl rfl, trivial⟩ trivial rfl ⟨rfl, rfl, trivial⟩ ⟨rfl, rfl, trivial⟩)


def ac_spec_ApplySubst : AC :=
  .seq (.reg false [
    { dst := some 3, k := .bx (.t 1) 4 },
    { dst := some 4, k := .al [.p (.int .i64 0), .p (.int .i64 0), .p (.str []), .p (.slice [])] }])
  (.seq (.seq (.reg false [
    { dst := some 9, k := .fa (.t 3) 0 },
    { dst := some 10, k := .ld (.t 9) 1 false },
    { dst := some 11, k := .bin .eql (.t 10) (.c (.int .i64 (1))) }])
  (.cond (.t 11) (.seq (.reg false [
      { dst := some 13, k := .mv (.t 0) },
      { dst := some 14, k := .fa (.t 3) 2 },
      { dst := some 15, k := .ld (.t 14) 1 false },
      { dst := some 16, k := .call 53 [(.t 13, .fz), (.t 15, .fz)] },
      { dst := some 12, k := .mv (.t 16) },
      { dst := some 17, k := .ex (.t 12) 0 },
      { dst := some 18, k := .ex (.t 12) 1 },
      { dst := some 5, k := .al [.p (.int .i64 0), .p (.int .i64 0), .p (.str []), .p (.slice [])] },
      { dst := none, k := .st (.t 5) (.t 17) 4 5 },
      { dst := some 6, k := .mv (.t 18) }])
    (.wk (.seq (.reg false [
      { dst := some 19, k := .mv (.t 6) }])
    (.cond (.t 19) (.seq (.reg false [
        { dst := some 20, k := .ld (.t 5) 4 true },
        { dst := none, k := .st (.t 4) (.t 20) 4 4 }])
      (.ret))
    (.skip)))))
  (.skip)))
  (.wk (.seq (.reg false [
    { dst := some 21, k := .fa (.t 3) 0 },
    { dst := some 22, k := .ld (.t 21) 1 false },
    { dst := some 23, k := .fa (.t 3) 1 },
    { dst := some 24, k := .ld (.t 23) 1 false },
    { dst := some 25, k := .fa (.t 3) 2 },
    { dst := some 26, k := .ld (.t 25) 1 false },
    { dst := some 27, k := .bd [.p (.int .i64 0), .p (.int .i64 0), .p (.str []), .nil 4] [(0, 1, .t 22), (1, 1, .t 24), (2, 1, .t 26)] },
    { dst := some 7, k := .al [.p (.int .i64 0), .p (.int .i64 0), .p (.str []), .nil 4] },
    { dst := none, k := .stn (.t 7) (.t 27) 4 7 }])
  (.wk (.seq (.seq (.reg false [
    { dst := some 8, k := .mv (.c (.int .i64 (0))) }])
  (.block 0 (.loop (.seq (.seq (.reg false [
        { dst := some 28, k := .mv (.t 8) },
        { dst := some 29, k := .fa (.t 3) 3 },
        { dst := some 30, k := .ld (.t 29) 1 false },
        { dst := some 31, k := .len (.t 30) },
        { dst := some 32, k := .bin .lss (.t 28) (.t 31) }])
      (.cond (.t 32) (.skip)
      (.exit 0)))
      (.wk (.seq (.block 1 (.reg true [
          { dst := some 35, k := .fa (.t 7) 3 },
          { dst := some 36, k := .ld (.t 35) 1 false, vb := .only [7] },
          { dst := some 37, k := .mv (.t 0) },
          { dst := some 38, k := .fa (.t 3) 3 },
          { dst := some 39, k := .ld (.t 38) 1 false, vb := .only [3] },
          { dst := some 40, k := .mv (.t 8) },
          { dst := some 41, k := .ia (.t 39) (.t 40) 4 },
          { dst := some 42, k := .ld (.t 41) 4 true, vb := .only [] },
          { dst := some 43, k := .call 46 [(.t 37, .fz), (.t 42, .fz)], vb := .but [7], vl := .but [7] },
          { dst := some 44, k := .bs 4 [.t 43] },
          { dst := some 45, k := .app (.t 36) (.t 44) 4 56 },
          { dst := some 46, k := .fa (.t 7) 3 },
          { dst := none, k := .st (.t 46) (.t 45) 1 7, vb := .only [7] }]))
      (.wk (.reg false [
        { dst := some 33, k := .mv (.t 8) },
        { dst := some 34, k := .bin .add (.t 33) (.c (.int .i64 (1))) },
        { dst := some 8, k := .mv (.t 34) }]))))))))
  (.seq (.reg false [
    { dst := some 47, k := .ld (.t 7) 4 true },
    { dst := none, k := .st (.t 4) (.t 47) 4 4 }])
  (.ret)))))))
theorem chk_spec_ApplySubst : fnOK Try.prog 2 Try.f46 ac_spec_ApplySubst [(.cell 4 4 true, .fz)] = true := by kernel_rfl
def wp_spec_ApplySubst (p0 : (List Bd)) (p1 : Tm) (post : Tm → Prop) : Prop :=
  JOIN (fun (N6 : Unit → Prop) => ((((Tm.kind p1) == (1 : Int)) = true → (∃ r33 : Tm × Bool, C_spec_FindBind p0 (Tm.name p1) r33 ∧ ((r33.2 = true → post r33.1) ∧ (r33.2 = false → N6 ())))) ∧ (((Tm.kind p1) == (1 : Int)) = false → N6 ()))) (fun (t5 : Unit) => LOOP (fun (N22 : (Int × (List Tm)) → Prop) (s9 : Int × (List Tm)) => (((decide (s9.1 < ((List.length (Tm.args p1) : Nat) : Int))) = true → (∃ u27, GETI (Tm.args p1) s9.1 u27 ∧ (∃ r29 : Tm, C_spec_ApplySubst p0 u27 r29 ∧ ((List.length s9.2 + List.length ([r29] : List Tm)) * 56 ≤ 140737488355328 ∧ N22 ((IntKind.i64.wrap (s9.1 + (1 : Int))), (s9.2 ++ ([r29] : List Tm))))))) ∧ ((decide (s9.1 < ((List.length (Tm.args p1) : Nat) : Int))) = false → post (Tm.mk (Tm.kind p1) (Tm.n p1) (Tm.name p1) s9.2)))) ((0 : Int), ([] : List Tm)))
theorem w_spec_ApplySubst (p0 : (List Bd)) (p1 : Tm) (post : Tm → Prop) (h : wp_spec_ApplySubst p0 p1 post) : ∃ r, post r ∧ C_spec_ApplySubst p0 p1 r := by
  unfold wp_spec_ApplySubst at h
  refine evs_of (encR := fun r : Tm => .one (.l (.fz (.agg (Tm.cells r))))) (encO := fun r => []) 2 [(.cell 4 4 true, .fz)] [.fz, .fz] Try.func46 chk_spec_ApplySubst rfl rfl [(1, .p (.agg (Tm.cells p1))), (0, pL (e_Bd p0))] [] [] rfl ?_
  refine aw_seq (s_reg ?_)
  refine s_run 2 [(4, .ptr 4 0), (3, .ptr 3 0)] [(4, [pI (0 : Int), pI (0 : Int), pS ([] : Str), pL (Tm.encL ([] : List Tm))]), (3, [pI (Tm.kind p1), pI (Tm.n p1), pS (Tm.name p1), pL (Tm.encL (Tm.args p1))])] [] rfl ?_
  refine seq_n ?_
  obtain ⟨J8, hJ8, h⟩ := h
  refine aw_join (ι := { y : Unit // J8 y }) (fun x7 => St [(0, pL (e_Bd p0)), (3, .ptr 3 0), (4, .ptr 4 0)] [(3, [pI (Tm.kind p1), pI (Tm.n p1), pS (Tm.name p1), pL (Tm.encL (Tm.args p1))]), (4, [pI (0 : Int), pI (0 : Int), pS ([] : Str), pL (Tm.encL ([] : List Tm))])] []) ?_ ?_
  · rintro ⟨t5, ht5⟩
    replace h := hJ8 t5 ht5
    refine aw_seq (s_reg ?_)
    refine s_run 9 [(7, .ptr 7 0), (27, .agg [pI (Tm.kind p1), pI (Tm.n p1), pS (Tm.name p1), .nil 4]), (26, pS (Tm.name p1)), (25, .ptr 3 2), (24, pI (Tm.n p1)), (23, .ptr 3 1), (22, pI (Tm.kind p1)), (21, .ptr 3 0)] [(7, [pI (Tm.kind p1), pI (Tm.n p1), pS (Tm.name p1), .tip (3, 7, 3) (0) (Tm.encL ([] : List Tm))]), (7, [pI (0 : Int), pI (0 : Int), pS ([] : Str), .tip (1, 7, 3) (0) (Tm.encL ([] : List Tm))])] [((3, 7, 3), 0, .tip (Tm.encL ([] : List Tm)).length 4), ((1, 7, 3), 0, .tip (Tm.encL ([] : List Tm)).length 4)] rfl ?_
    refine seq_n (aw_wk (St [(0, pL (e_Bd p0)), (3, .ptr 3 0), (4, .ptr 4 0), (7, .ptr 7 0)] [(3, [pI (Tm.kind p1), pI (Tm.n p1), pS (Tm.name p1), pL (Tm.encL (Tm.args p1))]), (4, [pI (0 : Int), pI (0 : Int), pS ([] : Str), pL (Tm.encL ([] : List Tm))]), (7, [pI (Tm.kind p1), pI (Tm.n p1), pS (Tm.name p1), .tip (3, 7, 3) (0) (Tm.encL ([] : List Tm))])] [((3, 7, 3), 0, .tip (Tm.encL ([] : List Tm)).length 4)]) (wk_St ⟨le_rfl _, le_rfl _, le_rfl _, le_rfl _, trivial⟩ ⟨box_rfl rfl, box_rfl rfl, box_rfl rfl, trivial⟩ ⟨rfl, trivial⟩ rfl ⟨rfl, rfl, trivial⟩ ⟨rfl, rfl, trivial⟩) ?_)
    refine aw_seq (aw_seq (s_reg ?_))
    refine s_run 1 [(8, pI (0 : Int))] [] [] rfl ?_
    refine seq_n (aw_blk ?_)
    obtain ⟨I24, m25, h0, h⟩ := h
    refine aw_loop' (ι := { y : Int × (List Tm) // I24 y }) (fun x23 => St [(0, pL (e_Bd p0)), (3, .ptr 3 0), (4, .ptr 4 0), (7, .ptr 7 0), (8, pI x23.1.1)] [(3, [pI (Tm.kind p1), pI (Tm.n p1), pS (Tm.name p1), pL (Tm.encL (Tm.args p1))]), (4, [pI (0 : Int), pI (0 : Int), pS ([] : Str), pL (Tm.encL ([] : List Tm))]), (7, [pI (Tm.kind p1), pI (Tm.n p1), pS (Tm.name p1), .tip (3, 7, 3) (0) (Tm.encL x23.1.2)])] [((3, 7, 3), 0, .tip (Tm.encL x23.1.2).length 4)]) (fun x23 => m25 x23.1) ⟨_, h0⟩ ?_ ?_
    · exact wk_St ⟨le_rfl _, le_rfl _, le_rfl _, le_rfl _, le_rfl _, trivial⟩ ⟨box_rfl rfl, box_rfl rfl, box_rfl rfl, trivial⟩ ⟨rfl, trivial⟩ rfl ⟨rfl, rfl, trivial⟩ ⟨rfl, rfl, trivial⟩
    · rintro ⟨s9, hs9⟩
      replace h := h s9 hs9
      refine aw_seq (aw_seq (s_reg ?_))
      refine s_run 3 [(30, pL (Tm.encL (Tm.args p1))), (29, .ptr 3 3), (28, pI s9.1)] [] [] rfl ?_
      refine s_len rfl (enc_len (e := Tm.encL) _) ?_
      refine s_run 1 [(32, pB (decide (s9.1 < ((List.length (Tm.args p1) : Nat) : Int))))] [] [] rfl ?_
      refine seq_n (s_if rfl (fun c26 => ?_) (fun c26 => ?_))
      · have h := h.1 c26
        refine aw_skip (seq_n (aw_wk (St [(0, pL (e_Bd p0)), (3, .ptr 3 0), (4, .ptr 4 0), (7, .ptr 7 0), (8, pI s9.1)] [(3, [pI (Tm.kind p1), pI (Tm.n p1), pS (Tm.name p1), pL (Tm.encL (Tm.args p1))]), (4, [pI (0 : Int), pI (0 : Int), pS ([] : Str), pL (Tm.encL ([] : List Tm))]), (7, [pI (Tm.kind p1), pI (Tm.n p1), pS (Tm.name p1), .tip (3, 7, 3) (0) (Tm.encL s9.2)])] [((3, 7, 3), 0, .tip (Tm.encL s9.2).length 4)]) (wk_St ⟨le_rfl _, le_rfl _, le_rfl _, le_rfl _, le_rfl _, trivial⟩ ⟨box_rfl rfl, box_rfl rfl, box_rfl rfl, trivial⟩ ⟨rfl, trivial⟩ rfl ⟨rfl, rfl, trivial⟩ ⟨rfl, rfl, trivial⟩) ?_))
        refine aw_seq (aw_blk (s_reg ?_))
        refine s_run 6 [(40, pI s9.1), (39, pL (Tm.encL (Tm.args p1))), (38, .ptr 3 3), (37, pL (e_Bd p0)), (36, .tip (3, 7, 3) (0) (Tm.encL s9.2)), (35, .ptr 7 3)] [] [] rfl ?_
        obtain ⟨u27, ⟨g28a, g28b⟩, h⟩ := h
        refine s_ia rfl rfl g28a (enc_get (e := Tm.encL) g28b) rfl ?_
        refine s_run 1 [(42, .p (.agg (Tm.cells u27)))] [] [] rfl ?_
        obtain ⟨r29, k30, h⟩ := h
        refine s_call (.p (.agg (Tm.cells r29))) [] [] rfl k30 rfl ?_
        refine s_bs rfl rfl (enc_cons (e := Tm.encL) r29 (enc_nil (e := Tm.encL))) ?_
        obtain ⟨g31, h⟩ := h
        refine s_app rfl rfl rfl (enc_sz (e := Tm.encL) _) (enc_len (e := Tm.encL) _) (enc_len (e := Tm.encL) _) g31 (enc_app (e := Tm.encL) _ _) ?_
        refine s_run 2 [(46, .ptr 7 3)] [(7, [pI (Tm.kind p1), pI (Tm.n p1), pS (Tm.name p1), .tip (3, 7, 3) (0) (Tm.encL (s9.2 ++ ([r29] : List Tm)))])] [] rfl ?_
        refine blk_n (seq_n (aw_wk (St [(0, pL (e_Bd p0)), (3, .ptr 3 0), (4, .ptr 4 0), (7, .ptr 7 0), (8, pI s9.1)] [(3, [pI (Tm.kind p1), pI (Tm.n p1), pS (Tm.name p1), pL (Tm.encL (Tm.args p1))]), (4, [pI (0 : Int), pI (0 : Int), pS ([] : Str), pL (Tm.encL ([] : List Tm))]), (7, [pI (Tm.kind p1), pI (Tm.n p1), pS (Tm.name p1), .tip (3, 7, 3) (0) (Tm.encL (s9.2 ++ ([r29] : List Tm)))])] [((3, 7, 3), 0, .tip (Tm.encL (s9.2 ++ ([r29] : List Tm))).length 4)]) (wk_St ⟨le_rfl _, le_rfl _, le_rfl _, le_rfl _, le_rfl _, trivial⟩ ⟨box_rfl rfl, box_rfl rfl, box_rfl rfl, trivial⟩ ⟨rfl, trivial⟩ rfl ⟨rfl, rfl, trivial⟩ ⟨rfl, rfl, trivial⟩) ?_))
        refine s_reg ?_
        refine s_run 3 [(8, pI (IntKind.i64.wrap (s9.1 + (1 : Int)))), (34, pI (IntKind.i64.wrap (s9.1 + (1 : Int)))), (33, pI s9.1)] [] [] rfl ?_
        exact loop_n ⟨_, h.1⟩ h.2 (wk_St ⟨le_rfl _, le_rfl _, le_rfl _, le_rfl _, le_rfl _, trivial⟩ ⟨box_rfl rfl, box_rfl rfl, box_rfl rfl, trivial⟩ ⟨rfl, trivial⟩ rfl ⟨rfl, rfl, trivial⟩ ⟨rfl, rfl, trivial⟩)
      · have h := h.2 c26
        refine aw_exit (seq_x (loop_x (blk_x (seq_n (aw_seq (s_reg ?_))))))
        refine s_run 2 [(47, .agg [pI (Tm.kind p1), pI (Tm.n p1), pS (Tm.name p1), .tip (3, 7, 3) (0) (Tm.encL s9.2)])] [(4, [pI (Tm.kind p1), pI (Tm.n p1), pS (Tm.name p1), .tip (3, 7, 3) (0) (Tm.encL s9.2)])] [] rfl ?_
        refine seq_n (aw_ret ?_)
        exact endp_ret _ h rfl
  · refine aw_seq (s_reg ?_)
    refine s_run 3 [(11, pB ((Tm.kind p1) == (1 : Int))), (10, pI (Tm.kind p1)), (9, .ptr 3 0)] [] [] rfl ?_
    refine seq_n (s_if rfl (fun c32 => ?_) (fun c32 => ?_))
    · have h := h.1 c32
      refine aw_seq (s_reg ?_)
      refine s_run 3 [(15, pS (Tm.name p1)), (14, .ptr 3 2), (13, pL (e_Bd p0))] [] [] rfl ?_
      obtain ⟨r33, k34, h⟩ := h
      refine s_call (.tup [.p (.agg (Tm.cells r33.1)), pB r33.2]) [] [] rfl k34 rfl ?_
      refine s_run 6 [(6, pB r33.2), (5, .ptr 5 0), (18, pB r33.2), (17, .p (.agg (Tm.cells r33.1))), (12, .tup [.p (.agg (Tm.cells r33.1)), pB r33.2])] [(5, [pI (Tm.kind r33.1), pI (Tm.n r33.1), pS (Tm.name r33.1), pL (Tm.encL (Tm.args r33.1))]), (5, [pI (0 : Int), pI (0 : Int), pS ([] : Str), pL (Tm.encL ([] : List Tm))])] [] rfl ?_
      refine seq_n (aw_wk (St [(0, pL (e_Bd p0)), (3, .ptr 3 0), (4, .ptr 4 0), (5, .ptr 5 0), (6, pB r33.2)] [(3, [pI (Tm.kind p1), pI (Tm.n p1), pS (Tm.name p1), pL (Tm.encL (Tm.args p1))]), (4, [pI (0 : Int), pI (0 : Int), pS ([] : Str), pL (Tm.encL ([] : List Tm))]), (5, [pI (Tm.kind r33.1), pI (Tm.n r33.1), pS (Tm.name r33.1), pL (Tm.encL (Tm.args r33.1))])] []) (wk_St ⟨le_rfl _, le_rfl _, le_rfl _, le_rfl _, le_rfl _, trivial⟩ ⟨box_rfl rfl, box_rfl rfl, box_rfl rfl, trivial⟩ trivial rfl ⟨rfl, rfl, trivial⟩ ⟨rfl, rfl, trivial⟩) ?_)
      refine aw_seq (s_reg ?_)
      refine s_run 1 [(19, pB r33.2)] [] [] rfl ?_
      refine seq_n (s_if rfl (fun c35 => ?_) (fun c35 => ?_))
      · have h := h.1 c35
        refine aw_seq (s_reg ?_)
        refine s_run 2 [(20, .agg [pI (Tm.kind r33.1), pI (Tm.n r33.1), pS (Tm.name r33.1), pL (Tm.encL (Tm.args r33.1))])] [(4, [pI (Tm.kind r33.1), pI (Tm.n r33.1), pS (Tm.name r33.1), pL (Tm.encL (Tm.args r33.1))])] [] rfl ?_
        refine seq_n (aw_ret ?_)
        exact endp_ret _ h rfl
      · have h := h.2 c35
        refine aw_skip ?_
        exact join_n ⟨_, h⟩ (wk_St ⟨le_rfl _, le_rfl _, le_rfl _, trivial⟩ ⟨box_rfl rfl, box_rfl rfl, trivial⟩ trivial rfl ⟨rfl, rfl, trivial⟩ ⟨rfl, rfl, trivial⟩)
    · have h := h.2 c32
      refine aw_skip ?_
      exact join_n ⟨_, h⟩ (wk_St ⟨le_rfl _, le_rfl _, le_rfl _, trivial⟩ ⟨box_rfl rfl, box_rfl rfl, trivial⟩ trivial rfl ⟨rfl, rfl, trivial⟩ ⟨rfl, rfl, trivial⟩)


def ac_spec_l8Two : AC :=
  .seq (.reg false [
    { dst := some 2, k := .al [.p (.int .i64 0), .p (.int .i64 0), .p (.str []), .p (.slice [])] },
    { dst := some 3, k := .al [.p (.int .i64 0), .p (.int .i64 0), .p (.str []), .p (.slice [])] }])
  (.seq (.reg false [
    { dst := some 6, k := .mv (.t 0) },
    { dst := some 7, k := .call 38 [(.t 6, .fz)] },
    { dst := some 4, k := .mv (.t 7) }])
  (.wk (.seq (.reg false [
    { dst := some 8, k := .mv (.t 4) },
    { dst := some 9, k := .mv (.t 4) },
    { dst := some 10, k := .call 49 [(.t 9, .io [false, false, false]), (.c (.int .i64 (3)), .fz)] },
    { dst := some 11, k := .bin .add (.c (.int .i64 (1))) (.t 10) },
    { dst := some 12, k := .call 63 [(.t 8, .io [false, false, false]), (.t 11, .fz), (.c (.bool false), .fz)] },
    { dst := some 5, k := .al [.p (.int .i64 0), .p (.int .i64 0), .p (.str []), .p (.slice [])] },
    { dst := none, k := .st (.t 5) (.t 12) 4 5 }])
  (.wk (.seq (.seq (.reg false [
    { dst := some 13, k := .mv (.t 4) },
    { dst := some 14, k := .call 39 [(.t 13, .io [false, false, false]), (.c (.int .i64 (3)), .fz)] }])
  (.wk (.cond (.t 14) (.seq (.reg true [
      { dst := some 15, k := .ld (.t 5) 4 true, vb := .only [5] },
      { dst := some 16, k := .mv (.t 4) },
      { dst := some 17, k := .mv (.t 4) },
      { dst := some 18, k := .call 39 [(.t 17, .io [false, false, false]), (.c (.int .i64 (2)), .fz)], vb := .but [5], vl := .but [5] },
      { dst := some 19, k := .call 63 [(.t 16, .io [false, false, false]), (.c (.int .i64 (3)), .fz), (.t 18, .fz)], vb := .but [5], vl := .but [5] },
      { dst := none, k := .st (.t 2) (.t 15) 4 2, vb := .only [2] },
      { dst := none, k := .st (.t 3) (.t 19) 4 3, vb := .only [3] }])
    (.ret))
  (.skip))))
  (.wk (.seq (.reg true [
    { dst := some 20, k := .ld (.t 5) 4 true, vb := .only [5] },
    { dst := some 21, k := .mv (.t 4) },
    { dst := some 22, k := .call 43 [(.t 21, .io [false, false, false])], vb := .but [5], vl := .but [5] },
    { dst := some 23, k := .ld (.t 5) 4 true, vb := .only [5] },
    { dst := some 24, k := .call 46 [(.t 22, .fz), (.t 23, .fz)], vb := .but [5], vl := .but [5] },
    { dst := none, k := .st (.t 2) (.t 20) 4 2, vb := .only [2] },
    { dst := none, k := .st (.t 3) (.t 24) 4 3, vb := .only [3] }])
  (.ret))))))))
theorem chk_spec_l8Two : fnOK Try.prog 1 Try.f32 ac_spec_l8Two [(.cell 2 4 true, .fz), (.cell 3 4 true, .fz)] = true := by kernel_rfl
def wp_spec_l8Two (p0 : (List Int)) (post : (Tm × Tm) → Prop) : Prop :=
  (∃ r1 : T_spec_l1Cur, C_spec_l1New p0 r1 ∧ (∃ r3 : Int × T_spec_l1Cur, C_spec_l1Below r1 (3 : Int) r3 ∧ (∃ r5 : Tm × T_spec_l1Cur, C_spec_l3Draw r3.2 (IntKind.i64.wrap ((1 : Int) + r3.1)) false r5 ∧ (∃ r7 : Bool × T_spec_l1Cur, C_spec_l1Once r5.2 (3 : Int) r7 ∧ ((r7.1 = true → (∃ r10 : Bool × T_spec_l1Cur, C_spec_l1Once r7.2 (2 : Int) r10 ∧ (∃ r12 : Tm × T_spec_l1Cur, C_spec_l3Draw r10.2 (3 : Int) r10.1 r12 ∧ post (r5.1, r12.1)))) ∧ (r7.1 = false → (∃ r14 : (List Bd) × T_spec_l1Cur, C_spec_l7Draw r7.2 r14 ∧ (∃ r16 : Tm, C_spec_ApplySubst r14.1 r5.1 r16 ∧ post (r5.1, r16)))))))))
theorem w_spec_l8Two (p0 : (List Int)) (post : (Tm × Tm) → Prop) (h : wp_spec_l8Two p0 post) : ∃ r, post r ∧ C_spec_l8Two p0 r := by
  unfold wp_spec_l8Two at h
  refine evs_of (encR := fun r : Tm × Tm => .tup [.l (.fz (.agg (Tm.cells r.1))), .l (.fz (.agg (Tm.cells r.2)))]) (encO := fun r => []) 1 [(.cell 2 4 true, .fz), (.cell 3 4 true, .fz)] [.fz] Try.func32 chk_spec_l8Two rfl rfl [(0, pL (e_u8 p0))] [] [] rfl ?_
  refine aw_seq (s_reg ?_)
  refine s_run 2 [(3, .ptr 3 0), (2, .ptr 2 0)] [(3, [pI (0 : Int), pI (0 : Int), pS ([] : Str), pL (Tm.encL ([] : List Tm))]), (2, [pI (0 : Int), pI (0 : Int), pS ([] : Str), pL (Tm.encL ([] : List Tm))])] [] rfl ?_
  refine seq_n (aw_seq (s_reg ?_))
  refine s_run 1 [(6, pL (e_u8 p0))] [] [] rfl ?_
  obtain ⟨r1, k2, h⟩ := h
  refine s_call (.ptr 7 0) [(7, [pL (e_u8 (T_spec_l1Cur.b r1)), pI (T_spec_l1Cur.i r1), pI (T_spec_l1Cur.h r1)])] [] rfl k2 rfl ?_
  refine s_run 1 [(4, .ptr 7 0)] [] [] rfl ?_
  refine seq_n (aw_wk (St [(2, .ptr 2 0), (3, .ptr 3 0), (4, .ptr 7 0)] [(2, [pI (0 : Int), pI (0 : Int), pS ([] : Str), pL (Tm.encL ([] : List Tm))]), (3, [pI (0 : Int), pI (0 : Int), pS ([] : Str), pL (Tm.encL ([] : List Tm))]), (7, [pL (e_u8 (T_spec_l1Cur.b r1)), pI (T_spec_l1Cur.i r1), pI (T_spec_l1Cur.h r1)])] []) (wk_St ⟨le_rfl _, le_rfl _, le_rfl _, trivial⟩ ⟨box_rfl rfl, box_rfl rfl, box_rfl rfl, trivial⟩ trivial rfl ⟨rfl, trivial⟩ ⟨rfl, trivial⟩) ?_)
  refine aw_seq (s_reg ?_)
  refine s_run 2 [(9, .ptr 7 0), (8, .ptr 7 0)] [] [] rfl ?_
  obtain ⟨r3, k4, h⟩ := h
  refine s_call (pI r3.1) [(7, [pL (e_u8 (T_spec_l1Cur.b r3.2)), pI (T_spec_l1Cur.i r3.2), pI (T_spec_l1Cur.h r3.2)])] [] rfl k4 rfl ?_
  refine s_run 1 [(11, pI (IntKind.i64.wrap ((1 : Int) + r3.1)))] [] [] rfl ?_
  obtain ⟨r5, k6, h⟩ := h
  refine s_call (.agg [pI (Tm.kind r5.1), pI (Tm.n r5.1), pS (Tm.name r5.1), .tip (2, 12, 3) (0) (Tm.encL (Tm.args r5.1))]) [(7, [pL (e_u8 (T_spec_l1Cur.b r5.2)), pI (T_spec_l1Cur.i r5.2), pI (T_spec_l1Cur.h r5.2)])] [((2, 12, 3), 0, .tip (Tm.encL (Tm.args r5.1)).length 4)] (args_one rfl (args_one rfl (args_one rfl (args_nil)))) k6 rfl ?_
  refine s_run 2 [(5, .ptr 5 0)] [(5, [pI (Tm.kind r5.1), pI (Tm.n r5.1), pS (Tm.name r5.1), .tip (2, 12, 3) (0) (Tm.encL (Tm.args r5.1))]), (5, [pI (0 : Int), pI (0 : Int), pS ([] : Str), pL (Tm.encL ([] : List Tm))])] [] rfl ?_
  refine seq_n (aw_wk (St [(2, .ptr 2 0), (3, .ptr 3 0), (4, .ptr 7 0), (5, .ptr 5 0)] [(2, [pI (0 : Int), pI (0 : Int), pS ([] : Str), pL (Tm.encL ([] : List Tm))]), (3, [pI (0 : Int), pI (0 : Int), pS ([] : Str), pL (Tm.encL ([] : List Tm))]), (5, [pI (Tm.kind r5.1), pI (Tm.n r5.1), pS (Tm.name r5.1), .tip (2, 12, 3) (0) (Tm.encL (Tm.args r5.1))]), (7, [pL (e_u8 (T_spec_l1Cur.b r5.2)), pI (T_spec_l1Cur.i r5.2), pI (T_spec_l1Cur.h r5.2)])] [((2, 12, 3), 0, .tip (Tm.encL (Tm.args r5.1)).length 4)]) (wk_St ⟨le_rfl _, le_rfl _, le_rfl _, le_rfl _, trivial⟩ ⟨box_rfl rfl, box_rfl rfl, box_rfl rfl, box_rfl rfl, trivial⟩ ⟨rfl, trivial⟩ rfl ⟨rfl, trivial⟩ ⟨rfl, trivial⟩) ?_)
  refine aw_seq (aw_seq (s_reg ?_))
  refine s_run 1 [(13, .ptr 7 0)] [] [] rfl ?_
  obtain ⟨r7, k8, h⟩ := h
  refine s_call (pB r7.1) [(7, [pL (e_u8 (T_spec_l1Cur.b r7.2)), pI (T_spec_l1Cur.i r7.2), pI (T_spec_l1Cur.h r7.2)])] [] rfl k8 rfl ?_
  refine seq_n (aw_wk (St [(2, .ptr 2 0), (3, .ptr 3 0), (4, .ptr 7 0), (5, .ptr 5 0), (14, pB r7.1)] [(2, [pI (0 : Int), pI (0 : Int), pS ([] : Str), pL (Tm.encL ([] : List Tm))]), (3, [pI (0 : Int), pI (0 : Int), pS ([] : Str), pL (Tm.encL ([] : List Tm))]), (5, [pI (Tm.kind r5.1), pI (Tm.n r5.1), pS (Tm.name r5.1), .tip (2, 12, 3) (0) (Tm.encL (Tm.args r5.1))]), (7, [pL (e_u8 (T_spec_l1Cur.b r7.2)), pI (T_spec_l1Cur.i r7.2), pI (T_spec_l1Cur.h r7.2)])] [((2, 12, 3), 0, .tip (Tm.encL (Tm.args r5.1)).length 4)]) (wk_St ⟨le_rfl _, le_rfl _, le_rfl _, le_rfl _, le_rfl _, trivial⟩ ⟨box_rfl rfl, box_rfl rfl, box_rfl rfl, box_rfl rfl, trivial⟩ ⟨rfl, trivial⟩ rfl ⟨rfl, trivial⟩ ⟨rfl, trivial⟩) ?_)
  refine s_if rfl (fun c9 => ?_) (fun c9 => ?_)
  · have h := h.1 c9
    refine aw_seq (s_reg ?_)
    refine s_run 3 [(17, .ptr 7 0), (16, .ptr 7 0), (15, .agg [pI (Tm.kind r5.1), pI (Tm.n r5.1), pS (Tm.name r5.1), .tip (2, 12, 3) (0) (Tm.encL (Tm.args r5.1))])] [] [] rfl ?_
    obtain ⟨r10, k11, h⟩ := h
    refine s_call (pB r10.1) [(7, [pL (e_u8 (T_spec_l1Cur.b r10.2)), pI (T_spec_l1Cur.i r10.2), pI (T_spec_l1Cur.h r10.2)])] [] rfl k11 rfl ?_
    obtain ⟨r12, k13, h⟩ := h
    refine s_call (.agg [pI (Tm.kind r12.1), pI (Tm.n r12.1), pS (Tm.name r12.1), .tip (2, 19, 3) (0) (Tm.encL (Tm.args r12.1))]) [(7, [pL (e_u8 (T_spec_l1Cur.b r12.2)), pI (T_spec_l1Cur.i r12.2), pI (T_spec_l1Cur.h r12.2)])] [((2, 19, 3), 0, .tip (Tm.encL (Tm.args r12.1)).length 4)] (args_one rfl (args_one rfl (args_one rfl (args_nil)))) k13 rfl ?_
    refine s_run 2 [] [(3, [pI (Tm.kind r12.1), pI (Tm.n r12.1), pS (Tm.name r12.1), .tip (2, 19, 3) (0) (Tm.encL (Tm.args r12.1))]), (2, [pI (Tm.kind r5.1), pI (Tm.n r5.1), pS (Tm.name r5.1), .tip (2, 12, 3) (0) (Tm.encL (Tm.args r5.1))])] [] rfl ?_
    refine seq_n (aw_ret ?_)
    exact endp_ret _ h rfl
  · have h := h.2 c9
    refine aw_skip (seq_n (aw_wk (St [(2, .ptr 2 0), (3, .ptr 3 0), (4, .ptr 7 0), (5, .ptr 5 0)] [(2, [pI (0 : Int), pI (0 : Int), pS ([] : Str), pL (Tm.encL ([] : List Tm))]), (3, [pI (0 : Int), pI (0 : Int), pS ([] : Str), pL (Tm.encL ([] : List Tm))]), (5, [pI (Tm.kind r5.1), pI (Tm.n r5.1), pS (Tm.name r5.1), .tip (2, 12, 3) (0) (Tm.encL (Tm.args r5.1))]), (7, [pL (e_u8 (T_spec_l1Cur.b r7.2)), pI (T_spec_l1Cur.i r7.2), pI (T_spec_l1Cur.h r7.2)])] [((2, 12, 3), 0, .tip (Tm.encL (Tm.args r5.1)).length 4)]) (wk_St ⟨le_rfl _, le_rfl _, le_rfl _, le_rfl _, trivial⟩ ⟨box_rfl rfl, box_rfl rfl, box_rfl rfl, box_rfl rfl, trivial⟩ ⟨rfl, trivial⟩ rfl ⟨rfl, trivial⟩ ⟨rfl, trivial⟩) ?_))
    refine aw_seq (s_reg ?_)
    refine s_run 2 [(21, .ptr 7 0), (20, .agg [pI (Tm.kind r5.1), pI (Tm.n r5.1), pS (Tm.name r5.1), .tip (2, 12, 3) (0) (Tm.encL (Tm.args r5.1))])] [] [] rfl ?_
    obtain ⟨r14, k15, h⟩ := h
    refine s_call (pL (e_Bd r14.1)) [(7, [pL (e_u8 (T_spec_l1Cur.b r14.2)), pI (T_spec_l1Cur.i r14.2), pI (T_spec_l1Cur.h r14.2)])] [] rfl k15 rfl ?_
    refine s_run 1 [(23, .agg [pI (Tm.kind r5.1), pI (Tm.n r5.1), pS (Tm.name r5.1), .tip (2, 12, 3) (0) (Tm.encL (Tm.args r5.1))])] [] [] rfl ?_
    obtain ⟨r16, k17, h⟩ := h
    refine s_call (.p (.agg (Tm.cells r16))) [] [] rfl k17 rfl ?_
    refine s_run 2 [] [(3, [pI (Tm.kind r16), pI (Tm.n r16), pS (Tm.name r16), pL (Tm.encL (Tm.args r16))]), (2, [pI (Tm.kind r5.1), pI (Tm.n r5.1), pS (Tm.name r5.1), .tip (2, 12, 3) (0) (Tm.encL (Tm.args r5.1))])] [] rfl ?_
    refine seq_n (aw_ret ?_)
    exact endp_ret _ h rfl


def ac_impl_copyTerm : AC :=
  .seq (.reg false [
    { dst := some 1, k := .bx (.t 0) 4 },
    { dst := some 2, k := .al [.p (.int .i64 0), .p (.int .i64 0), .p (.str []), .p (.slice [])] }])
  (.seq (.reg false [
    { dst := some 6, k := .fa (.t 1) 0 },
    { dst := some 7, k := .ld (.t 6) 1 false },
    { dst := some 8, k := .fa (.t 1) 1 },
    { dst := some 9, k := .ld (.t 8) 1 false },
    { dst := some 10, k := .fa (.t 1) 2 },
    { dst := some 11, k := .ld (.t 10) 1 false },
    { dst := some 12, k := .bd [.p (.int .i64 0), .p (.int .i64 0), .p (.str []), .nil 4] [(0, 1, .t 7), (1, 1, .t 9), (2, 1, .t 11)] },
    { dst := some 3, k := .al [.p (.int .i64 0), .p (.int .i64 0), .p (.str []), .nil 4] },
    { dst := none, k := .stn (.t 3) (.t 12) 4 3 }])
  (.wk (.seq (.seq (.reg false [
    { dst := some 13, k := .fa (.t 1) 3 },
    { dst := some 14, k := .ld (.t 13) 1 false },
    { dst := some 15, k := .len (.t 14) },
    { dst := some 16, k := .mv (.c (.int .i64 (0))) }])
  (.wk (.block 0 (.loop (.seq (.reg false [
        { dst := some 17, k := .bin .lss (.t 16) (.t 15) }])
      (.seq (.cond (.t 17) (.skip)
      (.exit 0))
      (.seq (.block 1 (.seq (.reg false [
          { dst := some 18, k := .ia (.t 14) (.t 16) 4 },
          { dst := some 19, k := .ld (.t 18) 4 true },
          { dst := some 5, k := .al [.p (.int .i64 0), .p (.int .i64 0), .p (.str []), .p (.slice [])] },
          { dst := none, k := .st (.t 5) (.t 19) 4 5 }])
        (.wk (.reg true [
          { dst := some 20, k := .fa (.t 3) 3 },
          { dst := some 21, k := .ld (.t 20) 1 false, vb := .only [3] },
          { dst := some 22, k := .ld (.t 5) 4 true, vb := .only [5] },
          { dst := some 23, k := .call 42 [(.t 22, .fz)], vb := .but [3], vl := .but [3] },
          { dst := some 24, k := .bs 4 [.t 23] },
          { dst := some 25, k := .app (.t 21) (.t 24) 4 56 },
          { dst := some 26, k := .fa (.t 3) 3 },
          { dst := none, k := .st (.t 26) (.t 25) 1 3, vb := .only [3] }]))))
      (.reg false [
        { dst := some 27, k := .bin .add (.t 16) (.c (.int .i64 (1))) },
        { dst := some 16, k := .mv (.t 27) }]))))))))
  (.seq (.reg false [
    { dst := some 28, k := .ld (.t 3) 4 true },
    { dst := none, k := .st (.t 2) (.t 28) 4 2 }])
  (.ret)))))
theorem chk_impl_copyTerm : fnOK Try.prog 1 Try.f42 ac_impl_copyTerm [(.cell 2 4 true, .fz)] = true := by kernel_rfl
def wp_impl_copyTerm (p0 : Tm) (post : Tm → Prop) : Prop :=
  LOOP (fun (N14 : (Int × (List Tm)) → Prop) (s1 : Int × (List Tm)) => (((decide (s1.1 < ((List.length (Tm.args p0) : Nat) : Int))) = true → (∃ u19, GETI (Tm.args p0) s1.1 u19 ∧ (∃ r21 : Tm, C_impl_copyTerm u19 r21 ∧ ((List.length s1.2 + List.length ([r21] : List Tm)) * 56 ≤ 140737488355328 ∧ N14 ((IntKind.i64.wrap (s1.1 + (1 : Int))), (s1.2 ++ ([r21] : List Tm))))))) ∧ ((decide (s1.1 < ((List.length (Tm.args p0) : Nat) : Int))) = false → post (Tm.mk (Tm.kind p0) (Tm.n p0) (Tm.name p0) s1.2)))) ((0 : Int), ([] : List Tm))
theorem w_impl_copyTerm (p0 : Tm) (post : Tm → Prop) (h : wp_impl_copyTerm p0 post) : ∃ r, post r ∧ C_impl_copyTerm p0 r := by
  unfold wp_impl_copyTerm at h
  refine evs_of (encR := fun r : Tm => .one (.l (.fz (.agg (Tm.cells r))))) (encO := fun r => []) 1 [(.cell 2 4 true, .fz)] [.fz] Try.func42 chk_impl_copyTerm rfl rfl [(0, .p (.agg (Tm.cells p0)))] [] [] rfl ?_
  refine aw_seq (s_reg ?_)
  refine s_run 2 [(2, .ptr 2 0), (1, .ptr 1 0)] [(2, [pI (0 : Int), pI (0 : Int), pS ([] : Str), pL (Tm.encL ([] : List Tm))]), (1, [pI (Tm.kind p0), pI (Tm.n p0), pS (Tm.name p0), pL (Tm.encL (Tm.args p0))])] [] rfl ?_
  refine seq_n (aw_seq (s_reg ?_))
  refine s_run 9 [(3, .ptr 3 0), (12, .agg [pI (Tm.kind p0), pI (Tm.n p0), pS (Tm.name p0), .nil 4]), (11, pS (Tm.name p0)), (10, .ptr 1 2), (9, pI (Tm.n p0)), (8, .ptr 1 1), (7, pI (Tm.kind p0)), (6, .ptr 1 0)] [(3, [pI (Tm.kind p0), pI (Tm.n p0), pS (Tm.name p0), .tip (3, 3, 3) (0) (Tm.encL ([] : List Tm))]), (3, [pI (0 : Int), pI (0 : Int), pS ([] : Str), .tip (1, 3, 3) (0) (Tm.encL ([] : List Tm))])] [((3, 3, 3), 0, .tip (Tm.encL ([] : List Tm)).length 4), ((1, 3, 3), 0, .tip (Tm.encL ([] : List Tm)).length 4)] rfl ?_
  refine seq_n (aw_wk (St [(1, .ptr 1 0), (2, .ptr 2 0), (3, .ptr 3 0)] [(1, [pI (Tm.kind p0), pI (Tm.n p0), pS (Tm.name p0), pL (Tm.encL (Tm.args p0))]), (2, [pI (0 : Int), pI (0 : Int), pS ([] : Str), pL (Tm.encL ([] : List Tm))]), (3, [pI (Tm.kind p0), pI (Tm.n p0), pS (Tm.name p0), .tip (3, 3, 3) (0) (Tm.encL ([] : List Tm))])] [((3, 3, 3), 0, .tip (Tm.encL ([] : List Tm)).length 4)]) (wk_St ⟨le_rfl _, le_rfl _, le_rfl _, trivial⟩ ⟨box_rfl rfl, box_rfl rfl, box_rfl rfl, trivial⟩ ⟨rfl, trivial⟩ rfl ⟨rfl, trivial⟩ ⟨rfl, trivial⟩) ?_)
  refine aw_seq (aw_seq (s_reg ?_))
  refine s_run 2 [(14, pL (Tm.encL (Tm.args p0))), (13, .ptr 1 3)] [] [] rfl ?_
  refine s_len rfl (enc_len (e := Tm.encL) _) ?_
  refine s_run 1 [(16, pI (0 : Int))] [] [] rfl ?_
  refine seq_n (aw_wk (St [(2, .ptr 2 0), (3, .ptr 3 0), (14, pL (Tm.encL (Tm.args p0))), (15, pI ((List.length (Tm.args p0) : Nat) : Int)), (16, pI (0 : Int))] [(2, [pI (0 : Int), pI (0 : Int), pS ([] : Str), pL (Tm.encL ([] : List Tm))]), (3, [pI (Tm.kind p0), pI (Tm.n p0), pS (Tm.name p0), .tip (3, 3, 3) (0) (Tm.encL ([] : List Tm))])] [((3, 3, 3), 0, .tip (Tm.encL ([] : List Tm)).length 4)]) (wk_St ⟨le_rfl _, le_rfl _, le_rfl _, le_rfl _, le_rfl _, trivial⟩ ⟨box_rfl rfl, box_rfl rfl, trivial⟩ ⟨rfl, trivial⟩ rfl ⟨rfl, trivial⟩ ⟨rfl, trivial⟩) ?_)
  refine aw_blk ?_
  obtain ⟨I16, m17, h0, h⟩ := h
  refine aw_loop' (ι := { y : Int × (List Tm) // I16 y }) (fun x15 => St [(2, .ptr 2 0), (3, .ptr 3 0), (14, pL (Tm.encL (Tm.args p0))), (15, pI ((List.length (Tm.args p0) : Nat) : Int)), (16, pI x15.1.1)] [(2, [pI (0 : Int), pI (0 : Int), pS ([] : Str), pL (Tm.encL ([] : List Tm))]), (3, [pI (Tm.kind p0), pI (Tm.n p0), pS (Tm.name p0), .tip (3, 3, 3) (0) (Tm.encL x15.1.2)])] [((3, 3, 3), 0, .tip (Tm.encL x15.1.2).length 4)]) (fun x15 => m17 x15.1) ⟨_, h0⟩ ?_ ?_
  · exact wk_St ⟨le_rfl _, le_rfl _, le_rfl _, le_rfl _, le_rfl _, trivial⟩ ⟨box_rfl rfl, box_rfl rfl, trivial⟩ ⟨rfl, trivial⟩ rfl ⟨rfl, trivial⟩ ⟨rfl, trivial⟩
  · rintro ⟨s1, hs1⟩
    replace h := h s1 hs1
    refine aw_seq (s_reg ?_)
    refine s_run 1 [(17, pB (decide (s1.1 < ((List.length (Tm.args p0) : Nat) : Int))))] [] [] rfl ?_
    refine seq_n (aw_seq (s_if rfl (fun c18 => ?_) (fun c18 => ?_)))
    · have h := h.1 c18
      refine aw_skip (seq_n (aw_seq (aw_blk (aw_seq (s_reg ?_)))))
      obtain ⟨u19, ⟨g20a, g20b⟩, h⟩ := h
      refine s_ia rfl rfl g20a (enc_get (e := Tm.encL) g20b) rfl ?_
      refine s_run 3 [(5, .ptr 5 0), (19, .p (.agg (Tm.cells u19)))] [(5, [pI (Tm.kind u19), pI (Tm.n u19), pS (Tm.name u19), pL (Tm.encL (Tm.args u19))]), (5, [pI (0 : Int), pI (0 : Int), pS ([] : Str), pL (Tm.encL ([] : List Tm))])] [] rfl ?_
      refine seq_n (aw_wk (St [(2, .ptr 2 0), (3, .ptr 3 0), (5, .ptr 5 0), (14, pL (Tm.encL (Tm.args p0))), (15, pI ((List.length (Tm.args p0) : Nat) : Int)), (16, pI s1.1)] [(2, [pI (0 : Int), pI (0 : Int), pS ([] : Str), pL (Tm.encL ([] : List Tm))]), (3, [pI (Tm.kind p0), pI (Tm.n p0), pS (Tm.name p0), .tip (3, 3, 3) (0) (Tm.encL s1.2)]), (5, [pI (Tm.kind u19), pI (Tm.n u19), pS (Tm.name u19), pL (Tm.encL (Tm.args u19))])] [((3, 3, 3), 0, .tip (Tm.encL s1.2).length 4)]) (wk_St ⟨le_rfl _, le_rfl _, le_rfl _, le_rfl _, le_rfl _, le_rfl _, trivial⟩ ⟨box_rfl rfl, box_rfl rfl, box_rfl rfl, trivial⟩ ⟨rfl, trivial⟩ rfl ⟨rfl, trivial⟩ ⟨rfl, trivial⟩) ?_)
      refine s_reg ?_
      refine s_run 3 [(22, .agg [pI (Tm.kind u19), pI (Tm.n u19), pS (Tm.name u19), pL (Tm.encL (Tm.args u19))]), (21, .tip (3, 3, 3) (0) (Tm.encL s1.2)), (20, .ptr 3 3)] [] [] rfl ?_
      obtain ⟨r21, k22, h⟩ := h
      refine s_call (.p (.agg (Tm.cells r21))) [] [] rfl k22 rfl ?_
      refine s_bs rfl rfl (enc_cons (e := Tm.encL) r21 (enc_nil (e := Tm.encL))) ?_
      obtain ⟨g23, h⟩ := h
      refine s_app rfl rfl rfl (enc_sz (e := Tm.encL) _) (enc_len (e := Tm.encL) _) (enc_len (e := Tm.encL) _) g23 (enc_app (e := Tm.encL) _ _) ?_
      refine s_run 2 [(26, .ptr 3 3)] [(3, [pI (Tm.kind p0), pI (Tm.n p0), pS (Tm.name p0), .tip (3, 3, 3) (0) (Tm.encL (s1.2 ++ ([r21] : List Tm)))])] [] rfl ?_
      refine blk_n (seq_n (s_reg ?_))
      refine s_run 2 [(16, pI (IntKind.i64.wrap (s1.1 + (1 : Int)))), (27, pI (IntKind.i64.wrap (s1.1 + (1 : Int))))] [] [] rfl ?_
      exact loop_n ⟨_, h.1⟩ h.2 (wk_St ⟨le_rfl _, le_rfl _, le_rfl _, le_rfl _, le_rfl _, trivial⟩ ⟨box_rfl rfl, box_rfl rfl, trivial⟩ ⟨rfl, trivial⟩ rfl ⟨rfl, trivial⟩ ⟨rfl, trivial⟩)
    · have h := h.2 c18
      refine aw_exit (seq_x (loop_x (blk_x (seq_n (aw_seq (s_reg ?_))))))
      refine s_run 2 [(28, .agg [pI (Tm.kind p0), pI (Tm.n p0), pS (Tm.name p0), .tip (3, 3, 3) (0) (Tm.encL s1.2)])] [(2, [pI (Tm.kind p0), pI (Tm.n p0), pS (Tm.name p0), .tip (3, 3, 3) (0) (Tm.encL s1.2)])] [] rfl ?_
      refine seq_n (aw_ret ?_)
      exact endp_ret _ h rfl


def ac_impl_namesIn : AC :=
  .seq (.reg false [
    { dst := some 1, k := .bx (.t 0) 4 },
    { dst := some 2, k := .mv (.c (.slice [])) }])
  (.seq (.reg false [
    { dst := some 3, k := .asg (.nl 1) }])
  (.seq (.seq (.reg false [
    { dst := some 6, k := .fa (.t 1) 0 },
    { dst := some 7, k := .ld (.t 6) 1 false },
    { dst := some 8, k := .bin .eql (.t 7) (.c (.int .i64 (1))) }])
  (.cond (.t 8) (.reg false [
      { dst := some 9, k := .mv (.t 3) },
      { dst := some 10, k := .fa (.t 1) 2 },
      { dst := some 11, k := .ld (.t 10) 1 false },
      { dst := some 12, k := .bs 1 [.t 11] },
      { dst := some 13, k := .app (.t 9) (.t 12) 1 16 },
      { dst := some 3, k := .mv (.t 13) }])
  (.skip)))
  (.wk (.seq (.seq (.reg false [
    { dst := some 14, k := .fa (.t 1) 3 },
    { dst := some 15, k := .ld (.t 14) 1 false },
    { dst := some 16, k := .len (.t 15) },
    { dst := some 17, k := .mv (.c (.int .i64 (0))) }])
  (.wk (.block 0 (.loop (.seq (.reg false [
        { dst := some 18, k := .bin .lss (.t 17) (.t 16) }])
      (.seq (.cond (.t 18) (.skip)
      (.exit 0))
      (.seq (.block 1 (.seq (.reg false [
          { dst := some 19, k := .ia (.t 15) (.t 17) 4 },
          { dst := some 20, k := .ld (.t 19) 4 true },
          { dst := some 5, k := .al [.p (.int .i64 0), .p (.int .i64 0), .p (.str []), .p (.slice [])] },
          { dst := none, k := .st (.t 5) (.t 20) 4 5 }])
        (.wk (.reg false [
          { dst := some 21, k := .mv (.t 3) },
          { dst := some 22, k := .ld (.t 5) 4 true },
          { dst := some 23, k := .call 64 [(.t 22, .fz)] },
          { dst := some 24, k := .app (.t 21) (.t 23) 1 16 },
          { dst := some 3, k := .mv (.t 24) }]))))
      (.reg false [
        { dst := some 25, k := .bin .add (.t 17) (.c (.int .i64 (1))) },
        { dst := some 17, k := .mv (.t 25) }]))))))))
  (.seq (.reg false [
    { dst := some 26, k := .mv (.t 3) },
    { dst := some 2, k := .mv (.t 26) }])
  (.ret))))))
theorem chk_impl_namesIn : fnOK Try.prog 1 Try.f64 ac_impl_namesIn [(.tmp 2, .fz)] = true := by kernel_rfl
def wp_impl_namesIn (p0 : Tm) (post : (List Str) → Prop) : Prop :=
  JOIN (fun (N4 : (List Str) → Prop) => ((((Tm.kind p0) == (1 : Int)) = true → ((List.length ([] : List Str) + List.length ([(Tm.name p0)] : List Str)) * 16 ≤ 140737488355328 ∧ N4 (([] : List Str) ++ ([(Tm.name p0)] : List Str)))) ∧ (((Tm.kind p0) == (1 : Int)) = false → N4 ([] : List Str)))) (fun (t3 : (List Str)) => LOOP (fun (N20 : (Int × (List Str)) → Prop) (s7 : Int × (List Str)) => (((decide (s7.1 < ((List.length (Tm.args p0) : Nat) : Int))) = true → (∃ u25, GETI (Tm.args p0) s7.1 u25 ∧ (∃ r27 : (List Str), C_impl_namesIn u25 r27 ∧ ((List.length s7.2 + List.length r27) * 16 ≤ 140737488355328 ∧ N20 ((IntKind.i64.wrap (s7.1 + (1 : Int))), (s7.2 ++ r27)))))) ∧ ((decide (s7.1 < ((List.length (Tm.args p0) : Nat) : Int))) = false → post s7.2))) ((0 : Int), t3))
theorem w_impl_namesIn (p0 : Tm) (post : (List Str) → Prop) (h : wp_impl_namesIn p0 post) : ∃ r, post r ∧ C_impl_namesIn p0 r := by
  unfold wp_impl_namesIn at h
  refine evs_of (encR := fun r : (List Str) => .one (.l (.fz (.slice (e_str r))))) (encO := fun r => []) 1 [(.tmp 2, .fz)] [.fz] Try.func64 chk_impl_namesIn rfl rfl [(0, .p (.agg (Tm.cells p0)))] [] [] rfl ?_
  refine aw_seq (s_reg ?_)
  refine s_run 2 [(2, pL (e_str ([] : List Str))), (1, .ptr 1 0)] [(1, [pI (Tm.kind p0), pI (Tm.n p0), pS (Tm.name p0), pL (Tm.encL (Tm.args p0))])] [] rfl ?_
  refine seq_n (aw_seq (s_reg ?_))
  refine s_run 1 [(3, .tip (0, 3, 0) (0) (e_str ([] : List Str)))] [] [((0, 3, 0), 0, .tip (e_str ([] : List Str)).length 1)] rfl ?_
  refine seq_n ?_
  obtain ⟨J6, hJ6, h⟩ := h
  refine aw_join (ι := { y : (List Str) // J6 y }) (fun x5 => St [(1, .ptr 1 0), (3, .tip (0, 3, 0) (0) (e_str x5.1))] [(1, [pI (Tm.kind p0), pI (Tm.n p0), pS (Tm.name p0), pL (Tm.encL (Tm.args p0))])] [((0, 3, 0), 0, .tip (e_str x5.1).length 1)]) ?_ ?_
  · rintro ⟨t3, ht3⟩
    replace h := hJ6 t3 ht3
    refine aw_seq (aw_seq (s_reg ?_))
    refine s_run 2 [(15, pL (Tm.encL (Tm.args p0))), (14, .ptr 1 3)] [] [] rfl ?_
    refine s_len rfl (enc_len (e := Tm.encL) _) ?_
    refine s_run 1 [(17, pI (0 : Int))] [] [] rfl ?_
    refine seq_n (aw_wk (St [(3, .tip (0, 3, 0) (0) (e_str t3)), (15, pL (Tm.encL (Tm.args p0))), (16, pI ((List.length (Tm.args p0) : Nat) : Int)), (17, pI (0 : Int))] [] [((0, 3, 0), 0, .tip (e_str t3).length 1)]) (wk_St ⟨le_rfl _, le_rfl _, le_rfl _, le_rfl _, trivial⟩ trivial ⟨rfl, trivial⟩ rfl ⟨rfl, trivial⟩ ⟨rfl, trivial⟩) ?_)
    refine aw_blk ?_
    obtain ⟨I22, m23, h0, h⟩ := h
    refine aw_loop' (ι := { y : Int × (List Str) // I22 y }) (fun x21 => St [(3, .tip (0, 3, 0) (0) (e_str x21.1.2)), (15, pL (Tm.encL (Tm.args p0))), (16, pI ((List.length (Tm.args p0) : Nat) : Int)), (17, pI x21.1.1)] [] [((0, 3, 0), 0, .tip (e_str x21.1.2).length 1)]) (fun x21 => m23 x21.1) ⟨_, h0⟩ ?_ ?_
    · exact wk_St ⟨le_rfl _, le_rfl _, le_rfl _, le_rfl _, trivial⟩ trivial ⟨rfl, trivial⟩ rfl ⟨rfl, trivial⟩ ⟨rfl, trivial⟩
    · rintro ⟨s7, hs7⟩
      replace h := h s7 hs7
      refine aw_seq (s_reg ?_)
      refine s_run 1 [(18, pB (decide (s7.1 < ((List.length (Tm.args p0) : Nat) : Int))))] [] [] rfl ?_
      refine seq_n (aw_seq (s_if rfl (fun c24 => ?_) (fun c24 => ?_)))
      · have h := h.1 c24
        refine aw_skip (seq_n (aw_seq (aw_blk (aw_seq (s_reg ?_)))))
        obtain ⟨u25, ⟨g26a, g26b⟩, h⟩ := h
        refine s_ia rfl rfl g26a (enc_get (e := Tm.encL) g26b) rfl ?_
        refine s_run 3 [(5, .ptr 5 0), (20, .p (.agg (Tm.cells u25)))] [(5, [pI (Tm.kind u25), pI (Tm.n u25), pS (Tm.name u25), pL (Tm.encL (Tm.args u25))]), (5, [pI (0 : Int), pI (0 : Int), pS ([] : Str), pL (Tm.encL ([] : List Tm))])] [] rfl ?_
        refine seq_n (aw_wk (St [(3, .tip (0, 3, 0) (0) (e_str s7.2)), (5, .ptr 5 0), (15, pL (Tm.encL (Tm.args p0))), (16, pI ((List.length (Tm.args p0) : Nat) : Int)), (17, pI s7.1)] [(5, [pI (Tm.kind u25), pI (Tm.n u25), pS (Tm.name u25), pL (Tm.encL (Tm.args u25))])] [((0, 3, 0), 0, .tip (e_str s7.2).length 1)]) (wk_St ⟨le_rfl _, le_rfl _, le_rfl _, le_rfl _, le_rfl _, trivial⟩ ⟨box_rfl rfl, trivial⟩ ⟨rfl, trivial⟩ rfl ⟨rfl, trivial⟩ ⟨rfl, trivial⟩) ?_)
        refine s_reg ?_
        refine s_run 2 [(22, .agg [pI (Tm.kind u25), pI (Tm.n u25), pS (Tm.name u25), pL (Tm.encL (Tm.args u25))]), (21, .tip (0, 3, 0) (0) (e_str s7.2))] [] [] rfl ?_
        obtain ⟨r27, k28, h⟩ := h
        refine s_call (pL (e_str r27)) [] [] rfl k28 rfl ?_
        obtain ⟨g29, h⟩ := h
        refine s_app rfl rfl rfl (enc_sz (e := e_str) _) (enc_len (e := e_str) _) (enc_len (e := e_str) _) g29 (enc_app (e := e_str) _ _) ?_
        refine s_run 1 [(3, .tip (0, 3, 0) (0) (e_str (s7.2 ++ r27)))] [] [] rfl ?_
        refine blk_n (seq_n (s_reg ?_))
        refine s_run 2 [(17, pI (IntKind.i64.wrap (s7.1 + (1 : Int)))), (25, pI (IntKind.i64.wrap (s7.1 + (1 : Int))))] [] [] rfl ?_
        exact loop_n ⟨_, h.1⟩ h.2 (wk_St ⟨le_rfl _, le_rfl _, le_rfl _, le_rfl _, trivial⟩ trivial ⟨rfl, trivial⟩ rfl ⟨rfl, trivial⟩ ⟨rfl, trivial⟩)
      · have h := h.2 c24
        refine aw_exit (seq_x (loop_x (blk_x (seq_n (aw_seq (s_reg ?_))))))
        refine s_run 2 [(2, .tip (0, 3, 0) (0) (e_str s7.2)), (26, .tip (0, 3, 0) (0) (e_str s7.2))] [] [] rfl ?_
        refine seq_n (aw_ret ?_)
        exact endp_ret _ h rfl
  · refine aw_seq (s_reg ?_)
    refine s_run 3 [(8, pB ((Tm.kind p0) == (1 : Int))), (7, pI (Tm.kind p0)), (6, .ptr 1 0)] [] [] rfl ?_
    refine seq_n (s_if rfl (fun c30 => ?_) (fun c30 => ?_))
    · have h := h.1 c30
      refine s_reg ?_
      refine s_run 3 [(11, pS (Tm.name p0)), (10, .ptr 1 2), (9, .tip (0, 3, 0) (0) (e_str ([] : List Str)))] [] [] rfl ?_
      refine s_bs rfl rfl (enc_cons (e := e_str) (Tm.name p0) (enc_nil (e := e_str))) ?_
      obtain ⟨g31, h⟩ := h
      refine s_app rfl rfl rfl (enc_sz (e := e_str) _) (enc_len (e := e_str) _) (enc_len (e := e_str) _) g31 (enc_app (e := e_str) _ _) ?_
      refine s_run 1 [(3, .tip (0, 3, 0) (0) (e_str (([] : List Str) ++ ([(Tm.name p0)] : List Str))))] [] [] rfl ?_
      exact join_n ⟨_, h⟩ (wk_St ⟨le_rfl _, le_rfl _, trivial⟩ ⟨box_rfl rfl, trivial⟩ ⟨rfl, trivial⟩ rfl ⟨rfl, trivial⟩ ⟨rfl, trivial⟩)
    · have h := h.2 c30
      refine aw_skip ?_
      exact join_n ⟨_, h⟩ (wk_St ⟨le_rfl _, le_rfl _, trivial⟩ ⟨box_rfl rfl, trivial⟩ ⟨rfl, trivial⟩ rfl ⟨rfl, trivial⟩ ⟨rfl, trivial⟩)


def ac_spec_DrawUnifyTerms : AC :=
  .seq (.reg false [
    { dst := some 2, k := .al [.p (.int .i64 0), .p (.int .i64 0), .p (.str []), .p (.slice [])] },
    { dst := some 3, k := .al [.p (.int .i64 0), .p (.int .i64 0), .p (.str []), .p (.slice [])] }])
  (.seq (.reg false [
    { dst := some 8, k := .mv (.t 0) },
    { dst := some 9, k := .call 32 [(.t 8, .fz)] },
    { dst := some 7, k := .mv (.t 9) },
    { dst := some 10, k := .ex (.t 7) 0 },
    { dst := some 11, k := .ex (.t 7) 1 },
    { dst := some 4, k := .al [.p (.int .i64 0), .p (.int .i64 0), .p (.str []), .p (.slice [])] },
    { dst := some 5, k := .al [.p (.int .i64 0), .p (.int .i64 0), .p (.str []), .p (.slice [])] },
    { dst := none, k := .st (.t 4) (.t 10) 4 4 },
    { dst := none, k := .st (.t 5) (.t 11) 4 5 }])
  (.wk (.seq (.reg false [
    { dst := some 12, k := .mv (.t 0) },
    { dst := some 13, k := .call 38 [(.t 12, .fz)] },
    { dst := some 6, k := .mv (.t 13) }])
  (.wk (.seq (.seq (.reg false [
    { dst := some 14, k := .mv (.t 6) },
    { dst := some 15, k := .call 39 [(.t 14, .io [false, false, false]), (.c (.int .i64 (2)), .fz)] }])
  (.wk (.cond (.t 15) (.seq (.reg true [
      { dst := some 16, k := .ld (.t 4) 4 true, vb := .only [4] },
      { dst := some 17, k := .ld (.t 5) 4 true, vb := .only [5] },
      { dst := some 18, k := .call 40 [(.t 17, .fz), (.c (.str [49]), .fz)], vb := .but [4], vl := .but [4] },
      { dst := none, k := .st (.t 2) (.t 16) 4 2, vb := .only [2] },
      { dst := none, k := .st (.t 3) (.t 18) 4 3, vb := .only [3] }])
    (.ret))
  (.skip))))
  (.wk (.seq (.reg true [
    { dst := some 19, k := .ld (.t 4) 4 true, vb := .only [4] },
    { dst := some 20, k := .ld (.t 5) 4 true, vb := .only [5] },
    { dst := none, k := .st (.t 2) (.t 19) 4 2, vb := .only [2] },
    { dst := none, k := .st (.t 3) (.t 20) 4 3, vb := .only [3] }])
  (.ret))))))))
theorem chk_spec_DrawUnifyTerms : fnOK Try.prog 1 Try.f27 ac_spec_DrawUnifyTerms [(.cell 2 4 true, .fz), (.cell 3 4 true, .fz)] = true := by kernel_rfl
def wp_spec_DrawUnifyTerms (p0 : (List Int)) (post : (Tm × Tm) → Prop) : Prop :=
  (∃ r1 : Tm × Tm, C_spec_l8Two p0 r1 ∧ (∃ r3 : T_spec_l1Cur, C_spec_l1New p0 r3 ∧ (∃ r5 : Bool × T_spec_l1Cur, C_spec_l1Once r3 (2 : Int) r5 ∧ ((r5.1 = true → (∃ r8 : Tm, C_spec_RenameVars r1.2 ([49] : Str) r8 ∧ post (r1.1, r8))) ∧ (r5.1 = false → post (r1.1, r1.2))))))
theorem w_spec_DrawUnifyTerms (p0 : (List Int)) (post : (Tm × Tm) → Prop) (h : wp_spec_DrawUnifyTerms p0 post) : ∃ r, post r ∧ C_spec_DrawUnifyTerms p0 r := by
  unfold wp_spec_DrawUnifyTerms at h
  refine evs_of (encR := fun r : Tm × Tm => .tup [.l (.fz (.agg (Tm.cells r.1))), .l (.fz (.agg (Tm.cells r.2)))]) (encO := fun r => []) 1 [(.cell 2 4 true, .fz), (.cell 3 4 true, .fz)] [.fz] Try.func27 chk_spec_DrawUnifyTerms rfl rfl [(0, pL (e_u8 p0))] [] [] rfl ?_
  refine aw_seq (s_reg ?_)
  refine s_run 2 [(3, .ptr 3 0), (2, .ptr 2 0)] [(3, [pI (0 : Int), pI (0 : Int), pS ([] : Str), pL (Tm.encL ([] : List Tm))]), (2, [pI (0 : Int), pI (0 : Int), pS ([] : Str), pL (Tm.encL ([] : List Tm))])] [] rfl ?_
  refine seq_n (aw_seq (s_reg ?_))
  refine s_run 1 [(8, pL (e_u8 p0))] [] [] rfl ?_
  obtain ⟨r1, k2, h⟩ := h
  refine s_call (.tup [.p (.agg (Tm.cells r1.1)), .p (.agg (Tm.cells r1.2))]) [] [] rfl k2 rfl ?_
  refine s_run 7 [(5, .ptr 5 0), (4, .ptr 4 0), (11, .p (.agg (Tm.cells r1.2))), (10, .p (.agg (Tm.cells r1.1))), (7, .tup [.p (.agg (Tm.cells r1.1)), .p (.agg (Tm.cells r1.2))])] [(5, [pI (Tm.kind r1.2), pI (Tm.n r1.2), pS (Tm.name r1.2), pL (Tm.encL (Tm.args r1.2))]), (4, [pI (Tm.kind r1.1), pI (Tm.n r1.1), pS (Tm.name r1.1), pL (Tm.encL (Tm.args r1.1))]), (5, [pI (0 : Int), pI (0 : Int), pS ([] : Str), pL (Tm.encL ([] : List Tm))]), (4, [pI (0 : Int), pI (0 : Int), pS ([] : Str), pL (Tm.encL ([] : List Tm))])] [] rfl ?_
  refine seq_n (aw_wk (St [(0, pL (e_u8 p0)), (2, .ptr 2 0), (3, .ptr 3 0), (4, .ptr 4 0), (5, .ptr 5 0)] [(2, [pI (0 : Int), pI (0 : Int), pS ([] : Str), pL (Tm.encL ([] : List Tm))]), (3, [pI (0 : Int), pI (0 : Int), pS ([] : Str), pL (Tm.encL ([] : List Tm))]), (4, [pI (Tm.kind r1.1), pI (Tm.n r1.1), pS (Tm.name r1.1), pL (Tm.encL (Tm.args r1.1))]), (5, [pI (Tm.kind r1.2), pI (Tm.n r1.2), pS (Tm.name r1.2), pL (Tm.encL (Tm.args r1.2))])] []) (wk_St ⟨le_rfl _, le_rfl _, le_rfl _, le_rfl _, le_rfl _, trivial⟩ ⟨box_rfl rfl, box_rfl rfl, box_rfl rfl, box_rfl rfl, trivial⟩ trivial rfl ⟨rfl, trivial⟩ ⟨rfl, trivial⟩) ?_)
  refine aw_seq (s_reg ?_)
  refine s_run 1 [(12, pL (e_u8 p0))] [] [] rfl ?_
  obtain ⟨r3, k4, h⟩ := h
  refine s_call (.ptr 13 0) [(13, [pL (e_u8 (T_spec_l1Cur.b r3)), pI (T_spec_l1Cur.i r3), pI (T_spec_l1Cur.h r3)])] [] rfl k4 rfl ?_
  refine s_run 1 [(6, .ptr 13 0)] [] [] rfl ?_
  refine seq_n (aw_wk (St [(2, .ptr 2 0), (3, .ptr 3 0), (4, .ptr 4 0), (5, .ptr 5 0), (6, .ptr 13 0)] [(2, [pI (0 : Int), pI (0 : Int), pS ([] : Str), pL (Tm.encL ([] : List Tm))]), (3, [pI (0 : Int), pI (0 : Int), pS ([] : Str), pL (Tm.encL ([] : List Tm))]), (4, [pI (Tm.kind r1.1), pI (Tm.n r1.1), pS (Tm.name r1.1), pL (Tm.encL (Tm.args r1.1))]), (5, [pI (Tm.kind r1.2), pI (Tm.n r1.2), pS (Tm.name r1.2), pL (Tm.encL (Tm.args r1.2))]), (13, [pL (e_u8 (T_spec_l1Cur.b r3)), pI (T_spec_l1Cur.i r3), pI (T_spec_l1Cur.h r3)])] []) (wk_St ⟨le_rfl _, le_rfl _, le_rfl _, le_rfl _, le_rfl _, trivial⟩ ⟨box_rfl rfl, box_rfl rfl, box_rfl rfl, box_rfl rfl, box_rfl rfl, trivial⟩ trivial rfl ⟨rfl, trivial⟩ ⟨rfl, trivial⟩) ?_)
  refine aw_seq (aw_seq (s_reg ?_))
  refine s_run 1 [(14, .ptr 13 0)] [] [] rfl ?_
  obtain ⟨r5, k6, h⟩ := h
  refine s_call (pB r5.1) [(13, [pL (e_u8 (T_spec_l1Cur.b r5.2)), pI (T_spec_l1Cur.i r5.2), pI (T_spec_l1Cur.h r5.2)])] [] rfl k6 rfl ?_
  refine seq_n (aw_wk (St [(2, .ptr 2 0), (3, .ptr 3 0), (4, .ptr 4 0), (5, .ptr 5 0), (15, pB r5.1)] [(2, [pI (0 : Int), pI (0 : Int), pS ([] : Str), pL (Tm.encL ([] : List Tm))]), (3, [pI (0 : Int), pI (0 : Int), pS ([] : Str), pL (Tm.encL ([] : List Tm))]), (4, [pI (Tm.kind r1.1), pI (Tm.n r1.1), pS (Tm.name r1.1), pL (Tm.encL (Tm.args r1.1))]), (5, [pI (Tm.kind r1.2), pI (Tm.n r1.2), pS (Tm.name r1.2), pL (Tm.encL (Tm.args r1.2))])] []) (wk_St ⟨le_rfl _, le_rfl _, le_rfl _, le_rfl _, le_rfl _, trivial⟩ ⟨box_rfl rfl, box_rfl rfl, box_rfl rfl, box_rfl rfl, trivial⟩ trivial rfl ⟨rfl, trivial⟩ ⟨rfl, trivial⟩) ?_)
  refine s_if rfl (fun c7 => ?_) (fun c7 => ?_)
  · have h := h.1 c7
    refine aw_seq (s_reg ?_)
    refine s_run 2 [(17, .agg [pI (Tm.kind r1.2), pI (Tm.n r1.2), pS (Tm.name r1.2), pL (Tm.encL (Tm.args r1.2))]), (16, .agg [pI (Tm.kind r1.1), pI (Tm.n r1.1), pS (Tm.name r1.1), pL (Tm.encL (Tm.args r1.1))])] [] [] rfl ?_
    obtain ⟨r8, k9, h⟩ := h
    refine s_call (.p (.agg (Tm.cells r8))) [] [] rfl k9 rfl ?_
    refine s_run 2 [] [(3, [pI (Tm.kind r8), pI (Tm.n r8), pS (Tm.name r8), pL (Tm.encL (Tm.args r8))]), (2, [pI (Tm.kind r1.1), pI (Tm.n r1.1), pS (Tm.name r1.1), pL (Tm.encL (Tm.args r1.1))])] [] rfl ?_
    refine seq_n (aw_ret ?_)
    exact endp_ret _ h rfl
  · have h := h.2 c7
    refine aw_skip (seq_n (aw_wk (St [(2, .ptr 2 0), (3, .ptr 3 0), (4, .ptr 4 0), (5, .ptr 5 0)] [(2, [pI (0 : Int), pI (0 : Int), pS ([] : Str), pL (Tm.encL ([] : List Tm))]), (3, [pI (0 : Int), pI (0 : Int), pS ([] : Str), pL (Tm.encL ([] : List Tm))]), (4, [pI (Tm.kind r1.1), pI (Tm.n r1.1), pS (Tm.name r1.1), pL (Tm.encL (Tm.args r1.1))]), (5, [pI (Tm.kind r1.2), pI (Tm.n r1.2), pS (Tm.name r1.2), pL (Tm.encL (Tm.args r1.2))])] []) (wk_St ⟨le_rfl _, le_rfl _, le_rfl _, le_rfl _, trivial⟩ ⟨box_rfl rfl, box_rfl rfl, box_rfl rfl, box_rfl rfl, trivial⟩ trivial rfl ⟨rfl, trivial⟩ ⟨rfl, trivial⟩) ?_))
    refine aw_seq (s_reg ?_)
    refine s_run 4 [(20, .agg [pI (Tm.kind r1.2), pI (Tm.n r1.2), pS (Tm.name r1.2), pL (Tm.encL (Tm.args r1.2))]), (19, .agg [pI (Tm.kind r1.1), pI (Tm.n r1.1), pS (Tm.name r1.1), pL (Tm.encL (Tm.args r1.1))])] [(3, [pI (Tm.kind r1.2), pI (Tm.n r1.2), pS (Tm.name r1.2), pL (Tm.encL (Tm.args r1.2))]), (2, [pI (Tm.kind r1.1), pI (Tm.n r1.1), pS (Tm.name r1.1), pL (Tm.encL (Tm.args r1.1))])] [] rfl ?_
    refine seq_n (aw_ret ?_)
    exact endp_ret _ h rfl


def ac_impl_SameSubst : AC :=
  .seq (.reg false [
    { dst := some 4, k := .mv (.c (.bool false)) }])
  (.seq (.seq (.reg false [
    { dst := some 7, k := .mv (.t 0) },
    { dst := some 8, k := .mv (.t 1) },
    { dst := some 9, k := .bs 1 [.t 7, .t 8] },
    { dst := some 10, k := .call 54 [(.t 9, .fz)] },
    { dst := some 11, k := .len (.t 10) },
    { dst := some 12, k := .mv (.c (.int .i64 (0))) }])
  (.wk (.block 0 (.loop (.seq (.reg false [
        { dst := some 13, k := .bin .lss (.t 12) (.t 11) }])
      (.seq (.cond (.t 13) (.skip)
      (.exit 0))
      (.seq (.block 1 (.seq (.reg false [
          { dst := some 14, k := .ia (.t 10) (.t 12) 5 },
          { dst := some 15, k := .ld (.t 14) 5 true },
          { dst := some 6, k := .al [.p (.str []), .p (.int .i64 0), .p (.int .i64 0), .p (.str []), .p (.slice [])] },
          { dst := none, k := .st (.t 6) (.t 15) 5 6 }])
        (.wk (.seq (.reg true [
          { dst := some 16, k := .mv (.t 0) },
          { dst := some 17, k := .fa (.t 6) 0 },
          { dst := some 18, k := .ld (.t 17) 1 false, vb := .only [6] },
          { dst := some 19, k := .call 56 [(.t 16, .fz), (.t 18, .fz)], vb := .but [6], vl := .but [6] },
          { dst := some 20, k := .mv (.t 1) },
          { dst := some 21, k := .fa (.t 6) 0 },
          { dst := some 22, k := .ld (.t 21) 1 false, vb := .only [6] },
          { dst := some 23, k := .call 56 [(.t 20, .fz), (.t 22, .fz)] },
          { dst := some 24, k := .call 55 [(.t 19, .fz), (.t 23, .fz)] },
          { dst := some 25, k := .un .not (.t 24) }])
        (.cond (.t 25) (.seq (.reg false [
            { dst := some 4, k := .mv (.c (.bool false)) }])
          (.ret))
        (.skip))))))
      (.reg false [
        { dst := some 26, k := .bin .add (.t 12) (.c (.int .i64 (1))) },
        { dst := some 12, k := .mv (.t 26) }]))))))))
  (.seq (.reg false [
    { dst := some 4, k := .mv (.c (.bool true)) }])
  (.ret)))
theorem chk_impl_SameSubst : fnOK Try.prog 2 Try.f25 ac_impl_SameSubst [(.tmp 4, .fz)] = true := by kernel_rfl
def wp_impl_SameSubst (p0 : (List Bd)) (p1 : (List Bd)) (post : Bool → Prop) : Prop :=
  (∃ r1 : (List Bd), C_slices_Concat_Bind ([p0, p1] : List (List Bd)) r1 ∧ LOOP (fun (N24 : Int → Prop) (s3 : Int) => (((decide (s3 < ((List.length r1 : Nat) : Int))) = true → (∃ u29, GETI r1 s3 u29 ∧ (∃ r31 : Tm, C_impl_value p0 (Bd.name u29) r31 ∧ (∃ r33 : Tm, C_impl_value p1 (Bd.name u29) r33 ∧ (∃ r35 : Bool, C_impl_EqualTerm r31 r33 r35 ∧ (((!r35) = true → post false) ∧ ((!r35) = false → N24 (IntKind.i64.wrap (s3 + (1 : Int)))))))))) ∧ ((decide (s3 < ((List.length r1 : Nat) : Int))) = false → post true))) (0 : Int))
theorem w_impl_SameSubst (p0 : (List Bd)) (p1 : (List Bd)) (post : Bool → Prop) (h : wp_impl_SameSubst p0 p1 post) : ∃ r, post r ∧ C_impl_SameSubst p0 p1 r := by
  unfold wp_impl_SameSubst at h
  refine evs_of (encR := fun r : Bool => .one (.l (.fz (.bool r)))) (encO := fun r => []) 2 [(.tmp 4, .fz)] [.fz, .fz] Try.func25 chk_impl_SameSubst rfl rfl [(1, pL (e_Bd p1)), (0, pL (e_Bd p0))] [] [] rfl ?_
  refine aw_seq (s_reg ?_)
  refine s_run 1 [(4, pB false)] [] [] rfl ?_
  refine seq_n (aw_seq (aw_seq (s_reg ?_)))
  refine s_run 2 [(8, pL (e_Bd p1)), (7, pL (e_Bd p0))] [] [] rfl ?_
  refine s_bs rfl rfl (enc_cons (e := e_l_Bd) p0 (enc_cons (e := e_l_Bd) p1 (enc_nil (e := e_l_Bd)))) ?_
  obtain ⟨r1, k2, h⟩ := h
  refine s_call (pL (e_Bd r1)) [] [] rfl k2 rfl ?_
  refine s_len rfl (enc_len (e := e_Bd) _) ?_
  refine s_run 1 [(12, pI (0 : Int))] [] [] rfl ?_
  refine seq_n (aw_wk (St [(0, pL (e_Bd p0)), (1, pL (e_Bd p1)), (10, pL (e_Bd r1)), (11, pI ((List.length r1 : Nat) : Int)), (12, pI (0 : Int))] [] []) (wk_St ⟨le_rfl _, le_rfl _, le_rfl _, le_rfl _, le_rfl _, trivial⟩ trivial trivial rfl ⟨rfl, rfl, trivial⟩ ⟨rfl, rfl, trivial⟩) ?_)
  refine aw_blk ?_
  obtain ⟨I26, m27, h0, h⟩ := h
  refine aw_loop' (ι := { y : Int // I26 y }) (fun x25 => St [(0, pL (e_Bd p0)), (1, pL (e_Bd p1)), (10, pL (e_Bd r1)), (11, pI ((List.length r1 : Nat) : Int)), (12, pI x25.1)] [] []) (fun x25 => m27 x25.1) ⟨_, h0⟩ ?_ ?_
  · exact wk_St ⟨le_rfl _, le_rfl _, le_rfl _, le_rfl _, le_rfl _, trivial⟩ trivial trivial rfl ⟨rfl, rfl, trivial⟩ ⟨rfl, rfl, trivial⟩
  · rintro ⟨s3, hs3⟩
    replace h := h s3 hs3
    refine aw_seq (s_reg ?_)
    refine s_run 1 [(13, pB (decide (s3 < ((List.length r1 : Nat) : Int))))] [] [] rfl ?_
    refine seq_n (aw_seq (s_if rfl (fun c28 => ?_) (fun c28 => ?_)))
    · have h := h.1 c28
      refine aw_skip (seq_n (aw_seq (aw_blk (aw_seq (s_reg ?_)))))
      obtain ⟨u29, ⟨g30a, g30b⟩, h⟩ := h
      refine s_ia rfl rfl g30a (enc_get (e := e_Bd) g30b) rfl ?_
      refine s_run 3 [(6, .ptr 6 0), (15, .p (.agg (Bd.cells u29)))] [(6, [pS (Bd.name u29), pI (Tm.kind (Bd.term u29)), pI (Tm.n (Bd.term u29)), pS (Tm.name (Bd.term u29)), pL (Tm.encL (Tm.args (Bd.term u29)))]), (6, [pS ([] : Str), pI (0 : Int), pI (0 : Int), pS ([] : Str), pL (Tm.encL ([] : List Tm))])] [] rfl ?_
      refine seq_n (aw_wk (St [(0, pL (e_Bd p0)), (1, pL (e_Bd p1)), (6, .ptr 6 0), (10, pL (e_Bd r1)), (11, pI ((List.length r1 : Nat) : Int)), (12, pI s3)] [(6, [pS (Bd.name u29), pI (Tm.kind (Bd.term u29)), pI (Tm.n (Bd.term u29)), pS (Tm.name (Bd.term u29)), pL (Tm.encL (Tm.args (Bd.term u29)))])] []) (wk_St ⟨le_rfl _, le_rfl _, le_rfl _, le_rfl _, le_rfl _, le_rfl _, trivial⟩ ⟨box_rfl rfl, trivial⟩ trivial rfl ⟨rfl, rfl, trivial⟩ ⟨rfl, rfl, trivial⟩) ?_)
      refine aw_seq (s_reg ?_)
      refine s_run 3 [(18, pS (Bd.name u29)), (17, .ptr 6 0), (16, pL (e_Bd p0))] [] [] rfl ?_
      obtain ⟨r31, k32, h⟩ := h
      refine s_call (.p (.agg (Tm.cells r31))) [] [] rfl k32 rfl ?_
      refine s_run 3 [(22, pS (Bd.name u29)), (21, .ptr 6 0), (20, pL (e_Bd p1))] [] [] rfl ?_
      obtain ⟨r33, k34, h⟩ := h
      refine s_call (.p (.agg (Tm.cells r33))) [] [] rfl k34 rfl ?_
      obtain ⟨r35, k36, h⟩ := h
      refine s_call (pB r35) [] [] rfl k36 rfl ?_
      refine s_run 1 [(25, pB (!r35))] [] [] rfl ?_
      refine seq_n (s_if rfl (fun c37 => ?_) (fun c37 => ?_))
      · have h := h.1 c37
        refine aw_seq (s_reg ?_)
        refine s_run 1 [(4, pB false)] [] [] rfl ?_
        refine seq_n (aw_ret ?_)
        exact endp_ret _ h rfl
      · have h := h.2 c37
        refine aw_skip (blk_n (seq_n (s_reg ?_)))
        refine s_run 2 [(12, pI (IntKind.i64.wrap (s3 + (1 : Int)))), (26, pI (IntKind.i64.wrap (s3 + (1 : Int))))] [] [] rfl ?_
        exact loop_n ⟨_, h.1⟩ h.2 (wk_St ⟨le_rfl _, le_rfl _, le_rfl _, le_rfl _, le_rfl _, trivial⟩ trivial trivial rfl ⟨rfl, rfl, trivial⟩ ⟨rfl, rfl, trivial⟩)
    · have h := h.2 c28
      refine aw_exit (seq_x (loop_x (blk_x (seq_n (aw_seq (s_reg ?_))))))
      refine s_run 1 [(4, pB true)] [] [] rfl ?_
      refine seq_n (aw_ret ?_)
      exact endp_ret _ h rfl


def ac_spec_DrawSameSubst : AC :=
  .seq (.reg false [
    { dst := some 2, k := .mv (.c (.slice [])) },
    { dst := some 3, k := .mv (.c (.slice [])) }])
  (.seq (.reg false [
    { dst := some 6, k := .mv (.t 0) },
    { dst := some 7, k := .call 38 [(.t 6, .fz)] },
    { dst := some 4, k := .mv (.t 7) }])
  (.wk (.seq (.reg false [
    { dst := some 8, k := .mv (.t 4) },
    { dst := some 9, k := .call 43 [(.t 8, .io [false, false, false])] },
    { dst := some 5, k := .mv (.t 9) }])
  (.wk (.seq (.seq (.reg false [
    { dst := some 10, k := .mv (.t 4) },
    { dst := some 11, k := .call 39 [(.t 10, .io [false, false, false]), (.c (.int .i64 (2)), .fz)] }])
  (.wk (.cond (.t 11) (.seq (.reg false [
      { dst := some 12, k := .mv (.t 5) },
      { dst := some 13, k := .bs 5 [] },
      { dst := some 14, k := .mv (.t 5) },
      { dst := some 15, k := .app (.t 13) (.t 14) 5 72 },
      { dst := some 2, k := .mv (.t 12) },
      { dst := some 3, k := .mv (.t 15) }])
    (.ret))
  (.skip))))
  (.wk (.seq (.reg false [
    { dst := some 16, k := .mv (.t 5) },
    { dst := some 17, k := .mv (.t 4) },
    { dst := some 18, k := .call 43 [(.t 17, .io [false, false, false])] },
    { dst := some 2, k := .mv (.t 16) },
    { dst := some 3, k := .mv (.t 18) }])
  (.ret))))))))
theorem chk_spec_DrawSameSubst : fnOK Try.prog 1 Try.f23 ac_spec_DrawSameSubst [(.tmp 2, .fz), (.tmp 3, .fz)] = true := by kernel_rfl
def wp_spec_DrawSameSubst (p0 : (List Int)) (post : ((List Bd) × (List Bd)) → Prop) : Prop :=
  (∃ r1 : T_spec_l1Cur, C_spec_l1New p0 r1 ∧ (∃ r3 : (List Bd) × T_spec_l1Cur, C_spec_l7Draw r1 r3 ∧ (∃ r5 : Bool × T_spec_l1Cur, C_spec_l1Once r3.2 (2 : Int) r5 ∧ ((r5.1 = true → ((List.length ([] : List Bd) + List.length r3.1) * 72 ≤ 140737488355328 ∧ post (r3.1, (([] : List Bd) ++ r3.1)))) ∧ (r5.1 = false → (∃ r9 : (List Bd) × T_spec_l1Cur, C_spec_l7Draw r5.2 r9 ∧ post (r3.1, r9.1)))))))
theorem w_spec_DrawSameSubst (p0 : (List Int)) (post : ((List Bd) × (List Bd)) → Prop) (h : wp_spec_DrawSameSubst p0 post) : ∃ r, post r ∧ C_spec_DrawSameSubst p0 r := by
  unfold wp_spec_DrawSameSubst at h
  refine evs_of (encR := fun r : (List Bd) × (List Bd) => .tup [.l (.fz (.slice (e_Bd r.1))), .l (.fz (.slice (e_Bd r.2)))]) (encO := fun r => []) 1 [(.tmp 2, .fz), (.tmp 3, .fz)] [.fz] Try.func23 chk_spec_DrawSameSubst rfl rfl [(0, pL (e_u8 p0))] [] [] rfl ?_
  refine aw_seq (s_reg ?_)
  refine s_run 2 [(3, pL (e_Bd ([] : List Bd))), (2, pL (e_Bd ([] : List Bd)))] [] [] rfl ?_
  refine seq_n (aw_seq (s_reg ?_))
  refine s_run 1 [(6, pL (e_u8 p0))] [] [] rfl ?_
  obtain ⟨r1, k2, h⟩ := h
  refine s_call (.ptr 7 0) [(7, [pL (e_u8 (T_spec_l1Cur.b r1)), pI (T_spec_l1Cur.i r1), pI (T_spec_l1Cur.h r1)])] [] rfl k2 rfl ?_
  refine s_run 1 [(4, .ptr 7 0)] [] [] rfl ?_
  refine seq_n (aw_wk (St [(4, .ptr 7 0)] [(7, [pL (e_u8 (T_spec_l1Cur.b r1)), pI (T_spec_l1Cur.i r1), pI (T_spec_l1Cur.h r1)])] []) (wk_St ⟨le_rfl _, trivial⟩ ⟨box_rfl rfl, trivial⟩ trivial rfl ⟨rfl, trivial⟩ ⟨rfl, trivial⟩) ?_)
  refine aw_seq (s_reg ?_)
  refine s_run 1 [(8, .ptr 7 0)] [] [] rfl ?_
  obtain ⟨r3, k4, h⟩ := h
  refine s_call (pL (e_Bd r3.1)) [(7, [pL (e_u8 (T_spec_l1Cur.b r3.2)), pI (T_spec_l1Cur.i r3.2), pI (T_spec_l1Cur.h r3.2)])] [] rfl k4 rfl ?_
  refine s_run 1 [(5, pL (e_Bd r3.1))] [] [] rfl ?_
  refine seq_n (aw_wk (St [(4, .ptr 7 0), (5, pL (e_Bd r3.1))] [(7, [pL (e_u8 (T_spec_l1Cur.b r3.2)), pI (T_spec_l1Cur.i r3.2), pI (T_spec_l1Cur.h r3.2)])] []) (wk_St ⟨le_rfl _, le_rfl _, trivial⟩ ⟨box_rfl rfl, trivial⟩ trivial rfl ⟨rfl, trivial⟩ ⟨rfl, trivial⟩) ?_)
  refine aw_seq (aw_seq (s_reg ?_))
  refine s_run 1 [(10, .ptr 7 0)] [] [] rfl ?_
  obtain ⟨r5, k6, h⟩ := h
  refine s_call (pB r5.1) [(7, [pL (e_u8 (T_spec_l1Cur.b r5.2)), pI (T_spec_l1Cur.i r5.2), pI (T_spec_l1Cur.h r5.2)])] [] rfl k6 rfl ?_
  refine seq_n (aw_wk (St [(4, .ptr 7 0), (5, pL (e_Bd r3.1)), (11, pB r5.1)] [(7, [pL (e_u8 (T_spec_l1Cur.b r5.2)), pI (T_spec_l1Cur.i r5.2), pI (T_spec_l1Cur.h r5.2)])] []) (wk_St ⟨le_rfl _, le_rfl _, le_rfl _, trivial⟩ ⟨box_rfl rfl, trivial⟩ trivial rfl ⟨rfl, trivial⟩ ⟨rfl, trivial⟩) ?_)
  refine s_if rfl (fun c7 => ?_) (fun c7 => ?_)
  · have h := h.1 c7
    refine aw_seq (s_reg ?_)
    refine s_run 1 [(12, pL (e_Bd r3.1))] [] [] rfl ?_
    refine s_bs rfl rfl (enc_nil (e := e_Bd)) ?_
    refine s_run 1 [(14, pL (e_Bd r3.1))] [] [] rfl ?_
    obtain ⟨g8, h⟩ := h
    refine s_app rfl rfl rfl (enc_sz (e := e_Bd) _) (enc_len (e := e_Bd) _) (enc_len (e := e_Bd) _) g8 (enc_app (e := e_Bd) _ _) ?_
    refine s_run 2 [(3, .tip (0, 13, 0) (0) (e_Bd (([] : List Bd) ++ r3.1))), (2, pL (e_Bd r3.1))] [] [] rfl ?_
    refine seq_n (aw_ret ?_)
    exact endp_ret _ h rfl
  · have h := h.2 c7
    refine aw_skip (seq_n (aw_wk (St [(4, .ptr 7 0), (5, pL (e_Bd r3.1))] [(7, [pL (e_u8 (T_spec_l1Cur.b r5.2)), pI (T_spec_l1Cur.i r5.2), pI (T_spec_l1Cur.h r5.2)])] []) (wk_St ⟨le_rfl _, le_rfl _, trivial⟩ ⟨box_rfl rfl, trivial⟩ trivial rfl ⟨rfl, trivial⟩ ⟨rfl, trivial⟩) ?_))
    refine aw_seq (s_reg ?_)
    refine s_run 2 [(17, .ptr 7 0), (16, pL (e_Bd r3.1))] [] [] rfl ?_
    obtain ⟨r9, k10, h⟩ := h
    refine s_call (pL (e_Bd r9.1)) [(7, [pL (e_u8 (T_spec_l1Cur.b r9.2)), pI (T_spec_l1Cur.i r9.2), pI (T_spec_l1Cur.h r9.2)])] [] rfl k10 rfl ?_
    refine s_run 2 [(3, pL (e_Bd r9.1)), (2, pL (e_Bd r3.1))] [] [] rfl ?_
    refine seq_n (aw_ret ?_)
    exact endp_ret _ h rfl


def ac_spec_l8Large : AC :=
  .seq (.reg false [
    { dst := some 2, k := .mv (.c (.bool false)) }])
  (.seq (.seq (.reg false [
    { dst := some 3, k := .mv (.c (.int .i64 (0))) }])
  (.block 0 (.loop (.seq (.seq (.reg false [
        { dst := some 4, k := .mv (.t 3) },
        { dst := some 5, k := .mv (.t 0) },
        { dst := some 6, k := .len (.t 5) },
        { dst := some 7, k := .bin .lss (.t 4) (.t 6) }])
      (.cond (.t 7) (.skip)
      (.exit 0)))
      (.wk (.seq (.block 1 (.seq (.reg false [
          { dst := some 10, k := .mv (.t 0) },
          { dst := some 11, k := .mv (.t 3) },
          { dst := some 12, k := .ia (.t 10) (.t 11) 5 },
          { dst := some 13, k := .fa (.t 12) 1 },
          { dst := some 14, k := .ld (.t 13) 4 true },
          { dst := some 15, k := .call 79 [(.t 14, .fz), (.c (.int .i64 (400)), .fz)] },
          { dst := some 16, k := .bin .lss (.t 15) (.c (.int .i64 (0))) }])
        (.cond (.t 16) (.seq (.reg false [
            { dst := some 2, k := .mv (.c (.bool true)) }])
          (.ret))
        (.skip))))
      (.wk (.reg false [
        { dst := some 8, k := .mv (.t 3) },
        { dst := some 9, k := .bin .add (.t 8) (.c (.int .i64 (1))) },
        { dst := some 3, k := .mv (.t 9) }]))))))))
  (.seq (.reg false [
    { dst := some 2, k := .mv (.c (.bool false)) }])
  (.ret)))
theorem chk_spec_l8Large : fnOK Try.prog 1 Try.f61 ac_spec_l8Large [(.tmp 2, .fz)] = true := by kernel_rfl
def wp_spec_l8Large (p0 : (List Bd)) (post : Bool → Prop) : Prop :=
  LOOP (fun (N14 : Int → Prop) (s1 : Int) => (((decide (s1 < ((List.length p0 : Nat) : Int))) = true → (∃ u19, GETI p0 s1 u19 ∧ (∃ r21 : Int, C_spec_l8Left (Bd.term u19) (400 : Int) r21 ∧ (((decide (r21 < (0 : Int))) = true → post true) ∧ ((decide (r21 < (0 : Int))) = false → N14 (IntKind.i64.wrap (s1 + (1 : Int)))))))) ∧ ((decide (s1 < ((List.length p0 : Nat) : Int))) = false → post false))) (0 : Int)
theorem w_spec_l8Large (p0 : (List Bd)) (post : Bool → Prop) (h : wp_spec_l8Large p0 post) : ∃ r, post r ∧ C_spec_l8Large p0 r := by
  unfold wp_spec_l8Large at h
  refine evs_of (encR := fun r : Bool => .one (.l (.fz (.bool r)))) (encO := fun r => []) 1 [(.tmp 2, .fz)] [.fz] Try.func61 chk_spec_l8Large rfl rfl [(0, pL (e_Bd p0))] [] [] rfl ?_
  refine aw_seq (s_reg ?_)
  refine s_run 1 [(2, pB false)] [] [] rfl ?_
  refine seq_n (aw_seq (aw_seq (s_reg ?_)))
  refine s_run 1 [(3, pI (0 : Int))] [] [] rfl ?_
  refine seq_n (aw_blk ?_)
  obtain ⟨I16, m17, h0, h⟩ := h
  refine aw_loop' (ι := { y : Int // I16 y }) (fun x15 => St [(0, pL (e_Bd p0)), (3, pI x15.1)] [] []) (fun x15 => m17 x15.1) ⟨_, h0⟩ ?_ ?_
  · exact wk_St ⟨le_rfl _, le_rfl _, trivial⟩ trivial trivial rfl ⟨rfl, trivial⟩ ⟨rfl, trivial⟩
  · rintro ⟨s1, hs1⟩
    replace h := h s1 hs1
    refine aw_seq (aw_seq (s_reg ?_))
    refine s_run 2 [(5, pL (e_Bd p0)), (4, pI s1)] [] [] rfl ?_
    refine s_len rfl (enc_len (e := e_Bd) _) ?_
    refine s_run 1 [(7, pB (decide (s1 < ((List.length p0 : Nat) : Int))))] [] [] rfl ?_
    refine seq_n (s_if rfl (fun c18 => ?_) (fun c18 => ?_))
    · have h := h.1 c18
      refine aw_skip (seq_n (aw_wk (St [(0, pL (e_Bd p0)), (3, pI s1)] [] []) (wk_St ⟨le_rfl _, le_rfl _, trivial⟩ trivial trivial rfl ⟨rfl, trivial⟩ ⟨rfl, trivial⟩) ?_))
      refine aw_seq (aw_blk (aw_seq (s_reg ?_)))
      refine s_run 2 [(11, pI s1), (10, pL (e_Bd p0))] [] [] rfl ?_
      obtain ⟨u19, ⟨g20a, g20b⟩, h⟩ := h
      refine s_ia rfl rfl g20a (enc_get (e := e_Bd) g20b) rfl ?_
      refine s_run 2 [(14, .p (.agg (Tm.cells (Bd.term u19)))), (13, .p (.cptr (List.drop 1 (Bd.cells u19))))] [] [] rfl ?_
      obtain ⟨r21, k22, h⟩ := h
      refine s_call (pI r21) [] [] rfl k22 rfl ?_
      refine s_run 1 [(16, pB (decide (r21 < (0 : Int))))] [] [] rfl ?_
      refine seq_n (s_if rfl (fun c23 => ?_) (fun c23 => ?_))
      · have h := h.1 c23
        refine aw_seq (s_reg ?_)
        refine s_run 1 [(2, pB true)] [] [] rfl ?_
        refine seq_n (aw_ret ?_)
        exact endp_ret _ h rfl
      · have h := h.2 c23
        refine aw_skip (blk_n (seq_n (aw_wk (St [(0, pL (e_Bd p0)), (3, pI s1)] [] []) (wk_St ⟨le_rfl _, le_rfl _, trivial⟩ trivial trivial rfl ⟨rfl, trivial⟩ ⟨rfl, trivial⟩) ?_)))
        refine s_reg ?_
        refine s_run 3 [(3, pI (IntKind.i64.wrap (s1 + (1 : Int)))), (9, pI (IntKind.i64.wrap (s1 + (1 : Int)))), (8, pI s1)] [] [] rfl ?_
        exact loop_n ⟨_, h.1⟩ h.2 (wk_St ⟨le_rfl _, le_rfl _, trivial⟩ trivial trivial rfl ⟨rfl, trivial⟩ ⟨rfl, trivial⟩)
    · have h := h.2 c18
      refine aw_exit (seq_x (loop_x (blk_x (seq_n (aw_seq (s_reg ?_))))))
      refine s_run 1 [(2, pB false)] [] [] rfl ?_
      refine seq_n (aw_ret ?_)
      exact endp_ret _ h rfl


def ac_spec_IndexOf : AC :=
  .seq (.reg false [
    { dst := some 4, k := .mv (.c (.int .i64 (0))) }])
  (.seq (.seq (.reg false [
    { dst := some 5, k := .mv (.c (.int .i64 (0))) }])
  (.block 0 (.loop (.seq (.seq (.reg false [
        { dst := some 6, k := .mv (.t 5) },
        { dst := some 7, k := .mv (.t 0) },
        { dst := some 8, k := .len (.t 7) },
        { dst := some 9, k := .bin .lss (.t 6) (.t 8) }])
      (.cond (.t 9) (.skip)
      (.exit 0)))
      (.wk (.seq (.block 1 (.seq (.reg false [
          { dst := some 12, k := .mv (.t 0) },
          { dst := some 13, k := .mv (.t 5) },
          { dst := some 14, k := .ia (.t 12) (.t 13) 1 },
          { dst := some 15, k := .ld (.t 14) 1 false },
          { dst := some 16, k := .mv (.t 1) },
          { dst := some 17, k := .bin .eql (.t 15) (.t 16) }])
        (.cond (.t 17) (.seq (.reg false [
            { dst := some 18, k := .mv (.t 5) },
            { dst := some 4, k := .mv (.t 18) }])
          (.ret))
        (.skip))))
      (.wk (.reg false [
        { dst := some 10, k := .mv (.t 5) },
        { dst := some 11, k := .bin .add (.t 10) (.c (.int .i64 (1))) },
        { dst := some 5, k := .mv (.t 11) }]))))))))
  (.seq (.reg false [
    { dst := some 4, k := .mv (.c (.int .i64 (-1))) }])
  (.ret)))
theorem chk_spec_IndexOf : fnOK Try.prog 2 Try.f85 ac_spec_IndexOf [(.tmp 4, .fz)] = true := by kernel_rfl
def wp_spec_IndexOf (p0 : (List Str)) (p1 : Str) (post : Int → Prop) : Prop :=
  LOOP (fun (N10 : Int → Prop) (s1 : Int) => (((decide (s1 < ((List.length p0 : Nat) : Int))) = true → (∃ u15, GETI p0 s1 u15 ∧ (((u15 == p1) = true → post s1) ∧ ((u15 == p1) = false → N10 (IntKind.i64.wrap (s1 + (1 : Int))))))) ∧ ((decide (s1 < ((List.length p0 : Nat) : Int))) = false → post (-1 : Int)))) (0 : Int)
theorem w_spec_IndexOf (p0 : (List Str)) (p1 : Str) (post : Int → Prop) (h : wp_spec_IndexOf p0 p1 post) : ∃ r, post r ∧ C_spec_IndexOf p0 p1 r := by
  unfold wp_spec_IndexOf at h
  refine evs_of (encR := fun r : Int => .one (.l (.fz (.int .i64 r)))) (encO := fun r => []) 2 [(.tmp 4, .fz)] [.fz, .fz] Try.func85 chk_spec_IndexOf rfl rfl [(1, pS p1), (0, pL (e_str p0))] [] [] rfl ?_
  refine aw_seq (s_reg ?_)
  refine s_run 1 [(4, pI (0 : Int))] [] [] rfl ?_
  refine seq_n (aw_seq (aw_seq (s_reg ?_)))
  refine s_run 1 [(5, pI (0 : Int))] [] [] rfl ?_
  refine seq_n (aw_blk ?_)
  obtain ⟨I12, m13, h0, h⟩ := h
  refine aw_loop' (ι := { y : Int // I12 y }) (fun x11 => St [(0, pL (e_str p0)), (1, pS p1), (5, pI x11.1)] [] []) (fun x11 => m13 x11.1) ⟨_, h0⟩ ?_ ?_
  · exact wk_St ⟨le_rfl _, le_rfl _, le_rfl _, trivial⟩ trivial trivial rfl ⟨rfl, rfl, trivial⟩ ⟨rfl, rfl, trivial⟩
  · rintro ⟨s1, hs1⟩
    replace h := h s1 hs1
    refine aw_seq (aw_seq (s_reg ?_))
    refine s_run 2 [(7, pL (e_str p0)), (6, pI s1)] [] [] rfl ?_
    refine s_len rfl (enc_len (e := e_str) _) ?_
    refine s_run 1 [(9, pB (decide (s1 < ((List.length p0 : Nat) : Int))))] [] [] rfl ?_
    refine seq_n (s_if rfl (fun c14 => ?_) (fun c14 => ?_))
    · have h := h.1 c14
      refine aw_skip (seq_n (aw_wk (St [(0, pL (e_str p0)), (1, pS p1), (5, pI s1)] [] []) (wk_St ⟨le_rfl _, le_rfl _, le_rfl _, trivial⟩ trivial trivial rfl ⟨rfl, rfl, trivial⟩ ⟨rfl, rfl, trivial⟩) ?_))
      refine aw_seq (aw_blk (aw_seq (s_reg ?_)))
      refine s_run 2 [(13, pI s1), (12, pL (e_str p0))] [] [] rfl ?_
      obtain ⟨u15, ⟨g16a, g16b⟩, h⟩ := h
      refine s_ia rfl rfl g16a (enc_get (e := e_str) g16b) rfl ?_
      refine s_run 3 [(17, pB (u15 == p1)), (16, pS p1), (15, pS u15)] [] [] rfl ?_
      refine seq_n (s_if rfl (fun c17 => ?_) (fun c17 => ?_))
      · have h := h.1 c17
        refine aw_seq (s_reg ?_)
        refine s_run 2 [(4, pI s1), (18, pI s1)] [] [] rfl ?_
        refine seq_n (aw_ret ?_)
        exact endp_ret _ h rfl
      · have h := h.2 c17
        refine aw_skip (blk_n (seq_n (aw_wk (St [(0, pL (e_str p0)), (1, pS p1), (5, pI s1)] [] []) (wk_St ⟨le_rfl _, le_rfl _, le_rfl _, trivial⟩ trivial trivial rfl ⟨rfl, rfl, trivial⟩ ⟨rfl, rfl, trivial⟩) ?_)))
        refine s_reg ?_
        refine s_run 3 [(5, pI (IntKind.i64.wrap (s1 + (1 : Int)))), (11, pI (IntKind.i64.wrap (s1 + (1 : Int)))), (10, pI s1)] [] [] rfl ?_
        exact loop_n ⟨_, h.1⟩ h.2 (wk_St ⟨le_rfl _, le_rfl _, le_rfl _, trivial⟩ trivial trivial rfl ⟨rfl, rfl, trivial⟩ ⟨rfl, rfl, trivial⟩)
    · have h := h.2 c14
      refine aw_exit (seq_x (loop_x (blk_x (seq_n (aw_seq (s_reg ?_))))))
      refine s_run 1 [(4, pI (-1 : Int))] [] [] rfl ?_
      refine seq_n (aw_ret ?_)
      exact endp_ret _ h rfl


def ac_impl_FindBind : AC :=
  .seq (.reg false [
    { dst := some 4, k := .al [.p (.int .i64 0), .p (.int .i64 0), .p (.str []), .p (.slice [])] },
    { dst := some 5, k := .mv (.c (.bool false)) }])
  (.seq (.reg false [
    { dst := some 9, k := .mv (.t 0) },
    { dst := some 10, k := .mv (.t 1) },
    { dst := some 11, k := .call 41 [(.t 9, .fz), (.t 10, .fz)] },
    { dst := some 8, k := .mv (.t 11) },
    { dst := some 12, k := .ex (.t 8) 0 },
    { dst := some 13, k := .ex (.t 8) 1 },
    { dst := some 6, k := .al [.p (.int .i64 0), .p (.int .i64 0), .p (.str []), .p (.slice [])] },
    { dst := none, k := .st (.t 6) (.t 12) 4 6 },
    { dst := some 7, k := .mv (.t 13) }])
  (.wk (.seq (.reg false [
    { dst := some 14, k := .ld (.t 6) 4 true },
    { dst := some 15, k := .call 42 [(.t 14, .fz)] },
    { dst := some 16, k := .mv (.t 7) },
    { dst := none, k := .st (.t 4) (.t 15) 4 4 },
    { dst := some 5, k := .mv (.t 16) }])
  (.ret))))
theorem chk_impl_FindBind : fnOK Try.prog 2 Try.f51 ac_impl_FindBind [(.cell 4 4 true, .fz), (.tmp 5, .fz)] = true := by kernel_rfl
def wp_impl_FindBind (p0 : (List Bd)) (p1 : Str) (post : (Tm × Bool) → Prop) : Prop :=
  (∃ r1 : Tm × Bool, C_impl_bound p0 p1 r1 ∧ (∃ r3 : Tm, C_impl_copyTerm r1.1 r3 ∧ post (r3, r1.2)))
theorem w_impl_FindBind (p0 : (List Bd)) (p1 : Str) (post : (Tm × Bool) → Prop) (h : wp_impl_FindBind p0 p1 post) : ∃ r, post r ∧ C_impl_FindBind p0 p1 r := by
  unfold wp_impl_FindBind at h
  refine evs_of (encR := fun r : Tm × Bool => .tup [.l (.fz (.agg (Tm.cells r.1))), .l (.fz (.bool r.2))]) (encO := fun r => []) 2 [(.cell 4 4 true, .fz), (.tmp 5, .fz)] [.fz, .fz] Try.func51 chk_impl_FindBind rfl rfl [(1, pS p1), (0, pL (e_Bd p0))] [] [] rfl ?_
  refine aw_seq (s_reg ?_)
  refine s_run 2 [(5, pB false), (4, .ptr 4 0)] [(4, [pI (0 : Int), pI (0 : Int), pS ([] : Str), pL (Tm.encL ([] : List Tm))])] [] rfl ?_
  refine seq_n (aw_seq (s_reg ?_))
  refine s_run 2 [(10, pS p1), (9, pL (e_Bd p0))] [] [] rfl ?_
  obtain ⟨r1, k2, h⟩ := h
  refine s_call (.tup [.p (.agg (Tm.cells r1.1)), pB r1.2]) [] [] rfl k2 rfl ?_
  refine s_run 6 [(7, pB r1.2), (6, .ptr 6 0), (13, pB r1.2), (12, .p (.agg (Tm.cells r1.1))), (8, .tup [.p (.agg (Tm.cells r1.1)), pB r1.2])] [(6, [pI (Tm.kind r1.1), pI (Tm.n r1.1), pS (Tm.name r1.1), pL (Tm.encL (Tm.args r1.1))]), (6, [pI (0 : Int), pI (0 : Int), pS ([] : Str), pL (Tm.encL ([] : List Tm))])] [] rfl ?_
  refine seq_n (aw_wk (St [(4, .ptr 4 0), (6, .ptr 6 0), (7, pB r1.2)] [(4, [pI (0 : Int), pI (0 : Int), pS ([] : Str), pL (Tm.encL ([] : List Tm))]), (6, [pI (Tm.kind r1.1), pI (Tm.n r1.1), pS (Tm.name r1.1), pL (Tm.encL (Tm.args r1.1))])] []) (wk_St ⟨le_rfl _, le_rfl _, le_rfl _, trivial⟩ ⟨box_rfl rfl, box_rfl rfl, trivial⟩ trivial rfl ⟨rfl, rfl, trivial⟩ ⟨rfl, rfl, trivial⟩) ?_)
  refine aw_seq (s_reg ?_)
  refine s_run 1 [(14, .agg [pI (Tm.kind r1.1), pI (Tm.n r1.1), pS (Tm.name r1.1), pL (Tm.encL (Tm.args r1.1))])] [] [] rfl ?_
  obtain ⟨r3, k4, h⟩ := h
  refine s_call (.p (.agg (Tm.cells r3))) [] [] rfl k4 rfl ?_
  refine s_run 3 [(5, pB r1.2), (16, pB r1.2)] [(4, [pI (Tm.kind r3), pI (Tm.n r3), pS (Tm.name r3), pL (Tm.encL (Tm.args r3))])] [] rfl ?_
  refine seq_n (aw_ret ?_)
  exact endp_ret _ h rfl


def ac_impl_IsInstance : AC :=
  .seq (.reg false [
    { dst := some 2, k := .bx (.t 0) 4 },
    { dst := some 3, k := .bx (.t 1) 4 },
    { dst := some 4, k := .mv (.c (.bool false)) }])
  (.seq (.reg false [
    { dst := some 8, k := .ld (.t 3) 4 true },
    { dst := some 9, k := .ld (.t 2) 4 true },
    { dst := some 10, k := .call 33 [(.t 8, .fz), (.t 9, .fz), (.nl 5, .ow)] },
    { dst := some 7, k := .mv (.t 10) },
    { dst := some 11, k := .ex (.t 7) 0 },
    { dst := some 12, k := .ex (.t 7) 1 },
    { dst := some 5, k := .mv (.t 11) },
    { dst := some 6, k := .mv (.t 12) }])
  (.seq (.reg false [
    { dst := some 13, k := .mv (.t 6) },
    { dst := some 4, k := .mv (.t 13) }])
  (.ret)))
theorem chk_impl_IsInstance : fnOK Try.prog 2 Try.f11 ac_impl_IsInstance [(.tmp 4, .fz)] = true := by kernel_rfl
def wp_impl_IsInstance (p0 : Tm) (p1 : Tm) (post : Bool → Prop) : Prop :=
  (∃ r1 : (List Bd) × Bool, C_impl_match p1 p0 ([] : List Bd) r1 ∧ post r1.2)
theorem w_impl_IsInstance (p0 : Tm) (p1 : Tm) (post : Bool → Prop) (h : wp_impl_IsInstance p0 p1 post) : ∃ r, post r ∧ C_impl_IsInstance p0 p1 r := by
  unfold wp_impl_IsInstance at h
  refine evs_of (encR := fun r : Bool => .one (.l (.fz (.bool r)))) (encO := fun r => []) 2 [(.tmp 4, .fz)] [.fz, .fz] Try.func11 chk_impl_IsInstance rfl rfl [(1, .p (.agg (Tm.cells p1))), (0, .p (.agg (Tm.cells p0)))] [] [] rfl ?_
  refine aw_seq (s_reg ?_)
  refine s_run 3 [(4, pB false), (3, .ptr 3 0), (2, .ptr 2 0)] [(3, [pI (Tm.kind p1), pI (Tm.n p1), pS (Tm.name p1), pL (Tm.encL (Tm.args p1))]), (2, [pI (Tm.kind p0), pI (Tm.n p0), pS (Tm.name p0), pL (Tm.encL (Tm.args p0))])] [] rfl ?_
  refine seq_n (aw_seq (s_reg ?_))
  refine s_run 2 [(9, .agg [pI (Tm.kind p0), pI (Tm.n p0), pS (Tm.name p0), pL (Tm.encL (Tm.args p0))]), (8, .agg [pI (Tm.kind p1), pI (Tm.n p1), pS (Tm.name p1), pL (Tm.encL (Tm.args p1))])] [] [] rfl ?_
  obtain ⟨r1, k2, h⟩ := h
  refine s_call (.tup [.tip (0, 10, 0) (0) (e_Bd r1.1), pB r1.2]) [] [((0, 10, 0), 0, .tip (e_Bd r1.1).length 5)] (args_one rfl (args_one rfl (args_one (arg_nil rfl) (args_nil)))) k2 rfl ?_
  refine s_run 5 [(6, pB r1.2), (5, .tip (0, 10, 0) (0) (e_Bd r1.1)), (12, pB r1.2), (11, .tip (0, 10, 0) (0) (e_Bd r1.1)), (7, .tup [.tip (0, 10, 0) (0) (e_Bd r1.1), pB r1.2])] [] [] rfl ?_
  refine seq_n (aw_seq (s_reg ?_))
  refine s_run 2 [(4, pB r1.2), (13, pB r1.2)] [] [] rfl ?_
  refine seq_n (aw_ret ?_)
  exact endp_ret _ h rfl


def ac_spec_l3One : AC :=
  .seq (.reg false [
    { dst := some 3, k := .bx (.t 1) 4 },
    { dst := some 4, k := .al [.p (.int .i64 0), .p (.int .i64 0), .p (.str []), .nil 4] }])
  (.seq (.reg false [
    { dst := some 5, k := .mv (.t 0) },
    { dst := some 6, k := .ld (.t 3) 4 true },
    { dst := some 7, k := .bs 4 [.t 6] },
    { dst := some 8, k := .call 80 [(.t 5, .fz), (.t 7, .ow)] },
    { dst := none, k := .st (.t 4) (.t 8) 4 4 }])
  (.ret))
theorem chk_spec_l3One : fnOK Try.prog 2 Try.f70 ac_spec_l3One [(.cell 4 4 true, .ag [false, false, false, true])] = true := by kernel_rfl
def wp_spec_l3One (p0 : Str) (p1 : Tm) (post : Tm → Prop) : Prop :=
  (∃ r1 : Tm, C_spec_l3App p0 ([p1] : List Tm) r1 ∧ post r1)
theorem w_spec_l3One (p0 : Str) (p1 : Tm) (post : Tm → Prop) (h : wp_spec_l3One p0 p1 post) : ∃ r, post r ∧ C_spec_l3One p0 p1 r := by
  unfold wp_spec_l3One at h
  refine evs_of (encR := fun r : Tm => .one (.agg [.fz (.int .i64 (Tm.kind r)), .fz (.int .i64 (Tm.n r)), .fz (.str (Tm.name r)), .ow 4 (Tm.encL (Tm.args r))])) (encO := fun r => []) 2 [(.cell 4 4 true, .ag [false, false, false, true])] [.fz, .fz] Try.func70 chk_spec_l3One rfl rfl [(1, .p (.agg (Tm.cells p1))), (0, pS p0)] [] [] rfl ?_
  refine aw_seq (s_reg ?_)
  refine s_run 2 [(4, .ptr 4 0), (3, .ptr 3 0)] [(4, [pI (0 : Int), pI (0 : Int), pS ([] : Str), .tip (1, 4, 3) (0) (Tm.encL ([] : List Tm))]), (3, [pI (Tm.kind p1), pI (Tm.n p1), pS (Tm.name p1), pL (Tm.encL (Tm.args p1))])] [((1, 4, 3), 0, .tip (Tm.encL ([] : List Tm)).length 4)] rfl ?_
  refine seq_n (aw_seq (s_reg ?_))
  refine s_run 2 [(6, .agg [pI (Tm.kind p1), pI (Tm.n p1), pS (Tm.name p1), pL (Tm.encL (Tm.args p1))]), (5, pS p0)] [] [] rfl ?_
  refine s_bs rfl rfl (enc_cons (e := Tm.encL) p1 (enc_nil (e := Tm.encL))) ?_
  obtain ⟨r1, k2, h⟩ := h
  refine s_call (.agg [pI (Tm.kind r1), pI (Tm.n r1), pS (Tm.name r1), .tip (2, 8, 3) (0) (Tm.encL (Tm.args r1))]) [] [((0, 7, 0), 1, .spent), ((2, 8, 3), 0, .tip (Tm.encL (Tm.args r1)).length 4)] (args_one rfl (args_one (arg_own rfl rfl) (args_nil))) k2 rfl ?_
  refine s_run 1 [] [(4, [pI (Tm.kind r1), pI (Tm.n r1), pS (Tm.name r1), .tip (2, 8, 3) (0) (Tm.encL (Tm.args r1))])] [] rfl ?_
  refine seq_n (aw_ret ?_)
  exact endp_ret _ h (endB_of (end_one rfl (arg_ag rfl (leaves_one (rfl) (leaves_one (rfl) (leaves_one (rfl) (leaves_one (leaf_own rfl rfl) (leaves_nil)))))) (end_nil)) (end_nil) (of_decide_eq_true rfl) rfl rfl)


def ac_spec_l3App : AC :=
  .seq (.reg false [
    { dst := some 4, k := .al [.p (.int .i64 0), .p (.int .i64 0), .p (.str []), .nil 4] }])
  (.seq (.reg false [
    { dst := some 5, k := .mv (.t 0) },
    { dst := some 6, k := .mv (.t 1) },
    { dst := some 7, k := .bd [.p (.int .i64 0), .p (.int .i64 0), .p (.str []), .nil 4] [(0, 1, .c (.int .i64 (2))), (2, 1, .t 5), (3, 1, .t 6)] },
    { dst := none, k := .stn (.t 4) (.t 7) 4 4 }])
  (.ret))
theorem chk_spec_l3App : fnOK Try.prog 2 Try.f80 ac_spec_l3App [(.cell 4 4 true, .ag [false, false, false, true])] = true := by kernel_rfl
def wp_spec_l3App (p0 : Str) (p1 : (List Tm)) (post : Tm → Prop) : Prop :=
  post (Tm.mk (2 : Int) (0 : Int) p0 p1)
theorem w_spec_l3App (p0 : Str) (p1 : (List Tm)) (post : Tm → Prop) (h : wp_spec_l3App p0 p1 post) : ∃ r, post r ∧ C_spec_l3App p0 p1 r := by
  unfold wp_spec_l3App at h
  refine evs_of (encR := fun r : Tm => .one (.agg [.fz (.int .i64 (Tm.kind r)), .fz (.int .i64 (Tm.n r)), .fz (.str (Tm.name r)), .ow 4 (Tm.encL (Tm.args r))])) (encO := fun r => []) 2 [(.cell 4 4 true, .ag [false, false, false, true])] [.fz, .ow] Try.func80 chk_spec_l3App rfl rfl [(1, .tip (0, 1, 0) (0) (Tm.encL p1)), (0, pS p0)] [] [((0, 1, 0), 0, .tip (Tm.encL p1).length 4)] rfl ?_
  refine aw_seq (s_reg ?_)
  refine s_run 1 [(4, .ptr 4 0)] [(4, [pI (0 : Int), pI (0 : Int), pS ([] : Str), .tip (1, 4, 3) (0) (Tm.encL ([] : List Tm))])] [((1, 4, 3), 0, .tip (Tm.encL ([] : List Tm)).length 4)] rfl ?_
  refine seq_n (aw_seq (s_reg ?_))
  refine s_run 4 [(7, .agg [pI (2 : Int), pI (0 : Int), pS p0, .tip (0, 1, 0) (0) (Tm.encL p1)]), (6, .tip (0, 1, 0) (0) (Tm.encL p1)), (5, pS p0)] [(4, [pI (2 : Int), pI (0 : Int), pS p0, .tip (0, 1, 0) (0) (Tm.encL p1)])] [] rfl ?_
  refine seq_n (aw_ret ?_)
  exact endp_ret _ h (endB_of (end_one rfl (arg_ag rfl (leaves_one (rfl) (leaves_one (rfl) (leaves_one (rfl) (leaves_one (leaf_own rfl rfl) (leaves_nil)))))) (end_nil)) (end_nil) (of_decide_eq_true rfl) rfl rfl)


def ac_spec_IsGround : AC :=
  .seq (.reg false [
    { dst := some 1, k := .bx (.t 0) 4 },
    { dst := some 2, k := .mv (.c (.bool false)) }])
  (.seq (.reg false [
    { dst := some 3, k := .ld (.t 1) 4 true },
    { dst := some 4, k := .bs 1 [] },
    { dst := some 5, k := .call 62 [(.t 3, .fz), (.t 4, .ow)] },
    { dst := some 6, k := .len (.t 5) },
    { dst := some 7, k := .bin .eql (.t 6) (.c (.int .i64 (0))) },
    { dst := some 2, k := .mv (.t 7) }])
  (.ret))
theorem chk_spec_IsGround : fnOK Try.prog 1 Try.f30 ac_spec_IsGround [(.tmp 2, .fz)] = true := by kernel_rfl
def wp_spec_IsGround (p0 : Tm) (post : Bool → Prop) : Prop :=
  (∃ r1 : (List Str), C_spec_l3Vars p0 ([] : List Str) r1 ∧ post (((List.length r1 : Nat) : Int) == (0 : Int)))
theorem w_spec_IsGround (p0 : Tm) (post : Bool → Prop) (h : wp_spec_IsGround p0 post) : ∃ r, post r ∧ C_spec_IsGround p0 r := by
  unfold wp_spec_IsGround at h
  refine evs_of (encR := fun r : Bool => .one (.l (.fz (.bool r)))) (encO := fun r => []) 1 [(.tmp 2, .fz)] [.fz] Try.func30 chk_spec_IsGround rfl rfl [(0, .p (.agg (Tm.cells p0)))] [] [] rfl ?_
  refine aw_seq (s_reg ?_)
  refine s_run 2 [(2, pB false), (1, .ptr 1 0)] [(1, [pI (Tm.kind p0), pI (Tm.n p0), pS (Tm.name p0), pL (Tm.encL (Tm.args p0))])] [] rfl ?_
  refine seq_n (aw_seq (s_reg ?_))
  refine s_run 1 [(3, .agg [pI (Tm.kind p0), pI (Tm.n p0), pS (Tm.name p0), pL (Tm.encL (Tm.args p0))])] [] [] rfl ?_
  refine s_bs rfl rfl (enc_nil (e := e_str)) ?_
  obtain ⟨r1, k2, h⟩ := h
  refine s_call (.tip (0, 5, 0) (0) (e_str r1)) [] [((0, 4, 0), 1, .spent), ((0, 5, 0), 0, .tip (e_str r1).length 1)] (args_one rfl (args_one (arg_own rfl rfl) (args_nil))) k2 rfl ?_
  refine s_len rfl (enc_len (e := e_str) _) ?_
  refine s_run 2 [(2, pB (((List.length r1 : Nat) : Int) == (0 : Int))), (7, pB (((List.length r1 : Nat) : Int) == (0 : Int)))] [] [] rfl ?_
  refine seq_n (aw_ret ?_)
  exact endp_ret _ h rfl


def ac_slices_Contains_string : AC :=
  .seq (.reg false [
    { dst := some 4, k := .mv (.c (.bool false)) }])
  (.seq (.reg false [
    { dst := some 5, k := .mv (.t 0) },
    { dst := some 6, k := .mv (.t 1) },
    { dst := some 7, k := .call 84 [(.t 5, .fz), (.t 6, .fz)] },
    { dst := some 8, k := .bin .geq (.t 7) (.c (.int .i64 (0))) },
    { dst := some 4, k := .mv (.t 8) }])
  (.ret))
theorem chk_slices_Contains_string : fnOK Try.prog 2 Try.f77 ac_slices_Contains_string [(.tmp 4, .fz)] = true := by kernel_rfl
def wp_slices_Contains_string (p0 : (List Str)) (p1 : Str) (post : Bool → Prop) : Prop :=
  (∃ r1 : Int, C_slices_Index_string p0 p1 r1 ∧ post (decide (r1 ≥ (0 : Int))))
theorem w_slices_Contains_string (p0 : (List Str)) (p1 : Str) (post : Bool → Prop) (h : wp_slices_Contains_string p0 p1 post) : ∃ r, post r ∧ C_slices_Contains_string p0 p1 r := by
  unfold wp_slices_Contains_string at h
  refine evs_of (encR := fun r : Bool => .one (.l (.fz (.bool r)))) (encO := fun r => []) 2 [(.tmp 4, .fz)] [.fz, .fz] Try.func77 chk_slices_Contains_string rfl rfl [(1, pS p1), (0, pL (e_str p0))] [] [] rfl ?_
  refine aw_seq (s_reg ?_)
  refine s_run 1 [(4, pB false)] [] [] rfl ?_
  refine seq_n (aw_seq (s_reg ?_))
  refine s_run 2 [(6, pS p1), (5, pL (e_str p0))] [] [] rfl ?_
  obtain ⟨r1, k2, h⟩ := h
  refine s_call (pI r1) [] [] rfl k2 rfl ?_
  refine s_run 2 [(4, pB (decide (r1 ≥ (0 : Int)))), (8, pB (decide (r1 ≥ (0 : Int))))] [] [] rfl ?_
  refine seq_n (aw_ret ?_)
  exact endp_ret _ h rfl


end Go.Proofs.Ytfhgjhchjekbgaa
