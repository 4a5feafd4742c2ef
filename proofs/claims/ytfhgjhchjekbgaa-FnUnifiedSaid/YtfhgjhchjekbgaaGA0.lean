/-
  What bodies come to, told over typed data, printed by wp.py.
-/
import Derived.Test.YtfhgjhchjekbgaaGC
import Derived.KernelRfl
set_option linter.unusedVariables false
set_option linter.unusedSimpArgs false
set_option maxHeartbeats 4000000
namespace Go.Proofs.Ytfhgjhchjekbgaa
open Go

def ac_impl_treat : AC :=
  .seq (.reg false [
    { dst := some 2, k := .bx (.t 0) 8 },
    { dst := some 4, k := .mv (.c (.slice [])) },
    { dst := some 5, k := .asg (.nl 8) },
    { dst := some 6, k := .mv (.c (.bool false)) }])
  (.wk (.seq (.reg true [
    { dst := some 11, k := .mv (.t 1) },
    { dst := some 12, k := .fa (.t 2) 0 },
    { dst := some 13, k := .ld (.t 12) 4 true, vb := .only [2] },
    { dst := some 14, k := .call 14 [(.t 11, .fz), (.t 13, .fz)], vb := .but [2, 7, 8], vl := .but [2, 7, 8] },
    { dst := some 15, k := .mv (.t 1) },
    { dst := some 16, k := .fa (.t 2) 4 },
    { dst := some 17, k := .ld (.t 16) 4 true, vb := .only [2] },
    { dst := some 18, k := .call 14 [(.t 15, .fz), (.t 17, .fz)], vb := .but [7, 8], vl := .but [7, 8] },
    { dst := some 7, k := .al [.p (.int .i64 0), .p (.int .i64 0), .p (.str []), .p (.slice [])] },
    { dst := some 8, k := .al [.p (.int .i64 0), .p (.int .i64 0), .p (.str []), .p (.slice [])] },
    { dst := none, k := .st (.t 7) (.t 14) 4 7, vb := .only [7] },
    { dst := none, k := .st (.t 8) (.t 18) 4 8, vb := .only [8] }])
  (.wk (.seq (.seq (.reg false [
    { dst := some 19, k := .ld (.t 7) 4 true },
    { dst := some 20, k := .ld (.t 8) 4 true },
    { dst := some 21, k := .call 55 [(.t 19, .fz), (.t 20, .fz)] }])
  (.wk (.cond (.t 21) (.seq (.reg false [
      { dst := some 22, k := .mv (.t 1) },
      { dst := some 4, k := .mv (.t 22) },
      { dst := some 5, k := .asg (.nl 8) },
      { dst := some 6, k := .mv (.c (.bool true)) }])
    (.ret))
  (.skip))))
  (.wk (.seq (.seq (.reg false [
    { dst := some 23, k := .fa (.t 7) 0 },
    { dst := some 24, k := .ld (.t 23) 1 false },
    { dst := some 25, k := .bin .neq (.t 24) (.c (.int .i64 (1))) },
    { dst := some 26, k := .mv (.t 25) },
    { dst := some 27, k := .fa (.t 8) 0, g := some (26, true) },
    { dst := some 28, k := .ld (.t 27) 1 false, g := some (26, true) },
    { dst := some 29, k := .bin .eql (.t 28) (.c (.int .i64 (1))), g := some (26, true) },
    { dst := some 30, k := .pick (.t 26) (.t 29) (.c (.bool false)) }])
  (.wk (.cond (.t 30) (.reg false [
      { dst := some 31, k := .ld (.t 8) 4 true },
      { dst := some 32, k := .ld (.t 7) 4 true },
      { dst := none, k := .st (.t 7) (.t 31) 4 7 },
      { dst := none, k := .st (.t 8) (.t 32) 4 8 }])
  (.skip))))
  (.wk (.seq (.seq (.reg false [
    { dst := some 33, k := .fa (.t 7) 0 },
    { dst := some 34, k := .ld (.t 33) 1 false },
    { dst := some 35, k := .bin .eql (.t 34) (.c (.int .i64 (1))) }])
  (.cond (.t 35) (.seq (.seq (.reg true [
      { dst := some 36, k := .ld (.t 8) 4 true, vb := .only [8] },
      { dst := some 37, k := .call 64 [(.t 36, .fz)], vb := .but [7], vl := .but [7] },
      { dst := some 38, k := .fa (.t 7) 2 },
      { dst := some 39, k := .ld (.t 38) 1 false, vb := .only [7] },
      { dst := some 40, k := .call 77 [(.t 37, .fz), (.t 39, .fz)] }])
    (.wk (.cond (.t 40) (.seq (.reg false [
        { dst := some 4, k := .mv (.c (.slice [])) },
        { dst := some 5, k := .asg (.nl 8) },
        { dst := some 6, k := .mv (.c (.bool false)) }])
      (.ret))
    (.skip))))
    (.wk (.seq (.reg false [
      { dst := some 41, k := .mv (.t 1) },
      { dst := some 42, k := .fa (.t 7) 2 },
      { dst := some 43, k := .ld (.t 42) 1 false },
      { dst := some 44, k := .ld (.t 8) 4 true },
      { dst := some 45, k := .bd [.p (.str []), .p (.int .i64 0), .p (.int .i64 0), .p (.str []), .p (.slice [])] [(0, 1, .t 43), (1, 4, .t 44)] },
      { dst := some 46, k := .bs 5 [.t 45] },
      { dst := some 47, k := .call 19 [(.t 41, .fz), (.t 46, .fz)] },
      { dst := some 4, k := .mv (.t 47) },
      { dst := some 5, k := .asg (.nl 8) },
      { dst := some 6, k := .mv (.c (.bool true)) }])
    (.ret))))
  (.skip)))
  (.wk (.seq (.seq (.reg false [
    { dst := some 48, k := .fa (.t 7) 0 },
    { dst := some 49, k := .ld (.t 48) 1 false },
    { dst := some 50, k := .bin .neq (.t 49) (.c (.int .i64 (2))) },
    { dst := some 51, k := .mv (.t 50) },
    { dst := some 52, k := .fa (.t 8) 0, g := some (51, false) },
    { dst := some 53, k := .ld (.t 52) 1 false, g := some (51, false) },
    { dst := some 54, k := .bin .neq (.t 53) (.c (.int .i64 (2))), g := some (51, false) },
    { dst := some 55, k := .pick (.t 51) (.c (.bool true)) (.t 54) },
    { dst := some 56, k := .mv (.t 55) },
    { dst := some 57, k := .fa (.t 7) 2, g := some (56, false) },
    { dst := some 58, k := .ld (.t 57) 1 false, g := some (56, false) },
    { dst := some 59, k := .fa (.t 8) 2, g := some (56, false) },
    { dst := some 60, k := .ld (.t 59) 1 false, g := some (56, false) },
    { dst := some 61, k := .bin .neq (.t 58) (.t 60), g := some (56, false) },
    { dst := some 62, k := .pick (.t 56) (.c (.bool true)) (.t 61) },
    { dst := some 63, k := .mv (.t 62) },
    { dst := some 64, k := .fa (.t 7) 3, g := some (63, false) },
    { dst := some 65, k := .ld (.t 64) 1 false, g := some (63, false) },
    { dst := some 66, k := .len (.t 65), g := some (63, false) },
    { dst := some 67, k := .fa (.t 8) 3, g := some (63, false) },
    { dst := some 68, k := .ld (.t 67) 1 false, g := some (63, false) },
    { dst := some 69, k := .len (.t 68), g := some (63, false) },
    { dst := some 70, k := .bin .neq (.t 66) (.t 69), g := some (63, false) },
    { dst := some 71, k := .pick (.t 63) (.c (.bool true)) (.t 70) }])
  (.wk (.cond (.t 71) (.seq (.reg false [
      { dst := some 4, k := .mv (.c (.slice [])) },
      { dst := some 5, k := .asg (.nl 8) },
      { dst := some 6, k := .mv (.c (.bool false)) }])
    (.ret))
  (.skip))))
  (.wk (.seq (.reg false [
    { dst := some 9, k := .asg (.nl 8) }])
  (.seq (.seq (.reg false [
    { dst := some 72, k := .fa (.t 7) 3 },
    { dst := some 73, k := .ld (.t 72) 1 false },
    { dst := some 74, k := .len (.t 73) },
    { dst := some 75, k := .mv (.c (.int .i64 (0))) }])
  (.wk (.block 0 (.loop (.seq (.reg false [
        { dst := some 76, k := .bin .lss (.t 75) (.t 74) }])
      (.seq (.cond (.t 76) (.skip)
      (.exit 0))
      (.seq (.block 1 (.seq (.reg false [
          { dst := some 77, k := .mv (.t 75) },
          { dst := some 10, k := .mv (.t 77) }])
        (.reg true [
          { dst := some 78, k := .mv (.t 9) },
          { dst := some 79, k := .fa (.t 7) 3 },
          { dst := some 80, k := .ld (.t 79) 1 false, vb := .only [7] },
          { dst := some 81, k := .mv (.t 10) },
          { dst := some 82, k := .ia (.t 80) (.t 81) 4 },
          { dst := some 83, k := .ld (.t 82) 4 true, vb := .only [] },
          { dst := some 84, k := .fa (.t 8) 3 },
          { dst := some 85, k := .ld (.t 84) 1 false, vb := .only [8] },
          { dst := some 86, k := .mv (.t 10) },
          { dst := some 87, k := .ia (.t 85) (.t 86) 4 },
          { dst := some 88, k := .ld (.t 87) 4 true, vb := .only [] },
          { dst := some 89, k := .bd [.p (.int .i64 0), .p (.int .i64 0), .p (.str []), .p (.slice []), .p (.int .i64 0), .p (.int .i64 0), .p (.str []), .p (.slice [])] [(0, 4, .t 83), (4, 4, .t 88)] },
          { dst := some 90, k := .bs 8 [.t 89] },
          { dst := some 91, k := .app (.t 78) (.t 90) 8 112 },
          { dst := some 9, k := .mv (.t 91) }])))
      (.reg false [
        { dst := some 92, k := .bin .add (.t 75) (.c (.int .i64 (1))) },
        { dst := some 75, k := .mv (.t 92) }]))))))))
  (.wk (.seq (.reg false [
    { dst := some 93, k := .mv (.t 1) },
    { dst := some 94, k := .mv (.t 9) },
    { dst := some 4, k := .mv (.t 93) },
    { dst := some 5, k := .mv (.t 94) },
    { dst := some 6, k := .mv (.c (.bool true)) }])
  (.ret))))))))))))))))
theorem chk_impl_treat : fnOK Try.prog 2 Try.f58 ac_impl_treat [(.tmp 4, .fz), (.tmp 5, .ow), (.tmp 6, .fz)] = true := by kernel_rfl
def wp_impl_treat (p0 : T_impl_equation) (p1 : (List Bd)) (post : ((List Bd) × (List T_impl_equation) × Bool) → Prop) : Prop :=
  (∃ r1 : Tm, C_impl_ApplySubst p1 (T_impl_equation.x p0) r1 ∧ (∃ r3 : Tm, C_impl_ApplySubst p1 (T_impl_equation.y p0) r3 ∧ (∃ r5 : Bool, C_impl_EqualTerm r1 r3 r5 ∧ ((r5 = true → post (p1, ([] : List T_impl_equation), true)) ∧ (r5 = false → JOIN (fun (N11 : (Tm × Tm) → Prop) => ((((Tm.kind r1) != (1 : Int)) = true → ((((Tm.kind r3) == (1 : Int)) = true → N11 (r3, r1)) ∧ (((Tm.kind r3) == (1 : Int)) = false → N11 (r1, r3)))) ∧ (((Tm.kind r1) != (1 : Int)) = false → N11 (r1, r3)))) (fun (t10 : Tm × Tm) => ((((Tm.kind t10.1) == (1 : Int)) = true → (∃ r15 : (List Str), C_impl_namesIn t10.2 r15 ∧ (∃ r17 : Bool, C_slices_Contains_string r15 (Tm.name t10.1) r17 ∧ ((r17 = true → post (([] : List Bd), ([] : List T_impl_equation), false)) ∧ (r17 = false → (∃ r20 : (List Bd), C_impl_ComposeSubst p1 ([(Bd.mk (Tm.name t10.1) t10.2)] : List Bd) r20 ∧ post (r20, ([] : List T_impl_equation), true))))))) ∧ (((Tm.kind t10.1) == (1 : Int)) = false → ((((Tm.kind t10.1) != (2 : Int)) = true → post (([] : List Bd), ([] : List T_impl_equation), false)) ∧ (((Tm.kind t10.1) != (2 : Int)) = false → ((((Tm.kind t10.2) != (2 : Int)) = true → post (([] : List Bd), ([] : List T_impl_equation), false)) ∧ (((Tm.kind t10.2) != (2 : Int)) = false → (((!((Tm.name t10.1) == (Tm.name t10.2))) = true → post (([] : List Bd), ([] : List T_impl_equation), false)) ∧ ((!((Tm.name t10.1) == (Tm.name t10.2))) = false → (((((List.length (Tm.args t10.1) : Nat) : Int) != ((List.length (Tm.args t10.2) : Nat) : Int)) = true → post (([] : List Bd), ([] : List T_impl_equation), false)) ∧ ((((List.length (Tm.args t10.1) : Nat) : Int) != ((List.length (Tm.args t10.2) : Nat) : Int)) = false → LOOP (fun (N39 : (Int × (List T_impl_equation)) → Prop) (s26 : Int × (List T_impl_equation)) => (((decide (s26.1 < ((List.length (Tm.args t10.1) : Nat) : Int))) = true → (∃ u44, GETI (Tm.args t10.1) s26.1 u44 ∧ (∃ u46, GETI (Tm.args t10.2) s26.1 u46 ∧ ((List.length s26.2 + List.length ([(T_impl_equation.mk u44 u46)] : List T_impl_equation)) * 112 ≤ 140737488355328 ∧ N39 ((IntKind.i64.wrap (s26.1 + (1 : Int))), (s26.2 ++ ([(T_impl_equation.mk u44 u46)] : List T_impl_equation))))))) ∧ ((decide (s26.1 < ((List.length (Tm.args t10.1) : Nat) : Int))) = false → post (p1, s26.2, true)))) ((0 : Int), ([] : List T_impl_equation))))))))))))))))))
theorem w_impl_treat (p0 : T_impl_equation) (p1 : (List Bd)) (post : ((List Bd) × (List T_impl_equation) × Bool) → Prop) (h : wp_impl_treat p0 p1 post) : ∃ r, post r ∧ C_impl_treat p0 p1 r := by
  unfold wp_impl_treat at h
  refine evs_of (encR := fun r : (List Bd) × (List T_impl_equation) × Bool => .tup [.l (.fz (.slice (e_Bd r.1))), .l (.ow 8 (e_T_impl_equation r.2.1)), .l (.fz (.bool r.2.2))]) (encO := fun r => []) 2 [(.tmp 4, .fz), (.tmp 5, .ow), (.tmp 6, .fz)] [.fz, .fz] Try.func58 chk_impl_treat rfl rfl [(1, pL (e_Bd p1)), (0, .p (.agg (T_impl_equation.cells p0)))] [] [] rfl ?_
  refine aw_seq (s_reg ?_)
  refine s_run 4 [(6, pB false), (5, .tip (0, 5, 0) (0) (e_T_impl_equation ([] : List T_impl_equation))), (4, pL (e_Bd ([] : List Bd))), (2, .ptr 2 0)] [(2, [pI (Tm.kind (T_impl_equation.x p0)), pI (Tm.n (T_impl_equation.x p0)), pS (Tm.name (T_impl_equation.x p0)), pL (Tm.encL (Tm.args (T_impl_equation.x p0))), pI (Tm.kind (T_impl_equation.y p0)), pI (Tm.n (T_impl_equation.y p0)), pS (Tm.name (T_impl_equation.y p0)), pL (Tm.encL (Tm.args (T_impl_equation.y p0)))])] [((0, 5, 0), 0, .tip (e_T_impl_equation ([] : List T_impl_equation)).length 8)] rfl ?_
  refine seq_n (aw_wk (St [(1, pL (e_Bd p1)), (2, .ptr 2 0)] [(2, [pI (Tm.kind (T_impl_equation.x p0)), pI (Tm.n (T_impl_equation.x p0)), pS (Tm.name (T_impl_equation.x p0)), pL (Tm.encL (Tm.args (T_impl_equation.x p0))), pI (Tm.kind (T_impl_equation.y p0)), pI (Tm.n (T_impl_equation.y p0)), pS (Tm.name (T_impl_equation.y p0)), pL (Tm.encL (Tm.args (T_impl_equation.y p0)))])] []) (wk_St ⟨le_rfl _, le_rfl _, trivial⟩ ⟨box_rfl rfl, trivial⟩ trivial rfl ⟨rfl, rfl, trivial⟩ ⟨rfl, rfl, trivial⟩) ?_)
  refine aw_seq (s_reg ?_)
  refine s_run 3 [(13, .agg [pI (Tm.kind (T_impl_equation.x p0)), pI (Tm.n (T_impl_equation.x p0)), pS (Tm.name (T_impl_equation.x p0)), pL (Tm.encL (Tm.args (T_impl_equation.x p0)))]), (12, .ptr 2 0), (11, pL (e_Bd p1))] [] [] rfl ?_
  obtain ⟨r1, k2, h⟩ := h
  refine s_call (.p (.agg (Tm.cells r1))) [] [] rfl k2 rfl ?_
  refine s_run 3 [(17, .agg [pI (Tm.kind (T_impl_equation.y p0)), pI (Tm.n (T_impl_equation.y p0)), pS (Tm.name (T_impl_equation.y p0)), pL (Tm.encL (Tm.args (T_impl_equation.y p0)))]), (16, .ptr 2 4), (15, pL (e_Bd p1))] [] [] rfl ?_
  obtain ⟨r3, k4, h⟩ := h
  refine s_call (.p (.agg (Tm.cells r3))) [] [] rfl k4 rfl ?_
  refine s_run 4 [(8, .ptr 8 0), (7, .ptr 7 0)] [(8, [pI (Tm.kind r3), pI (Tm.n r3), pS (Tm.name r3), pL (Tm.encL (Tm.args r3))]), (7, [pI (Tm.kind r1), pI (Tm.n r1), pS (Tm.name r1), pL (Tm.encL (Tm.args r1))]), (8, [pI (0 : Int), pI (0 : Int), pS ([] : Str), pL (Tm.encL ([] : List Tm))]), (7, [pI (0 : Int), pI (0 : Int), pS ([] : Str), pL (Tm.encL ([] : List Tm))])] [] rfl ?_
  refine seq_n (aw_wk (St [(1, pL (e_Bd p1)), (7, .ptr 7 0), (8, .ptr 8 0)] [(7, [pI (Tm.kind r1), pI (Tm.n r1), pS (Tm.name r1), pL (Tm.encL (Tm.args r1))]), (8, [pI (Tm.kind r3), pI (Tm.n r3), pS (Tm.name r3), pL (Tm.encL (Tm.args r3))])] []) (wk_St ⟨le_rfl _, le_rfl _, le_rfl _, trivial⟩ ⟨box_rfl rfl, box_rfl rfl, trivial⟩ trivial rfl ⟨rfl, rfl, trivial⟩ ⟨rfl, rfl, trivial⟩) ?_)
  refine aw_seq (aw_seq (s_reg ?_))
  refine s_run 2 [(20, .agg [pI (Tm.kind r3), pI (Tm.n r3), pS (Tm.name r3), pL (Tm.encL (Tm.args r3))]), (19, .agg [pI (Tm.kind r1), pI (Tm.n r1), pS (Tm.name r1), pL (Tm.encL (Tm.args r1))])] [] [] rfl ?_
  obtain ⟨r5, k6, h⟩ := h
  refine s_call (pB r5) [] [] rfl k6 rfl ?_
  refine seq_n (aw_wk (St [(1, pL (e_Bd p1)), (7, .ptr 7 0), (8, .ptr 8 0), (21, pB r5)] [(7, [pI (Tm.kind r1), pI (Tm.n r1), pS (Tm.name r1), pL (Tm.encL (Tm.args r1))]), (8, [pI (Tm.kind r3), pI (Tm.n r3), pS (Tm.name r3), pL (Tm.encL (Tm.args r3))])] []) (wk_St ⟨le_rfl _, le_rfl _, le_rfl _, le_rfl _, trivial⟩ ⟨box_rfl rfl, box_rfl rfl, trivial⟩ trivial rfl ⟨rfl, rfl, trivial⟩ ⟨rfl, rfl, trivial⟩) ?_)
  refine s_if rfl (fun c7 => ?_) (fun c7 => ?_)
  · have h := h.1 c7
    refine aw_seq (s_reg ?_)
    refine s_run 4 [(6, pB true), (5, .tip (0, 5, 0) (0) (e_T_impl_equation ([] : List T_impl_equation))), (4, pL (e_Bd p1)), (22, pL (e_Bd p1))] [] [((0, 5, 0), 0, .tip (e_T_impl_equation ([] : List T_impl_equation)).length 8)] rfl ?_
    refine seq_n (aw_ret ?_)
    exact endp_ret _ h (endB_of (end_one rfl (rfl) (end_one rfl (arg_own rfl rfl) (end_one rfl (rfl) (end_nil)))) (end_nil) (of_decide_eq_true rfl) rfl rfl)
  · have h := h.2 c7
    refine aw_skip (seq_n (aw_wk (St [(1, pL (e_Bd p1)), (7, .ptr 7 0), (8, .ptr 8 0)] [(7, [pI (Tm.kind r1), pI (Tm.n r1), pS (Tm.name r1), pL (Tm.encL (Tm.args r1))]), (8, [pI (Tm.kind r3), pI (Tm.n r3), pS (Tm.name r3), pL (Tm.encL (Tm.args r3))])] []) (wk_St ⟨le_rfl _, le_rfl _, le_rfl _, trivial⟩ ⟨box_rfl rfl, box_rfl rfl, trivial⟩ trivial rfl ⟨rfl, rfl, trivial⟩ ⟨rfl, rfl, trivial⟩) ?_))
    obtain ⟨J13, hJ13, h⟩ := h
    refine aw_join (ι := { y : Tm × Tm // J13 y }) (fun x12 => St [(1, pL (e_Bd p1)), (7, .ptr 7 0), (8, .ptr 8 0)] [(7, [pI (Tm.kind x12.1.1), pI (Tm.n x12.1.1), pS (Tm.name x12.1.1), pL (Tm.encL (Tm.args x12.1.1))]), (8, [pI (Tm.kind x12.1.2), pI (Tm.n x12.1.2), pS (Tm.name x12.1.2), pL (Tm.encL (Tm.args x12.1.2))])] []) ?_ ?_
    · rintro ⟨t10, ht10⟩
      replace h := hJ13 t10 ht10
      refine aw_seq (aw_seq (s_reg ?_))
      refine s_run 3 [(35, pB ((Tm.kind t10.1) == (1 : Int))), (34, pI (Tm.kind t10.1)), (33, .ptr 7 0)] [] [] rfl ?_
      refine seq_n (s_if rfl (fun c14 => ?_) (fun c14 => ?_))
      · have h := h.1 c14
        refine aw_seq (aw_seq (s_reg ?_))
        refine s_run 1 [(36, .agg [pI (Tm.kind t10.2), pI (Tm.n t10.2), pS (Tm.name t10.2), pL (Tm.encL (Tm.args t10.2))])] [] [] rfl ?_
        obtain ⟨r15, k16, h⟩ := h
        refine s_call (pL (e_str r15)) [] [] rfl k16 rfl ?_
        refine s_run 2 [(39, pS (Tm.name t10.1)), (38, .ptr 7 2)] [] [] rfl ?_
        obtain ⟨r17, k18, h⟩ := h
        refine s_call (pB r17) [] [] rfl k18 rfl ?_
        refine seq_n (aw_wk (St [(1, pL (e_Bd p1)), (7, .ptr 7 0), (8, .ptr 8 0), (40, pB r17)] [(7, [pI (Tm.kind t10.1), pI (Tm.n t10.1), pS (Tm.name t10.1), pL (Tm.encL (Tm.args t10.1))]), (8, [pI (Tm.kind t10.2), pI (Tm.n t10.2), pS (Tm.name t10.2), pL (Tm.encL (Tm.args t10.2))])] []) (wk_St ⟨le_rfl _, le_rfl _, le_rfl _, le_rfl _, trivial⟩ ⟨box_rfl rfl, box_rfl rfl, trivial⟩ trivial rfl ⟨rfl, rfl, trivial⟩ ⟨rfl, rfl, trivial⟩) ?_)
        refine s_if rfl (fun c19 => ?_) (fun c19 => ?_)
        · have h := h.1 c19
          refine aw_seq (s_reg ?_)
          refine s_run 3 [(6, pB false), (5, .tip (0, 5, 0) (0) (e_T_impl_equation ([] : List T_impl_equation))), (4, pL (e_Bd ([] : List Bd)))] [] [((0, 5, 0), 0, .tip (e_T_impl_equation ([] : List T_impl_equation)).length 8)] rfl ?_
          refine seq_n (aw_ret ?_)
          exact endp_ret _ h (endB_of (end_one rfl (rfl) (end_one rfl (arg_own rfl rfl) (end_one rfl (rfl) (end_nil)))) (end_nil) (of_decide_eq_true rfl) rfl rfl)
        · have h := h.2 c19
          refine aw_skip (seq_n (aw_wk (St [(1, pL (e_Bd p1)), (7, .ptr 7 0), (8, .ptr 8 0)] [(7, [pI (Tm.kind t10.1), pI (Tm.n t10.1), pS (Tm.name t10.1), pL (Tm.encL (Tm.args t10.1))]), (8, [pI (Tm.kind t10.2), pI (Tm.n t10.2), pS (Tm.name t10.2), pL (Tm.encL (Tm.args t10.2))])] []) (wk_St ⟨le_rfl _, le_rfl _, le_rfl _, trivial⟩ ⟨box_rfl rfl, box_rfl rfl, trivial⟩ trivial rfl ⟨rfl, rfl, trivial⟩ ⟨rfl, rfl, trivial⟩) ?_))
          refine aw_seq (s_reg ?_)
          refine s_run 5 [(45, .agg [pS (Tm.name t10.1), pI (Tm.kind t10.2), pI (Tm.n t10.2), pS (Tm.name t10.2), pL (Tm.encL (Tm.args t10.2))]), (44, .agg [pI (Tm.kind t10.2), pI (Tm.n t10.2), pS (Tm.name t10.2), pL (Tm.encL (Tm.args t10.2))]), (43, pS (Tm.name t10.1)), (42, .ptr 7 2), (41, pL (e_Bd p1))] [] [] rfl ?_
          refine s_bs rfl rfl (enc_cons (e := e_Bd) (Bd.mk (Tm.name t10.1) t10.2) (enc_nil (e := e_Bd))) ?_
          obtain ⟨r20, k21, h⟩ := h
          refine s_call (pL (e_Bd r20)) [] [] rfl k21 rfl ?_
          refine s_run 3 [(6, pB true), (5, .tip (0, 5, 0) (0) (e_T_impl_equation ([] : List T_impl_equation))), (4, pL (e_Bd r20))] [] [((0, 5, 0), 0, .tip (e_T_impl_equation ([] : List T_impl_equation)).length 8)] rfl ?_
          refine seq_n (aw_ret ?_)
          exact endp_ret _ h (endB_of (end_one rfl (rfl) (end_one rfl (arg_own rfl rfl) (end_one rfl (rfl) (end_nil)))) (end_nil) (of_decide_eq_true rfl) rfl rfl)
      · have h := h.2 c14
        refine aw_skip (seq_n (aw_wk (St [(1, pL (e_Bd p1)), (7, .ptr 7 0), (8, .ptr 8 0)] [(7, [pI (Tm.kind t10.1), pI (Tm.n t10.1), pS (Tm.name t10.1), pL (Tm.encL (Tm.args t10.1))]), (8, [pI (Tm.kind t10.2), pI (Tm.n t10.2), pS (Tm.name t10.2), pL (Tm.encL (Tm.args t10.2))])] []) (wk_St ⟨le_rfl _, le_rfl _, le_rfl _, trivial⟩ ⟨box_rfl rfl, box_rfl rfl, trivial⟩ trivial rfl ⟨rfl, rfl, trivial⟩ ⟨rfl, rfl, trivial⟩) ?_))
        refine aw_seq (aw_seq (s_reg ?_))
        refine s_run 4 [(51, pB ((Tm.kind t10.1) != (2 : Int))), (50, pB ((Tm.kind t10.1) != (2 : Int))), (49, pI (Tm.kind t10.1)), (48, .ptr 7 0)] [] [] rfl ?_
        refine s_op_if rfl rfl (fun c22 => ?_) (fun c22 => ?_)
        · have h := h.1 c22
          refine s_run 20 [(71, pB true), (70, .p (.tup [])), (69, .p (.tup [])), (68, .p (.tup [])), (67, .p (.tup [])), (66, .p (.tup [])), (65, .p (.tup [])), (64, .p (.tup [])), (63, pB true), (62, pB true), (61, .p (.tup [])), (60, .p (.tup [])), (59, .p (.tup [])), (58, .p (.tup [])), (57, .p (.tup [])), (56, pB true), (55, pB true), (54, .p (.tup [])), (53, .p (.tup [])), (52, .p (.tup []))] [] [] rfl ?_
          refine seq_n (aw_wk (St [(1, pL (e_Bd p1)), (7, .ptr 7 0), (8, .ptr 8 0), (71, pB true)] [(7, [pI (Tm.kind t10.1), pI (Tm.n t10.1), pS (Tm.name t10.1), pL (Tm.encL (Tm.args t10.1))]), (8, [pI (Tm.kind t10.2), pI (Tm.n t10.2), pS (Tm.name t10.2), pL (Tm.encL (Tm.args t10.2))])] []) (wk_St ⟨le_rfl _, le_rfl _, le_rfl _, le_rfl _, trivial⟩ ⟨box_rfl rfl, box_rfl rfl, trivial⟩ trivial rfl ⟨rfl, rfl, trivial⟩ ⟨rfl, rfl, trivial⟩) ?_)
          refine s_yes rfl (aw_seq (s_reg ?_))
          refine s_run 3 [(6, pB false), (5, .tip (0, 5, 0) (0) (e_T_impl_equation ([] : List T_impl_equation))), (4, pL (e_Bd ([] : List Bd)))] [] [((0, 5, 0), 0, .tip (e_T_impl_equation ([] : List T_impl_equation)).length 8)] rfl ?_
          refine seq_n (aw_ret ?_)
          exact endp_ret _ h (endB_of (end_one rfl (rfl) (end_one rfl (arg_own rfl rfl) (end_one rfl (rfl) (end_nil)))) (end_nil) (of_decide_eq_true rfl) rfl rfl)
        · have h := h.2 c22
          refine s_run 5 [(56, pB ((Tm.kind t10.2) != (2 : Int))), (55, pB ((Tm.kind t10.2) != (2 : Int))), (54, pB ((Tm.kind t10.2) != (2 : Int))), (53, pI (Tm.kind t10.2)), (52, .ptr 8 0)] [] [] rfl ?_
          refine s_op_if rfl rfl (fun c23 => ?_) (fun c23 => ?_)
          · have h := h.1 c23
            refine s_run 15 [(71, pB true), (70, .p (.tup [])), (69, .p (.tup [])), (68, .p (.tup [])), (67, .p (.tup [])), (66, .p (.tup [])), (65, .p (.tup [])), (64, .p (.tup [])), (63, pB true), (62, pB true), (61, .p (.tup [])), (60, .p (.tup [])), (59, .p (.tup [])), (58, .p (.tup [])), (57, .p (.tup []))] [] [] rfl ?_
            refine seq_n (aw_wk (St [(1, pL (e_Bd p1)), (7, .ptr 7 0), (8, .ptr 8 0), (71, pB true)] [(7, [pI (Tm.kind t10.1), pI (Tm.n t10.1), pS (Tm.name t10.1), pL (Tm.encL (Tm.args t10.1))]), (8, [pI (Tm.kind t10.2), pI (Tm.n t10.2), pS (Tm.name t10.2), pL (Tm.encL (Tm.args t10.2))])] []) (wk_St ⟨le_rfl _, le_rfl _, le_rfl _, le_rfl _, trivial⟩ ⟨box_rfl rfl, box_rfl rfl, trivial⟩ trivial rfl ⟨rfl, rfl, trivial⟩ ⟨rfl, rfl, trivial⟩) ?_)
            refine s_yes rfl (aw_seq (s_reg ?_))
            refine s_run 3 [(6, pB false), (5, .tip (0, 5, 0) (0) (e_T_impl_equation ([] : List T_impl_equation))), (4, pL (e_Bd ([] : List Bd)))] [] [((0, 5, 0), 0, .tip (e_T_impl_equation ([] : List T_impl_equation)).length 8)] rfl ?_
            refine seq_n (aw_ret ?_)
            exact endp_ret _ h (endB_of (end_one rfl (rfl) (end_one rfl (arg_own rfl rfl) (end_one rfl (rfl) (end_nil)))) (end_nil) (of_decide_eq_true rfl) rfl rfl)
          · have h := h.2 c23
            refine s_run 7 [(63, pB (!((Tm.name t10.1) == (Tm.name t10.2)))), (62, pB (!((Tm.name t10.1) == (Tm.name t10.2)))), (61, pB (!((Tm.name t10.1) == (Tm.name t10.2)))), (60, pS (Tm.name t10.2)), (59, .ptr 8 2), (58, pS (Tm.name t10.1)), (57, .ptr 7 2)] [] [] rfl ?_
            refine s_op_if rfl rfl (fun c24 => ?_) (fun c24 => ?_)
            · have h := h.1 c24
              refine s_run 8 [(71, pB true), (70, .p (.tup [])), (69, .p (.tup [])), (68, .p (.tup [])), (67, .p (.tup [])), (66, .p (.tup [])), (65, .p (.tup [])), (64, .p (.tup []))] [] [] rfl ?_
              refine seq_n (aw_wk (St [(1, pL (e_Bd p1)), (7, .ptr 7 0), (8, .ptr 8 0), (71, pB true)] [(7, [pI (Tm.kind t10.1), pI (Tm.n t10.1), pS (Tm.name t10.1), pL (Tm.encL (Tm.args t10.1))]), (8, [pI (Tm.kind t10.2), pI (Tm.n t10.2), pS (Tm.name t10.2), pL (Tm.encL (Tm.args t10.2))])] []) (wk_St ⟨le_rfl _, le_rfl _, le_rfl _, le_rfl _, trivial⟩ ⟨box_rfl rfl, box_rfl rfl, trivial⟩ trivial rfl ⟨rfl, rfl, trivial⟩ ⟨rfl, rfl, trivial⟩) ?_)
              refine s_yes rfl (aw_seq (s_reg ?_))
              refine s_run 3 [(6, pB false), (5, .tip (0, 5, 0) (0) (e_T_impl_equation ([] : List T_impl_equation))), (4, pL (e_Bd ([] : List Bd)))] [] [((0, 5, 0), 0, .tip (e_T_impl_equation ([] : List T_impl_equation)).length 8)] rfl ?_
              refine seq_n (aw_ret ?_)
              exact endp_ret _ h (endB_of (end_one rfl (rfl) (end_one rfl (arg_own rfl rfl) (end_one rfl (rfl) (end_nil)))) (end_nil) (of_decide_eq_true rfl) rfl rfl)
            · have h := h.2 c24
              refine s_run 2 [(65, pL (Tm.encL (Tm.args t10.1))), (64, .ptr 7 3)] [] [] rfl ?_
              refine s_on rfl ?_
              refine s_len rfl (enc_len (e := Tm.encL) _) ?_
              refine s_run 2 [(68, pL (Tm.encL (Tm.args t10.2))), (67, .ptr 8 3)] [] [] rfl ?_
              refine s_on rfl ?_
              refine s_len rfl (enc_len (e := Tm.encL) _) ?_
              refine s_run 2 [(71, pB (((List.length (Tm.args t10.1) : Nat) : Int) != ((List.length (Tm.args t10.2) : Nat) : Int))), (70, pB (((List.length (Tm.args t10.1) : Nat) : Int) != ((List.length (Tm.args t10.2) : Nat) : Int)))] [] [] rfl ?_
              refine seq_n (aw_wk (St [(1, pL (e_Bd p1)), (7, .ptr 7 0), (8, .ptr 8 0), (71, pB (((List.length (Tm.args t10.1) : Nat) : Int) != ((List.length (Tm.args t10.2) : Nat) : Int)))] [(7, [pI (Tm.kind t10.1), pI (Tm.n t10.1), pS (Tm.name t10.1), pL (Tm.encL (Tm.args t10.1))]), (8, [pI (Tm.kind t10.2), pI (Tm.n t10.2), pS (Tm.name t10.2), pL (Tm.encL (Tm.args t10.2))])] []) (wk_St ⟨le_rfl _, le_rfl _, le_rfl _, le_rfl _, trivial⟩ ⟨box_rfl rfl, box_rfl rfl, trivial⟩ trivial rfl ⟨rfl, rfl, trivial⟩ ⟨rfl, rfl, trivial⟩) ?_)
              refine s_if rfl (fun c25 => ?_) (fun c25 => ?_)
              · have h := h.1 c25
                refine aw_seq (s_reg ?_)
                refine s_run 3 [(6, pB false), (5, .tip (0, 5, 0) (0) (e_T_impl_equation ([] : List T_impl_equation))), (4, pL (e_Bd ([] : List Bd)))] [] [((0, 5, 0), 0, .tip (e_T_impl_equation ([] : List T_impl_equation)).length 8)] rfl ?_
                refine seq_n (aw_ret ?_)
                exact endp_ret _ h (endB_of (end_one rfl (rfl) (end_one rfl (arg_own rfl rfl) (end_one rfl (rfl) (end_nil)))) (end_nil) (of_decide_eq_true rfl) rfl rfl)
              · have h := h.2 c25
                refine aw_skip (seq_n (aw_wk (St [(1, pL (e_Bd p1)), (7, .ptr 7 0), (8, .ptr 8 0)] [(7, [pI (Tm.kind t10.1), pI (Tm.n t10.1), pS (Tm.name t10.1), pL (Tm.encL (Tm.args t10.1))]), (8, [pI (Tm.kind t10.2), pI (Tm.n t10.2), pS (Tm.name t10.2), pL (Tm.encL (Tm.args t10.2))])] []) (wk_St ⟨le_rfl _, le_rfl _, le_rfl _, trivial⟩ ⟨box_rfl rfl, box_rfl rfl, trivial⟩ trivial rfl ⟨rfl, rfl, trivial⟩ ⟨rfl, rfl, trivial⟩) ?_))
                refine aw_seq (s_reg ?_)
                refine s_run 1 [(9, .tip (0, 9, 0) (0) (e_T_impl_equation ([] : List T_impl_equation)))] [] [((0, 9, 0), 0, .tip (e_T_impl_equation ([] : List T_impl_equation)).length 8)] rfl ?_
                refine seq_n (aw_seq (aw_seq (s_reg ?_)))
                refine s_run 2 [(73, pL (Tm.encL (Tm.args t10.1))), (72, .ptr 7 3)] [] [] rfl ?_
                refine s_len rfl (enc_len (e := Tm.encL) _) ?_
                refine s_run 1 [(75, pI (0 : Int))] [] [] rfl ?_
                refine seq_n (aw_wk (St [(1, pL (e_Bd p1)), (7, .ptr 7 0), (8, .ptr 8 0), (9, .tip (0, 9, 0) (0) (e_T_impl_equation ([] : List T_impl_equation))), (74, pI ((List.length (Tm.args t10.1) : Nat) : Int)), (75, pI (0 : Int))] [(7, [pI (Tm.kind t10.1), pI (Tm.n t10.1), pS (Tm.name t10.1), pL (Tm.encL (Tm.args t10.1))]), (8, [pI (Tm.kind t10.2), pI (Tm.n t10.2), pS (Tm.name t10.2), pL (Tm.encL (Tm.args t10.2))])] [((0, 9, 0), 0, .tip (e_T_impl_equation ([] : List T_impl_equation)).length 8)]) (wk_St ⟨le_rfl _, le_rfl _, le_rfl _, le_rfl _, le_rfl _, le_rfl _, trivial⟩ ⟨box_rfl rfl, box_rfl rfl, trivial⟩ ⟨rfl, trivial⟩ rfl ⟨rfl, rfl, trivial⟩ ⟨rfl, rfl, trivial⟩) ?_)
                refine aw_blk ?_
                obtain ⟨I41, m42, h0, h⟩ := h
                refine aw_loop' (ι := { y : Int × (List T_impl_equation) // I41 y }) (fun x40 => St [(1, pL (e_Bd p1)), (7, .ptr 7 0), (8, .ptr 8 0), (9, .tip (0, 9, 0) (0) (e_T_impl_equation x40.1.2)), (74, pI ((List.length (Tm.args t10.1) : Nat) : Int)), (75, pI x40.1.1)] [(7, [pI (Tm.kind t10.1), pI (Tm.n t10.1), pS (Tm.name t10.1), pL (Tm.encL (Tm.args t10.1))]), (8, [pI (Tm.kind t10.2), pI (Tm.n t10.2), pS (Tm.name t10.2), pL (Tm.encL (Tm.args t10.2))])] [((0, 9, 0), 0, .tip (e_T_impl_equation x40.1.2).length 8)]) (fun x40 => m42 x40.1) ⟨_, h0⟩ ?_ ?_
                · exact wk_St ⟨le_rfl _, le_rfl _, le_rfl _, le_rfl _, le_rfl _, le_rfl _, trivial⟩ ⟨box_rfl rfl, box_rfl rfl, trivial⟩ ⟨rfl, trivial⟩ rfl ⟨rfl, rfl, trivial⟩ ⟨rfl, rfl, trivial⟩
                · rintro ⟨s26, hs26⟩
                  replace h := h s26 hs26
                  refine aw_seq (s_reg ?_)
                  refine s_run 1 [(76, pB (decide (s26.1 < ((List.length (Tm.args t10.1) : Nat) : Int))))] [] [] rfl ?_
                  refine seq_n (aw_seq (s_if rfl (fun c43 => ?_) (fun c43 => ?_)))
                  · have h := h.1 c43
                    refine aw_skip (seq_n (aw_seq (aw_blk (aw_seq (s_reg ?_)))))
                    refine s_run 2 [(10, pI s26.1), (77, pI s26.1)] [] [] rfl ?_
                    refine seq_n (s_reg ?_)
                    refine s_run 4 [(81, pI s26.1), (80, pL (Tm.encL (Tm.args t10.1))), (79, .ptr 7 3), (78, .tip (0, 9, 0) (0) (e_T_impl_equation s26.2))] [] [] rfl ?_
                    obtain ⟨u44, ⟨g45a, g45b⟩, h⟩ := h
                    refine s_ia rfl rfl g45a (enc_get (e := Tm.encL) g45b) rfl ?_
                    refine s_run 4 [(86, pI s26.1), (85, pL (Tm.encL (Tm.args t10.2))), (84, .ptr 8 3), (83, .p (.agg (Tm.cells u44)))] [] [] rfl ?_
                    obtain ⟨u46, ⟨g47a, g47b⟩, h⟩ := h
                    refine s_ia rfl rfl g47a (enc_get (e := Tm.encL) g47b) rfl ?_
                    refine s_run 2 [(89, .agg [pI (Tm.kind u44), pI (Tm.n u44), pS (Tm.name u44), pL (Tm.encL (Tm.args u44)), pI (Tm.kind u46), pI (Tm.n u46), pS (Tm.name u46), pL (Tm.encL (Tm.args u46))]), (88, .p (.agg (Tm.cells u46)))] [] [] rfl ?_
                    refine s_bs rfl rfl (enc_cons (e := e_T_impl_equation) (T_impl_equation.mk u44 u46) (enc_nil (e := e_T_impl_equation))) ?_
                    obtain ⟨g48, h⟩ := h
                    refine s_app rfl rfl rfl (enc_sz (e := e_T_impl_equation) _) (enc_len (e := e_T_impl_equation) _) (enc_len (e := e_T_impl_equation) _) g48 (enc_app (e := e_T_impl_equation) _ _) ?_
                    refine s_run 1 [(9, .tip (0, 9, 0) (0) (e_T_impl_equation (s26.2 ++ ([(T_impl_equation.mk u44 u46)] : List T_impl_equation))))] [] [] rfl ?_
                    refine blk_n (seq_n (s_reg ?_))
                    refine s_run 2 [(75, pI (IntKind.i64.wrap (s26.1 + (1 : Int)))), (92, pI (IntKind.i64.wrap (s26.1 + (1 : Int))))] [] [] rfl ?_
                    exact loop_n ⟨_, h.1⟩ h.2 (wk_St ⟨le_rfl _, le_rfl _, le_rfl _, le_rfl _, le_rfl _, le_rfl _, trivial⟩ ⟨box_rfl rfl, box_rfl rfl, trivial⟩ ⟨rfl, trivial⟩ rfl ⟨rfl, rfl, trivial⟩ ⟨rfl, rfl, trivial⟩)
                  · have h := h.2 c43
                    refine aw_exit (seq_x (loop_x (blk_x (seq_n (aw_wk (St [(1, pL (e_Bd p1)), (9, .tip (0, 9, 0) (0) (e_T_impl_equation s26.2))] [] [((0, 9, 0), 0, .tip (e_T_impl_equation s26.2).length 8)]) (wk_St ⟨le_rfl _, le_rfl _, trivial⟩ trivial ⟨rfl, trivial⟩ rfl ⟨rfl, rfl, trivial⟩ ⟨rfl, rfl, trivial⟩) ?_)))))
                    refine aw_seq (s_reg ?_)
                    refine s_run 5 [(6, pB true), (5, .tip (0, 9, 0) (0) (e_T_impl_equation s26.2)), (4, pL (e_Bd p1)), (94, .tip (0, 9, 0) (0) (e_T_impl_equation s26.2)), (93, pL (e_Bd p1))] [] [] rfl ?_
                    refine seq_n (aw_ret ?_)
                    exact endp_ret _ h (endB_of (end_one rfl (rfl) (end_one rfl (arg_own rfl rfl) (end_one rfl (rfl) (end_nil)))) (end_nil) (of_decide_eq_true rfl) rfl rfl)
    · refine aw_seq (s_reg ?_)
      refine s_run 4 [(26, pB ((Tm.kind r1) != (1 : Int))), (25, pB ((Tm.kind r1) != (1 : Int))), (24, pI (Tm.kind r1)), (23, .ptr 7 0)] [] [] rfl ?_
      refine s_op_if rfl rfl (fun c49 => ?_) (fun c49 => ?_)
      · have h := h.1 c49
        refine s_run 4 [(30, pB ((Tm.kind r3) == (1 : Int))), (29, pB ((Tm.kind r3) == (1 : Int))), (28, pI (Tm.kind r3)), (27, .ptr 8 0)] [] [] rfl ?_
        refine seq_n (aw_wk (St [(1, pL (e_Bd p1)), (7, .ptr 7 0), (8, .ptr 8 0), (30, pB ((Tm.kind r3) == (1 : Int)))] [(7, [pI (Tm.kind r1), pI (Tm.n r1), pS (Tm.name r1), pL (Tm.encL (Tm.args r1))]), (8, [pI (Tm.kind r3), pI (Tm.n r3), pS (Tm.name r3), pL (Tm.encL (Tm.args r3))])] []) (wk_St ⟨le_rfl _, le_rfl _, le_rfl _, le_rfl _, trivial⟩ ⟨box_rfl rfl, box_rfl rfl, trivial⟩ trivial rfl ⟨rfl, rfl, trivial⟩ ⟨rfl, rfl, trivial⟩) ?_)
        refine s_if rfl (fun c50 => ?_) (fun c50 => ?_)
        · have h := h.1 c50
          refine s_reg ?_
          refine s_run 4 [(32, .agg [pI (Tm.kind r1), pI (Tm.n r1), pS (Tm.name r1), pL (Tm.encL (Tm.args r1))]), (31, .agg [pI (Tm.kind r3), pI (Tm.n r3), pS (Tm.name r3), pL (Tm.encL (Tm.args r3))])] [(8, [pI (Tm.kind r1), pI (Tm.n r1), pS (Tm.name r1), pL (Tm.encL (Tm.args r1))]), (7, [pI (Tm.kind r3), pI (Tm.n r3), pS (Tm.name r3), pL (Tm.encL (Tm.args r3))])] [] rfl ?_
          exact join_n ⟨_, h⟩ (wk_St ⟨le_rfl _, le_rfl _, le_rfl _, trivial⟩ ⟨box_rfl rfl, box_rfl rfl, trivial⟩ trivial rfl ⟨rfl, rfl, trivial⟩ ⟨rfl, rfl, trivial⟩)
        · have h := h.2 c50
          refine aw_skip ?_
          exact join_n ⟨_, h⟩ (wk_St ⟨le_rfl _, le_rfl _, le_rfl _, trivial⟩ ⟨box_rfl rfl, box_rfl rfl, trivial⟩ trivial rfl ⟨rfl, rfl, trivial⟩ ⟨rfl, rfl, trivial⟩)
      · have h := h.2 c49
        refine s_run 4 [(30, pB false), (29, .p (.tup [])), (28, .p (.tup [])), (27, .p (.tup []))] [] [] rfl ?_
        refine seq_n (aw_wk (St [(1, pL (e_Bd p1)), (7, .ptr 7 0), (8, .ptr 8 0), (30, pB false)] [(7, [pI (Tm.kind r1), pI (Tm.n r1), pS (Tm.name r1), pL (Tm.encL (Tm.args r1))]), (8, [pI (Tm.kind r3), pI (Tm.n r3), pS (Tm.name r3), pL (Tm.encL (Tm.args r3))])] []) (wk_St ⟨le_rfl _, le_rfl _, le_rfl _, le_rfl _, trivial⟩ ⟨box_rfl rfl, box_rfl rfl, trivial⟩ trivial rfl ⟨rfl, rfl, trivial⟩ ⟨rfl, rfl, trivial⟩) ?_)
        refine s_no rfl (aw_skip ?_)
        exact join_n ⟨_, h⟩ (wk_St ⟨le_rfl _, le_rfl _, le_rfl _, trivial⟩ ⟨box_rfl rfl, box_rfl rfl, trivial⟩ trivial rfl ⟨rfl, rfl, trivial⟩ ⟨rfl, rfl, trivial⟩)


def ac_spec_l1Byte : AC :=
  .seq (.reg false [
    { dst := some 2, k := .mv (.c (.int .i64 (0))) }])
  (.seq (.reg false [
    { dst := some 4, k := .mv (.t 0) },
    { dst := some 5, k := .mv (.t 0) },
    { dst := some 6, k := .nc (.t 5) },
    { dst := some 7, k := .fa (.t 6) 2 },
    { dst := some 8, k := .ld (.t 7) 1 false },
    { dst := some 9, k := .bin .mul (.t 8) (.c (.int .i64 (6364136223846793005))) },
    { dst := some 10, k := .bin .add (.t 9) (.c (.int .i64 (1442695040888963407))) },
    { dst := some 11, k := .nc (.t 4) },
    { dst := some 12, k := .fa (.t 11) 2 },
    { dst := none, k := .st (.t 12) (.t 10) 1 0 }])
  (.wk (.seq (.reg true [
    { dst := some 13, k := .mv (.t 0) },
    { dst := some 14, k := .nc (.t 13) },
    { dst := some 15, k := .fa (.t 14) 2 },
    { dst := some 16, k := .ld (.t 15) 1 false, vb := .only [0] },
    { dst := some 17, k := .bin .shr (.t 16) (.c (.int .u64 (33))) },
    { dst := some 18, k := .mv (.t 0) },
    { dst := some 19, k := .nc (.t 18) },
    { dst := some 20, k := .fa (.t 19) 2 },
    { dst := some 21, k := .ld (.t 20) 1 false, vb := .only [0] },
    { dst := some 22, k := .bin .shr (.t 21) (.c (.int .u64 (45))) },
    { dst := some 23, k := .bin .xor (.t 17) (.t 22) },
    { dst := some 24, k := .bin .and (.t 23) (.c (.int .i64 (255))) },
    { dst := some 3, k := .mv (.t 24) }])
  (.wk (.seq (.seq (.reg true [
    { dst := some 25, k := .mv (.t 0) },
    { dst := some 26, k := .nc (.t 25) },
    { dst := some 27, k := .fa (.t 26) 1 },
    { dst := some 28, k := .ld (.t 27) 1 false, vb := .only [0] },
    { dst := some 29, k := .mv (.t 0) },
    { dst := some 30, k := .nc (.t 29) },
    { dst := some 31, k := .fa (.t 30) 0 },
    { dst := some 32, k := .ld (.t 31) 1 false, vb := .only [0] },
    { dst := some 33, k := .len (.t 32) },
    { dst := some 34, k := .bin .lss (.t 28) (.t 33) }])
  (.wk (.cond (.t 34) (.seq (.reg true [
      { dst := some 35, k := .mv (.t 3) },
      { dst := some 36, k := .mv (.t 0) },
      { dst := some 37, k := .nc (.t 36) },
      { dst := some 38, k := .fa (.t 37) 0 },
      { dst := some 39, k := .ld (.t 38) 1 false, vb := .only [0] },
      { dst := some 40, k := .mv (.t 0) },
      { dst := some 41, k := .nc (.t 40) },
      { dst := some 42, k := .fa (.t 41) 1 },
      { dst := some 43, k := .ld (.t 42) 1 false, vb := .only [0] },
      { dst := some 44, k := .ia (.t 39) (.t 43) 1 },
      { dst := some 45, k := .ld (.t 44) 1 false, vb := .only [] },
      { dst := some 46, k := .cvi .i64 (.t 45) },
      { dst := some 47, k := .bin .add (.t 35) (.t 46) },
      { dst := some 48, k := .bin .and (.t 47) (.c (.int .i64 (255))) },
      { dst := some 3, k := .mv (.t 48) }])
    (.wk (.reg false [
      { dst := some 49, k := .mv (.t 0) },
      { dst := some 50, k := .mv (.t 0) },
      { dst := some 51, k := .nc (.t 50) },
      { dst := some 52, k := .fa (.t 51) 1 },
      { dst := some 53, k := .ld (.t 52) 1 false },
      { dst := some 54, k := .bin .add (.t 53) (.c (.int .i64 (1))) },
      { dst := some 55, k := .nc (.t 49) },
      { dst := some 56, k := .fa (.t 55) 1 },
      { dst := none, k := .st (.t 56) (.t 54) 1 0 }])))
  (.skip))))
  (.seq (.reg false [
    { dst := some 57, k := .mv (.t 3) },
    { dst := some 2, k := .mv (.t 57) }])
  (.ret)))))))
theorem chk_spec_l1Byte : fnOK Try.prog 1 Try.f71 ac_spec_l1Byte [(.tmp 2, .fz)] = true := by kernel_rfl
def wp_spec_l1Byte (p0 : T_spec_l1Cur) (post : (Int × T_spec_l1Cur) → Prop) : Prop :=
  (((decide ((T_spec_l1Cur.i p0) < ((List.length (T_spec_l1Cur.b p0) : Nat) : Int))) = true → (∃ u2, GETI (T_spec_l1Cur.b p0) (T_spec_l1Cur.i p0) u2 ∧ post ((IntKind.i64.wrap (((BitVec.ofInt IntKind.i64.bits (IntKind.i64.wrap ((IntKind.i64.wrap (((BitVec.ofInt IntKind.i64.bits (IntKind.i64.wrap (((BitVec.ofInt IntKind.i64.bits (Int.fdiv (IntKind.i64.wrap ((IntKind.i64.wrap ((T_spec_l1Cur.h p0) * (6364136223846793005 : Int))) + (1442695040888963407 : Int))) ((2 : Int) ^ (min ((33 : Int)).toNat IntKind.i64.bits)))) ^^^ (BitVec.ofInt IntKind.i64.bits (Int.fdiv (IntKind.i64.wrap ((IntKind.i64.wrap ((T_spec_l1Cur.h p0) * (6364136223846793005 : Int))) + (1442695040888963407 : Int))) ((2 : Int) ^ (min ((45 : Int)).toNat IntKind.i64.bits))))).toNat : Int))) &&& (BitVec.ofInt IntKind.i64.bits (255 : Int))).toNat : Int)) + (IntKind.i64.wrap u2)))) &&& (BitVec.ofInt IntKind.i64.bits (255 : Int))).toNat : Int)), (T_spec_l1Cur.mk (T_spec_l1Cur.b p0) (IntKind.i64.wrap ((T_spec_l1Cur.i p0) + (1 : Int))) (IntKind.i64.wrap ((IntKind.i64.wrap ((T_spec_l1Cur.h p0) * (6364136223846793005 : Int))) + (1442695040888963407 : Int))))))) ∧ ((decide ((T_spec_l1Cur.i p0) < ((List.length (T_spec_l1Cur.b p0) : Nat) : Int))) = false → post ((IntKind.i64.wrap (((BitVec.ofInt IntKind.i64.bits (IntKind.i64.wrap (((BitVec.ofInt IntKind.i64.bits (Int.fdiv (IntKind.i64.wrap ((IntKind.i64.wrap ((T_spec_l1Cur.h p0) * (6364136223846793005 : Int))) + (1442695040888963407 : Int))) ((2 : Int) ^ (min ((33 : Int)).toNat IntKind.i64.bits)))) ^^^ (BitVec.ofInt IntKind.i64.bits (Int.fdiv (IntKind.i64.wrap ((IntKind.i64.wrap ((T_spec_l1Cur.h p0) * (6364136223846793005 : Int))) + (1442695040888963407 : Int))) ((2 : Int) ^ (min ((45 : Int)).toNat IntKind.i64.bits))))).toNat : Int))) &&& (BitVec.ofInt IntKind.i64.bits (255 : Int))).toNat : Int)), (T_spec_l1Cur.mk (T_spec_l1Cur.b p0) (T_spec_l1Cur.i p0) (IntKind.i64.wrap ((IntKind.i64.wrap ((T_spec_l1Cur.h p0) * (6364136223846793005 : Int))) + (1442695040888963407 : Int)))))))
theorem w_spec_l1Byte (p0 : T_spec_l1Cur) (post : (Int × T_spec_l1Cur) → Prop) (h : wp_spec_l1Byte p0 post) : ∃ r, post r ∧ C_spec_l1Byte p0 r := by
  unfold wp_spec_l1Byte at h
  refine evs_of (encR := fun r : Int × T_spec_l1Cur => .one (.l (.fz (.int .i64 r.1)))) (encO := fun r => [.ptr [.fz (.slice (e_u8 (T_spec_l1Cur.b r.2))), .fz (.int .i64 (T_spec_l1Cur.i r.2)), .fz (.int .i64 (T_spec_l1Cur.h r.2))]]) 1 [(.tmp 2, .fz)] [.io [false, false, false]] Try.func71 chk_spec_l1Byte rfl rfl [(0, .ptr 0 0)] [(0, [pL (e_u8 (T_spec_l1Cur.b p0)), pI (T_spec_l1Cur.i p0), pI (T_spec_l1Cur.h p0)])] [] rfl ?_
  refine aw_seq (s_reg ?_)
  refine s_run 1 [(2, pI (0 : Int))] [] [] rfl ?_
  refine seq_n (aw_seq (s_reg ?_))
  refine s_run 10 [(12, .ptr 0 2), (11, .ptr 0 0), (10, pI (IntKind.i64.wrap ((IntKind.i64.wrap ((T_spec_l1Cur.h p0) * (6364136223846793005 : Int))) + (1442695040888963407 : Int)))), (9, pI (IntKind.i64.wrap ((T_spec_l1Cur.h p0) * (6364136223846793005 : Int)))), (8, pI (T_spec_l1Cur.h p0)), (7, .ptr 0 2), (6, .ptr 0 0), (5, .ptr 0 0), (4, .ptr 0 0)] [(0, [pL (e_u8 (T_spec_l1Cur.b p0)), pI (T_spec_l1Cur.i p0), pI (IntKind.i64.wrap ((IntKind.i64.wrap ((T_spec_l1Cur.h p0) * (6364136223846793005 : Int))) + (1442695040888963407 : Int)))])] [] rfl ?_
  refine seq_n (aw_wk (St [(0, .ptr 0 0)] [(0, [pL (e_u8 (T_spec_l1Cur.b p0)), pI (T_spec_l1Cur.i p0), pI (IntKind.i64.wrap ((IntKind.i64.wrap ((T_spec_l1Cur.h p0) * (6364136223846793005 : Int))) + (1442695040888963407 : Int)))])] []) (wk_St ⟨le_rfl _, trivial⟩ ⟨box_rfl rfl, trivial⟩ trivial rfl ⟨rfl, trivial⟩ ⟨rfl, trivial⟩) ?_)
  refine aw_seq (s_reg ?_)
  refine s_run 13 [(3, pI (IntKind.i64.wrap (((BitVec.ofInt IntKind.i64.bits (IntKind.i64.wrap (((BitVec.ofInt IntKind.i64.bits (Int.fdiv (IntKind.i64.wrap ((IntKind.i64.wrap ((T_spec_l1Cur.h p0) * (6364136223846793005 : Int))) + (1442695040888963407 : Int))) ((2 : Int) ^ (min ((33 : Int)).toNat IntKind.i64.bits)))) ^^^ (BitVec.ofInt IntKind.i64.bits (Int.fdiv (IntKind.i64.wrap ((IntKind.i64.wrap ((T_spec_l1Cur.h p0) * (6364136223846793005 : Int))) + (1442695040888963407 : Int))) ((2 : Int) ^ (min ((45 : Int)).toNat IntKind.i64.bits))))).toNat : Int))) &&& (BitVec.ofInt IntKind.i64.bits (255 : Int))).toNat : Int))), (24, pI (IntKind.i64.wrap (((BitVec.ofInt IntKind.i64.bits (IntKind.i64.wrap (((BitVec.ofInt IntKind.i64.bits (Int.fdiv (IntKind.i64.wrap ((IntKind.i64.wrap ((T_spec_l1Cur.h p0) * (6364136223846793005 : Int))) + (1442695040888963407 : Int))) ((2 : Int) ^ (min ((33 : Int)).toNat IntKind.i64.bits)))) ^^^ (BitVec.ofInt IntKind.i64.bits (Int.fdiv (IntKind.i64.wrap ((IntKind.i64.wrap ((T_spec_l1Cur.h p0) * (6364136223846793005 : Int))) + (1442695040888963407 : Int))) ((2 : Int) ^ (min ((45 : Int)).toNat IntKind.i64.bits))))).toNat : Int))) &&& (BitVec.ofInt IntKind.i64.bits (255 : Int))).toNat : Int))), (23, pI (IntKind.i64.wrap (((BitVec.ofInt IntKind.i64.bits (Int.fdiv (IntKind.i64.wrap ((IntKind.i64.wrap ((T_spec_l1Cur.h p0) * (6364136223846793005 : Int))) + (1442695040888963407 : Int))) ((2 : Int) ^ (min ((33 : Int)).toNat IntKind.i64.bits)))) ^^^ (BitVec.ofInt IntKind.i64.bits (Int.fdiv (IntKind.i64.wrap ((IntKind.i64.wrap ((T_spec_l1Cur.h p0) * (6364136223846793005 : Int))) + (1442695040888963407 : Int))) ((2 : Int) ^ (min ((45 : Int)).toNat IntKind.i64.bits))))).toNat : Int))), (22, pI (Int.fdiv (IntKind.i64.wrap ((IntKind.i64.wrap ((T_spec_l1Cur.h p0) * (6364136223846793005 : Int))) + (1442695040888963407 : Int))) ((2 : Int) ^ (min ((45 : Int)).toNat IntKind.i64.bits)))), (21, pI (IntKind.i64.wrap ((IntKind.i64.wrap ((T_spec_l1Cur.h p0) * (6364136223846793005 : Int))) + (1442695040888963407 : Int)))), (20, .ptr 0 2), (19, .ptr 0 0), (18, .ptr 0 0), (17, pI (Int.fdiv (IntKind.i64.wrap ((IntKind.i64.wrap ((T_spec_l1Cur.h p0) * (6364136223846793005 : Int))) + (1442695040888963407 : Int))) ((2 : Int) ^ (min ((33 : Int)).toNat IntKind.i64.bits)))), (16, pI (IntKind.i64.wrap ((IntKind.i64.wrap ((T_spec_l1Cur.h p0) * (6364136223846793005 : Int))) + (1442695040888963407 : Int)))), (15, .ptr 0 2), (14, .ptr 0 0), (13, .ptr 0 0)] [] [] rfl ?_
  refine seq_n (aw_wk (St [(0, .ptr 0 0), (3, pI (IntKind.i64.wrap (((BitVec.ofInt IntKind.i64.bits (IntKind.i64.wrap (((BitVec.ofInt IntKind.i64.bits (Int.fdiv (IntKind.i64.wrap ((IntKind.i64.wrap ((T_spec_l1Cur.h p0) * (6364136223846793005 : Int))) + (1442695040888963407 : Int))) ((2 : Int) ^ (min ((33 : Int)).toNat IntKind.i64.bits)))) ^^^ (BitVec.ofInt IntKind.i64.bits (Int.fdiv (IntKind.i64.wrap ((IntKind.i64.wrap ((T_spec_l1Cur.h p0) * (6364136223846793005 : Int))) + (1442695040888963407 : Int))) ((2 : Int) ^ (min ((45 : Int)).toNat IntKind.i64.bits))))).toNat : Int))) &&& (BitVec.ofInt IntKind.i64.bits (255 : Int))).toNat : Int)))] [(0, [pL (e_u8 (T_spec_l1Cur.b p0)), pI (T_spec_l1Cur.i p0), pI (IntKind.i64.wrap ((IntKind.i64.wrap ((T_spec_l1Cur.h p0) * (6364136223846793005 : Int))) + (1442695040888963407 : Int)))])] []) (wk_St ⟨le_rfl _, le_rfl _, trivial⟩ ⟨box_rfl rfl, trivial⟩ trivial rfl ⟨rfl, trivial⟩ ⟨rfl, trivial⟩) ?_)
  refine aw_seq (aw_seq (s_reg ?_))
  refine s_run 8 [(32, pL (e_u8 (T_spec_l1Cur.b p0))), (31, .ptr 0 0), (30, .ptr 0 0), (29, .ptr 0 0), (28, pI (T_spec_l1Cur.i p0)), (27, .ptr 0 1), (26, .ptr 0 0), (25, .ptr 0 0)] [] [] rfl ?_
  refine s_len rfl (enc_len (e := e_u8) _) ?_
  refine s_run 1 [(34, pB (decide ((T_spec_l1Cur.i p0) < ((List.length (T_spec_l1Cur.b p0) : Nat) : Int))))] [] [] rfl ?_
  refine seq_n (aw_wk (St [(0, .ptr 0 0), (3, pI (IntKind.i64.wrap (((BitVec.ofInt IntKind.i64.bits (IntKind.i64.wrap (((BitVec.ofInt IntKind.i64.bits (Int.fdiv (IntKind.i64.wrap ((IntKind.i64.wrap ((T_spec_l1Cur.h p0) * (6364136223846793005 : Int))) + (1442695040888963407 : Int))) ((2 : Int) ^ (min ((33 : Int)).toNat IntKind.i64.bits)))) ^^^ (BitVec.ofInt IntKind.i64.bits (Int.fdiv (IntKind.i64.wrap ((IntKind.i64.wrap ((T_spec_l1Cur.h p0) * (6364136223846793005 : Int))) + (1442695040888963407 : Int))) ((2 : Int) ^ (min ((45 : Int)).toNat IntKind.i64.bits))))).toNat : Int))) &&& (BitVec.ofInt IntKind.i64.bits (255 : Int))).toNat : Int))), (34, pB (decide ((T_spec_l1Cur.i p0) < ((List.length (T_spec_l1Cur.b p0) : Nat) : Int))))] [(0, [pL (e_u8 (T_spec_l1Cur.b p0)), pI (T_spec_l1Cur.i p0), pI (IntKind.i64.wrap ((IntKind.i64.wrap ((T_spec_l1Cur.h p0) * (6364136223846793005 : Int))) + (1442695040888963407 : Int)))])] []) (wk_St ⟨le_rfl _, le_rfl _, le_rfl _, trivial⟩ ⟨box_rfl rfl, trivial⟩ trivial rfl ⟨rfl, trivial⟩ ⟨rfl, trivial⟩) ?_)
  refine s_if rfl (fun c1 => ?_) (fun c1 => ?_)
  · have h := h.1 c1
    refine aw_seq (s_reg ?_)
    refine s_run 9 [(43, pI (T_spec_l1Cur.i p0)), (42, .ptr 0 1), (41, .ptr 0 0), (40, .ptr 0 0), (39, pL (e_u8 (T_spec_l1Cur.b p0))), (38, .ptr 0 0), (37, .ptr 0 0), (36, .ptr 0 0), (35, pI (IntKind.i64.wrap (((BitVec.ofInt IntKind.i64.bits (IntKind.i64.wrap (((BitVec.ofInt IntKind.i64.bits (Int.fdiv (IntKind.i64.wrap ((IntKind.i64.wrap ((T_spec_l1Cur.h p0) * (6364136223846793005 : Int))) + (1442695040888963407 : Int))) ((2 : Int) ^ (min ((33 : Int)).toNat IntKind.i64.bits)))) ^^^ (BitVec.ofInt IntKind.i64.bits (Int.fdiv (IntKind.i64.wrap ((IntKind.i64.wrap ((T_spec_l1Cur.h p0) * (6364136223846793005 : Int))) + (1442695040888963407 : Int))) ((2 : Int) ^ (min ((45 : Int)).toNat IntKind.i64.bits))))).toNat : Int))) &&& (BitVec.ofInt IntKind.i64.bits (255 : Int))).toNat : Int)))] [] [] rfl ?_
    obtain ⟨u2, ⟨g3a, g3b⟩, h⟩ := h
    refine s_ia rfl rfl g3a (enc_get (e := e_u8) g3b) rfl ?_
    refine s_run 5 [(3, pI (IntKind.i64.wrap (((BitVec.ofInt IntKind.i64.bits (IntKind.i64.wrap ((IntKind.i64.wrap (((BitVec.ofInt IntKind.i64.bits (IntKind.i64.wrap (((BitVec.ofInt IntKind.i64.bits (Int.fdiv (IntKind.i64.wrap ((IntKind.i64.wrap ((T_spec_l1Cur.h p0) * (6364136223846793005 : Int))) + (1442695040888963407 : Int))) ((2 : Int) ^ (min ((33 : Int)).toNat IntKind.i64.bits)))) ^^^ (BitVec.ofInt IntKind.i64.bits (Int.fdiv (IntKind.i64.wrap ((IntKind.i64.wrap ((T_spec_l1Cur.h p0) * (6364136223846793005 : Int))) + (1442695040888963407 : Int))) ((2 : Int) ^ (min ((45 : Int)).toNat IntKind.i64.bits))))).toNat : Int))) &&& (BitVec.ofInt IntKind.i64.bits (255 : Int))).toNat : Int)) + (IntKind.i64.wrap u2)))) &&& (BitVec.ofInt IntKind.i64.bits (255 : Int))).toNat : Int))), (48, pI (IntKind.i64.wrap (((BitVec.ofInt IntKind.i64.bits (IntKind.i64.wrap ((IntKind.i64.wrap (((BitVec.ofInt IntKind.i64.bits (IntKind.i64.wrap (((BitVec.ofInt IntKind.i64.bits (Int.fdiv (IntKind.i64.wrap ((IntKind.i64.wrap ((T_spec_l1Cur.h p0) * (6364136223846793005 : Int))) + (1442695040888963407 : Int))) ((2 : Int) ^ (min ((33 : Int)).toNat IntKind.i64.bits)))) ^^^ (BitVec.ofInt IntKind.i64.bits (Int.fdiv (IntKind.i64.wrap ((IntKind.i64.wrap ((T_spec_l1Cur.h p0) * (6364136223846793005 : Int))) + (1442695040888963407 : Int))) ((2 : Int) ^ (min ((45 : Int)).toNat IntKind.i64.bits))))).toNat : Int))) &&& (BitVec.ofInt IntKind.i64.bits (255 : Int))).toNat : Int)) + (IntKind.i64.wrap u2)))) &&& (BitVec.ofInt IntKind.i64.bits (255 : Int))).toNat : Int))), (47, pI (IntKind.i64.wrap ((IntKind.i64.wrap (((BitVec.ofInt IntKind.i64.bits (IntKind.i64.wrap (((BitVec.ofInt IntKind.i64.bits (Int.fdiv (IntKind.i64.wrap ((IntKind.i64.wrap ((T_spec_l1Cur.h p0) * (6364136223846793005 : Int))) + (1442695040888963407 : Int))) ((2 : Int) ^ (min ((33 : Int)).toNat IntKind.i64.bits)))) ^^^ (BitVec.ofInt IntKind.i64.bits (Int.fdiv (IntKind.i64.wrap ((IntKind.i64.wrap ((T_spec_l1Cur.h p0) * (6364136223846793005 : Int))) + (1442695040888963407 : Int))) ((2 : Int) ^ (min ((45 : Int)).toNat IntKind.i64.bits))))).toNat : Int))) &&& (BitVec.ofInt IntKind.i64.bits (255 : Int))).toNat : Int)) + (IntKind.i64.wrap u2)))), (46, pI (IntKind.i64.wrap u2)), (45, .p (.int .u8 u2))] [] [] rfl ?_
    refine seq_n (aw_wk (St [(0, .ptr 0 0), (3, pI (IntKind.i64.wrap (((BitVec.ofInt IntKind.i64.bits (IntKind.i64.wrap ((IntKind.i64.wrap (((BitVec.ofInt IntKind.i64.bits (IntKind.i64.wrap (((BitVec.ofInt IntKind.i64.bits (Int.fdiv (IntKind.i64.wrap ((IntKind.i64.wrap ((T_spec_l1Cur.h p0) * (6364136223846793005 : Int))) + (1442695040888963407 : Int))) ((2 : Int) ^ (min ((33 : Int)).toNat IntKind.i64.bits)))) ^^^ (BitVec.ofInt IntKind.i64.bits (Int.fdiv (IntKind.i64.wrap ((IntKind.i64.wrap ((T_spec_l1Cur.h p0) * (6364136223846793005 : Int))) + (1442695040888963407 : Int))) ((2 : Int) ^ (min ((45 : Int)).toNat IntKind.i64.bits))))).toNat : Int))) &&& (BitVec.ofInt IntKind.i64.bits (255 : Int))).toNat : Int)) + (IntKind.i64.wrap u2)))) &&& (BitVec.ofInt IntKind.i64.bits (255 : Int))).toNat : Int)))] [(0, [pL (e_u8 (T_spec_l1Cur.b p0)), pI (T_spec_l1Cur.i p0), pI (IntKind.i64.wrap ((IntKind.i64.wrap ((T_spec_l1Cur.h p0) * (6364136223846793005 : Int))) + (1442695040888963407 : Int)))])] []) (wk_St ⟨le_rfl _, le_rfl _, trivial⟩ ⟨box_rfl rfl, trivial⟩ trivial rfl ⟨rfl, trivial⟩ ⟨rfl, trivial⟩) ?_)
    refine s_reg ?_
    refine s_run 9 [(56, .ptr 0 1), (55, .ptr 0 0), (54, pI (IntKind.i64.wrap ((T_spec_l1Cur.i p0) + (1 : Int)))), (53, pI (T_spec_l1Cur.i p0)), (52, .ptr 0 1), (51, .ptr 0 0), (50, .ptr 0 0), (49, .ptr 0 0)] [(0, [pL (e_u8 (T_spec_l1Cur.b p0)), pI (IntKind.i64.wrap ((T_spec_l1Cur.i p0) + (1 : Int))), pI (IntKind.i64.wrap ((IntKind.i64.wrap ((T_spec_l1Cur.h p0) * (6364136223846793005 : Int))) + (1442695040888963407 : Int)))])] [] rfl ?_
    refine seq_n (aw_seq (s_reg ?_))
    refine s_run 2 [(2, pI (IntKind.i64.wrap (((BitVec.ofInt IntKind.i64.bits (IntKind.i64.wrap ((IntKind.i64.wrap (((BitVec.ofInt IntKind.i64.bits (IntKind.i64.wrap (((BitVec.ofInt IntKind.i64.bits (Int.fdiv (IntKind.i64.wrap ((IntKind.i64.wrap ((T_spec_l1Cur.h p0) * (6364136223846793005 : Int))) + (1442695040888963407 : Int))) ((2 : Int) ^ (min ((33 : Int)).toNat IntKind.i64.bits)))) ^^^ (BitVec.ofInt IntKind.i64.bits (Int.fdiv (IntKind.i64.wrap ((IntKind.i64.wrap ((T_spec_l1Cur.h p0) * (6364136223846793005 : Int))) + (1442695040888963407 : Int))) ((2 : Int) ^ (min ((45 : Int)).toNat IntKind.i64.bits))))).toNat : Int))) &&& (BitVec.ofInt IntKind.i64.bits (255 : Int))).toNat : Int)) + (IntKind.i64.wrap u2)))) &&& (BitVec.ofInt IntKind.i64.bits (255 : Int))).toNat : Int))), (57, pI (IntKind.i64.wrap (((BitVec.ofInt IntKind.i64.bits (IntKind.i64.wrap ((IntKind.i64.wrap (((BitVec.ofInt IntKind.i64.bits (IntKind.i64.wrap (((BitVec.ofInt IntKind.i64.bits (Int.fdiv (IntKind.i64.wrap ((IntKind.i64.wrap ((T_spec_l1Cur.h p0) * (6364136223846793005 : Int))) + (1442695040888963407 : Int))) ((2 : Int) ^ (min ((33 : Int)).toNat IntKind.i64.bits)))) ^^^ (BitVec.ofInt IntKind.i64.bits (Int.fdiv (IntKind.i64.wrap ((IntKind.i64.wrap ((T_spec_l1Cur.h p0) * (6364136223846793005 : Int))) + (1442695040888963407 : Int))) ((2 : Int) ^ (min ((45 : Int)).toNat IntKind.i64.bits))))).toNat : Int))) &&& (BitVec.ofInt IntKind.i64.bits (255 : Int))).toNat : Int)) + (IntKind.i64.wrap u2)))) &&& (BitVec.ofInt IntKind.i64.bits (255 : Int))).toNat : Int)))] [] [] rfl ?_
    refine seq_n (aw_ret ?_)
    exact endp_ret _ h rfl
  · have h := h.2 c1
    refine aw_skip (seq_n (aw_seq (s_reg ?_)))
    refine s_run 2 [(2, pI (IntKind.i64.wrap (((BitVec.ofInt IntKind.i64.bits (IntKind.i64.wrap (((BitVec.ofInt IntKind.i64.bits (Int.fdiv (IntKind.i64.wrap ((IntKind.i64.wrap ((T_spec_l1Cur.h p0) * (6364136223846793005 : Int))) + (1442695040888963407 : Int))) ((2 : Int) ^ (min ((33 : Int)).toNat IntKind.i64.bits)))) ^^^ (BitVec.ofInt IntKind.i64.bits (Int.fdiv (IntKind.i64.wrap ((IntKind.i64.wrap ((T_spec_l1Cur.h p0) * (6364136223846793005 : Int))) + (1442695040888963407 : Int))) ((2 : Int) ^ (min ((45 : Int)).toNat IntKind.i64.bits))))).toNat : Int))) &&& (BitVec.ofInt IntKind.i64.bits (255 : Int))).toNat : Int))), (57, pI (IntKind.i64.wrap (((BitVec.ofInt IntKind.i64.bits (IntKind.i64.wrap (((BitVec.ofInt IntKind.i64.bits (Int.fdiv (IntKind.i64.wrap ((IntKind.i64.wrap ((T_spec_l1Cur.h p0) * (6364136223846793005 : Int))) + (1442695040888963407 : Int))) ((2 : Int) ^ (min ((33 : Int)).toNat IntKind.i64.bits)))) ^^^ (BitVec.ofInt IntKind.i64.bits (Int.fdiv (IntKind.i64.wrap ((IntKind.i64.wrap ((T_spec_l1Cur.h p0) * (6364136223846793005 : Int))) + (1442695040888963407 : Int))) ((2 : Int) ^ (min ((45 : Int)).toNat IntKind.i64.bits))))).toNat : Int))) &&& (BitVec.ofInt IntKind.i64.bits (255 : Int))).toNat : Int)))] [] [] rfl ?_
    refine seq_n (aw_ret ?_)
    exact endp_ret _ h rfl


def ac_spec_EqualProof : AC :=
  .seq (.reg false [
    { dst := some 2, k := .bx (.t 0) 1 },
    { dst := some 3, k := .bx (.t 1) 1 },
    { dst := some 4, k := .mv (.c (.bool false)) }])
  (.seq (.seq (.reg false [
    { dst := some 8, k := .fa (.t 2) 0 },
    { dst := some 9, k := .ld (.t 8) 1 false },
    { dst := some 10, k := .len (.t 9) },
    { dst := some 11, k := .fa (.t 3) 0 },
    { dst := some 12, k := .ld (.t 11) 1 false },
    { dst := some 13, k := .len (.t 12) },
    { dst := some 14, k := .bin .neq (.t 10) (.t 13) }])
  (.cond (.t 14) (.seq (.reg false [
      { dst := some 4, k := .mv (.c (.bool false)) }])
    (.ret))
  (.skip)))
  (.wk (.seq (.seq (.reg false [
    { dst := some 5, k := .mv (.c (.int .i64 (0))) }])
  (.block 0 (.loop (.seq (.seq (.reg false [
        { dst := some 15, k := .mv (.t 5) },
        { dst := some 16, k := .fa (.t 2) 0 },
        { dst := some 17, k := .ld (.t 16) 1 false },
        { dst := some 18, k := .len (.t 17) },
        { dst := some 19, k := .bin .lss (.t 15) (.t 18) }])
      (.cond (.t 19) (.skip)
      (.exit 0)))
      (.wk (.seq (.block 1 (.seq (.reg false [
          { dst := some 22, k := .fa (.t 2) 0 },
          { dst := some 23, k := .ld (.t 22) 1 false },
          { dst := some 24, k := .mv (.t 5) },
          { dst := some 25, k := .ia (.t 23) (.t 24) 4 },
          { dst := some 26, k := .ld (.t 25) 4 true },
          { dst := some 6, k := .al [.p (.int .i64 0), .p (.slice []), .p (.int .i64 0), .p (.slice [])] },
          { dst := none, k := .st (.t 6) (.t 26) 4 6 }])
        (.wk (.seq (.reg false [
          { dst := some 27, k := .fa (.t 3) 0 },
          { dst := some 28, k := .ld (.t 27) 1 false },
          { dst := some 29, k := .mv (.t 5) },
          { dst := some 30, k := .ia (.t 28) (.t 29) 4 },
          { dst := some 31, k := .ld (.t 30) 4 true },
          { dst := some 7, k := .al [.p (.int .i64 0), .p (.slice []), .p (.int .i64 0), .p (.slice [])] },
          { dst := none, k := .st (.t 7) (.t 31) 4 7 }])
        (.wk (.seq (.reg false [
          { dst := some 32, k := .fa (.t 6) 0 },
          { dst := some 33, k := .ld (.t 32) 1 false },
          { dst := some 34, k := .fa (.t 7) 0 },
          { dst := some 35, k := .ld (.t 34) 1 false },
          { dst := some 36, k := .bin .neq (.t 33) (.t 35) },
          { dst := some 37, k := .mv (.t 36) },
          { dst := some 38, k := .fa (.t 6) 2, g := some (37, false) },
          { dst := some 39, k := .ld (.t 38) 1 false, g := some (37, false) },
          { dst := some 40, k := .fa (.t 7) 2, g := some (37, false) },
          { dst := some 41, k := .ld (.t 40) 1 false, g := some (37, false) },
          { dst := some 42, k := .bin .neq (.t 39) (.t 41), g := some (37, false) },
          { dst := some 43, k := .pick (.t 37) (.c (.bool true)) (.t 42) },
          { dst := some 44, k := .mv (.t 43) },
          { dst := some 45, k := .fa (.t 6) 1, g := some (44, false) },
          { dst := some 46, k := .ld (.t 45) 1 false, g := some (44, false) },
          { dst := some 47, k := .fa (.t 7) 1, g := some (44, false) },
          { dst := some 48, k := .ld (.t 47) 1 false, g := some (44, false) },
          { dst := some 49, k := .call 65 [(.t 46, .fz), (.t 48, .fz)], g := some (44, false) },
          { dst := some 50, k := .un .not (.t 49), g := some (44, false) },
          { dst := some 51, k := .pick (.t 44) (.c (.bool true)) (.t 50) },
          { dst := some 52, k := .mv (.t 51) },
          { dst := some 53, k := .fa (.t 6) 3, g := some (52, false) },
          { dst := some 54, k := .ld (.t 53) 1 false, g := some (52, false) },
          { dst := some 55, k := .fa (.t 7) 3, g := some (52, false) },
          { dst := some 56, k := .ld (.t 55) 1 false, g := some (52, false) },
          { dst := some 57, k := .call 66 [(.t 54, .fz), (.t 56, .fz)], g := some (52, false) },
          { dst := some 58, k := .un .not (.t 57), g := some (52, false) },
          { dst := some 59, k := .pick (.t 52) (.c (.bool true)) (.t 58) }])
        (.cond (.t 59) (.seq (.reg false [
            { dst := some 4, k := .mv (.c (.bool false)) }])
          (.ret))
        (.skip))))))))
      (.wk (.reg false [
        { dst := some 20, k := .mv (.t 5) },
        { dst := some 21, k := .bin .add (.t 20) (.c (.int .i64 (1))) },
        { dst := some 5, k := .mv (.t 21) }]))))))))
  (.seq (.reg false [
    { dst := some 4, k := .mv (.c (.bool true)) }])
  (.ret)))))
theorem chk_spec_EqualProof : fnOK Try.prog 2 Try.f37 ac_spec_EqualProof [(.tmp 4, .fz)] = true := by kernel_rfl
def wp_spec_EqualProof (p0 : T_impl_Proof) (p1 : T_impl_Proof) (post : Bool → Prop) : Prop :=
  (((((List.length (T_impl_Proof.nodes p0) : Nat) : Int) != ((List.length (T_impl_Proof.nodes p1) : Nat) : Int)) = true → post false) ∧ ((((List.length (T_impl_Proof.nodes p0) : Nat) : Int) != ((List.length (T_impl_Proof.nodes p1) : Nat) : Int)) = false → LOOP (fun (N29 : Int → Prop) (s2 : Int) => (((decide (s2 < ((List.length (T_impl_Proof.nodes p0) : Nat) : Int))) = true → (∃ u34, GETI (T_impl_Proof.nodes p0) s2 u34 ∧ (∃ u36, GETI (T_impl_Proof.nodes p1) s2 u36 ∧ ((((T_impl_ProofNode.kind u34) != (T_impl_ProofNode.kind u36)) = true → post false) ∧ (((T_impl_ProofNode.kind u34) != (T_impl_ProofNode.kind u36)) = false → ((((T_impl_ProofNode.claim u34) != (T_impl_ProofNode.claim u36)) = true → post false) ∧ (((T_impl_ProofNode.claim u34) != (T_impl_ProofNode.claim u36)) = false → (∃ r40 : Bool, C_spec_l13Ints (T_impl_ProofNode.next_ u34) (T_impl_ProofNode.next_ u36) r40 ∧ (((!r40) = true → post false) ∧ ((!r40) = false → (∃ r43 : Bool, C_spec_l22Binds (T_impl_ProofNode.subst u34) (T_impl_ProofNode.subst u36) r43 ∧ (((!r43) = true → post false) ∧ ((!r43) = false → N29 (IntKind.i64.wrap (s2 + (1 : Int)))))))))))))))) ∧ ((decide (s2 < ((List.length (T_impl_Proof.nodes p0) : Nat) : Int))) = false → post true))) (0 : Int)))
theorem w_spec_EqualProof (p0 : T_impl_Proof) (p1 : T_impl_Proof) (post : Bool → Prop) (h : wp_spec_EqualProof p0 p1 post) : ∃ r, post r ∧ C_spec_EqualProof p0 p1 r := by
  unfold wp_spec_EqualProof at h
  refine evs_of (encR := fun r : Bool => .one (.l (.fz (.bool r)))) (encO := fun r => []) 2 [(.tmp 4, .fz)] [.fz, .fz] Try.func37 chk_spec_EqualProof rfl rfl [(1, .p (.agg (T_impl_Proof.cells p1))), (0, .p (.agg (T_impl_Proof.cells p0)))] [] [] rfl ?_
  refine aw_seq (s_reg ?_)
  refine s_run 3 [(4, pB false), (3, .ptr 3 0), (2, .ptr 2 0)] [(3, [pL (e_T_impl_ProofNode (T_impl_Proof.nodes p1))]), (2, [pL (e_T_impl_ProofNode (T_impl_Proof.nodes p0))])] [] rfl ?_
  refine seq_n (aw_seq (aw_seq (s_reg ?_)))
  refine s_run 2 [(9, pL (e_T_impl_ProofNode (T_impl_Proof.nodes p0))), (8, .ptr 2 0)] [] [] rfl ?_
  refine s_len rfl (enc_len (e := e_T_impl_ProofNode) _) ?_
  refine s_run 2 [(12, pL (e_T_impl_ProofNode (T_impl_Proof.nodes p1))), (11, .ptr 3 0)] [] [] rfl ?_
  refine s_len rfl (enc_len (e := e_T_impl_ProofNode) _) ?_
  refine s_run 1 [(14, pB (((List.length (T_impl_Proof.nodes p0) : Nat) : Int) != ((List.length (T_impl_Proof.nodes p1) : Nat) : Int)))] [] [] rfl ?_
  refine seq_n (s_if rfl (fun c1 => ?_) (fun c1 => ?_))
  · have h := h.1 c1
    refine aw_seq (s_reg ?_)
    refine s_run 1 [(4, pB false)] [] [] rfl ?_
    refine seq_n (aw_ret ?_)
    exact endp_ret _ h rfl
  · have h := h.2 c1
    refine aw_skip (seq_n (aw_wk (St [(2, .ptr 2 0), (3, .ptr 3 0)] [(2, [pL (e_T_impl_ProofNode (T_impl_Proof.nodes p0))]), (3, [pL (e_T_impl_ProofNode (T_impl_Proof.nodes p1))])] []) (wk_St ⟨le_rfl _, le_rfl _, trivial⟩ ⟨box_rfl rfl, box_rfl rfl, trivial⟩ trivial rfl ⟨rfl, rfl, trivial⟩ ⟨rfl, rfl, trivial⟩) ?_))
    refine aw_seq (aw_seq (s_reg ?_))
    refine s_run 1 [(5, pI (0 : Int))] [] [] rfl ?_
    refine seq_n (aw_blk ?_)
    obtain ⟨I31, m32, h0, h⟩ := h
    refine aw_loop' (ι := { y : Int // I31 y }) (fun x30 => St [(2, .ptr 2 0), (3, .ptr 3 0), (5, pI x30.1)] [(2, [pL (e_T_impl_ProofNode (T_impl_Proof.nodes p0))]), (3, [pL (e_T_impl_ProofNode (T_impl_Proof.nodes p1))])] []) (fun x30 => m32 x30.1) ⟨_, h0⟩ ?_ ?_
    · exact wk_St ⟨le_rfl _, le_rfl _, le_rfl _, trivial⟩ ⟨box_rfl rfl, box_rfl rfl, trivial⟩ trivial rfl ⟨rfl, rfl, trivial⟩ ⟨rfl, rfl, trivial⟩
    · rintro ⟨s2, hs2⟩
      replace h := h s2 hs2
      refine aw_seq (aw_seq (s_reg ?_))
      refine s_run 3 [(17, pL (e_T_impl_ProofNode (T_impl_Proof.nodes p0))), (16, .ptr 2 0), (15, pI s2)] [] [] rfl ?_
      refine s_len rfl (enc_len (e := e_T_impl_ProofNode) _) ?_
      refine s_run 1 [(19, pB (decide (s2 < ((List.length (T_impl_Proof.nodes p0) : Nat) : Int))))] [] [] rfl ?_
      refine seq_n (s_if rfl (fun c33 => ?_) (fun c33 => ?_))
      · have h := h.1 c33
        refine aw_skip (seq_n (aw_wk (St [(2, .ptr 2 0), (3, .ptr 3 0), (5, pI s2)] [(2, [pL (e_T_impl_ProofNode (T_impl_Proof.nodes p0))]), (3, [pL (e_T_impl_ProofNode (T_impl_Proof.nodes p1))])] []) (wk_St ⟨le_rfl _, le_rfl _, le_rfl _, trivial⟩ ⟨box_rfl rfl, box_rfl rfl, trivial⟩ trivial rfl ⟨rfl, rfl, trivial⟩ ⟨rfl, rfl, trivial⟩) ?_))
        refine aw_seq (aw_blk (aw_seq (s_reg ?_)))
        refine s_run 3 [(24, pI s2), (23, pL (e_T_impl_ProofNode (T_impl_Proof.nodes p0))), (22, .ptr 2 0)] [] [] rfl ?_
        obtain ⟨u34, ⟨g35a, g35b⟩, h⟩ := h
        refine s_ia rfl rfl g35a (enc_get (e := e_T_impl_ProofNode) g35b) rfl ?_
        refine s_run 3 [(6, .ptr 6 0), (26, .p (.agg (T_impl_ProofNode.cells u34)))] [(6, [pI (T_impl_ProofNode.kind u34), pL (e_i64 (T_impl_ProofNode.next_ u34)), pI (T_impl_ProofNode.claim u34), pL (e_Bd (T_impl_ProofNode.subst u34))]), (6, [pI (0 : Int), pL (e_i64 ([] : List Int)), pI (0 : Int), pL (e_Bd ([] : List Bd))])] [] rfl ?_
        refine seq_n (aw_wk (St [(2, .ptr 2 0), (3, .ptr 3 0), (5, pI s2), (6, .ptr 6 0)] [(2, [pL (e_T_impl_ProofNode (T_impl_Proof.nodes p0))]), (3, [pL (e_T_impl_ProofNode (T_impl_Proof.nodes p1))]), (6, [pI (T_impl_ProofNode.kind u34), pL (e_i64 (T_impl_ProofNode.next_ u34)), pI (T_impl_ProofNode.claim u34), pL (e_Bd (T_impl_ProofNode.subst u34))])] []) (wk_St ⟨le_rfl _, le_rfl _, le_rfl _, le_rfl _, trivial⟩ ⟨box_rfl rfl, box_rfl rfl, box_rfl rfl, trivial⟩ trivial rfl ⟨rfl, rfl, trivial⟩ ⟨rfl, rfl, trivial⟩) ?_)
        refine aw_seq (s_reg ?_)
        refine s_run 3 [(29, pI s2), (28, pL (e_T_impl_ProofNode (T_impl_Proof.nodes p1))), (27, .ptr 3 0)] [] [] rfl ?_
        obtain ⟨u36, ⟨g37a, g37b⟩, h⟩ := h
        refine s_ia rfl rfl g37a (enc_get (e := e_T_impl_ProofNode) g37b) rfl ?_
        refine s_run 3 [(7, .ptr 7 0), (31, .p (.agg (T_impl_ProofNode.cells u36)))] [(7, [pI (T_impl_ProofNode.kind u36), pL (e_i64 (T_impl_ProofNode.next_ u36)), pI (T_impl_ProofNode.claim u36), pL (e_Bd (T_impl_ProofNode.subst u36))]), (7, [pI (0 : Int), pL (e_i64 ([] : List Int)), pI (0 : Int), pL (e_Bd ([] : List Bd))])] [] rfl ?_
        refine seq_n (aw_wk (St [(2, .ptr 2 0), (3, .ptr 3 0), (5, pI s2), (6, .ptr 6 0), (7, .ptr 7 0)] [(2, [pL (e_T_impl_ProofNode (T_impl_Proof.nodes p0))]), (3, [pL (e_T_impl_ProofNode (T_impl_Proof.nodes p1))]), (6, [pI (T_impl_ProofNode.kind u34), pL (e_i64 (T_impl_ProofNode.next_ u34)), pI (T_impl_ProofNode.claim u34), pL (e_Bd (T_impl_ProofNode.subst u34))]), (7, [pI (T_impl_ProofNode.kind u36), pL (e_i64 (T_impl_ProofNode.next_ u36)), pI (T_impl_ProofNode.claim u36), pL (e_Bd (T_impl_ProofNode.subst u36))])] []) (wk_St ⟨le_rfl _, le_rfl _, le_rfl _, le_rfl _, le_rfl _, trivial⟩ ⟨box_rfl rfl, box_rfl rfl, box_rfl rfl, box_rfl rfl, trivial⟩ trivial rfl ⟨rfl, rfl, trivial⟩ ⟨rfl, rfl, trivial⟩) ?_)
        refine aw_seq (s_reg ?_)
        refine s_run 6 [(37, pB ((T_impl_ProofNode.kind u34) != (T_impl_ProofNode.kind u36))), (36, pB ((T_impl_ProofNode.kind u34) != (T_impl_ProofNode.kind u36))), (35, pI (T_impl_ProofNode.kind u36)), (34, .ptr 7 0), (33, pI (T_impl_ProofNode.kind u34)), (32, .ptr 6 0)] [] [] rfl ?_
        refine s_op_if rfl rfl (fun c38 => ?_) (fun c38 => ?_)
        · have h := h.1 c38
          refine s_run 22 [(59, pB true), (58, .p (.tup [])), (57, .p (.tup [])), (56, .p (.tup [])), (55, .p (.tup [])), (54, .p (.tup [])), (53, .p (.tup [])), (52, pB true), (51, pB true), (50, .p (.tup [])), (49, .p (.tup [])), (48, .p (.tup [])), (47, .p (.tup [])), (46, .p (.tup [])), (45, .p (.tup [])), (44, pB true), (43, pB true), (42, .p (.tup [])), (41, .p (.tup [])), (40, .p (.tup [])), (39, .p (.tup [])), (38, .p (.tup []))] [] [] rfl ?_
          refine seq_n (s_yes rfl (aw_seq (s_reg ?_)))
          refine s_run 1 [(4, pB false)] [] [] rfl ?_
          refine seq_n (aw_ret ?_)
          exact endp_ret _ h rfl
        · have h := h.2 c38
          refine s_run 7 [(44, pB ((T_impl_ProofNode.claim u34) != (T_impl_ProofNode.claim u36))), (43, pB ((T_impl_ProofNode.claim u34) != (T_impl_ProofNode.claim u36))), (42, pB ((T_impl_ProofNode.claim u34) != (T_impl_ProofNode.claim u36))), (41, pI (T_impl_ProofNode.claim u36)), (40, .ptr 7 2), (39, pI (T_impl_ProofNode.claim u34)), (38, .ptr 6 2)] [] [] rfl ?_
          refine s_op_if rfl rfl (fun c39 => ?_) (fun c39 => ?_)
          · have h := h.1 c39
            refine s_run 15 [(59, pB true), (58, .p (.tup [])), (57, .p (.tup [])), (56, .p (.tup [])), (55, .p (.tup [])), (54, .p (.tup [])), (53, .p (.tup [])), (52, pB true), (51, pB true), (50, .p (.tup [])), (49, .p (.tup [])), (48, .p (.tup [])), (47, .p (.tup [])), (46, .p (.tup [])), (45, .p (.tup []))] [] [] rfl ?_
            refine seq_n (s_yes rfl (aw_seq (s_reg ?_)))
            refine s_run 1 [(4, pB false)] [] [] rfl ?_
            refine seq_n (aw_ret ?_)
            exact endp_ret _ h rfl
          · have h := h.2 c39
            refine s_run 4 [(48, pL (e_i64 (T_impl_ProofNode.next_ u36))), (47, .ptr 7 1), (46, pL (e_i64 (T_impl_ProofNode.next_ u34))), (45, .ptr 6 1)] [] [] rfl ?_
            refine s_on rfl ?_
            obtain ⟨r40, k41, h⟩ := h
            refine s_call (pB r40) [] [] rfl k41 rfl ?_
            refine s_run 3 [(52, pB (!r40)), (51, pB (!r40)), (50, pB (!r40))] [] [] rfl ?_
            refine s_op_if rfl rfl (fun c42 => ?_) (fun c42 => ?_)
            · have h := h.1 c42
              refine s_run 7 [(59, pB true), (58, .p (.tup [])), (57, .p (.tup [])), (56, .p (.tup [])), (55, .p (.tup [])), (54, .p (.tup [])), (53, .p (.tup []))] [] [] rfl ?_
              refine seq_n (s_yes rfl (aw_seq (s_reg ?_)))
              refine s_run 1 [(4, pB false)] [] [] rfl ?_
              refine seq_n (aw_ret ?_)
              exact endp_ret _ h rfl
            · have h := h.2 c42
              refine s_run 4 [(56, pL (e_Bd (T_impl_ProofNode.subst u36))), (55, .ptr 7 3), (54, pL (e_Bd (T_impl_ProofNode.subst u34))), (53, .ptr 6 3)] [] [] rfl ?_
              refine s_on rfl ?_
              obtain ⟨r43, k44, h⟩ := h
              refine s_call (pB r43) [] [] rfl k44 rfl ?_
              refine s_run 2 [(59, pB (!r43)), (58, pB (!r43))] [] [] rfl ?_
              refine seq_n (s_if rfl (fun c45 => ?_) (fun c45 => ?_))
              · have h := h.1 c45
                refine aw_seq (s_reg ?_)
                refine s_run 1 [(4, pB false)] [] [] rfl ?_
                refine seq_n (aw_ret ?_)
                exact endp_ret _ h rfl
              · have h := h.2 c45
                refine aw_skip (blk_n (seq_n (aw_wk (St [(2, .ptr 2 0), (3, .ptr 3 0), (5, pI s2)] [(2, [pL (e_T_impl_ProofNode (T_impl_Proof.nodes p0))]), (3, [pL (e_T_impl_ProofNode (T_impl_Proof.nodes p1))])] []) (wk_St ⟨le_rfl _, le_rfl _, le_rfl _, trivial⟩ ⟨box_rfl rfl, box_rfl rfl, trivial⟩ trivial rfl ⟨rfl, rfl, trivial⟩ ⟨rfl, rfl, trivial⟩) ?_)))
                refine s_reg ?_
                refine s_run 3 [(5, pI (IntKind.i64.wrap (s2 + (1 : Int)))), (21, pI (IntKind.i64.wrap (s2 + (1 : Int)))), (20, pI s2)] [] [] rfl ?_
                exact loop_n ⟨_, h.1⟩ h.2 (wk_St ⟨le_rfl _, le_rfl _, le_rfl _, trivial⟩ ⟨box_rfl rfl, box_rfl rfl, trivial⟩ trivial rfl ⟨rfl, rfl, trivial⟩ ⟨rfl, rfl, trivial⟩)
      · have h := h.2 c33
        refine aw_exit (seq_x (loop_x (blk_x (seq_n (aw_seq (s_reg ?_))))))
        refine s_run 1 [(4, pB true)] [] [] rfl ?_
        refine seq_n (aw_ret ?_)
        exact endp_ret _ h rfl


def ac_spec_ComposeSubst : AC :=
  .seq (.reg false [
    { dst := some 4, k := .mv (.c (.slice [])) }])
  (.seq (.reg false [
    { dst := some 8, k := .bs 5 [] },
    { dst := some 5, k := .asgo (.t 8) }])
  (.seq (.seq (.reg false [
    { dst := some 6, k := .mv (.c (.int .i64 (0))) }])
  (.block 0 (.loop (.seq (.seq (.reg false [
        { dst := some 9, k := .mv (.t 6) },
        { dst := some 10, k := .mv (.t 0) },
        { dst := some 11, k := .len (.t 10) },
        { dst := some 12, k := .bin .lss (.t 9) (.t 11) }])
      (.cond (.t 12) (.skip)
      (.exit 0)))
      (.wk (.seq (.block 1 (.reg true [
          { dst := some 15, k := .mv (.t 5) },
          { dst := some 16, k := .mv (.t 0) },
          { dst := some 17, k := .mv (.t 6) },
          { dst := some 18, k := .ia (.t 16) (.t 17) 5 },
          { dst := some 19, k := .fa (.t 18) 0 },
          { dst := some 20, k := .ld (.t 19) 1 false, vb := .only [] },
          { dst := some 21, k := .mv (.t 1) },
          { dst := some 22, k := .mv (.t 0) },
          { dst := some 23, k := .mv (.t 6) },
          { dst := some 24, k := .ia (.t 22) (.t 23) 5 },
          { dst := some 25, k := .fa (.t 24) 1 },
          { dst := some 26, k := .ld (.t 25) 4 true, vb := .only [] },
          { dst := some 27, k := .call 46 [(.t 21, .fz), (.t 26, .fz)] },
          { dst := some 28, k := .bd [.p (.str []), .p (.int .i64 0), .p (.int .i64 0), .p (.str []), .p (.slice [])] [(0, 1, .t 20), (1, 4, .t 27)] },
          { dst := some 29, k := .bs 5 [.t 28] },
          { dst := some 30, k := .app (.t 15) (.t 29) 5 72 },
          { dst := some 5, k := .mv (.t 30) }]))
      (.wk (.reg false [
        { dst := some 13, k := .mv (.t 6) },
        { dst := some 14, k := .bin .add (.t 13) (.c (.int .i64 (1))) },
        { dst := some 6, k := .mv (.t 14) }]))))))))
  (.wk (.seq (.seq (.reg false [
    { dst := some 7, k := .mv (.c (.int .i64 (0))) }])
  (.block 2 (.loop (.seq (.seq (.reg false [
        { dst := some 31, k := .mv (.t 7) },
        { dst := some 32, k := .mv (.t 1) },
        { dst := some 33, k := .len (.t 32) },
        { dst := some 34, k := .bin .lss (.t 31) (.t 33) }])
      (.cond (.t 34) (.skip)
      (.exit 2)))
      (.wk (.seq (.block 3 (.seq (.reg false [
          { dst := some 37, k := .mv (.t 0) },
          { dst := some 38, k := .mv (.t 1) },
          { dst := some 39, k := .mv (.t 7) },
          { dst := some 40, k := .ia (.t 38) (.t 39) 5 },
          { dst := some 41, k := .fa (.t 40) 0 },
          { dst := some 42, k := .ld (.t 41) 1 false },
          { dst := some 43, k := .call 47 [(.t 37, .fz), (.t 42, .fz)] },
          { dst := some 44, k := .bin .lss (.t 43) (.c (.int .i64 (0))) }])
        (.wk (.cond (.t 44) (.reg true [
            { dst := some 45, k := .mv (.t 5) },
            { dst := some 46, k := .mv (.t 1) },
            { dst := some 47, k := .mv (.t 7) },
            { dst := some 48, k := .ia (.t 46) (.t 47) 5 },
            { dst := some 49, k := .fa (.t 48) 0 },
            { dst := some 50, k := .ld (.t 49) 1 false, vb := .only [] },
            { dst := some 51, k := .mv (.t 1) },
            { dst := some 52, k := .mv (.t 7) },
            { dst := some 53, k := .ia (.t 51) (.t 52) 5 },
            { dst := some 54, k := .fa (.t 53) 1 },
            { dst := some 55, k := .ld (.t 54) 4 true, vb := .only [] },
            { dst := some 56, k := .call 48 [(.t 55, .fz)] },
            { dst := some 57, k := .bd [.p (.str []), .p (.int .i64 0), .p (.int .i64 0), .p (.str []), .p (.slice [])] [(0, 1, .t 50), (1, 4, .t 56)] },
            { dst := some 58, k := .bs 5 [.t 57] },
            { dst := some 59, k := .app (.t 45) (.t 58) 5 72 },
            { dst := some 5, k := .mv (.t 59) }])
        (.skip)))))
      (.wk (.reg false [
        { dst := some 35, k := .mv (.t 7) },
        { dst := some 36, k := .bin .add (.t 35) (.c (.int .i64 (1))) },
        { dst := some 7, k := .mv (.t 36) }]))))))))
  (.seq (.reg false [
    { dst := some 60, k := .mv (.t 5) },
    { dst := some 4, k := .mv (.t 60) }])
  (.ret))))))
theorem chk_spec_ComposeSubst : fnOK Try.prog 2 Try.f20 ac_spec_ComposeSubst [(.tmp 4, .fz)] = true := by kernel_rfl
def wp_spec_ComposeSubst (p0 : (List Bd)) (p1 : (List Bd)) (post : (List Bd) → Prop) : Prop :=
  LOOP (fun (N18 : (Int × (List Bd)) → Prop) (s1 : Int × (List Bd)) => (((decide (s1.1 < ((List.length p0 : Nat) : Int))) = true → (∃ u23, GETI p0 s1.1 u23 ∧ (∃ u25, GETI p0 s1.1 u25 ∧ (∃ r27 : Tm, C_spec_ApplySubst p1 (Bd.term u25) r27 ∧ ((List.length s1.2 + List.length ([(Bd.mk (Bd.name u23) r27)] : List Bd)) * 72 ≤ 140737488355328 ∧ N18 ((IntKind.i64.wrap (s1.1 + (1 : Int))), (s1.2 ++ ([(Bd.mk (Bd.name u23) r27)] : List Bd)))))))) ∧ ((decide (s1.1 < ((List.length p0 : Nat) : Int))) = false → LOOP (fun (N57 : (Int × (List Bd)) → Prop) (s30 : Int × (List Bd)) => (((decide (s30.1 < ((List.length p1 : Nat) : Int))) = true → (∃ u62, GETI p1 s30.1 u62 ∧ (∃ r64 : Int, C_spec_l7At p0 (Bd.name u62) r64 ∧ (((decide (r64 < (0 : Int))) = true → (∃ u67, GETI p1 s30.1 u67 ∧ (∃ u69, GETI p1 s30.1 u69 ∧ (∃ r71 : Tm, C_spec_l3Copy (Bd.term u69) r71 ∧ ((List.length s30.2 + List.length ([(Bd.mk (Bd.name u67) r71)] : List Bd)) * 72 ≤ 140737488355328 ∧ N57 ((IntKind.i64.wrap (s30.1 + (1 : Int))), (s30.2 ++ ([(Bd.mk (Bd.name u67) r71)] : List Bd)))))))) ∧ ((decide (r64 < (0 : Int))) = false → N57 ((IntKind.i64.wrap (s30.1 + (1 : Int))), s30.2)))))) ∧ ((decide (s30.1 < ((List.length p1 : Nat) : Int))) = false → post s30.2))) ((0 : Int), s1.2)))) ((0 : Int), ([] : List Bd))
theorem w_spec_ComposeSubst (p0 : (List Bd)) (p1 : (List Bd)) (post : (List Bd) → Prop) (h : wp_spec_ComposeSubst p0 p1 post) : ∃ r, post r ∧ C_spec_ComposeSubst p0 p1 r := by
  unfold wp_spec_ComposeSubst at h
  refine evs_of (encR := fun r : (List Bd) => .one (.l (.fz (.slice (e_Bd r))))) (encO := fun r => []) 2 [(.tmp 4, .fz)] [.fz, .fz] Try.func20 chk_spec_ComposeSubst rfl rfl [(1, pL (e_Bd p1)), (0, pL (e_Bd p0))] [] [] rfl ?_
  refine aw_seq (s_reg ?_)
  refine s_run 1 [(4, pL (e_Bd ([] : List Bd)))] [] [] rfl ?_
  refine seq_n (aw_seq (s_reg ?_))
  refine s_bs rfl rfl (enc_nil (e := e_Bd)) ?_
  refine s_asgo (g := (0, 8, 0)) (r := 0) (q := 0) (sz := 5) (xs := e_Bd ([] : List Bd)) rfl rfl (by decide) rfl ?_
  refine seq_n (aw_seq (aw_seq (s_reg ?_)))
  refine s_run 1 [(6, pI (0 : Int))] [] [] rfl ?_
  refine seq_n (aw_blk ?_)
  obtain ⟨I20, m21, h0, h⟩ := h
  refine aw_loop' (ι := { y : Int × (List Bd) // I20 y }) (fun x19 => St [(0, pL (e_Bd p0)), (1, pL (e_Bd p1)), (5, .tip (0, 5, 0) (0) (e_Bd x19.1.2)), (6, pI x19.1.1)] [] [((0, 5, 0), 0, .tip (e_Bd x19.1.2).length 5)]) (fun x19 => m21 x19.1) ⟨_, h0⟩ ?_ ?_
  · exact wk_St ⟨le_rfl _, le_rfl _, le_rfl _, le_rfl _, trivial⟩ trivial ⟨rfl, trivial⟩ rfl ⟨rfl, rfl, trivial⟩ ⟨rfl, rfl, trivial⟩
  · rintro ⟨s1, hs1⟩
    replace h := h s1 hs1
    refine aw_seq (aw_seq (s_reg ?_))
    refine s_run 2 [(10, pL (e_Bd p0)), (9, pI s1.1)] [] [] rfl ?_
    refine s_len rfl (enc_len (e := e_Bd) _) ?_
    refine s_run 1 [(12, pB (decide (s1.1 < ((List.length p0 : Nat) : Int))))] [] [] rfl ?_
    refine seq_n (s_if rfl (fun c22 => ?_) (fun c22 => ?_))
    · have h := h.1 c22
      refine aw_skip (seq_n (aw_wk (St [(0, pL (e_Bd p0)), (1, pL (e_Bd p1)), (5, .tip (0, 5, 0) (0) (e_Bd s1.2)), (6, pI s1.1)] [] [((0, 5, 0), 0, .tip (e_Bd s1.2).length 5)]) (wk_St ⟨le_rfl _, le_rfl _, le_rfl _, le_rfl _, trivial⟩ trivial ⟨rfl, trivial⟩ rfl ⟨rfl, rfl, trivial⟩ ⟨rfl, rfl, trivial⟩) ?_))
      refine aw_seq (aw_blk (s_reg ?_))
      refine s_run 3 [(17, pI s1.1), (16, pL (e_Bd p0)), (15, .tip (0, 5, 0) (0) (e_Bd s1.2))] [] [] rfl ?_
      obtain ⟨u23, ⟨g24a, g24b⟩, h⟩ := h
      refine s_ia rfl rfl g24a (enc_get (e := e_Bd) g24b) rfl ?_
      refine s_run 5 [(23, pI s1.1), (22, pL (e_Bd p0)), (21, pL (e_Bd p1)), (20, pS (Bd.name u23)), (19, .p (.cptr (Bd.cells u23)))] [] [] rfl ?_
      obtain ⟨u25, ⟨g26a, g26b⟩, h⟩ := h
      refine s_ia rfl rfl g26a (enc_get (e := e_Bd) g26b) rfl ?_
      refine s_run 2 [(26, .p (.agg (Tm.cells (Bd.term u25)))), (25, .p (.cptr (List.drop 1 (Bd.cells u25))))] [] [] rfl ?_
      obtain ⟨r27, k28, h⟩ := h
      refine s_call (.p (.agg (Tm.cells r27))) [] [] rfl k28 rfl ?_
      refine s_run 1 [(28, .agg [pS (Bd.name u23), pI (Tm.kind r27), pI (Tm.n r27), pS (Tm.name r27), pL (Tm.encL (Tm.args r27))])] [] [] rfl ?_
      refine s_bs rfl rfl (enc_cons (e := e_Bd) (Bd.mk (Bd.name u23) r27) (enc_nil (e := e_Bd))) ?_
      obtain ⟨g29, h⟩ := h
      refine s_app rfl rfl rfl (enc_sz (e := e_Bd) _) (enc_len (e := e_Bd) _) (enc_len (e := e_Bd) _) g29 (enc_app (e := e_Bd) _ _) ?_
      refine s_run 1 [(5, .tip (0, 5, 0) (0) (e_Bd (s1.2 ++ ([(Bd.mk (Bd.name u23) r27)] : List Bd))))] [] [] rfl ?_
      refine blk_n (seq_n (aw_wk (St [(0, pL (e_Bd p0)), (1, pL (e_Bd p1)), (5, .tip (0, 5, 0) (0) (e_Bd (s1.2 ++ ([(Bd.mk (Bd.name u23) r27)] : List Bd)))), (6, pI s1.1)] [] [((0, 5, 0), 0, .tip (e_Bd (s1.2 ++ ([(Bd.mk (Bd.name u23) r27)] : List Bd))).length 5)]) (wk_St ⟨le_rfl _, le_rfl _, le_rfl _, le_rfl _, trivial⟩ trivial ⟨rfl, trivial⟩ rfl ⟨rfl, rfl, trivial⟩ ⟨rfl, rfl, trivial⟩) ?_))
      refine s_reg ?_
      refine s_run 3 [(6, pI (IntKind.i64.wrap (s1.1 + (1 : Int)))), (14, pI (IntKind.i64.wrap (s1.1 + (1 : Int)))), (13, pI s1.1)] [] [] rfl ?_
      exact loop_n ⟨_, h.1⟩ h.2 (wk_St ⟨le_rfl _, le_rfl _, le_rfl _, le_rfl _, trivial⟩ trivial ⟨rfl, trivial⟩ rfl ⟨rfl, rfl, trivial⟩ ⟨rfl, rfl, trivial⟩)
    · have h := h.2 c22
      refine aw_exit (seq_x (loop_x (blk_x (seq_n (aw_wk (St [(0, pL (e_Bd p0)), (1, pL (e_Bd p1)), (5, .tip (0, 5, 0) (0) (e_Bd s1.2))] [] [((0, 5, 0), 0, .tip (e_Bd s1.2).length 5)]) (wk_St ⟨le_rfl _, le_rfl _, le_rfl _, trivial⟩ trivial ⟨rfl, trivial⟩ rfl ⟨rfl, rfl, trivial⟩ ⟨rfl, rfl, trivial⟩) ?_)))))
      refine aw_seq (aw_seq (s_reg ?_))
      refine s_run 1 [(7, pI (0 : Int))] [] [] rfl ?_
      refine seq_n (aw_blk ?_)
      obtain ⟨I59, m60, h0, h⟩ := h
      refine aw_loop' (ι := { y : Int × (List Bd) // I59 y }) (fun x58 => St [(0, pL (e_Bd p0)), (1, pL (e_Bd p1)), (5, .tip (0, 5, 0) (0) (e_Bd x58.1.2)), (7, pI x58.1.1)] [] [((0, 5, 0), 0, .tip (e_Bd x58.1.2).length 5)]) (fun x58 => m60 x58.1) ⟨_, h0⟩ ?_ ?_
      · exact wk_St ⟨le_rfl _, le_rfl _, le_rfl _, le_rfl _, trivial⟩ trivial ⟨rfl, trivial⟩ rfl ⟨rfl, rfl, trivial⟩ ⟨rfl, rfl, trivial⟩
      · rintro ⟨s30, hs30⟩
        replace h := h s30 hs30
        refine aw_seq (aw_seq (s_reg ?_))
        refine s_run 2 [(32, pL (e_Bd p1)), (31, pI s30.1)] [] [] rfl ?_
        refine s_len rfl (enc_len (e := e_Bd) _) ?_
        refine s_run 1 [(34, pB (decide (s30.1 < ((List.length p1 : Nat) : Int))))] [] [] rfl ?_
        refine seq_n (s_if rfl (fun c61 => ?_) (fun c61 => ?_))
        · have h := h.1 c61
          refine aw_skip (seq_n (aw_wk (St [(0, pL (e_Bd p0)), (1, pL (e_Bd p1)), (5, .tip (0, 5, 0) (0) (e_Bd s30.2)), (7, pI s30.1)] [] [((0, 5, 0), 0, .tip (e_Bd s30.2).length 5)]) (wk_St ⟨le_rfl _, le_rfl _, le_rfl _, le_rfl _, trivial⟩ trivial ⟨rfl, trivial⟩ rfl ⟨rfl, rfl, trivial⟩ ⟨rfl, rfl, trivial⟩) ?_))
          refine aw_seq (aw_blk (aw_seq (s_reg ?_)))
          refine s_run 3 [(39, pI s30.1), (38, pL (e_Bd p1)), (37, pL (e_Bd p0))] [] [] rfl ?_
          obtain ⟨u62, ⟨g63a, g63b⟩, h⟩ := h
          refine s_ia rfl rfl g63a (enc_get (e := e_Bd) g63b) rfl ?_
          refine s_run 2 [(42, pS (Bd.name u62)), (41, .p (.cptr (Bd.cells u62)))] [] [] rfl ?_
          obtain ⟨r64, k65, h⟩ := h
          refine s_call (pI r64) [] [] rfl k65 rfl ?_
          refine s_run 1 [(44, pB (decide (r64 < (0 : Int))))] [] [] rfl ?_
          refine seq_n (aw_wk (St [(0, pL (e_Bd p0)), (1, pL (e_Bd p1)), (5, .tip (0, 5, 0) (0) (e_Bd s30.2)), (7, pI s30.1), (44, pB (decide (r64 < (0 : Int))))] [] [((0, 5, 0), 0, .tip (e_Bd s30.2).length 5)]) (wk_St ⟨le_rfl _, le_rfl _, le_rfl _, le_rfl _, le_rfl _, trivial⟩ trivial ⟨rfl, trivial⟩ rfl ⟨rfl, rfl, trivial⟩ ⟨rfl, rfl, trivial⟩) ?_)
          refine s_if rfl (fun c66 => ?_) (fun c66 => ?_)
          · have h := h.1 c66
            refine s_reg ?_
            refine s_run 3 [(47, pI s30.1), (46, pL (e_Bd p1)), (45, .tip (0, 5, 0) (0) (e_Bd s30.2))] [] [] rfl ?_
            obtain ⟨u67, ⟨g68a, g68b⟩, h⟩ := h
            refine s_ia rfl rfl g68a (enc_get (e := e_Bd) g68b) rfl ?_
            refine s_run 4 [(52, pI s30.1), (51, pL (e_Bd p1)), (50, pS (Bd.name u67)), (49, .p (.cptr (Bd.cells u67)))] [] [] rfl ?_
            obtain ⟨u69, ⟨g70a, g70b⟩, h⟩ := h
            refine s_ia rfl rfl g70a (enc_get (e := e_Bd) g70b) rfl ?_
            refine s_run 2 [(55, .p (.agg (Tm.cells (Bd.term u69)))), (54, .p (.cptr (List.drop 1 (Bd.cells u69))))] [] [] rfl ?_
            obtain ⟨r71, k72, h⟩ := h
            refine s_call (.p (.agg (Tm.cells r71))) [] [] rfl k72 rfl ?_
            refine s_run 1 [(57, .agg [pS (Bd.name u67), pI (Tm.kind r71), pI (Tm.n r71), pS (Tm.name r71), pL (Tm.encL (Tm.args r71))])] [] [] rfl ?_
            refine s_bs rfl rfl (enc_cons (e := e_Bd) (Bd.mk (Bd.name u67) r71) (enc_nil (e := e_Bd))) ?_
            obtain ⟨g73, h⟩ := h
            refine s_app rfl rfl rfl (enc_sz (e := e_Bd) _) (enc_len (e := e_Bd) _) (enc_len (e := e_Bd) _) g73 (enc_app (e := e_Bd) _ _) ?_
            refine s_run 1 [(5, .tip (0, 5, 0) (0) (e_Bd (s30.2 ++ ([(Bd.mk (Bd.name u67) r71)] : List Bd))))] [] [] rfl ?_
            refine blk_n (seq_n (aw_wk (St [(0, pL (e_Bd p0)), (1, pL (e_Bd p1)), (5, .tip (0, 5, 0) (0) (e_Bd (s30.2 ++ ([(Bd.mk (Bd.name u67) r71)] : List Bd)))), (7, pI s30.1)] [] [((0, 5, 0), 0, .tip (e_Bd (s30.2 ++ ([(Bd.mk (Bd.name u67) r71)] : List Bd))).length 5)]) (wk_St ⟨le_rfl _, le_rfl _, le_rfl _, le_rfl _, trivial⟩ trivial ⟨rfl, trivial⟩ rfl ⟨rfl, rfl, trivial⟩ ⟨rfl, rfl, trivial⟩) ?_))
            refine s_reg ?_
            refine s_run 3 [(7, pI (IntKind.i64.wrap (s30.1 + (1 : Int)))), (36, pI (IntKind.i64.wrap (s30.1 + (1 : Int)))), (35, pI s30.1)] [] [] rfl ?_
            exact loop_n ⟨_, h.1⟩ h.2 (wk_St ⟨le_rfl _, le_rfl _, le_rfl _, le_rfl _, trivial⟩ trivial ⟨rfl, trivial⟩ rfl ⟨rfl, rfl, trivial⟩ ⟨rfl, rfl, trivial⟩)
          · have h := h.2 c66
            refine aw_skip (blk_n (seq_n (aw_wk (St [(0, pL (e_Bd p0)), (1, pL (e_Bd p1)), (5, .tip (0, 5, 0) (0) (e_Bd s30.2)), (7, pI s30.1)] [] [((0, 5, 0), 0, .tip (e_Bd s30.2).length 5)]) (wk_St ⟨le_rfl _, le_rfl _, le_rfl _, le_rfl _, trivial⟩ trivial ⟨rfl, trivial⟩ rfl ⟨rfl, rfl, trivial⟩ ⟨rfl, rfl, trivial⟩) ?_)))
            refine s_reg ?_
            refine s_run 3 [(7, pI (IntKind.i64.wrap (s30.1 + (1 : Int)))), (36, pI (IntKind.i64.wrap (s30.1 + (1 : Int)))), (35, pI s30.1)] [] [] rfl ?_
            exact loop_n ⟨_, h.1⟩ h.2 (wk_St ⟨le_rfl _, le_rfl _, le_rfl _, le_rfl _, trivial⟩ trivial ⟨rfl, trivial⟩ rfl ⟨rfl, rfl, trivial⟩ ⟨rfl, rfl, trivial⟩)
        · have h := h.2 c61
          refine aw_exit (seq_x (loop_x (blk_x (seq_n (aw_seq (s_reg ?_))))))
          refine s_run 2 [(4, .tip (0, 5, 0) (0) (e_Bd s30.2)), (60, .tip (0, 5, 0) (0) (e_Bd s30.2))] [] [] rfl ?_
          refine seq_n (aw_ret ?_)
          exact endp_ret _ h rfl


def ac_spec_EqualTerm : AC :=
  .seq (.reg false [
    { dst := some 2, k := .bx (.t 0) 4 },
    { dst := some 3, k := .bx (.t 1) 4 },
    { dst := some 4, k := .mv (.c (.bool false)) }])
  (.seq (.seq (.reg false [
    { dst := some 6, k := .fa (.t 2) 0 },
    { dst := some 7, k := .ld (.t 6) 1 false },
    { dst := some 8, k := .fa (.t 3) 0 },
    { dst := some 9, k := .ld (.t 8) 1 false },
    { dst := some 10, k := .bin .neq (.t 7) (.t 9) },
    { dst := some 11, k := .mv (.t 10) },
    { dst := some 12, k := .fa (.t 2) 1, g := some (11, false) },
    { dst := some 13, k := .ld (.t 12) 1 false, g := some (11, false) },
    { dst := some 14, k := .fa (.t 3) 1, g := some (11, false) },
    { dst := some 15, k := .ld (.t 14) 1 false, g := some (11, false) },
    { dst := some 16, k := .bin .neq (.t 13) (.t 15), g := some (11, false) },
    { dst := some 17, k := .pick (.t 11) (.c (.bool true)) (.t 16) },
    { dst := some 18, k := .mv (.t 17) },
    { dst := some 19, k := .fa (.t 2) 2, g := some (18, false) },
    { dst := some 20, k := .ld (.t 19) 1 false, g := some (18, false) },
    { dst := some 21, k := .fa (.t 3) 2, g := some (18, false) },
    { dst := some 22, k := .ld (.t 21) 1 false, g := some (18, false) },
    { dst := some 23, k := .bin .neq (.t 20) (.t 22), g := some (18, false) },
    { dst := some 24, k := .pick (.t 18) (.c (.bool true)) (.t 23) },
    { dst := some 25, k := .mv (.t 24) },
    { dst := some 26, k := .fa (.t 2) 3, g := some (25, false) },
    { dst := some 27, k := .ld (.t 26) 1 false, g := some (25, false) },
    { dst := some 28, k := .len (.t 27), g := some (25, false) },
    { dst := some 29, k := .fa (.t 3) 3, g := some (25, false) },
    { dst := some 30, k := .ld (.t 29) 1 false, g := some (25, false) },
    { dst := some 31, k := .len (.t 30), g := some (25, false) },
    { dst := some 32, k := .bin .neq (.t 28) (.t 31), g := some (25, false) },
    { dst := some 33, k := .pick (.t 25) (.c (.bool true)) (.t 32) }])
  (.cond (.t 33) (.seq (.reg false [
      { dst := some 4, k := .mv (.c (.bool false)) }])
    (.ret))
  (.skip)))
  (.wk (.seq (.seq (.reg false [
    { dst := some 5, k := .mv (.c (.int .i64 (0))) }])
  (.block 0 (.loop (.seq (.seq (.reg false [
        { dst := some 34, k := .mv (.t 5) },
        { dst := some 35, k := .fa (.t 2) 3 },
        { dst := some 36, k := .ld (.t 35) 1 false },
        { dst := some 37, k := .len (.t 36) },
        { dst := some 38, k := .bin .lss (.t 34) (.t 37) }])
      (.cond (.t 38) (.skip)
      (.exit 0)))
      (.wk (.seq (.block 1 (.seq (.reg true [
          { dst := some 41, k := .fa (.t 2) 3 },
          { dst := some 42, k := .ld (.t 41) 1 false, vb := .only [2] },
          { dst := some 43, k := .mv (.t 5) },
          { dst := some 44, k := .ia (.t 42) (.t 43) 4 },
          { dst := some 45, k := .ld (.t 44) 4 true, vb := .only [] },
          { dst := some 46, k := .fa (.t 3) 3 },
          { dst := some 47, k := .ld (.t 46) 1 false, vb := .only [3] },
          { dst := some 48, k := .mv (.t 5) },
          { dst := some 49, k := .ia (.t 47) (.t 48) 4 },
          { dst := some 50, k := .ld (.t 49) 4 true, vb := .only [] },
          { dst := some 51, k := .call 13 [(.t 45, .fz), (.t 50, .fz)] },
          { dst := some 52, k := .un .not (.t 51) }])
        (.cond (.t 52) (.seq (.reg false [
            { dst := some 4, k := .mv (.c (.bool false)) }])
          (.ret))
        (.skip))))
      (.wk (.reg false [
        { dst := some 39, k := .mv (.t 5) },
        { dst := some 40, k := .bin .add (.t 39) (.c (.int .i64 (1))) },
        { dst := some 5, k := .mv (.t 40) }]))))))))
  (.seq (.reg false [
    { dst := some 4, k := .mv (.c (.bool true)) }])
  (.ret)))))
theorem chk_spec_EqualTerm : fnOK Try.prog 2 Try.f13 ac_spec_EqualTerm [(.tmp 4, .fz)] = true := by kernel_rfl
def wp_spec_EqualTerm (p0 : Tm) (p1 : Tm) (post : Bool → Prop) : Prop :=
  ((((Tm.kind p0) != (Tm.kind p1)) = true → post false) ∧ (((Tm.kind p0) != (Tm.kind p1)) = false → ((((Tm.n p0) != (Tm.n p1)) = true → post false) ∧ (((Tm.n p0) != (Tm.n p1)) = false → (((!((Tm.name p0) == (Tm.name p1))) = true → post false) ∧ ((!((Tm.name p0) == (Tm.name p1))) = false → (((((List.length (Tm.args p0) : Nat) : Int) != ((List.length (Tm.args p1) : Nat) : Int)) = true → post false) ∧ ((((List.length (Tm.args p0) : Nat) : Int) != ((List.length (Tm.args p1) : Nat) : Int)) = false → LOOP (fun (N22 : Int → Prop) (s5 : Int) => (((decide (s5 < ((List.length (Tm.args p0) : Nat) : Int))) = true → (∃ u27, GETI (Tm.args p0) s5 u27 ∧ (∃ u29, GETI (Tm.args p1) s5 u29 ∧ (∃ r31 : Bool, C_spec_EqualTerm u27 u29 r31 ∧ (((!r31) = true → post false) ∧ ((!r31) = false → N22 (IntKind.i64.wrap (s5 + (1 : Int))))))))) ∧ ((decide (s5 < ((List.length (Tm.args p0) : Nat) : Int))) = false → post true))) (0 : Int)))))))))
theorem w_spec_EqualTerm (p0 : Tm) (p1 : Tm) (post : Bool → Prop) (h : wp_spec_EqualTerm p0 p1 post) : ∃ r, post r ∧ C_spec_EqualTerm p0 p1 r := by
  unfold wp_spec_EqualTerm at h
  refine evs_of (encR := fun r : Bool => .one (.l (.fz (.bool r)))) (encO := fun r => []) 2 [(.tmp 4, .fz)] [.fz, .fz] Try.func13 chk_spec_EqualTerm rfl rfl [(1, .p (.agg (Tm.cells p1))), (0, .p (.agg (Tm.cells p0)))] [] [] rfl ?_
  refine aw_seq (s_reg ?_)
  refine s_run 3 [(4, pB false), (3, .ptr 3 0), (2, .ptr 2 0)] [(3, [pI (Tm.kind p1), pI (Tm.n p1), pS (Tm.name p1), pL (Tm.encL (Tm.args p1))]), (2, [pI (Tm.kind p0), pI (Tm.n p0), pS (Tm.name p0), pL (Tm.encL (Tm.args p0))])] [] rfl ?_
  refine seq_n (aw_seq (aw_seq (s_reg ?_)))
  refine s_run 6 [(11, pB ((Tm.kind p0) != (Tm.kind p1))), (10, pB ((Tm.kind p0) != (Tm.kind p1))), (9, pI (Tm.kind p1)), (8, .ptr 3 0), (7, pI (Tm.kind p0)), (6, .ptr 2 0)] [] [] rfl ?_
  refine s_op_if rfl rfl (fun c1 => ?_) (fun c1 => ?_)
  · have h := h.1 c1
    refine s_run 22 [(33, pB true), (32, .p (.tup [])), (31, .p (.tup [])), (30, .p (.tup [])), (29, .p (.tup [])), (28, .p (.tup [])), (27, .p (.tup [])), (26, .p (.tup [])), (25, pB true), (24, pB true), (23, .p (.tup [])), (22, .p (.tup [])), (21, .p (.tup [])), (20, .p (.tup [])), (19, .p (.tup [])), (18, pB true), (17, pB true), (16, .p (.tup [])), (15, .p (.tup [])), (14, .p (.tup [])), (13, .p (.tup [])), (12, .p (.tup []))] [] [] rfl ?_
    refine seq_n (s_yes rfl (aw_seq (s_reg ?_)))
    refine s_run 1 [(4, pB false)] [] [] rfl ?_
    refine seq_n (aw_ret ?_)
    exact endp_ret _ h rfl
  · have h := h.2 c1
    refine s_run 7 [(18, pB ((Tm.n p0) != (Tm.n p1))), (17, pB ((Tm.n p0) != (Tm.n p1))), (16, pB ((Tm.n p0) != (Tm.n p1))), (15, pI (Tm.n p1)), (14, .ptr 3 1), (13, pI (Tm.n p0)), (12, .ptr 2 1)] [] [] rfl ?_
    refine s_op_if rfl rfl (fun c2 => ?_) (fun c2 => ?_)
    · have h := h.1 c2
      refine s_run 15 [(33, pB true), (32, .p (.tup [])), (31, .p (.tup [])), (30, .p (.tup [])), (29, .p (.tup [])), (28, .p (.tup [])), (27, .p (.tup [])), (26, .p (.tup [])), (25, pB true), (24, pB true), (23, .p (.tup [])), (22, .p (.tup [])), (21, .p (.tup [])), (20, .p (.tup [])), (19, .p (.tup []))] [] [] rfl ?_
      refine seq_n (s_yes rfl (aw_seq (s_reg ?_)))
      refine s_run 1 [(4, pB false)] [] [] rfl ?_
      refine seq_n (aw_ret ?_)
      exact endp_ret _ h rfl
    · have h := h.2 c2
      refine s_run 7 [(25, pB (!((Tm.name p0) == (Tm.name p1)))), (24, pB (!((Tm.name p0) == (Tm.name p1)))), (23, pB (!((Tm.name p0) == (Tm.name p1)))), (22, pS (Tm.name p1)), (21, .ptr 3 2), (20, pS (Tm.name p0)), (19, .ptr 2 2)] [] [] rfl ?_
      refine s_op_if rfl rfl (fun c3 => ?_) (fun c3 => ?_)
      · have h := h.1 c3
        refine s_run 8 [(33, pB true), (32, .p (.tup [])), (31, .p (.tup [])), (30, .p (.tup [])), (29, .p (.tup [])), (28, .p (.tup [])), (27, .p (.tup [])), (26, .p (.tup []))] [] [] rfl ?_
        refine seq_n (s_yes rfl (aw_seq (s_reg ?_)))
        refine s_run 1 [(4, pB false)] [] [] rfl ?_
        refine seq_n (aw_ret ?_)
        exact endp_ret _ h rfl
      · have h := h.2 c3
        refine s_run 2 [(27, pL (Tm.encL (Tm.args p0))), (26, .ptr 2 3)] [] [] rfl ?_
        refine s_on rfl ?_
        refine s_len rfl (enc_len (e := Tm.encL) _) ?_
        refine s_run 2 [(30, pL (Tm.encL (Tm.args p1))), (29, .ptr 3 3)] [] [] rfl ?_
        refine s_on rfl ?_
        refine s_len rfl (enc_len (e := Tm.encL) _) ?_
        refine s_run 2 [(33, pB (((List.length (Tm.args p0) : Nat) : Int) != ((List.length (Tm.args p1) : Nat) : Int))), (32, pB (((List.length (Tm.args p0) : Nat) : Int) != ((List.length (Tm.args p1) : Nat) : Int)))] [] [] rfl ?_
        refine seq_n (s_if rfl (fun c4 => ?_) (fun c4 => ?_))
        · have h := h.1 c4
          refine aw_seq (s_reg ?_)
          refine s_run 1 [(4, pB false)] [] [] rfl ?_
          refine seq_n (aw_ret ?_)
          exact endp_ret _ h rfl
        · have h := h.2 c4
          refine aw_skip (seq_n (aw_wk (St [(2, .ptr 2 0), (3, .ptr 3 0)] [(2, [pI (Tm.kind p0), pI (Tm.n p0), pS (Tm.name p0), pL (Tm.encL (Tm.args p0))]), (3, [pI (Tm.kind p1), pI (Tm.n p1), pS (Tm.name p1), pL (Tm.encL (Tm.args p1))])] []) (wk_St ⟨le_rfl _, le_rfl _, trivial⟩ ⟨box_rfl rfl, box_rfl rfl, trivial⟩ trivial rfl ⟨rfl, rfl, trivial⟩ ⟨rfl, rfl, trivial⟩) ?_))
          refine aw_seq (aw_seq (s_reg ?_))
          refine s_run 1 [(5, pI (0 : Int))] [] [] rfl ?_
          refine seq_n (aw_blk ?_)
          obtain ⟨I24, m25, h0, h⟩ := h
          refine aw_loop' (ι := { y : Int // I24 y }) (fun x23 => St [(2, .ptr 2 0), (3, .ptr 3 0), (5, pI x23.1)] [(2, [pI (Tm.kind p0), pI (Tm.n p0), pS (Tm.name p0), pL (Tm.encL (Tm.args p0))]), (3, [pI (Tm.kind p1), pI (Tm.n p1), pS (Tm.name p1), pL (Tm.encL (Tm.args p1))])] []) (fun x23 => m25 x23.1) ⟨_, h0⟩ ?_ ?_
          · exact wk_St ⟨le_rfl _, le_rfl _, le_rfl _, trivial⟩ ⟨box_rfl rfl, box_rfl rfl, trivial⟩ trivial rfl ⟨rfl, rfl, trivial⟩ ⟨rfl, rfl, trivial⟩
          · rintro ⟨s5, hs5⟩
            replace h := h s5 hs5
            refine aw_seq (aw_seq (s_reg ?_))
            refine s_run 3 [(36, pL (Tm.encL (Tm.args p0))), (35, .ptr 2 3), (34, pI s5)] [] [] rfl ?_
            refine s_len rfl (enc_len (e := Tm.encL) _) ?_
            refine s_run 1 [(38, pB (decide (s5 < ((List.length (Tm.args p0) : Nat) : Int))))] [] [] rfl ?_
            refine seq_n (s_if rfl (fun c26 => ?_) (fun c26 => ?_))
            · have h := h.1 c26
              refine aw_skip (seq_n (aw_wk (St [(2, .ptr 2 0), (3, .ptr 3 0), (5, pI s5)] [(2, [pI (Tm.kind p0), pI (Tm.n p0), pS (Tm.name p0), pL (Tm.encL (Tm.args p0))]), (3, [pI (Tm.kind p1), pI (Tm.n p1), pS (Tm.name p1), pL (Tm.encL (Tm.args p1))])] []) (wk_St ⟨le_rfl _, le_rfl _, le_rfl _, trivial⟩ ⟨box_rfl rfl, box_rfl rfl, trivial⟩ trivial rfl ⟨rfl, rfl, trivial⟩ ⟨rfl, rfl, trivial⟩) ?_))
              refine aw_seq (aw_blk (aw_seq (s_reg ?_)))
              refine s_run 3 [(43, pI s5), (42, pL (Tm.encL (Tm.args p0))), (41, .ptr 2 3)] [] [] rfl ?_
              obtain ⟨u27, ⟨g28a, g28b⟩, h⟩ := h
              refine s_ia rfl rfl g28a (enc_get (e := Tm.encL) g28b) rfl ?_
              refine s_run 4 [(48, pI s5), (47, pL (Tm.encL (Tm.args p1))), (46, .ptr 3 3), (45, .p (.agg (Tm.cells u27)))] [] [] rfl ?_
              obtain ⟨u29, ⟨g30a, g30b⟩, h⟩ := h
              refine s_ia rfl rfl g30a (enc_get (e := Tm.encL) g30b) rfl ?_
              refine s_run 1 [(50, .p (.agg (Tm.cells u29)))] [] [] rfl ?_
              obtain ⟨r31, k32, h⟩ := h
              refine s_call (pB r31) [] [] rfl k32 rfl ?_
              refine s_run 1 [(52, pB (!r31))] [] [] rfl ?_
              refine seq_n (s_if rfl (fun c33 => ?_) (fun c33 => ?_))
              · have h := h.1 c33
                refine aw_seq (s_reg ?_)
                refine s_run 1 [(4, pB false)] [] [] rfl ?_
                refine seq_n (aw_ret ?_)
                exact endp_ret _ h rfl
              · have h := h.2 c33
                refine aw_skip (blk_n (seq_n (aw_wk (St [(2, .ptr 2 0), (3, .ptr 3 0), (5, pI s5)] [(2, [pI (Tm.kind p0), pI (Tm.n p0), pS (Tm.name p0), pL (Tm.encL (Tm.args p0))]), (3, [pI (Tm.kind p1), pI (Tm.n p1), pS (Tm.name p1), pL (Tm.encL (Tm.args p1))])] []) (wk_St ⟨le_rfl _, le_rfl _, le_rfl _, trivial⟩ ⟨box_rfl rfl, box_rfl rfl, trivial⟩ trivial rfl ⟨rfl, rfl, trivial⟩ ⟨rfl, rfl, trivial⟩) ?_)))
                refine s_reg ?_
                refine s_run 3 [(5, pI (IntKind.i64.wrap (s5 + (1 : Int)))), (40, pI (IntKind.i64.wrap (s5 + (1 : Int)))), (39, pI s5)] [] [] rfl ?_
                exact loop_n ⟨_, h.1⟩ h.2 (wk_St ⟨le_rfl _, le_rfl _, le_rfl _, trivial⟩ ⟨box_rfl rfl, box_rfl rfl, trivial⟩ trivial rfl ⟨rfl, rfl, trivial⟩ ⟨rfl, rfl, trivial⟩)
            · have h := h.2 c26
              refine aw_exit (seq_x (loop_x (blk_x (seq_n (aw_seq (s_reg ?_))))))
              refine s_run 1 [(4, pB true)] [] [] rfl ?_
              refine seq_n (aw_ret ?_)
              exact endp_ret _ h rfl


def ac_spec_SameSubst : AC :=
  .seq (.reg false [
    { dst := some 4, k := .mv (.c (.bool false)) }])
  (.seq (.reg false [
    { dst := some 8, k := .bs 5 [] },
    { dst := some 9, k := .mv (.t 0) },
    { dst := some 10, k := .app (.t 8) (.t 9) 5 72 },
    { dst := some 11, k := .mv (.t 1) },
    { dst := some 12, k := .app (.t 10) (.t 11) 5 72 },
    { dst := some 5, k := .mv (.t 12) }])
  (.wk (.seq (.seq (.reg false [
    { dst := some 6, k := .mv (.c (.int .i64 (0))) }])
  (.block 0 (.loop (.seq (.seq (.reg false [
        { dst := some 13, k := .mv (.t 6) },
        { dst := some 14, k := .mv (.t 5) },
        { dst := some 15, k := .len (.t 14) },
        { dst := some 16, k := .bin .lss (.t 13) (.t 15) }])
      (.cond (.t 16) (.skip)
      (.exit 0)))
      (.wk (.seq (.block 1 (.seq (.reg false [
          { dst := some 19, k := .mv (.t 5) },
          { dst := some 20, k := .mv (.t 6) },
          { dst := some 21, k := .ia (.t 19) (.t 20) 5 },
          { dst := some 22, k := .fa (.t 21) 0 },
          { dst := some 23, k := .ld (.t 22) 1 false },
          { dst := some 24, k := .call 57 [(.t 23, .fz)] },
          { dst := some 7, k := .al [.p (.int .i64 0), .p (.int .i64 0), .p (.str []), .p (.slice [])] },
          { dst := none, k := .st (.t 7) (.t 24) 4 7 }])
        (.wk (.seq (.reg true [
          { dst := some 25, k := .mv (.t 0) },
          { dst := some 26, k := .ld (.t 7) 4 true, vb := .only [7] },
          { dst := some 27, k := .call 46 [(.t 25, .fz), (.t 26, .fz)], vb := .but [7], vl := .but [7] },
          { dst := some 28, k := .mv (.t 1) },
          { dst := some 29, k := .ld (.t 7) 4 true, vb := .only [7] },
          { dst := some 30, k := .call 46 [(.t 28, .fz), (.t 29, .fz)] },
          { dst := some 31, k := .call 13 [(.t 27, .fz), (.t 30, .fz)] },
          { dst := some 32, k := .un .not (.t 31) }])
        (.cond (.t 32) (.seq (.reg false [
            { dst := some 4, k := .mv (.c (.bool false)) }])
          (.ret))
        (.skip))))))
      (.wk (.reg false [
        { dst := some 17, k := .mv (.t 6) },
        { dst := some 18, k := .bin .add (.t 17) (.c (.int .i64 (1))) },
        { dst := some 6, k := .mv (.t 18) }]))))))))
  (.seq (.reg false [
    { dst := some 4, k := .mv (.c (.bool true)) }])
  (.ret)))))
theorem chk_spec_SameSubst : fnOK Try.prog 2 Try.f26 ac_spec_SameSubst [(.tmp 4, .fz)] = true := by kernel_rfl
def wp_spec_SameSubst (p0 : (List Bd)) (p1 : (List Bd)) (post : Bool → Prop) : Prop :=
  ((List.length ([] : List Bd) + List.length p0) * 72 ≤ 140737488355328 ∧ ((List.length (([] : List Bd) ++ p0) + List.length p1) * 72 ≤ 140737488355328 ∧ LOOP (fun (N28 : Int → Prop) (s3 : Int) => (((decide (s3 < ((List.length ((([] : List Bd) ++ p0) ++ p1) : Nat) : Int))) = true → (∃ u33, GETI ((([] : List Bd) ++ p0) ++ p1) s3 u33 ∧ (∃ r35 : Tm, C_spec_l3Var (Bd.name u33) r35 ∧ (∃ r37 : Tm, C_spec_ApplySubst p0 r35 r37 ∧ (∃ r39 : Tm, C_spec_ApplySubst p1 r35 r39 ∧ (∃ r41 : Bool, C_spec_EqualTerm r37 r39 r41 ∧ (((!r41) = true → post false) ∧ ((!r41) = false → N28 (IntKind.i64.wrap (s3 + (1 : Int))))))))))) ∧ ((decide (s3 < ((List.length ((([] : List Bd) ++ p0) ++ p1) : Nat) : Int))) = false → post true))) (0 : Int)))
theorem w_spec_SameSubst (p0 : (List Bd)) (p1 : (List Bd)) (post : Bool → Prop) (h : wp_spec_SameSubst p0 p1 post) : ∃ r, post r ∧ C_spec_SameSubst p0 p1 r := by
  unfold wp_spec_SameSubst at h
  refine evs_of (encR := fun r : Bool => .one (.l (.fz (.bool r)))) (encO := fun r => []) 2 [(.tmp 4, .fz)] [.fz, .fz] Try.func26 chk_spec_SameSubst rfl rfl [(1, pL (e_Bd p1)), (0, pL (e_Bd p0))] [] [] rfl ?_
  refine aw_seq (s_reg ?_)
  refine s_run 1 [(4, pB false)] [] [] rfl ?_
  refine seq_n (aw_seq (s_reg ?_))
  refine s_bs rfl rfl (enc_nil (e := e_Bd)) ?_
  refine s_run 1 [(9, pL (e_Bd p0))] [] [] rfl ?_
  obtain ⟨g1, h⟩ := h
  refine s_app rfl rfl rfl (enc_sz (e := e_Bd) _) (enc_len (e := e_Bd) _) (enc_len (e := e_Bd) _) g1 (enc_app (e := e_Bd) _ _) ?_
  refine s_run 1 [(11, pL (e_Bd p1))] [] [] rfl ?_
  obtain ⟨g2, h⟩ := h
  refine s_app rfl rfl rfl (enc_sz (e := e_Bd) _) (enc_len (e := e_Bd) _) (enc_len (e := e_Bd) _) g2 (enc_app (e := e_Bd) _ _) ?_
  refine s_run 1 [(5, .tip (0, 8, 0) (0) (e_Bd ((([] : List Bd) ++ p0) ++ p1)))] [] [] rfl ?_
  refine seq_n (aw_wk (St [(0, pL (e_Bd p0)), (1, pL (e_Bd p1)), (5, .tip (0, 8, 0) (0) (e_Bd ((([] : List Bd) ++ p0) ++ p1)))] [] [((0, 8, 0), 0, .tip (e_Bd ((([] : List Bd) ++ p0) ++ p1)).length 5)]) (wk_St ⟨le_rfl _, le_rfl _, le_rfl _, trivial⟩ trivial ⟨rfl, trivial⟩ rfl ⟨rfl, rfl, trivial⟩ ⟨rfl, rfl, trivial⟩) ?_)
  refine aw_seq (aw_seq (s_reg ?_))
  refine s_run 1 [(6, pI (0 : Int))] [] [] rfl ?_
  refine seq_n (aw_blk ?_)
  obtain ⟨I30, m31, h0, h⟩ := h
  refine aw_loop' (ι := { y : Int // I30 y }) (fun x29 => St [(0, pL (e_Bd p0)), (1, pL (e_Bd p1)), (5, .tip (0, 8, 0) (0) (e_Bd ((([] : List Bd) ++ p0) ++ p1))), (6, pI x29.1)] [] [((0, 8, 0), 0, .tip (e_Bd ((([] : List Bd) ++ p0) ++ p1)).length 5)]) (fun x29 => m31 x29.1) ⟨_, h0⟩ ?_ ?_
  · exact wk_St ⟨le_rfl _, le_rfl _, le_rfl _, le_rfl _, trivial⟩ trivial ⟨rfl, trivial⟩ rfl ⟨rfl, rfl, trivial⟩ ⟨rfl, rfl, trivial⟩
  · rintro ⟨s3, hs3⟩
    replace h := h s3 hs3
    refine aw_seq (aw_seq (s_reg ?_))
    refine s_run 2 [(14, .tip (0, 8, 0) (0) (e_Bd ((([] : List Bd) ++ p0) ++ p1))), (13, pI s3)] [] [] rfl ?_
    refine s_len rfl (enc_len (e := e_Bd) _) ?_
    refine s_run 1 [(16, pB (decide (s3 < ((List.length ((([] : List Bd) ++ p0) ++ p1) : Nat) : Int))))] [] [] rfl ?_
    refine seq_n (s_if rfl (fun c32 => ?_) (fun c32 => ?_))
    · have h := h.1 c32
      refine aw_skip (seq_n (aw_wk (St [(0, pL (e_Bd p0)), (1, pL (e_Bd p1)), (5, .tip (0, 8, 0) (0) (e_Bd ((([] : List Bd) ++ p0) ++ p1))), (6, pI s3)] [] [((0, 8, 0), 0, .tip (e_Bd ((([] : List Bd) ++ p0) ++ p1)).length 5)]) (wk_St ⟨le_rfl _, le_rfl _, le_rfl _, le_rfl _, trivial⟩ trivial ⟨rfl, trivial⟩ rfl ⟨rfl, rfl, trivial⟩ ⟨rfl, rfl, trivial⟩) ?_))
      refine aw_seq (aw_blk (aw_seq (s_reg ?_)))
      refine s_run 2 [(20, pI s3), (19, .tip (0, 8, 0) (0) (e_Bd ((([] : List Bd) ++ p0) ++ p1)))] [] [] rfl ?_
      obtain ⟨u33, ⟨g34a, g34b⟩, h⟩ := h
      refine s_ia rfl rfl g34a (enc_get (e := e_Bd) g34b) rfl ?_
      refine s_run 2 [(23, pS (Bd.name u33)), (22, .p (.cptr (Bd.cells u33)))] [] [] rfl ?_
      obtain ⟨r35, k36, h⟩ := h
      refine s_call (.agg [pI (Tm.kind r35), pI (Tm.n r35), pS (Tm.name r35), .tip (2, 24, 3) (0) (Tm.encL (Tm.args r35))]) [] [((2, 24, 3), 0, .tip (Tm.encL (Tm.args r35)).length 4)] (args_one rfl (args_nil)) k36 rfl ?_
      refine s_run 2 [(7, .ptr 7 0)] [(7, [pI (Tm.kind r35), pI (Tm.n r35), pS (Tm.name r35), .tip (2, 24, 3) (0) (Tm.encL (Tm.args r35))]), (7, [pI (0 : Int), pI (0 : Int), pS ([] : Str), pL (Tm.encL ([] : List Tm))])] [] rfl ?_
      refine seq_n (aw_wk (St [(0, pL (e_Bd p0)), (1, pL (e_Bd p1)), (5, .tip (0, 8, 0) (0) (e_Bd ((([] : List Bd) ++ p0) ++ p1))), (6, pI s3), (7, .ptr 7 0)] [(7, [pI (Tm.kind r35), pI (Tm.n r35), pS (Tm.name r35), .tip (2, 24, 3) (0) (Tm.encL (Tm.args r35))])] [((0, 8, 0), 0, .tip (e_Bd ((([] : List Bd) ++ p0) ++ p1)).length 5), ((2, 24, 3), 0, .tip (Tm.encL (Tm.args r35)).length 4)]) (wk_St ⟨le_rfl _, le_rfl _, le_rfl _, le_rfl _, le_rfl _, trivial⟩ ⟨box_rfl rfl, trivial⟩ ⟨rfl, rfl, trivial⟩ rfl ⟨rfl, rfl, trivial⟩ ⟨rfl, rfl, trivial⟩) ?_)
      refine aw_seq (s_reg ?_)
      refine s_run 2 [(26, .agg [pI (Tm.kind r35), pI (Tm.n r35), pS (Tm.name r35), .tip (2, 24, 3) (0) (Tm.encL (Tm.args r35))]), (25, pL (e_Bd p0))] [] [] rfl ?_
      obtain ⟨r37, k38, h⟩ := h
      refine s_call (.p (.agg (Tm.cells r37))) [] [] rfl k38 rfl ?_
      refine s_run 2 [(29, .agg [pI (Tm.kind r35), pI (Tm.n r35), pS (Tm.name r35), .tip (2, 24, 3) (0) (Tm.encL (Tm.args r35))]), (28, pL (e_Bd p1))] [] [] rfl ?_
      obtain ⟨r39, k40, h⟩ := h
      refine s_call (.p (.agg (Tm.cells r39))) [] [] rfl k40 rfl ?_
      obtain ⟨r41, k42, h⟩ := h
      refine s_call (pB r41) [] [] rfl k42 rfl ?_
      refine s_run 1 [(32, pB (!r41))] [] [] rfl ?_
      refine seq_n (s_if rfl (fun c43 => ?_) (fun c43 => ?_))
      · have h := h.1 c43
        refine aw_seq (s_reg ?_)
        refine s_run 1 [(4, pB false)] [] [] rfl ?_
        refine seq_n (aw_ret ?_)
        exact endp_ret _ h rfl
      · have h := h.2 c43
        refine aw_skip (blk_n (seq_n (aw_wk (St [(0, pL (e_Bd p0)), (1, pL (e_Bd p1)), (5, .tip (0, 8, 0) (0) (e_Bd ((([] : List Bd) ++ p0) ++ p1))), (6, pI s3)] [] [((0, 8, 0), 0, .tip (e_Bd ((([] : List Bd) ++ p0) ++ p1)).length 5)]) (wk_St ⟨le_rfl _, le_rfl _, le_rfl _, le_rfl _, trivial⟩ trivial ⟨rfl, trivial⟩ rfl ⟨rfl, rfl, trivial⟩ ⟨rfl, rfl, trivial⟩) ?_)))
        refine s_reg ?_
        refine s_run 3 [(6, pI (IntKind.i64.wrap (s3 + (1 : Int)))), (18, pI (IntKind.i64.wrap (s3 + (1 : Int)))), (17, pI s3)] [] [] rfl ?_
        exact loop_n ⟨_, h.1⟩ h.2 (wk_St ⟨le_rfl _, le_rfl _, le_rfl _, le_rfl _, trivial⟩ trivial ⟨rfl, trivial⟩ rfl ⟨rfl, rfl, trivial⟩ ⟨rfl, rfl, trivial⟩)
    · have h := h.2 c32
      refine aw_exit (seq_x (loop_x (blk_x (seq_n (aw_seq (s_reg ?_))))))
      refine s_run 1 [(4, pB true)] [] [] rfl ?_
      refine seq_n (aw_ret ?_)
      exact endp_ret _ h rfl


def ac_spec_l22Binds : AC :=
  .seq (.reg false [
    { dst := some 4, k := .mv (.c (.bool false)) }])
  (.seq (.seq (.reg false [
    { dst := some 6, k := .mv (.t 0) },
    { dst := some 7, k := .len (.t 6) },
    { dst := some 8, k := .mv (.t 1) },
    { dst := some 9, k := .len (.t 8) },
    { dst := some 10, k := .bin .neq (.t 7) (.t 9) }])
  (.cond (.t 10) (.seq (.reg false [
      { dst := some 4, k := .mv (.c (.bool false)) }])
    (.ret))
  (.skip)))
  (.wk (.seq (.seq (.reg false [
    { dst := some 5, k := .mv (.c (.int .i64 (0))) }])
  (.block 0 (.loop (.seq (.seq (.reg false [
        { dst := some 11, k := .mv (.t 5) },
        { dst := some 12, k := .mv (.t 0) },
        { dst := some 13, k := .len (.t 12) },
        { dst := some 14, k := .bin .lss (.t 11) (.t 13) }])
      (.cond (.t 14) (.skip)
      (.exit 0)))
      (.wk (.seq (.block 1 (.seq (.reg true [
          { dst := some 17, k := .mv (.t 0) },
          { dst := some 18, k := .mv (.t 5) },
          { dst := some 19, k := .ia (.t 17) (.t 18) 5 },
          { dst := some 20, k := .fa (.t 19) 0 },
          { dst := some 21, k := .ld (.t 20) 1 false, vb := .only [] },
          { dst := some 22, k := .mv (.t 1) },
          { dst := some 23, k := .mv (.t 5) },
          { dst := some 24, k := .ia (.t 22) (.t 23) 5 },
          { dst := some 25, k := .fa (.t 24) 0 },
          { dst := some 26, k := .ld (.t 25) 1 false, vb := .only [] },
          { dst := some 27, k := .bin .neq (.t 21) (.t 26) },
          { dst := some 28, k := .mv (.t 27) },
          { dst := some 29, k := .mv (.t 0), g := some (28, false) },
          { dst := some 30, k := .mv (.t 5), g := some (28, false) },
          { dst := some 31, k := .ia (.t 29) (.t 30) 5, g := some (28, false) },
          { dst := some 32, k := .fa (.t 31) 1, g := some (28, false) },
          { dst := some 33, k := .ld (.t 32) 4 true, g := some (28, false), vb := .only [] },
          { dst := some 34, k := .mv (.t 1), g := some (28, false) },
          { dst := some 35, k := .mv (.t 5), g := some (28, false) },
          { dst := some 36, k := .ia (.t 34) (.t 35) 5, g := some (28, false) },
          { dst := some 37, k := .fa (.t 36) 1, g := some (28, false) },
          { dst := some 38, k := .ld (.t 37) 4 true, g := some (28, false), vb := .only [] },
          { dst := some 39, k := .call 13 [(.t 33, .fz), (.t 38, .fz)], g := some (28, false) },
          { dst := some 40, k := .un .not (.t 39), g := some (28, false) },
          { dst := some 41, k := .pick (.t 28) (.c (.bool true)) (.t 40) }])
        (.cond (.t 41) (.seq (.reg false [
            { dst := some 4, k := .mv (.c (.bool false)) }])
          (.ret))
        (.skip))))
      (.wk (.reg false [
        { dst := some 15, k := .mv (.t 5) },
        { dst := some 16, k := .bin .add (.t 15) (.c (.int .i64 (1))) },
        { dst := some 5, k := .mv (.t 16) }]))))))))
  (.seq (.reg false [
    { dst := some 4, k := .mv (.c (.bool true)) }])
  (.ret)))))
theorem chk_spec_l22Binds : fnOK Try.prog 2 Try.f66 ac_spec_l22Binds [(.tmp 4, .fz)] = true := by kernel_rfl
def wp_spec_l22Binds (p0 : (List Bd)) (p1 : (List Bd)) (post : Bool → Prop) : Prop :=
  (((((List.length p0 : Nat) : Int) != ((List.length p1 : Nat) : Int)) = true → post false) ∧ ((((List.length p0 : Nat) : Int) != ((List.length p1 : Nat) : Int)) = false → LOOP (fun (N29 : Int → Prop) (s2 : Int) => (((decide (s2 < ((List.length p0 : Nat) : Int))) = true → (∃ u34, GETI p0 s2 u34 ∧ (∃ u36, GETI p1 s2 u36 ∧ (((!((Bd.name u34) == (Bd.name u36))) = true → post false) ∧ ((!((Bd.name u34) == (Bd.name u36))) = false → (∃ u39, GETI p0 s2 u39 ∧ (∃ u41, GETI p1 s2 u41 ∧ (∃ r43 : Bool, C_spec_EqualTerm (Bd.term u39) (Bd.term u41) r43 ∧ (((!r43) = true → post false) ∧ ((!r43) = false → N29 (IntKind.i64.wrap (s2 + (1 : Int))))))))))))) ∧ ((decide (s2 < ((List.length p0 : Nat) : Int))) = false → post true))) (0 : Int)))
theorem w_spec_l22Binds (p0 : (List Bd)) (p1 : (List Bd)) (post : Bool → Prop) (h : wp_spec_l22Binds p0 p1 post) : ∃ r, post r ∧ C_spec_l22Binds p0 p1 r := by
  unfold wp_spec_l22Binds at h
  refine evs_of (encR := fun r : Bool => .one (.l (.fz (.bool r)))) (encO := fun r => []) 2 [(.tmp 4, .fz)] [.fz, .fz] Try.func66 chk_spec_l22Binds rfl rfl [(1, pL (e_Bd p1)), (0, pL (e_Bd p0))] [] [] rfl ?_
  refine aw_seq (s_reg ?_)
  refine s_run 1 [(4, pB false)] [] [] rfl ?_
  refine seq_n (aw_seq (aw_seq (s_reg ?_)))
  refine s_run 1 [(6, pL (e_Bd p0))] [] [] rfl ?_
  refine s_len rfl (enc_len (e := e_Bd) _) ?_
  refine s_run 1 [(8, pL (e_Bd p1))] [] [] rfl ?_
  refine s_len rfl (enc_len (e := e_Bd) _) ?_
  refine s_run 1 [(10, pB (((List.length p0 : Nat) : Int) != ((List.length p1 : Nat) : Int)))] [] [] rfl ?_
  refine seq_n (s_if rfl (fun c1 => ?_) (fun c1 => ?_))
  · have h := h.1 c1
    refine aw_seq (s_reg ?_)
    refine s_run 1 [(4, pB false)] [] [] rfl ?_
    refine seq_n (aw_ret ?_)
    exact endp_ret _ h rfl
  · have h := h.2 c1
    refine aw_skip (seq_n (aw_wk (St [(0, pL (e_Bd p0)), (1, pL (e_Bd p1))] [] []) (wk_St ⟨le_rfl _, le_rfl _, trivial⟩ trivial trivial rfl ⟨rfl, rfl, trivial⟩ ⟨rfl, rfl, trivial⟩) ?_))
    refine aw_seq (aw_seq (s_reg ?_))
    refine s_run 1 [(5, pI (0 : Int))] [] [] rfl ?_
    refine seq_n (aw_blk ?_)
    obtain ⟨I31, m32, h0, h⟩ := h
    refine aw_loop' (ι := { y : Int // I31 y }) (fun x30 => St [(0, pL (e_Bd p0)), (1, pL (e_Bd p1)), (5, pI x30.1)] [] []) (fun x30 => m32 x30.1) ⟨_, h0⟩ ?_ ?_
    · exact wk_St ⟨le_rfl _, le_rfl _, le_rfl _, trivial⟩ trivial trivial rfl ⟨rfl, rfl, trivial⟩ ⟨rfl, rfl, trivial⟩
    · rintro ⟨s2, hs2⟩
      replace h := h s2 hs2
      refine aw_seq (aw_seq (s_reg ?_))
      refine s_run 2 [(12, pL (e_Bd p0)), (11, pI s2)] [] [] rfl ?_
      refine s_len rfl (enc_len (e := e_Bd) _) ?_
      refine s_run 1 [(14, pB (decide (s2 < ((List.length p0 : Nat) : Int))))] [] [] rfl ?_
      refine seq_n (s_if rfl (fun c33 => ?_) (fun c33 => ?_))
      · have h := h.1 c33
        refine aw_skip (seq_n (aw_wk (St [(0, pL (e_Bd p0)), (1, pL (e_Bd p1)), (5, pI s2)] [] []) (wk_St ⟨le_rfl _, le_rfl _, le_rfl _, trivial⟩ trivial trivial rfl ⟨rfl, rfl, trivial⟩ ⟨rfl, rfl, trivial⟩) ?_))
        refine aw_seq (aw_blk (aw_seq (s_reg ?_)))
        refine s_run 2 [(18, pI s2), (17, pL (e_Bd p0))] [] [] rfl ?_
        obtain ⟨u34, ⟨g35a, g35b⟩, h⟩ := h
        refine s_ia rfl rfl g35a (enc_get (e := e_Bd) g35b) rfl ?_
        refine s_run 4 [(23, pI s2), (22, pL (e_Bd p1)), (21, pS (Bd.name u34)), (20, .p (.cptr (Bd.cells u34)))] [] [] rfl ?_
        obtain ⟨u36, ⟨g37a, g37b⟩, h⟩ := h
        refine s_ia rfl rfl g37a (enc_get (e := e_Bd) g37b) rfl ?_
        refine s_run 4 [(28, pB (!((Bd.name u34) == (Bd.name u36)))), (27, pB (!((Bd.name u34) == (Bd.name u36)))), (26, pS (Bd.name u36)), (25, .p (.cptr (Bd.cells u36)))] [] [] rfl ?_
        refine s_op_if rfl rfl (fun c38 => ?_) (fun c38 => ?_)
        · have h := h.1 c38
          refine s_run 13 [(41, pB true), (40, .p (.tup [])), (39, .p (.tup [])), (38, .p (.tup [])), (37, .p (.tup [])), (36, .p (.tup [])), (35, .p (.tup [])), (34, .p (.tup [])), (33, .p (.tup [])), (32, .p (.tup [])), (31, .p (.tup [])), (30, .p (.tup [])), (29, .p (.tup []))] [] [] rfl ?_
          refine seq_n (s_yes rfl (aw_seq (s_reg ?_)))
          refine s_run 1 [(4, pB false)] [] [] rfl ?_
          refine seq_n (aw_ret ?_)
          exact endp_ret _ h rfl
        · have h := h.2 c38
          refine s_run 2 [(30, pI s2), (29, pL (e_Bd p0))] [] [] rfl ?_
          refine s_on rfl ?_
          obtain ⟨u39, ⟨g40a, g40b⟩, h⟩ := h
          refine s_ia rfl rfl g40a (enc_get (e := e_Bd) g40b) rfl ?_
          refine s_run 4 [(35, pI s2), (34, pL (e_Bd p1)), (33, .p (.agg (Tm.cells (Bd.term u39)))), (32, .p (.cptr (List.drop 1 (Bd.cells u39))))] [] [] rfl ?_
          refine s_on rfl ?_
          obtain ⟨u41, ⟨g42a, g42b⟩, h⟩ := h
          refine s_ia rfl rfl g42a (enc_get (e := e_Bd) g42b) rfl ?_
          refine s_run 2 [(38, .p (.agg (Tm.cells (Bd.term u41)))), (37, .p (.cptr (List.drop 1 (Bd.cells u41))))] [] [] rfl ?_
          refine s_on rfl ?_
          obtain ⟨r43, k44, h⟩ := h
          refine s_call (pB r43) [] [] rfl k44 rfl ?_
          refine s_run 2 [(41, pB (!r43)), (40, pB (!r43))] [] [] rfl ?_
          refine seq_n (s_if rfl (fun c45 => ?_) (fun c45 => ?_))
          · have h := h.1 c45
            refine aw_seq (s_reg ?_)
            refine s_run 1 [(4, pB false)] [] [] rfl ?_
            refine seq_n (aw_ret ?_)
            exact endp_ret _ h rfl
          · have h := h.2 c45
            refine aw_skip (blk_n (seq_n (aw_wk (St [(0, pL (e_Bd p0)), (1, pL (e_Bd p1)), (5, pI s2)] [] []) (wk_St ⟨le_rfl _, le_rfl _, le_rfl _, trivial⟩ trivial trivial rfl ⟨rfl, rfl, trivial⟩ ⟨rfl, rfl, trivial⟩) ?_)))
            refine s_reg ?_
            refine s_run 3 [(5, pI (IntKind.i64.wrap (s2 + (1 : Int)))), (16, pI (IntKind.i64.wrap (s2 + (1 : Int)))), (15, pI s2)] [] [] rfl ?_
            exact loop_n ⟨_, h.1⟩ h.2 (wk_St ⟨le_rfl _, le_rfl _, le_rfl _, trivial⟩ trivial trivial rfl ⟨rfl, rfl, trivial⟩ ⟨rfl, rfl, trivial⟩)
      · have h := h.2 c33
        refine aw_exit (seq_x (loop_x (blk_x (seq_n (aw_seq (s_reg ?_))))))
        refine s_run 1 [(4, pB true)] [] [] rfl ?_
        refine seq_n (aw_ret ?_)
        exact endp_ret _ h rfl


def ac_spec_l1New : AC :=
  .seq (.reg false [
    { dst := some 2, k := .mv .u }])
  (.seq (.reg false [
    { dst := some 5, k := .mv (.t 0) },
    { dst := some 6, k := .len (.t 5) },
    { dst := some 7, k := .bin .add (.c (.int .i64 (26583))) (.t 6) },
    { dst := some 3, k := .mv (.t 7) }])
  (.wk (.seq (.seq (.reg false [
    { dst := some 4, k := .mv (.c (.int .i64 (0))) }])
  (.block 0 (.loop (.seq (.seq (.reg false [
        { dst := some 8, k := .mv (.t 4) },
        { dst := some 9, k := .mv (.t 0) },
        { dst := some 10, k := .len (.t 9) },
        { dst := some 11, k := .bin .lss (.t 8) (.t 10) },
        { dst := some 12, k := .mv (.t 11) },
        { dst := some 13, k := .mv (.t 4), g := some (12, true) },
        { dst := some 14, k := .bin .lss (.t 13) (.c (.int .i64 (4000))), g := some (12, true) },
        { dst := some 15, k := .pick (.t 12) (.t 14) (.c (.bool false)) }])
      (.cond (.t 15) (.skip)
      (.exit 0)))
      (.wk (.seq (.block 1 (.reg false [
          { dst := some 18, k := .mv (.t 3) },
          { dst := some 19, k := .bin .mul (.t 18) (.c (.int .i64 (131))) },
          { dst := some 20, k := .mv (.t 0) },
          { dst := some 21, k := .mv (.t 4) },
          { dst := some 22, k := .ia (.t 20) (.t 21) 1 },
          { dst := some 23, k := .ld (.t 22) 1 false },
          { dst := some 24, k := .cvi .i64 (.t 23) },
          { dst := some 25, k := .bin .add (.t 19) (.t 24) },
          { dst := some 26, k := .bin .add (.t 25) (.c (.int .i64 (7))) },
          { dst := some 27, k := .bin .and (.t 26) (.c (.int .i64 (1073741823))) },
          { dst := some 3, k := .mv (.t 27) }]))
      (.wk (.reg false [
        { dst := some 16, k := .mv (.t 4) },
        { dst := some 17, k := .bin .add (.t 16) (.c (.int .i64 (1))) },
        { dst := some 4, k := .mv (.t 17) }]))))))))
  (.wk (.seq (.reg false [
    { dst := some 28, k := .mv (.t 0) },
    { dst := some 29, k := .mv (.t 3) },
    { dst := some 30, k := .bd [.p (.slice []), .p (.int .i64 0), .p (.int .i64 0)] [(0, 1, .t 28), (2, 1, .t 29)] },
    { dst := some 31, k := .bx (.t 30) 3 },
    { dst := some 2, k := .mv (.t 31) }])
  (.ret))))))
theorem chk_spec_l1New : fnOK Try.prog 1 Try.f38 ac_spec_l1New [(.tmp 2, .io [false, false, false])] = true := by kernel_rfl
def wp_spec_l1New (p0 : (List Int)) (post : T_spec_l1Cur → Prop) : Prop :=
  LOOP (fun (N10 : (Int × Int) → Prop) (s1 : Int × Int) => (((decide (s1.1 < ((List.length p0 : Nat) : Int))) = true → (((decide (s1.1 < (4000 : Int))) = true → (∃ u16, GETI p0 s1.1 u16 ∧ N10 ((IntKind.i64.wrap (s1.1 + (1 : Int))), (IntKind.i64.wrap (((BitVec.ofInt IntKind.i64.bits (IntKind.i64.wrap ((IntKind.i64.wrap ((IntKind.i64.wrap (s1.2 * (131 : Int))) + (IntKind.i64.wrap u16))) + (7 : Int)))) &&& (BitVec.ofInt IntKind.i64.bits (1073741823 : Int))).toNat : Int))))) ∧ ((decide (s1.1 < (4000 : Int))) = false → post (T_spec_l1Cur.mk p0 (0 : Int) s1.2)))) ∧ ((decide (s1.1 < ((List.length p0 : Nat) : Int))) = false → post (T_spec_l1Cur.mk p0 (0 : Int) s1.2)))) ((0 : Int), (IntKind.i64.wrap ((26583 : Int) + ((List.length p0 : Nat) : Int))))
theorem w_spec_l1New (p0 : (List Int)) (post : T_spec_l1Cur → Prop) (h : wp_spec_l1New p0 post) : ∃ r, post r ∧ C_spec_l1New p0 r := by
  unfold wp_spec_l1New at h
  refine evs_of (encR := fun r : T_spec_l1Cur => .one (.ptr [.fz (.slice (e_u8 (T_spec_l1Cur.b r))), .fz (.int .i64 (T_spec_l1Cur.i r)), .fz (.int .i64 (T_spec_l1Cur.h r))])) (encO := fun r => []) 1 [(.tmp 2, .io [false, false, false])] [.fz] Try.func38 chk_spec_l1New rfl rfl [(0, pL (e_u8 p0))] [] [] rfl ?_
  refine aw_seq (s_reg ?_)
  refine s_run 1 [(2, .undef)] [] [] rfl ?_
  refine seq_n (aw_seq (s_reg ?_))
  refine s_run 1 [(5, pL (e_u8 p0))] [] [] rfl ?_
  refine s_len rfl (enc_len (e := e_u8) _) ?_
  refine s_run 2 [(3, pI (IntKind.i64.wrap ((26583 : Int) + ((List.length p0 : Nat) : Int)))), (7, pI (IntKind.i64.wrap ((26583 : Int) + ((List.length p0 : Nat) : Int))))] [] [] rfl ?_
  refine seq_n (aw_wk (St [(0, pL (e_u8 p0)), (3, pI (IntKind.i64.wrap ((26583 : Int) + ((List.length p0 : Nat) : Int))))] [] []) (wk_St ⟨le_rfl _, le_rfl _, trivial⟩ trivial trivial rfl ⟨rfl, trivial⟩ ⟨rfl, trivial⟩) ?_)
  refine aw_seq (aw_seq (s_reg ?_))
  refine s_run 1 [(4, pI (0 : Int))] [] [] rfl ?_
  refine seq_n (aw_blk ?_)
  obtain ⟨I12, m13, h0, h⟩ := h
  refine aw_loop' (ι := { y : Int × Int // I12 y }) (fun x11 => St [(0, pL (e_u8 p0)), (3, pI x11.1.2), (4, pI x11.1.1)] [] []) (fun x11 => m13 x11.1) ⟨_, h0⟩ ?_ ?_
  · exact wk_St ⟨le_rfl _, le_rfl _, le_rfl _, trivial⟩ trivial trivial rfl ⟨rfl, trivial⟩ ⟨rfl, trivial⟩
  · rintro ⟨s1, hs1⟩
    replace h := h s1 hs1
    refine aw_seq (aw_seq (s_reg ?_))
    refine s_run 2 [(9, pL (e_u8 p0)), (8, pI s1.1)] [] [] rfl ?_
    refine s_len rfl (enc_len (e := e_u8) _) ?_
    refine s_run 2 [(12, pB (decide (s1.1 < ((List.length p0 : Nat) : Int)))), (11, pB (decide (s1.1 < ((List.length p0 : Nat) : Int))))] [] [] rfl ?_
    refine s_op_if rfl rfl (fun c14 => ?_) (fun c14 => ?_)
    · have h := h.1 c14
      refine s_run 3 [(15, pB (decide (s1.1 < (4000 : Int)))), (14, pB (decide (s1.1 < (4000 : Int)))), (13, pI s1.1)] [] [] rfl ?_
      refine seq_n (s_if rfl (fun c15 => ?_) (fun c15 => ?_))
      · have h := h.1 c15
        refine aw_skip (seq_n (aw_wk (St [(0, pL (e_u8 p0)), (3, pI s1.2), (4, pI s1.1)] [] []) (wk_St ⟨le_rfl _, le_rfl _, le_rfl _, trivial⟩ trivial trivial rfl ⟨rfl, trivial⟩ ⟨rfl, trivial⟩) ?_))
        refine aw_seq (aw_blk (s_reg ?_))
        refine s_run 4 [(21, pI s1.1), (20, pL (e_u8 p0)), (19, pI (IntKind.i64.wrap (s1.2 * (131 : Int)))), (18, pI s1.2)] [] [] rfl ?_
        obtain ⟨u16, ⟨g17a, g17b⟩, h⟩ := h
        refine s_ia rfl rfl g17a (enc_get (e := e_u8) g17b) rfl ?_
        refine s_run 6 [(3, pI (IntKind.i64.wrap (((BitVec.ofInt IntKind.i64.bits (IntKind.i64.wrap ((IntKind.i64.wrap ((IntKind.i64.wrap (s1.2 * (131 : Int))) + (IntKind.i64.wrap u16))) + (7 : Int)))) &&& (BitVec.ofInt IntKind.i64.bits (1073741823 : Int))).toNat : Int))), (27, pI (IntKind.i64.wrap (((BitVec.ofInt IntKind.i64.bits (IntKind.i64.wrap ((IntKind.i64.wrap ((IntKind.i64.wrap (s1.2 * (131 : Int))) + (IntKind.i64.wrap u16))) + (7 : Int)))) &&& (BitVec.ofInt IntKind.i64.bits (1073741823 : Int))).toNat : Int))), (26, pI (IntKind.i64.wrap ((IntKind.i64.wrap ((IntKind.i64.wrap (s1.2 * (131 : Int))) + (IntKind.i64.wrap u16))) + (7 : Int)))), (25, pI (IntKind.i64.wrap ((IntKind.i64.wrap (s1.2 * (131 : Int))) + (IntKind.i64.wrap u16)))), (24, pI (IntKind.i64.wrap u16)), (23, .p (.int .u8 u16))] [] [] rfl ?_
        refine blk_n (seq_n (aw_wk (St [(0, pL (e_u8 p0)), (3, pI (IntKind.i64.wrap (((BitVec.ofInt IntKind.i64.bits (IntKind.i64.wrap ((IntKind.i64.wrap ((IntKind.i64.wrap (s1.2 * (131 : Int))) + (IntKind.i64.wrap u16))) + (7 : Int)))) &&& (BitVec.ofInt IntKind.i64.bits (1073741823 : Int))).toNat : Int))), (4, pI s1.1)] [] []) (wk_St ⟨le_rfl _, le_rfl _, le_rfl _, trivial⟩ trivial trivial rfl ⟨rfl, trivial⟩ ⟨rfl, trivial⟩) ?_))
        refine s_reg ?_
        refine s_run 3 [(4, pI (IntKind.i64.wrap (s1.1 + (1 : Int)))), (17, pI (IntKind.i64.wrap (s1.1 + (1 : Int)))), (16, pI s1.1)] [] [] rfl ?_
        exact loop_n ⟨_, h.1⟩ h.2 (wk_St ⟨le_rfl _, le_rfl _, le_rfl _, trivial⟩ trivial trivial rfl ⟨rfl, trivial⟩ ⟨rfl, trivial⟩)
      · have h := h.2 c15
        refine aw_exit (seq_x (loop_x (blk_x (seq_n (aw_wk (St [(0, pL (e_u8 p0)), (3, pI s1.2)] [] []) (wk_St ⟨le_rfl _, le_rfl _, trivial⟩ trivial trivial rfl ⟨rfl, trivial⟩ ⟨rfl, trivial⟩) ?_)))))
        refine aw_seq (s_reg ?_)
        refine s_run 5 [(2, .ptr 31 0), (31, .ptr 31 0), (30, .agg [pL (e_u8 p0), pI (0 : Int), pI s1.2]), (29, pI s1.2), (28, pL (e_u8 p0))] [(31, [pL (e_u8 p0), pI (0 : Int), pI s1.2])] [] rfl ?_
        refine seq_n (aw_ret ?_)
        exact endp_ret _ h (endB_of (end_one rfl (arg_io rfl rfl (leaves_one (rfl) (leaves_one (rfl) (leaves_one (rfl) (leaves_nil))))) (end_nil)) (end_nil) (of_decide_eq_true rfl) rfl rfl)
    · have h := h.2 c14
      refine s_run 3 [(15, pB false), (14, .p (.tup [])), (13, .p (.tup []))] [] [] rfl ?_
      refine seq_n (s_no rfl (aw_exit (seq_x (loop_x (blk_x (seq_n (aw_wk (St [(0, pL (e_u8 p0)), (3, pI s1.2)] [] []) (wk_St ⟨le_rfl _, le_rfl _, trivial⟩ trivial trivial rfl ⟨rfl, trivial⟩ ⟨rfl, trivial⟩) ?_)))))))
      refine aw_seq (s_reg ?_)
      refine s_run 5 [(2, .ptr 31 0), (31, .ptr 31 0), (30, .agg [pL (e_u8 p0), pI (0 : Int), pI s1.2]), (29, pI s1.2), (28, pL (e_u8 p0))] [(31, [pL (e_u8 p0), pI (0 : Int), pI s1.2])] [] rfl ?_
      refine seq_n (aw_ret ?_)
      exact endp_ret _ h (endB_of (end_one rfl (arg_io rfl rfl (leaves_one (rfl) (leaves_one (rfl) (leaves_one (rfl) (leaves_nil))))) (end_nil)) (end_nil) (of_decide_eq_true rfl) rfl rfl)


def ac_spec_l3Vars : AC :=
  .seq (.reg false [
    { dst := some 2, k := .bx (.t 0) 4 },
    { dst := some 4, k := .asg (.nl 1) }])
  (.seq (.seq (.reg false [
    { dst := some 6, k := .fa (.t 2) 0 },
    { dst := some 7, k := .ld (.t 6) 1 false },
    { dst := some 8, k := .bin .eql (.t 7) (.c (.int .i64 (1))) }])
  (.cond (.t 8) (.reg false [
      { dst := some 9, k := .mv (.t 1) },
      { dst := some 10, k := .fa (.t 2) 2 },
      { dst := some 11, k := .ld (.t 10) 1 false },
      { dst := some 12, k := .bs 1 [.t 11] },
      { dst := some 13, k := .app (.t 9) (.t 12) 1 16 },
      { dst := some 1, k := .mv (.t 13) }])
  (.skip)))
  (.wk (.seq (.seq (.reg false [
    { dst := some 5, k := .mv (.c (.int .i64 (0))) }])
  (.block 0 (.loop (.seq (.seq (.reg false [
        { dst := some 14, k := .mv (.t 5) },
        { dst := some 15, k := .fa (.t 2) 3 },
        { dst := some 16, k := .ld (.t 15) 1 false },
        { dst := some 17, k := .len (.t 16) },
        { dst := some 18, k := .bin .lss (.t 14) (.t 17) }])
      (.cond (.t 18) (.skip)
      (.exit 0)))
      (.wk (.seq (.block 1 (.reg false [
          { dst := some 21, k := .fa (.t 2) 3 },
          { dst := some 22, k := .ld (.t 21) 1 false },
          { dst := some 23, k := .mv (.t 5) },
          { dst := some 24, k := .ia (.t 22) (.t 23) 4 },
          { dst := some 25, k := .ld (.t 24) 4 true },
          { dst := some 26, k := .mv (.t 1) },
          { dst := some 27, k := .call 62 [(.t 25, .fz), (.t 26, .ow)] },
          { dst := some 1, k := .asgo (.t 27) }]))
      (.wk (.reg false [
        { dst := some 19, k := .mv (.t 5) },
        { dst := some 20, k := .bin .add (.t 19) (.c (.int .i64 (1))) },
        { dst := some 5, k := .mv (.t 20) }]))))))))
  (.seq (.reg false [
    { dst := some 28, k := .mv (.t 1) },
    { dst := some 4, k := .mv (.t 28) }])
  (.ret)))))
theorem chk_spec_l3Vars : fnOK Try.prog 2 Try.f62 ac_spec_l3Vars [(.tmp 4, .ow)] = true := by kernel_rfl
def wp_spec_l3Vars (p0 : Tm) (p1 : (List Str)) (post : (List Str) → Prop) : Prop :=
  JOIN (fun (N4 : (List Str) → Prop) => ((((Tm.kind p0) == (1 : Int)) = true → ((List.length p1 + List.length ([(Tm.name p0)] : List Str)) * 16 ≤ 140737488355328 ∧ N4 (p1 ++ ([(Tm.name p0)] : List Str)))) ∧ (((Tm.kind p0) == (1 : Int)) = false → N4 p1))) (fun (t3 : (List Str)) => LOOP (fun (N18 : (Int × (List Str)) → Prop) (s7 : Int × (List Str)) => (((decide (s7.1 < ((List.length (Tm.args p0) : Nat) : Int))) = true → (∃ u23, GETI (Tm.args p0) s7.1 u23 ∧ (∃ r25 : (List Str), C_spec_l3Vars u23 s7.2 r25 ∧ N18 ((IntKind.i64.wrap (s7.1 + (1 : Int))), r25)))) ∧ ((decide (s7.1 < ((List.length (Tm.args p0) : Nat) : Int))) = false → post s7.2))) ((0 : Int), t3))
theorem w_spec_l3Vars (p0 : Tm) (p1 : (List Str)) (post : (List Str) → Prop) (h : wp_spec_l3Vars p0 p1 post) : ∃ r, post r ∧ C_spec_l3Vars p0 p1 r := by
  unfold wp_spec_l3Vars at h
  refine evs_of (encR := fun r : (List Str) => .one (.l (.ow 1 (e_str r)))) (encO := fun r => []) 2 [(.tmp 4, .ow)] [.fz, .ow] Try.func62 chk_spec_l3Vars rfl rfl [(1, .tip (0, 1, 0) (0) (e_str p1)), (0, .p (.agg (Tm.cells p0)))] [] [((0, 1, 0), 0, .tip (e_str p1).length 1)] rfl ?_
  refine aw_seq (s_reg ?_)
  refine s_run 2 [(4, .tip (0, 4, 0) (0) (e_str ([] : List Str))), (2, .ptr 2 0)] [(2, [pI (Tm.kind p0), pI (Tm.n p0), pS (Tm.name p0), pL (Tm.encL (Tm.args p0))])] [((0, 4, 0), 0, .tip (e_str ([] : List Str)).length 1)] rfl ?_
  refine seq_n ?_
  obtain ⟨J6, hJ6, h⟩ := h
  refine aw_join (ι := { y : (List Str) // J6 y }) (fun x5 => St [(1, .tip (0, 1, 0) (0) (e_str x5.1)), (2, .ptr 2 0)] [(2, [pI (Tm.kind p0), pI (Tm.n p0), pS (Tm.name p0), pL (Tm.encL (Tm.args p0))])] [((0, 1, 0), 0, .tip (e_str x5.1).length 1)]) ?_ ?_
  · rintro ⟨t3, ht3⟩
    replace h := hJ6 t3 ht3
    refine aw_seq (aw_seq (s_reg ?_))
    refine s_run 1 [(5, pI (0 : Int))] [] [] rfl ?_
    refine seq_n (aw_blk ?_)
    obtain ⟨I20, m21, h0, h⟩ := h
    refine aw_loop' (ι := { y : (Int × (List Str)) × (Nat) // I20 y.1 }) (fun x19 => St [(1, .tip (0, 1, 0) (x19.1.2) (e_str x19.1.1.2)), (2, .ptr 2 0), (5, pI x19.1.1.1)] [(2, [pI (Tm.kind p0), pI (Tm.n p0), pS (Tm.name p0), pL (Tm.encL (Tm.args p0))])] [((0, 1, 0), x19.1.2, .tip (e_str x19.1.1.2).length 1)]) (fun x19 => m21 x19.1.1) ⟨(_, 0), h0⟩ ?_ ?_
    · exact wk_St ⟨le_rfl _, le_rfl _, le_rfl _, trivial⟩ ⟨box_rfl rfl, trivial⟩ ⟨rfl, trivial⟩ rfl ⟨rfl, rfl, trivial⟩ ⟨rfl, rfl, trivial⟩
    · rintro ⟨⟨s7, s7q⟩, hs7⟩
      replace h := h s7 hs7
      refine aw_seq (aw_seq (s_reg ?_))
      refine s_run 3 [(16, pL (Tm.encL (Tm.args p0))), (15, .ptr 2 3), (14, pI s7.1)] [] [] rfl ?_
      refine s_len rfl (enc_len (e := Tm.encL) _) ?_
      refine s_run 1 [(18, pB (decide (s7.1 < ((List.length (Tm.args p0) : Nat) : Int))))] [] [] rfl ?_
      refine seq_n (s_if rfl (fun c22 => ?_) (fun c22 => ?_))
      · have h := h.1 c22
        refine aw_skip (seq_n (aw_wk (St [(1, .tip (0, 1, 0) (s7q) (e_str s7.2)), (2, .ptr 2 0), (5, pI s7.1)] [(2, [pI (Tm.kind p0), pI (Tm.n p0), pS (Tm.name p0), pL (Tm.encL (Tm.args p0))])] [((0, 1, 0), s7q, .tip (e_str s7.2).length 1)]) (wk_St ⟨le_rfl _, le_rfl _, le_rfl _, trivial⟩ ⟨box_rfl rfl, trivial⟩ ⟨rfl, trivial⟩ rfl ⟨rfl, rfl, trivial⟩ ⟨rfl, rfl, trivial⟩) ?_))
        refine aw_seq (aw_blk (s_reg ?_))
        refine s_run 3 [(23, pI s7.1), (22, pL (Tm.encL (Tm.args p0))), (21, .ptr 2 3)] [] [] rfl ?_
        obtain ⟨u23, ⟨g24a, g24b⟩, h⟩ := h
        refine s_ia rfl rfl g24a (enc_get (e := Tm.encL) g24b) rfl ?_
        refine s_run 2 [(26, .tip (0, 1, 0) (s7q) (e_str s7.2)), (25, .p (.agg (Tm.cells u23)))] [] [] rfl ?_
        obtain ⟨r25, k26, h⟩ := h
        refine s_call (.tip (0, 27, 0) (0) (e_str r25)) [] [((0, 1, 0), s7q + 1, .spent), ((0, 27, 0), 0, .tip (e_str r25).length 1)] (args_one rfl (args_one (arg_own rfl rfl) (args_nil))) k26 rfl ?_
        refine s_asgo (g := (0, 27, 0)) (r := 0) (q := s7q + 1 + 1) (sz := 1) (xs := e_str r25) rfl rfl (by decide) rfl ?_
        refine blk_n (seq_n (aw_wk (St [(1, .tip (0, 1, 0) (s7q + 1 + 1) (e_str r25)), (2, .ptr 2 0), (5, pI s7.1)] [(2, [pI (Tm.kind p0), pI (Tm.n p0), pS (Tm.name p0), pL (Tm.encL (Tm.args p0))])] [((0, 1, 0), s7q + 1 + 1, .tip (e_str r25).length 1)]) (wk_St ⟨le_rfl _, le_rfl _, le_rfl _, trivial⟩ ⟨box_rfl rfl, trivial⟩ ⟨rfl, trivial⟩ rfl ⟨rfl, rfl, trivial⟩ ⟨rfl, rfl, trivial⟩) ?_))
        refine s_reg ?_
        refine s_run 3 [(5, pI (IntKind.i64.wrap (s7.1 + (1 : Int)))), (20, pI (IntKind.i64.wrap (s7.1 + (1 : Int)))), (19, pI s7.1)] [] [] rfl ?_
        exact loop_n ⟨(_, s7q + 1 + 1), h.1⟩ h.2 (wk_St ⟨le_rfl _, le_rfl _, le_rfl _, trivial⟩ ⟨box_rfl rfl, trivial⟩ ⟨rfl, trivial⟩ rfl ⟨rfl, rfl, trivial⟩ ⟨rfl, rfl, trivial⟩)
      · have h := h.2 c22
        refine aw_exit (seq_x (loop_x (blk_x (seq_n (aw_seq (s_reg ?_))))))
        refine s_run 2 [(4, .tip (0, 1, 0) (s7q) (e_str s7.2)), (28, .tip (0, 1, 0) (s7q) (e_str s7.2))] [] [] rfl ?_
        refine seq_n (aw_ret ?_)
        exact endp_ret _ h (endB_of (end_one rfl (arg_own rfl rfl) (end_nil)) (end_nil) (of_decide_eq_true rfl) rfl rfl)
  · refine aw_seq (s_reg ?_)
    refine s_run 3 [(8, pB ((Tm.kind p0) == (1 : Int))), (7, pI (Tm.kind p0)), (6, .ptr 2 0)] [] [] rfl ?_
    refine seq_n (s_if rfl (fun c27 => ?_) (fun c27 => ?_))
    · have h := h.1 c27
      refine s_reg ?_
      refine s_run 3 [(11, pS (Tm.name p0)), (10, .ptr 2 2), (9, .tip (0, 1, 0) (0) (e_str p1))] [] [] rfl ?_
      refine s_bs rfl rfl (enc_cons (e := e_str) (Tm.name p0) (enc_nil (e := e_str))) ?_
      obtain ⟨g28, h⟩ := h
      refine s_app rfl rfl rfl (enc_sz (e := e_str) _) (enc_len (e := e_str) _) (enc_len (e := e_str) _) g28 (enc_app (e := e_str) _ _) ?_
      refine s_run 1 [(1, .tip (0, 1, 0) (0) (e_str (p1 ++ ([(Tm.name p0)] : List Str))))] [] [] rfl ?_
      exact join_n ⟨_, h⟩ (wk_St ⟨le_rfl _, le_rfl _, trivial⟩ ⟨box_rfl rfl, trivial⟩ ⟨rfl, trivial⟩ rfl ⟨rfl, rfl, trivial⟩ ⟨rfl, rfl, trivial⟩)
    · have h := h.2 c27
      refine aw_skip ?_
      exact join_n ⟨_, h⟩ (wk_St ⟨le_rfl _, le_rfl _, trivial⟩ ⟨box_rfl rfl, trivial⟩ ⟨rfl, trivial⟩ rfl ⟨rfl, rfl, trivial⟩ ⟨rfl, rfl, trivial⟩)


def ac_spec_l8Left : AC :=
  .seq (.reg false [
    { dst := some 2, k := .bx (.t 0) 4 },
    { dst := some 4, k := .mv (.c (.int .i64 (0))) }])
  (.seq (.reg false [
    { dst := some 6, k := .mv (.t 1) },
    { dst := some 7, k := .bin .sub (.t 6) (.c (.int .i64 (1))) },
    { dst := some 1, k := .mv (.t 7) }])
  (.seq (.seq (.reg false [
    { dst := some 5, k := .mv (.c (.int .i64 (0))) }])
  (.block 0 (.loop (.seq (.seq (.reg false [
        { dst := some 8, k := .mv (.t 5) },
        { dst := some 9, k := .fa (.t 2) 3 },
        { dst := some 10, k := .ld (.t 9) 1 false },
        { dst := some 11, k := .len (.t 10) },
        { dst := some 12, k := .bin .lss (.t 8) (.t 11) },
        { dst := some 13, k := .mv (.t 12) },
        { dst := some 14, k := .mv (.t 1), g := some (13, true) },
        { dst := some 15, k := .bin .geq (.t 14) (.c (.int .i64 (0))), g := some (13, true) },
        { dst := some 16, k := .pick (.t 13) (.t 15) (.c (.bool false)) }])
      (.cond (.t 16) (.skip)
      (.exit 0)))
      (.wk (.seq (.block 1 (.reg false [
          { dst := some 19, k := .fa (.t 2) 3 },
          { dst := some 20, k := .ld (.t 19) 1 false },
          { dst := some 21, k := .mv (.t 5) },
          { dst := some 22, k := .ia (.t 20) (.t 21) 4 },
          { dst := some 23, k := .ld (.t 22) 4 true },
          { dst := some 24, k := .mv (.t 1) },
          { dst := some 25, k := .call 79 [(.t 23, .fz), (.t 24, .fz)] },
          { dst := some 1, k := .mv (.t 25) }]))
      (.wk (.reg false [
        { dst := some 17, k := .mv (.t 5) },
        { dst := some 18, k := .bin .add (.t 17) (.c (.int .i64 (1))) },
        { dst := some 5, k := .mv (.t 18) }]))))))))
  (.seq (.reg false [
    { dst := some 26, k := .mv (.t 1) },
    { dst := some 4, k := .mv (.t 26) }])
  (.ret))))
theorem chk_spec_l8Left : fnOK Try.prog 2 Try.f79 ac_spec_l8Left [(.tmp 4, .fz)] = true := by kernel_rfl
def wp_spec_l8Left (p0 : Tm) (p1 : Int) (post : Int → Prop) : Prop :=
  LOOP (fun (N14 : (Int × Int) → Prop) (s1 : Int × Int) => (((decide (s1.1 < ((List.length (Tm.args p0) : Nat) : Int))) = true → (((decide (s1.2 ≥ (0 : Int))) = true → (∃ u20, GETI (Tm.args p0) s1.1 u20 ∧ (∃ r22 : Int, C_spec_l8Left u20 s1.2 r22 ∧ N14 ((IntKind.i64.wrap (s1.1 + (1 : Int))), r22)))) ∧ ((decide (s1.2 ≥ (0 : Int))) = false → post s1.2))) ∧ ((decide (s1.1 < ((List.length (Tm.args p0) : Nat) : Int))) = false → post s1.2))) ((0 : Int), (IntKind.i64.wrap (p1 - (1 : Int))))
theorem w_spec_l8Left (p0 : Tm) (p1 : Int) (post : Int → Prop) (h : wp_spec_l8Left p0 p1 post) : ∃ r, post r ∧ C_spec_l8Left p0 p1 r := by
  unfold wp_spec_l8Left at h
  refine evs_of (encR := fun r : Int => .one (.l (.fz (.int .i64 r)))) (encO := fun r => []) 2 [(.tmp 4, .fz)] [.fz, .fz] Try.func79 chk_spec_l8Left rfl rfl [(1, pI p1), (0, .p (.agg (Tm.cells p0)))] [] [] rfl ?_
  refine aw_seq (s_reg ?_)
  refine s_run 2 [(4, pI (0 : Int)), (2, .ptr 2 0)] [(2, [pI (Tm.kind p0), pI (Tm.n p0), pS (Tm.name p0), pL (Tm.encL (Tm.args p0))])] [] rfl ?_
  refine seq_n (aw_seq (s_reg ?_))
  refine s_run 3 [(1, pI (IntKind.i64.wrap (p1 - (1 : Int)))), (7, pI (IntKind.i64.wrap (p1 - (1 : Int)))), (6, pI p1)] [] [] rfl ?_
  refine seq_n (aw_seq (aw_seq (s_reg ?_)))
  refine s_run 1 [(5, pI (0 : Int))] [] [] rfl ?_
  refine seq_n (aw_blk ?_)
  obtain ⟨I16, m17, h0, h⟩ := h
  refine aw_loop' (ι := { y : Int × Int // I16 y }) (fun x15 => St [(1, pI x15.1.2), (2, .ptr 2 0), (5, pI x15.1.1)] [(2, [pI (Tm.kind p0), pI (Tm.n p0), pS (Tm.name p0), pL (Tm.encL (Tm.args p0))])] []) (fun x15 => m17 x15.1) ⟨_, h0⟩ ?_ ?_
  · exact wk_St ⟨le_rfl _, le_rfl _, le_rfl _, trivial⟩ ⟨box_rfl rfl, trivial⟩ trivial rfl ⟨rfl, rfl, trivial⟩ ⟨rfl, rfl, trivial⟩
  · rintro ⟨s1, hs1⟩
    replace h := h s1 hs1
    refine aw_seq (aw_seq (s_reg ?_))
    refine s_run 3 [(10, pL (Tm.encL (Tm.args p0))), (9, .ptr 2 3), (8, pI s1.1)] [] [] rfl ?_
    refine s_len rfl (enc_len (e := Tm.encL) _) ?_
    refine s_run 2 [(13, pB (decide (s1.1 < ((List.length (Tm.args p0) : Nat) : Int)))), (12, pB (decide (s1.1 < ((List.length (Tm.args p0) : Nat) : Int))))] [] [] rfl ?_
    refine s_op_if rfl rfl (fun c18 => ?_) (fun c18 => ?_)
    · have h := h.1 c18
      refine s_run 3 [(16, pB (decide (s1.2 ≥ (0 : Int)))), (15, pB (decide (s1.2 ≥ (0 : Int)))), (14, pI s1.2)] [] [] rfl ?_
      refine seq_n (s_if rfl (fun c19 => ?_) (fun c19 => ?_))
      · have h := h.1 c19
        refine aw_skip (seq_n (aw_wk (St [(1, pI s1.2), (2, .ptr 2 0), (5, pI s1.1)] [(2, [pI (Tm.kind p0), pI (Tm.n p0), pS (Tm.name p0), pL (Tm.encL (Tm.args p0))])] []) (wk_St ⟨le_rfl _, le_rfl _, le_rfl _, trivial⟩ ⟨box_rfl rfl, trivial⟩ trivial rfl ⟨rfl, rfl, trivial⟩ ⟨rfl, rfl, trivial⟩) ?_))
        refine aw_seq (aw_blk (s_reg ?_))
        refine s_run 3 [(21, pI s1.1), (20, pL (Tm.encL (Tm.args p0))), (19, .ptr 2 3)] [] [] rfl ?_
        obtain ⟨u20, ⟨g21a, g21b⟩, h⟩ := h
        refine s_ia rfl rfl g21a (enc_get (e := Tm.encL) g21b) rfl ?_
        refine s_run 2 [(24, pI s1.2), (23, .p (.agg (Tm.cells u20)))] [] [] rfl ?_
        obtain ⟨r22, k23, h⟩ := h
        refine s_call (pI r22) [] [] rfl k23 rfl ?_
        refine s_run 1 [(1, pI r22)] [] [] rfl ?_
        refine blk_n (seq_n (aw_wk (St [(1, pI r22), (2, .ptr 2 0), (5, pI s1.1)] [(2, [pI (Tm.kind p0), pI (Tm.n p0), pS (Tm.name p0), pL (Tm.encL (Tm.args p0))])] []) (wk_St ⟨le_rfl _, le_rfl _, le_rfl _, trivial⟩ ⟨box_rfl rfl, trivial⟩ trivial rfl ⟨rfl, rfl, trivial⟩ ⟨rfl, rfl, trivial⟩) ?_))
        refine s_reg ?_
        refine s_run 3 [(5, pI (IntKind.i64.wrap (s1.1 + (1 : Int)))), (18, pI (IntKind.i64.wrap (s1.1 + (1 : Int)))), (17, pI s1.1)] [] [] rfl ?_
        exact loop_n ⟨_, h.1⟩ h.2 (wk_St ⟨le_rfl _, le_rfl _, le_rfl _, trivial⟩ ⟨box_rfl rfl, trivial⟩ trivial rfl ⟨rfl, rfl, trivial⟩ ⟨rfl, rfl, trivial⟩)
      · have h := h.2 c19
        refine aw_exit (seq_x (loop_x (blk_x (seq_n (aw_seq (s_reg ?_))))))
        refine s_run 2 [(4, pI s1.2), (26, pI s1.2)] [] [] rfl ?_
        refine seq_n (aw_ret ?_)
        exact endp_ret _ h rfl
    · have h := h.2 c18
      refine s_run 3 [(16, pB false), (15, .p (.tup [])), (14, .p (.tup []))] [] [] rfl ?_
      refine seq_n (s_no rfl (aw_exit (seq_x (loop_x (blk_x (seq_n (aw_seq (s_reg ?_))))))))
      refine s_run 2 [(4, pI s1.2), (26, pI s1.2)] [] [] rfl ?_
      refine seq_n (aw_ret ?_)
      exact endp_ret _ h rfl


def ac_impl_EqualTerm : AC :=
  .seq (.reg false [
    { dst := some 2, k := .bx (.t 0) 4 },
    { dst := some 3, k := .bx (.t 1) 4 },
    { dst := some 4, k := .mv (.c (.bool false)) }])
  (.seq (.reg false [
    { dst := some 5, k := .fa (.t 2) 0 },
    { dst := some 6, k := .ld (.t 5) 1 false },
    { dst := some 7, k := .fa (.t 3) 0 },
    { dst := some 8, k := .ld (.t 7) 1 false },
    { dst := some 9, k := .bin .eql (.t 6) (.t 8) },
    { dst := some 10, k := .mv (.t 9) },
    { dst := some 11, k := .fa (.t 2) 1, g := some (10, true) },
    { dst := some 12, k := .ld (.t 11) 1 false, g := some (10, true) },
    { dst := some 13, k := .fa (.t 3) 1, g := some (10, true) },
    { dst := some 14, k := .ld (.t 13) 1 false, g := some (10, true) },
    { dst := some 15, k := .bin .eql (.t 12) (.t 14), g := some (10, true) },
    { dst := some 16, k := .pick (.t 10) (.t 15) (.c (.bool false)) },
    { dst := some 17, k := .mv (.t 16) },
    { dst := some 18, k := .fa (.t 2) 2, g := some (17, true) },
    { dst := some 19, k := .ld (.t 18) 1 false, g := some (17, true) },
    { dst := some 20, k := .fa (.t 3) 2, g := some (17, true) },
    { dst := some 21, k := .ld (.t 20) 1 false, g := some (17, true) },
    { dst := some 22, k := .bin .eql (.t 19) (.t 21), g := some (17, true) },
    { dst := some 23, k := .pick (.t 17) (.t 22) (.c (.bool false)) },
    { dst := some 24, k := .mv (.t 23) },
    { dst := some 25, k := .fa (.t 2) 3, g := some (24, true) },
    { dst := some 26, k := .ld (.t 25) 1 false, g := some (24, true) },
    { dst := some 27, k := .fa (.t 3) 3, g := some (24, true) },
    { dst := some 28, k := .ld (.t 27) 1 false, g := some (24, true) },
    { dst := some 29, k := .call 76 [(.t 26, .fz), (.t 28, .fz), (.fn 55, .fz)], g := some (24, true) },
    { dst := some 30, k := .pick (.t 24) (.t 29) (.c (.bool false)) },
    { dst := some 4, k := .mv (.t 30) }])
  (.ret))
theorem chk_impl_EqualTerm : fnOK Try.prog 2 Try.f55 ac_impl_EqualTerm [(.tmp 4, .fz)] = true := by kernel_rfl
def wp_impl_EqualTerm (p0 : Tm) (p1 : Tm) (post : Bool → Prop) : Prop :=
  ((((Tm.kind p0) == (Tm.kind p1)) = true → ((((Tm.n p0) == (Tm.n p1)) = true → ((((Tm.name p0) == (Tm.name p1)) = true → (∃ r4 : Bool, C_slices_EqualFunc_Term (Tm.args p0) (Tm.args p1) ((55, []) : Clo) r4 ∧ post r4)) ∧ (((Tm.name p0) == (Tm.name p1)) = false → post false))) ∧ (((Tm.n p0) == (Tm.n p1)) = false → post false))) ∧ (((Tm.kind p0) == (Tm.kind p1)) = false → post false))
theorem w_impl_EqualTerm (p0 : Tm) (p1 : Tm) (post : Bool → Prop) (h : wp_impl_EqualTerm p0 p1 post) : ∃ r, post r ∧ C_impl_EqualTerm p0 p1 r := by
  unfold wp_impl_EqualTerm at h
  refine evs_of (encR := fun r : Bool => .one (.l (.fz (.bool r)))) (encO := fun r => []) 2 [(.tmp 4, .fz)] [.fz, .fz] Try.func55 chk_impl_EqualTerm rfl rfl [(1, .p (.agg (Tm.cells p1))), (0, .p (.agg (Tm.cells p0)))] [] [] rfl ?_
  refine aw_seq (s_reg ?_)
  refine s_run 3 [(4, pB false), (3, .ptr 3 0), (2, .ptr 2 0)] [(3, [pI (Tm.kind p1), pI (Tm.n p1), pS (Tm.name p1), pL (Tm.encL (Tm.args p1))]), (2, [pI (Tm.kind p0), pI (Tm.n p0), pS (Tm.name p0), pL (Tm.encL (Tm.args p0))])] [] rfl ?_
  refine seq_n (aw_seq (s_reg ?_))
  refine s_run 6 [(10, pB ((Tm.kind p0) == (Tm.kind p1))), (9, pB ((Tm.kind p0) == (Tm.kind p1))), (8, pI (Tm.kind p1)), (7, .ptr 3 0), (6, pI (Tm.kind p0)), (5, .ptr 2 0)] [] [] rfl ?_
  refine s_op_if rfl rfl (fun c1 => ?_) (fun c1 => ?_)
  · have h := h.1 c1
    refine s_run 7 [(17, pB ((Tm.n p0) == (Tm.n p1))), (16, pB ((Tm.n p0) == (Tm.n p1))), (15, pB ((Tm.n p0) == (Tm.n p1))), (14, pI (Tm.n p1)), (13, .ptr 3 1), (12, pI (Tm.n p0)), (11, .ptr 2 1)] [] [] rfl ?_
    refine s_op_if rfl rfl (fun c2 => ?_) (fun c2 => ?_)
    · have h := h.1 c2
      refine s_run 7 [(24, pB ((Tm.name p0) == (Tm.name p1))), (23, pB ((Tm.name p0) == (Tm.name p1))), (22, pB ((Tm.name p0) == (Tm.name p1))), (21, pS (Tm.name p1)), (20, .ptr 3 2), (19, pS (Tm.name p0)), (18, .ptr 2 2)] [] [] rfl ?_
      refine s_op_if rfl rfl (fun c3 => ?_) (fun c3 => ?_)
      · have h := h.1 c3
        refine s_run 4 [(28, pL (Tm.encL (Tm.args p1))), (27, .ptr 3 3), (26, pL (Tm.encL (Tm.args p0))), (25, .ptr 2 3)] [] [] rfl ?_
        refine s_on rfl ?_
        obtain ⟨r4, k5, h⟩ := h
        refine s_call (pB r4) [] [] rfl k5 rfl ?_
        refine s_run 2 [(4, pB r4), (30, pB r4)] [] [] rfl ?_
        refine seq_n (aw_ret ?_)
        exact endp_ret _ h rfl
      · have h := h.2 c3
        refine s_run 7 [(4, pB false), (30, pB false), (29, .p (.tup [])), (28, .p (.tup [])), (27, .p (.tup [])), (26, .p (.tup [])), (25, .p (.tup []))] [] [] rfl ?_
        refine seq_n (aw_ret ?_)
        exact endp_ret _ h rfl
    · have h := h.2 c2
      refine s_run 14 [(4, pB false), (30, pB false), (29, .p (.tup [])), (28, .p (.tup [])), (27, .p (.tup [])), (26, .p (.tup [])), (25, .p (.tup [])), (24, pB false), (23, pB false), (22, .p (.tup [])), (21, .p (.tup [])), (20, .p (.tup [])), (19, .p (.tup [])), (18, .p (.tup []))] [] [] rfl ?_
      refine seq_n (aw_ret ?_)
      exact endp_ret _ h rfl
  · have h := h.2 c1
    refine s_run 21 [(4, pB false), (30, pB false), (29, .p (.tup [])), (28, .p (.tup [])), (27, .p (.tup [])), (26, .p (.tup [])), (25, .p (.tup [])), (24, pB false), (23, pB false), (22, .p (.tup [])), (21, .p (.tup [])), (20, .p (.tup [])), (19, .p (.tup [])), (18, .p (.tup [])), (17, pB false), (16, pB false), (15, .p (.tup [])), (14, .p (.tup [])), (13, .p (.tup [])), (12, .p (.tup [])), (11, .p (.tup []))] [] [] rfl ?_
    refine seq_n (aw_ret ?_)
    exact endp_ret _ h rfl


def ac_impl_MatchTerm : AC :=
  .seq (.reg false [
    { dst := some 2, k := .bx (.t 0) 4 },
    { dst := some 3, k := .bx (.t 1) 4 },
    { dst := some 4, k := .mv (.c (.slice [])) },
    { dst := some 5, k := .mv (.c (.bool false)) }])
  (.wk (.seq (.reg false [
    { dst := some 9, k := .ld (.t 2) 4 true },
    { dst := some 10, k := .ld (.t 3) 4 true },
    { dst := some 11, k := .call 33 [(.t 9, .fz), (.t 10, .fz), (.nl 5, .ow)] },
    { dst := some 8, k := .mv (.t 11) },
    { dst := some 12, k := .ex (.t 8) 0 },
    { dst := some 13, k := .ex (.t 8) 1 },
    { dst := some 6, k := .mv (.t 12) },
    { dst := some 7, k := .mv (.t 13) }])
  (.wk (.seq (.seq (.reg false [
    { dst := some 14, k := .mv (.t 7) },
    { dst := some 15, k := .un .not (.t 14) }])
  (.cond (.t 15) (.seq (.reg false [
      { dst := some 4, k := .mv (.c (.slice [])) },
      { dst := some 5, k := .mv (.c (.bool false)) }])
    (.ret))
  (.skip)))
  (.wk (.seq (.reg false [
    { dst := some 16, k := .mv (.t 6) },
    { dst := some 17, k := .ld (.t 2) 4 true },
    { dst := some 18, k := .call 34 [(.t 17, .fz)] },
    { dst := some 19, k := .call 22 [(.t 16, .fz), (.t 18, .fz)] },
    { dst := some 4, k := .mv (.t 19) },
    { dst := some 5, k := .mv (.c (.bool true)) }])
  (.ret)))))))
theorem chk_impl_MatchTerm : fnOK Try.prog 2 Try.f8 ac_impl_MatchTerm [(.tmp 4, .fz), (.tmp 5, .fz)] = true := by kernel_rfl
def wp_impl_MatchTerm (p0 : Tm) (p1 : Tm) (post : ((List Bd) × Bool) → Prop) : Prop :=
  (∃ r1 : (List Bd) × Bool, C_impl_match p0 p1 ([] : List Bd) r1 ∧ (((!r1.2) = true → post (([] : List Bd), false)) ∧ ((!r1.2) = false → (∃ r4 : (List Str), C_impl_VarsOfTerm p0 r4 ∧ (∃ r6 : (List Bd), C_impl_RestrictSubst r1.1 r4 r6 ∧ post (r6, true))))))
theorem w_impl_MatchTerm (p0 : Tm) (p1 : Tm) (post : ((List Bd) × Bool) → Prop) (h : wp_impl_MatchTerm p0 p1 post) : ∃ r, post r ∧ C_impl_MatchTerm p0 p1 r := by
  unfold wp_impl_MatchTerm at h
  refine evs_of (encR := fun r : (List Bd) × Bool => .tup [.l (.fz (.slice (e_Bd r.1))), .l (.fz (.bool r.2))]) (encO := fun r => []) 2 [(.tmp 4, .fz), (.tmp 5, .fz)] [.fz, .fz] Try.func8 chk_impl_MatchTerm rfl rfl [(1, .p (.agg (Tm.cells p1))), (0, .p (.agg (Tm.cells p0)))] [] [] rfl ?_
  refine aw_seq (s_reg ?_)
  refine s_run 4 [(5, pB false), (4, pL (e_Bd ([] : List Bd))), (3, .ptr 3 0), (2, .ptr 2 0)] [(3, [pI (Tm.kind p1), pI (Tm.n p1), pS (Tm.name p1), pL (Tm.encL (Tm.args p1))]), (2, [pI (Tm.kind p0), pI (Tm.n p0), pS (Tm.name p0), pL (Tm.encL (Tm.args p0))])] [] rfl ?_
  refine seq_n (aw_wk (St [(2, .ptr 2 0), (3, .ptr 3 0)] [(2, [pI (Tm.kind p0), pI (Tm.n p0), pS (Tm.name p0), pL (Tm.encL (Tm.args p0))]), (3, [pI (Tm.kind p1), pI (Tm.n p1), pS (Tm.name p1), pL (Tm.encL (Tm.args p1))])] []) (wk_St ⟨le_rfl _, le_rfl _, trivial⟩ ⟨box_rfl rfl, box_rfl rfl, trivial⟩ trivial rfl ⟨rfl, rfl, trivial⟩ ⟨rfl, rfl, trivial⟩) ?_)
  refine aw_seq (s_reg ?_)
  refine s_run 2 [(10, .agg [pI (Tm.kind p1), pI (Tm.n p1), pS (Tm.name p1), pL (Tm.encL (Tm.args p1))]), (9, .agg [pI (Tm.kind p0), pI (Tm.n p0), pS (Tm.name p0), pL (Tm.encL (Tm.args p0))])] [] [] rfl ?_
  obtain ⟨r1, k2, h⟩ := h
  refine s_call (.tup [.tip (0, 11, 0) (0) (e_Bd r1.1), pB r1.2]) [] [((0, 11, 0), 0, .tip (e_Bd r1.1).length 5)] (args_one rfl (args_one rfl (args_one (arg_nil rfl) (args_nil)))) k2 rfl ?_
  refine s_run 5 [(7, pB r1.2), (6, .tip (0, 11, 0) (0) (e_Bd r1.1)), (13, pB r1.2), (12, .tip (0, 11, 0) (0) (e_Bd r1.1)), (8, .tup [.tip (0, 11, 0) (0) (e_Bd r1.1), pB r1.2])] [] [] rfl ?_
  refine seq_n (aw_wk (St [(2, .ptr 2 0), (6, .tip (0, 11, 0) (0) (e_Bd r1.1)), (7, pB r1.2)] [(2, [pI (Tm.kind p0), pI (Tm.n p0), pS (Tm.name p0), pL (Tm.encL (Tm.args p0))])] [((0, 11, 0), 0, .tip (e_Bd r1.1).length 5)]) (wk_St ⟨le_rfl _, le_rfl _, le_rfl _, trivial⟩ ⟨box_rfl rfl, trivial⟩ ⟨rfl, trivial⟩ rfl ⟨rfl, rfl, trivial⟩ ⟨rfl, rfl, trivial⟩) ?_)
  refine aw_seq (aw_seq (s_reg ?_))
  refine s_run 2 [(15, pB (!r1.2)), (14, pB r1.2)] [] [] rfl ?_
  refine seq_n (s_if rfl (fun c3 => ?_) (fun c3 => ?_))
  · have h := h.1 c3
    refine aw_seq (s_reg ?_)
    refine s_run 2 [(5, pB false), (4, pL (e_Bd ([] : List Bd)))] [] [] rfl ?_
    refine seq_n (aw_ret ?_)
    exact endp_ret _ h rfl
  · have h := h.2 c3
    refine aw_skip (seq_n (aw_wk (St [(2, .ptr 2 0), (6, .tip (0, 11, 0) (0) (e_Bd r1.1))] [(2, [pI (Tm.kind p0), pI (Tm.n p0), pS (Tm.name p0), pL (Tm.encL (Tm.args p0))])] [((0, 11, 0), 0, .tip (e_Bd r1.1).length 5)]) (wk_St ⟨le_rfl _, le_rfl _, trivial⟩ ⟨box_rfl rfl, trivial⟩ ⟨rfl, trivial⟩ rfl ⟨rfl, rfl, trivial⟩ ⟨rfl, rfl, trivial⟩) ?_))
    refine aw_seq (s_reg ?_)
    refine s_run 2 [(17, .agg [pI (Tm.kind p0), pI (Tm.n p0), pS (Tm.name p0), pL (Tm.encL (Tm.args p0))]), (16, .tip (0, 11, 0) (0) (e_Bd r1.1))] [] [] rfl ?_
    obtain ⟨r4, k5, h⟩ := h
    refine s_call (.tip (0, 18, 0) (0) (e_str r4)) [] [((0, 18, 0), 0, .tip (e_str r4).length 1)] (args_one rfl (args_nil)) k5 rfl ?_
    obtain ⟨r6, k7, h⟩ := h
    refine s_call (pL (e_Bd r6)) [] [] rfl k7 rfl ?_
    refine s_run 2 [(5, pB true), (4, pL (e_Bd r6))] [] [] rfl ?_
    refine seq_n (aw_ret ?_)
    exact endp_ret _ h rfl


def ac_spec_FindBind : AC :=
  .seq (.reg false [
    { dst := some 4, k := .al [.p (.int .i64 0), .p (.int .i64 0), .p (.str []), .p (.slice [])] },
    { dst := some 5, k := .mv (.c (.bool false)) }])
  (.seq (.reg false [
    { dst := some 7, k := .mv (.t 0) },
    { dst := some 8, k := .mv (.t 1) },
    { dst := some 9, k := .call 47 [(.t 7, .fz), (.t 8, .fz)] },
    { dst := some 6, k := .mv (.t 9) }])
  (.wk (.seq (.seq (.reg false [
    { dst := some 10, k := .mv (.t 6) },
    { dst := some 11, k := .bin .lss (.t 10) (.c (.int .i64 (0))) }])
  (.cond (.t 11) (.seq (.reg false [
      { dst := some 12, k := .bd [.p (.int .i64 0), .p (.int .i64 0), .p (.str []), .p (.slice [])] [] },
      { dst := none, k := .st (.t 4) (.t 12) 4 4 },
      { dst := some 5, k := .mv (.c (.bool false)) }])
    (.ret))
  (.skip)))
  (.wk (.seq (.reg false [
    { dst := some 13, k := .mv (.t 0) },
    { dst := some 14, k := .mv (.t 6) },
    { dst := some 15, k := .ia (.t 13) (.t 14) 5 },
    { dst := some 16, k := .fa (.t 15) 1 },
    { dst := some 17, k := .ld (.t 16) 4 true },
    { dst := some 18, k := .call 48 [(.t 17, .fz)] },
    { dst := none, k := .st (.t 4) (.t 18) 4 4 },
    { dst := some 5, k := .mv (.c (.bool true)) }])
  (.ret))))))
theorem chk_spec_FindBind : fnOK Try.prog 2 Try.f53 ac_spec_FindBind [(.cell 4 4 true, .fz), (.tmp 5, .fz)] = true := by kernel_rfl
def wp_spec_FindBind (p0 : (List Bd)) (p1 : Str) (post : (Tm × Bool) → Prop) : Prop :=
  (∃ r1 : Int, C_spec_l7At p0 p1 r1 ∧ (((decide (r1 < (0 : Int))) = true → post ((Tm.mk (0 : Int) (0 : Int) ([] : Str) ([] : List Tm)), false)) ∧ ((decide (r1 < (0 : Int))) = false → (∃ u4, GETI p0 r1 u4 ∧ (∃ r6 : Tm, C_spec_l3Copy (Bd.term u4) r6 ∧ post (r6, true))))))
theorem w_spec_FindBind (p0 : (List Bd)) (p1 : Str) (post : (Tm × Bool) → Prop) (h : wp_spec_FindBind p0 p1 post) : ∃ r, post r ∧ C_spec_FindBind p0 p1 r := by
  unfold wp_spec_FindBind at h
  refine evs_of (encR := fun r : Tm × Bool => .tup [.l (.fz (.agg (Tm.cells r.1))), .l (.fz (.bool r.2))]) (encO := fun r => []) 2 [(.cell 4 4 true, .fz), (.tmp 5, .fz)] [.fz, .fz] Try.func53 chk_spec_FindBind rfl rfl [(1, pS p1), (0, pL (e_Bd p0))] [] [] rfl ?_
  refine aw_seq (s_reg ?_)
  refine s_run 2 [(5, pB false), (4, .ptr 4 0)] [(4, [pI (0 : Int), pI (0 : Int), pS ([] : Str), pL (Tm.encL ([] : List Tm))])] [] rfl ?_
  refine seq_n (aw_seq (s_reg ?_))
  refine s_run 2 [(8, pS p1), (7, pL (e_Bd p0))] [] [] rfl ?_
  obtain ⟨r1, k2, h⟩ := h
  refine s_call (pI r1) [] [] rfl k2 rfl ?_
  refine s_run 1 [(6, pI r1)] [] [] rfl ?_
  refine seq_n (aw_wk (St [(0, pL (e_Bd p0)), (4, .ptr 4 0), (6, pI r1)] [(4, [pI (0 : Int), pI (0 : Int), pS ([] : Str), pL (Tm.encL ([] : List Tm))])] []) (wk_St ⟨le_rfl _, le_rfl _, le_rfl _, trivial⟩ ⟨box_rfl rfl, trivial⟩ trivial rfl ⟨rfl, rfl, trivial⟩ ⟨rfl, rfl, trivial⟩) ?_)
  refine aw_seq (aw_seq (s_reg ?_))
  refine s_run 2 [(11, pB (decide (r1 < (0 : Int)))), (10, pI r1)] [] [] rfl ?_
  refine seq_n (s_if rfl (fun c3 => ?_) (fun c3 => ?_))
  · have h := h.1 c3
    refine aw_seq (s_reg ?_)
    refine s_run 3 [(5, pB false), (12, .agg [pI (0 : Int), pI (0 : Int), pS ([] : Str), pL (Tm.encL ([] : List Tm))])] [(4, [pI (0 : Int), pI (0 : Int), pS ([] : Str), pL (Tm.encL ([] : List Tm))])] [] rfl ?_
    refine seq_n (aw_ret ?_)
    exact endp_ret _ h rfl
  · have h := h.2 c3
    refine aw_skip (seq_n (aw_wk (St [(0, pL (e_Bd p0)), (4, .ptr 4 0), (6, pI r1)] [(4, [pI (0 : Int), pI (0 : Int), pS ([] : Str), pL (Tm.encL ([] : List Tm))])] []) (wk_St ⟨le_rfl _, le_rfl _, le_rfl _, trivial⟩ ⟨box_rfl rfl, trivial⟩ trivial rfl ⟨rfl, rfl, trivial⟩ ⟨rfl, rfl, trivial⟩) ?_))
    refine aw_seq (s_reg ?_)
    refine s_run 2 [(14, pI r1), (13, pL (e_Bd p0))] [] [] rfl ?_
    obtain ⟨u4, ⟨g5a, g5b⟩, h⟩ := h
    refine s_ia rfl rfl g5a (enc_get (e := e_Bd) g5b) rfl ?_
    refine s_run 2 [(17, .p (.agg (Tm.cells (Bd.term u4)))), (16, .p (.cptr (List.drop 1 (Bd.cells u4))))] [] [] rfl ?_
    obtain ⟨r6, k7, h⟩ := h
    refine s_call (.p (.agg (Tm.cells r6))) [] [] rfl k7 rfl ?_
    refine s_run 2 [(5, pB true)] [(4, [pI (Tm.kind r6), pI (Tm.n r6), pS (Tm.name r6), pL (Tm.encL (Tm.args r6))])] [] rfl ?_
    refine seq_n (aw_ret ?_)
    exact endp_ret _ h rfl


def ac_impl_IsVariant : AC :=
  .seq (.reg false [
    { dst := some 2, k := .bx (.t 0) 4 },
    { dst := some 3, k := .bx (.t 1) 4 },
    { dst := some 4, k := .mv (.c (.bool false)) }])
  (.seq (.reg false [
    { dst := some 5, k := .ld (.t 2) 4 true },
    { dst := some 6, k := .ld (.t 3) 4 true },
    { dst := some 7, k := .call 11 [(.t 5, .fz), (.t 6, .fz)] },
    { dst := some 8, k := .mv (.t 7) },
    { dst := some 9, k := .ld (.t 3) 4 true, g := some (8, true) },
    { dst := some 10, k := .ld (.t 2) 4 true, g := some (8, true) },
    { dst := some 11, k := .call 11 [(.t 9, .fz), (.t 10, .fz)], g := some (8, true) },
    { dst := some 12, k := .pick (.t 8) (.t 11) (.c (.bool false)) },
    { dst := some 4, k := .mv (.t 12) }])
  (.ret))
theorem chk_impl_IsVariant : fnOK Try.prog 2 Try.f15 ac_impl_IsVariant [(.tmp 4, .fz)] = true := by kernel_rfl
def wp_impl_IsVariant (p0 : Tm) (p1 : Tm) (post : Bool → Prop) : Prop :=
  (∃ r1 : Bool, C_impl_IsInstance p0 p1 r1 ∧ ((r1 = true → (∃ r4 : Bool, C_impl_IsInstance p1 p0 r4 ∧ post r4)) ∧ (r1 = false → post false)))
theorem w_impl_IsVariant (p0 : Tm) (p1 : Tm) (post : Bool → Prop) (h : wp_impl_IsVariant p0 p1 post) : ∃ r, post r ∧ C_impl_IsVariant p0 p1 r := by
  unfold wp_impl_IsVariant at h
  refine evs_of (encR := fun r : Bool => .one (.l (.fz (.bool r)))) (encO := fun r => []) 2 [(.tmp 4, .fz)] [.fz, .fz] Try.func15 chk_impl_IsVariant rfl rfl [(1, .p (.agg (Tm.cells p1))), (0, .p (.agg (Tm.cells p0)))] [] [] rfl ?_
  refine aw_seq (s_reg ?_)
  refine s_run 3 [(4, pB false), (3, .ptr 3 0), (2, .ptr 2 0)] [(3, [pI (Tm.kind p1), pI (Tm.n p1), pS (Tm.name p1), pL (Tm.encL (Tm.args p1))]), (2, [pI (Tm.kind p0), pI (Tm.n p0), pS (Tm.name p0), pL (Tm.encL (Tm.args p0))])] [] rfl ?_
  refine seq_n (aw_seq (s_reg ?_))
  refine s_run 2 [(6, .agg [pI (Tm.kind p1), pI (Tm.n p1), pS (Tm.name p1), pL (Tm.encL (Tm.args p1))]), (5, .agg [pI (Tm.kind p0), pI (Tm.n p0), pS (Tm.name p0), pL (Tm.encL (Tm.args p0))])] [] [] rfl ?_
  obtain ⟨r1, k2, h⟩ := h
  refine s_call (pB r1) [] [] rfl k2 rfl ?_
  refine s_run 1 [(8, pB r1)] [] [] rfl ?_
  refine s_op_if rfl rfl (fun c3 => ?_) (fun c3 => ?_)
  · have h := h.1 c3
    refine s_run 2 [(10, .agg [pI (Tm.kind p0), pI (Tm.n p0), pS (Tm.name p0), pL (Tm.encL (Tm.args p0))]), (9, .agg [pI (Tm.kind p1), pI (Tm.n p1), pS (Tm.name p1), pL (Tm.encL (Tm.args p1))])] [] [] rfl ?_
    refine s_on rfl ?_
    obtain ⟨r4, k5, h⟩ := h
    refine s_call (pB r4) [] [] rfl k5 rfl ?_
    refine s_run 2 [(4, pB r4), (12, pB r4)] [] [] rfl ?_
    refine seq_n (aw_ret ?_)
    exact endp_ret _ h rfl
  · have h := h.2 c3
    refine s_run 5 [(4, pB false), (12, pB false), (11, .p (.tup [])), (10, .p (.tup [])), (9, .p (.tup []))] [] [] rfl ?_
    refine seq_n (aw_ret ?_)
    exact endp_ret _ h rfl


def ac_spec_IsVariant : AC :=
  .seq (.reg false [
    { dst := some 2, k := .bx (.t 0) 4 },
    { dst := some 3, k := .bx (.t 1) 4 },
    { dst := some 4, k := .mv (.c (.bool false)) }])
  (.seq (.reg false [
    { dst := some 5, k := .ld (.t 2) 4 true },
    { dst := some 6, k := .ld (.t 3) 4 true },
    { dst := some 7, k := .call 31 [(.t 5, .fz), (.t 6, .fz)] },
    { dst := some 8, k := .mv (.t 7) },
    { dst := some 9, k := .ld (.t 3) 4 true, g := some (8, true) },
    { dst := some 10, k := .ld (.t 2) 4 true, g := some (8, true) },
    { dst := some 11, k := .call 31 [(.t 9, .fz), (.t 10, .fz)], g := some (8, true) },
    { dst := some 12, k := .pick (.t 8) (.t 11) (.c (.bool false)) },
    { dst := some 4, k := .mv (.t 12) }])
  (.ret))
theorem chk_spec_IsVariant : fnOK Try.prog 2 Try.f16 ac_spec_IsVariant [(.tmp 4, .fz)] = true := by kernel_rfl
def wp_spec_IsVariant (p0 : Tm) (p1 : Tm) (post : Bool → Prop) : Prop :=
  (∃ r1 : Bool, C_spec_IsInstance p0 p1 r1 ∧ ((r1 = true → (∃ r4 : Bool, C_spec_IsInstance p1 p0 r4 ∧ post r4)) ∧ (r1 = false → post false)))
theorem w_spec_IsVariant (p0 : Tm) (p1 : Tm) (post : Bool → Prop) (h : wp_spec_IsVariant p0 p1 post) : ∃ r, post r ∧ C_spec_IsVariant p0 p1 r := by
  unfold wp_spec_IsVariant at h
  refine evs_of (encR := fun r : Bool => .one (.l (.fz (.bool r)))) (encO := fun r => []) 2 [(.tmp 4, .fz)] [.fz, .fz] Try.func16 chk_spec_IsVariant rfl rfl [(1, .p (.agg (Tm.cells p1))), (0, .p (.agg (Tm.cells p0)))] [] [] rfl ?_
  refine aw_seq (s_reg ?_)
  refine s_run 3 [(4, pB false), (3, .ptr 3 0), (2, .ptr 2 0)] [(3, [pI (Tm.kind p1), pI (Tm.n p1), pS (Tm.name p1), pL (Tm.encL (Tm.args p1))]), (2, [pI (Tm.kind p0), pI (Tm.n p0), pS (Tm.name p0), pL (Tm.encL (Tm.args p0))])] [] rfl ?_
  refine seq_n (aw_seq (s_reg ?_))
  refine s_run 2 [(6, .agg [pI (Tm.kind p1), pI (Tm.n p1), pS (Tm.name p1), pL (Tm.encL (Tm.args p1))]), (5, .agg [pI (Tm.kind p0), pI (Tm.n p0), pS (Tm.name p0), pL (Tm.encL (Tm.args p0))])] [] [] rfl ?_
  obtain ⟨r1, k2, h⟩ := h
  refine s_call (pB r1) [] [] rfl k2 rfl ?_
  refine s_run 1 [(8, pB r1)] [] [] rfl ?_
  refine s_op_if rfl rfl (fun c3 => ?_) (fun c3 => ?_)
  · have h := h.1 c3
    refine s_run 2 [(10, .agg [pI (Tm.kind p0), pI (Tm.n p0), pS (Tm.name p0), pL (Tm.encL (Tm.args p0))]), (9, .agg [pI (Tm.kind p1), pI (Tm.n p1), pS (Tm.name p1), pL (Tm.encL (Tm.args p1))])] [] [] rfl ?_
    refine s_on rfl ?_
    obtain ⟨r4, k5, h⟩ := h
    refine s_call (pB r4) [] [] rfl k5 rfl ?_
    refine s_run 2 [(4, pB r4), (12, pB r4)] [] [] rfl ?_
    refine seq_n (aw_ret ?_)
    exact endp_ret _ h rfl
  · have h := h.2 c3
    refine s_run 5 [(4, pB false), (12, pB false), (11, .p (.tup [])), (10, .p (.tup [])), (9, .p (.tup []))] [] [] rfl ?_
    refine seq_n (aw_ret ?_)
    exact endp_ret _ h rfl


def ac_impl_copyBind : AC :=
  .seq (.reg false [
    { dst := some 1, k := .bx (.t 0) 5 },
    { dst := some 2, k := .al [.p (.str []), .p (.int .i64 0), .p (.int .i64 0), .p (.str []), .p (.slice [])] }])
  (.seq (.reg true [
    { dst := some 3, k := .fa (.t 1) 0 },
    { dst := some 4, k := .ld (.t 3) 1 false, vb := .only [1] },
    { dst := some 5, k := .fa (.t 1) 1 },
    { dst := some 6, k := .ld (.t 5) 4 true, vb := .only [1] },
    { dst := some 7, k := .call 42 [(.t 6, .fz)], vb := .but [1], vl := .but [1] },
    { dst := some 8, k := .bd [.p (.str []), .p (.int .i64 0), .p (.int .i64 0), .p (.str []), .p (.slice [])] [(0, 1, .t 4), (1, 4, .t 7)] },
    { dst := none, k := .st (.t 2) (.t 8) 5 2, vb := .only [2] }])
  (.ret))
theorem chk_impl_copyBind : fnOK Try.prog 1 Try.f45 ac_impl_copyBind [(.cell 2 5 true, .fz)] = true := by kernel_rfl
def wp_impl_copyBind (p0 : Bd) (post : Bd → Prop) : Prop :=
  (∃ r1 : Tm, C_impl_copyTerm (Bd.term p0) r1 ∧ post (Bd.mk (Bd.name p0) r1))
theorem w_impl_copyBind (p0 : Bd) (post : Bd → Prop) (h : wp_impl_copyBind p0 post) : ∃ r, post r ∧ C_impl_copyBind p0 r := by
  unfold wp_impl_copyBind at h
  refine evs_of (encR := fun r : Bd => .one (.l (.fz (.agg (Bd.cells r))))) (encO := fun r => []) 1 [(.cell 2 5 true, .fz)] [.fz] Try.func45 chk_impl_copyBind rfl rfl [(0, .p (.agg (Bd.cells p0)))] [] [] rfl ?_
  refine aw_seq (s_reg ?_)
  refine s_run 2 [(2, .ptr 2 0), (1, .ptr 1 0)] [(2, [pS ([] : Str), pI (0 : Int), pI (0 : Int), pS ([] : Str), pL (Tm.encL ([] : List Tm))]), (1, [pS (Bd.name p0), pI (Tm.kind (Bd.term p0)), pI (Tm.n (Bd.term p0)), pS (Tm.name (Bd.term p0)), pL (Tm.encL (Tm.args (Bd.term p0)))])] [] rfl ?_
  refine seq_n (aw_seq (s_reg ?_))
  refine s_run 4 [(6, .agg [pI (Tm.kind (Bd.term p0)), pI (Tm.n (Bd.term p0)), pS (Tm.name (Bd.term p0)), pL (Tm.encL (Tm.args (Bd.term p0)))]), (5, .ptr 1 1), (4, pS (Bd.name p0)), (3, .ptr 1 0)] [] [] rfl ?_
  obtain ⟨r1, k2, h⟩ := h
  refine s_call (.p (.agg (Tm.cells r1))) [] [] rfl k2 rfl ?_
  refine s_run 2 [(8, .agg [pS (Bd.name p0), pI (Tm.kind r1), pI (Tm.n r1), pS (Tm.name r1), pL (Tm.encL (Tm.args r1))])] [(2, [pS (Bd.name p0), pI (Tm.kind r1), pI (Tm.n r1), pS (Tm.name r1), pL (Tm.encL (Tm.args r1))])] [] rfl ?_
  refine seq_n (aw_ret ?_)
  exact endp_ret _ h rfl


def ac_spec_l1Pick : AC :=
  .seq (.reg false [
    { dst := some 4, k := .mv (.c (.str [])) }])
  (.seq (.reg false [
    { dst := some 5, k := .mv (.t 1) },
    { dst := some 6, k := .mv (.t 0) },
    { dst := some 7, k := .mv (.t 1) },
    { dst := some 8, k := .len (.t 7) },
    { dst := some 9, k := .call 49 [(.t 6, .io [false, false, false]), (.t 8, .fz)] },
    { dst := some 10, k := .ia (.t 5) (.t 9) 1 },
    { dst := some 11, k := .ld (.t 10) 1 false },
    { dst := some 4, k := .mv (.t 11) }])
  (.ret))
theorem chk_spec_l1Pick : fnOK Try.prog 2 Try.f67 ac_spec_l1Pick [(.tmp 4, .fz)] = true := by kernel_rfl
def wp_spec_l1Pick (p0 : T_spec_l1Cur) (p1 : (List Str)) (post : (Str × T_spec_l1Cur) → Prop) : Prop :=
  (∃ r1 : Int × T_spec_l1Cur, C_spec_l1Below p0 ((List.length p1 : Nat) : Int) r1 ∧ (∃ u3, GETI p1 r1.1 u3 ∧ post (u3, r1.2)))
theorem w_spec_l1Pick (p0 : T_spec_l1Cur) (p1 : (List Str)) (post : (Str × T_spec_l1Cur) → Prop) (h : wp_spec_l1Pick p0 p1 post) : ∃ r, post r ∧ C_spec_l1Pick p0 p1 r := by
  unfold wp_spec_l1Pick at h
  refine evs_of (encR := fun r : Str × T_spec_l1Cur => .one (.l (.fz (.str r.1)))) (encO := fun r => [.ptr [.fz (.slice (e_u8 (T_spec_l1Cur.b r.2))), .fz (.int .i64 (T_spec_l1Cur.i r.2)), .fz (.int .i64 (T_spec_l1Cur.h r.2))]]) 2 [(.tmp 4, .fz)] [.io [false, false, false], .fz] Try.func67 chk_spec_l1Pick rfl rfl [(1, pL (e_str p1)), (0, .ptr 0 0)] [(0, [pL (e_u8 (T_spec_l1Cur.b p0)), pI (T_spec_l1Cur.i p0), pI (T_spec_l1Cur.h p0)])] [] rfl ?_
  refine aw_seq (s_reg ?_)
  refine s_run 1 [(4, pS ([] : Str))] [] [] rfl ?_
  refine seq_n (aw_seq (s_reg ?_))
  refine s_run 3 [(7, pL (e_str p1)), (6, .ptr 0 0), (5, pL (e_str p1))] [] [] rfl ?_
  refine s_len rfl (enc_len (e := e_str) _) ?_
  obtain ⟨r1, k2, h⟩ := h
  refine s_call (pI r1.1) [(0, [pL (e_u8 (T_spec_l1Cur.b r1.2)), pI (T_spec_l1Cur.i r1.2), pI (T_spec_l1Cur.h r1.2)])] [] rfl k2 rfl ?_
  obtain ⟨u3, ⟨g4a, g4b⟩, h⟩ := h
  refine s_ia rfl rfl g4a (enc_get (e := e_str) g4b) rfl ?_
  refine s_run 2 [(4, pS u3), (11, pS u3)] [] [] rfl ?_
  refine seq_n (aw_ret ?_)
  exact endp_ret _ h rfl


def ac_impl_VarsOfTerm : AC :=
  .seq (.reg false [
    { dst := some 1, k := .bx (.t 0) 4 },
    { dst := some 2, k := .asg (.nl 1) }])
  (.seq (.reg false [
    { dst := some 3, k := .ld (.t 1) 4 true },
    { dst := some 4, k := .call 64 [(.t 3, .fz)] },
    { dst := some 5, k := .call 50 [(.t 4, .fz)] },
    { dst := some 2, k := .mv (.t 5) }])
  (.ret))
theorem chk_impl_VarsOfTerm : fnOK Try.prog 1 Try.f34 ac_impl_VarsOfTerm [(.tmp 2, .ow)] = true := by kernel_rfl
def wp_impl_VarsOfTerm (p0 : Tm) (post : (List Str) → Prop) : Prop :=
  (∃ r1 : (List Str), C_impl_namesIn p0 r1 ∧ (∃ r3 : (List Str), C_impl_SortNames r1 r3 ∧ post r3))
theorem w_impl_VarsOfTerm (p0 : Tm) (post : (List Str) → Prop) (h : wp_impl_VarsOfTerm p0 post) : ∃ r, post r ∧ C_impl_VarsOfTerm p0 r := by
  unfold wp_impl_VarsOfTerm at h
  refine evs_of (encR := fun r : (List Str) => .one (.l (.ow 1 (e_str r)))) (encO := fun r => []) 1 [(.tmp 2, .ow)] [.fz] Try.func34 chk_impl_VarsOfTerm rfl rfl [(0, .p (.agg (Tm.cells p0)))] [] [] rfl ?_
  refine aw_seq (s_reg ?_)
  refine s_run 2 [(2, .tip (0, 2, 0) (0) (e_str ([] : List Str))), (1, .ptr 1 0)] [(1, [pI (Tm.kind p0), pI (Tm.n p0), pS (Tm.name p0), pL (Tm.encL (Tm.args p0))])] [((0, 2, 0), 0, .tip (e_str ([] : List Str)).length 1)] rfl ?_
  refine seq_n (aw_seq (s_reg ?_))
  refine s_run 1 [(3, .agg [pI (Tm.kind p0), pI (Tm.n p0), pS (Tm.name p0), pL (Tm.encL (Tm.args p0))])] [] [] rfl ?_
  obtain ⟨r1, k2, h⟩ := h
  refine s_call (pL (e_str r1)) [] [] rfl k2 rfl ?_
  obtain ⟨r3, k4, h⟩ := h
  refine s_call (.tip (0, 5, 0) (0) (e_str r3)) [] [((0, 5, 0), 0, .tip (e_str r3).length 1)] (args_one rfl (args_nil)) k4 rfl ?_
  refine s_run 1 [(2, .tip (0, 5, 0) (0) (e_str r3))] [] [] rfl ?_
  refine seq_n (aw_ret ?_)
  exact endp_ret _ h (endB_of (end_one rfl (arg_own rfl rfl) (end_nil)) (end_nil) (of_decide_eq_true rfl) rfl rfl)


def ac_laws_big : AC :=
  .seq (.reg false [
    { dst := some 2, k := .mv (.c (.bool false)) }])
  (.seq (.reg false [
    { dst := some 3, k := .mv (.t 0) },
    { dst := some 4, k := .len (.t 3) },
    { dst := some 5, k := .bin .gtr (.t 4) (.c (.int .i64 (1048576))) },
    { dst := some 2, k := .mv (.t 5) }])
  (.ret))
theorem chk_laws_big : fnOK Try.prog 1 Try.f6 ac_laws_big [(.tmp 2, .fz)] = true := by kernel_rfl
def wp_laws_big (p0 : (List Int)) (post : Bool → Prop) : Prop :=
  post (decide (((List.length p0 : Nat) : Int) > (1048576 : Int)))
theorem w_laws_big (p0 : (List Int)) (post : Bool → Prop) (h : wp_laws_big p0 post) : ∃ r, post r ∧ C_laws_big p0 r := by
  unfold wp_laws_big at h
  refine evs_of (encR := fun r : Bool => .one (.l (.fz (.bool r)))) (encO := fun r => []) 1 [(.tmp 2, .fz)] [.fz] Try.func6 chk_laws_big rfl rfl [(0, pL (e_u8 p0))] [] [] rfl ?_
  refine aw_seq (s_reg ?_)
  refine s_run 1 [(2, pB false)] [] [] rfl ?_
  refine seq_n (aw_seq (s_reg ?_))
  refine s_run 1 [(3, pL (e_u8 p0))] [] [] rfl ?_
  refine s_len rfl (enc_len (e := e_u8) _) ?_
  refine s_run 2 [(2, pB (decide (((List.length p0 : Nat) : Int) > (1048576 : Int)))), (5, pB (decide (((List.length p0 : Nat) : Int) > (1048576 : Int))))] [] [] rfl ?_
  refine seq_n (aw_ret ?_)
  exact endp_ret _ h rfl


end Go.Proofs.Ytfhgjhchjekbgaa
