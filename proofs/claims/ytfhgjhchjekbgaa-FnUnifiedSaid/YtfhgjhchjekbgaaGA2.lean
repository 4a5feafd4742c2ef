/-
  What bodies come to, told over typed data, printed by wp.py.
-/
import Derived.Test.YtfhgjhchjekbgaaGC
import Derived.KernelRfl
set_option linter.unusedVariables false
set_option linter.unusedSimpArgs false
set_option maxHeartbeats 4000000
namespace Go.Proofs.Ytfhgjhchjekbgaa
open Go

def ac_spec_l8Match : AC :=
  .seq (.reg false [
    { dst := some 3, k := .bx (.t 0) 4 },
    { dst := some 4, k := .bx (.t 1) 4 },
    { dst := some 6, k := .asg (.nl 5) },
    { dst := some 7, k := .mv (.c (.bool false)) }])
  (.wk (.seq (.seq (.reg false [
    { dst := some 13, k := .fa (.t 3) 0 },
    { dst := some 14, k := .ld (.t 13) 1 false },
    { dst := some 15, k := .bin .eql (.t 14) (.c (.int .i64 (1))) }])
  (.cond (.t 15) (.seq (.reg false [
      { dst := some 17, k := .mv (.t 2) },
      { dst := some 18, k := .fa (.t 3) 2 },
      { dst := some 19, k := .ld (.t 18) 1 false },
      { dst := some 20, k := .call 53 [(.t 17, .fz), (.t 19, .fz)] },
      { dst := some 16, k := .mv (.t 20) },
      { dst := some 21, k := .ex (.t 16) 0 },
      { dst := some 22, k := .ex (.t 16) 1 },
      { dst := some 8, k := .al [.p (.int .i64 0), .p (.int .i64 0), .p (.str []), .p (.slice [])] },
      { dst := none, k := .st (.t 8) (.t 21) 4 8 },
      { dst := some 9, k := .mv (.t 22) }])
    (.wk (.seq (.seq (.reg false [
      { dst := some 23, k := .mv (.t 9) }])
    (.cond (.t 23) (.seq (.reg false [
        { dst := some 24, k := .mv (.t 2) },
        { dst := some 25, k := .ld (.t 8) 4 true },
        { dst := some 26, k := .ld (.t 4) 4 true },
        { dst := some 27, k := .call 13 [(.t 25, .fz), (.t 26, .fz)] },
        { dst := some 6, k := .mv (.t 24) },
        { dst := some 7, k := .mv (.t 27) }])
      (.ret))
    (.skip)))
    (.wk (.seq (.reg true [
      { dst := some 28, k := .mv (.t 2) },
      { dst := some 29, k := .fa (.t 3) 2 },
      { dst := some 30, k := .ld (.t 29) 1 false, vb := .only [3] },
      { dst := some 31, k := .ld (.t 4) 4 true, vb := .only [4] },
      { dst := some 32, k := .call 48 [(.t 31, .fz)], vb := .but [3], vl := .but [3] },
      { dst := some 33, k := .bd [.p (.str []), .p (.int .i64 0), .p (.int .i64 0), .p (.str []), .p (.slice [])] [(0, 1, .t 30), (1, 4, .t 32)] },
      { dst := some 34, k := .bs 5 [.t 33] },
      { dst := some 35, k := .app (.t 28) (.t 34) 5 72 },
      { dst := some 6, k := .mv (.t 35) },
      { dst := some 7, k := .mv (.c (.bool true)) }])
    (.ret))))))
  (.skip)))
  (.wk (.seq (.seq (.reg false [
    { dst := some 36, k := .fa (.t 3) 0 },
    { dst := some 37, k := .ld (.t 36) 1 false },
    { dst := some 38, k := .fa (.t 4) 0 },
    { dst := some 39, k := .ld (.t 38) 1 false },
    { dst := some 40, k := .bin .neq (.t 37) (.t 39) },
    { dst := some 41, k := .mv (.t 40) },
    { dst := some 42, k := .fa (.t 3) 1, g := some (41, false) },
    { dst := some 43, k := .ld (.t 42) 1 false, g := some (41, false) },
    { dst := some 44, k := .fa (.t 4) 1, g := some (41, false) },
    { dst := some 45, k := .ld (.t 44) 1 false, g := some (41, false) },
    { dst := some 46, k := .bin .neq (.t 43) (.t 45), g := some (41, false) },
    { dst := some 47, k := .pick (.t 41) (.c (.bool true)) (.t 46) },
    { dst := some 48, k := .mv (.t 47) },
    { dst := some 49, k := .fa (.t 3) 2, g := some (48, false) },
    { dst := some 50, k := .ld (.t 49) 1 false, g := some (48, false) },
    { dst := some 51, k := .fa (.t 4) 2, g := some (48, false) },
    { dst := some 52, k := .ld (.t 51) 1 false, g := some (48, false) },
    { dst := some 53, k := .bin .neq (.t 50) (.t 52), g := some (48, false) },
    { dst := some 54, k := .pick (.t 48) (.c (.bool true)) (.t 53) },
    { dst := some 55, k := .mv (.t 54) },
    { dst := some 56, k := .fa (.t 3) 3, g := some (55, false) },
    { dst := some 57, k := .ld (.t 56) 1 false, g := some (55, false) },
    { dst := some 58, k := .len (.t 57), g := some (55, false) },
    { dst := some 59, k := .fa (.t 4) 3, g := some (55, false) },
    { dst := some 60, k := .ld (.t 59) 1 false, g := some (55, false) },
    { dst := some 61, k := .len (.t 60), g := some (55, false) },
    { dst := some 62, k := .bin .neq (.t 58) (.t 61), g := some (55, false) },
    { dst := some 63, k := .pick (.t 55) (.c (.bool true)) (.t 62) }])
  (.wk (.cond (.t 63) (.seq (.reg false [
      { dst := some 64, k := .mv (.t 2) },
      { dst := some 6, k := .mv (.t 64) },
      { dst := some 7, k := .mv (.c (.bool false)) }])
    (.ret))
  (.skip))))
  (.wk (.seq (.seq (.reg false [
    { dst := some 10, k := .mv (.c (.int .i64 (0))) }])
  (.block 0 (.loop (.seq (.seq (.reg false [
        { dst := some 65, k := .mv (.t 10) },
        { dst := some 66, k := .fa (.t 3) 3 },
        { dst := some 67, k := .ld (.t 66) 1 false },
        { dst := some 68, k := .len (.t 67) },
        { dst := some 69, k := .bin .lss (.t 65) (.t 68) }])
      (.cond (.t 69) (.skip)
      (.exit 0)))
      (.wk (.seq (.block 1 (.seq (.reg true [
          { dst := some 73, k := .fa (.t 3) 3 },
          { dst := some 74, k := .ld (.t 73) 1 false, vb := .only [3] },
          { dst := some 75, k := .mv (.t 10) },
          { dst := some 76, k := .ia (.t 74) (.t 75) 4 },
          { dst := some 77, k := .ld (.t 76) 4 true, vb := .only [] },
          { dst := some 78, k := .fa (.t 4) 3 },
          { dst := some 79, k := .ld (.t 78) 1 false, vb := .only [4] },
          { dst := some 80, k := .mv (.t 10) },
          { dst := some 81, k := .ia (.t 79) (.t 80) 4 },
          { dst := some 82, k := .ld (.t 81) 4 true, vb := .only [] },
          { dst := some 83, k := .mv (.t 2) },
          { dst := some 84, k := .call 35 [(.t 77, .fz), (.t 82, .fz), (.t 83, .ow)] },
          { dst := some 72, k := .mv (.t 84) },
          { dst := some 85, k := .ex (.t 72) 0 },
          { dst := some 86, k := .ex (.t 72) 1 },
          { dst := some 11, k := .mv (.t 85) },
          { dst := some 12, k := .mv (.t 86) }])
        (.wk (.seq (.seq (.reg false [
          { dst := some 87, k := .mv (.t 12) },
          { dst := some 88, k := .un .not (.t 87) }])
        (.cond (.t 88) (.seq (.reg false [
            { dst := some 89, k := .mv (.t 2) },
            { dst := some 6, k := .mv (.t 89) },
            { dst := some 7, k := .mv (.c (.bool false)) }])
          (.ret))
        (.skip)))
        (.reg false [
          { dst := some 90, k := .mv (.t 11) },
          { dst := some 2, k := .asgo (.t 90) }])))))
      (.wk (.reg false [
        { dst := some 70, k := .mv (.t 10) },
        { dst := some 71, k := .bin .add (.t 70) (.c (.int .i64 (1))) },
        { dst := some 10, k := .mv (.t 71) }]))))))))
  (.wk (.seq (.reg false [
    { dst := some 91, k := .mv (.t 2) },
    { dst := some 6, k := .mv (.t 91) },
    { dst := some 7, k := .mv (.c (.bool true)) }])
  (.ret)))))))))
theorem chk2_spec_l8Match : fnOK Try.prog 3 Try.f35 ac_spec_l8Match [(.tmp 6, .fz), (.tmp 7, .fz)] = true := by kernel_rfl
theorem chk_spec_l8Match : fnOK Try.prog 3 Try.f35 ac_spec_l8Match [(.tmp 6, .ow), (.tmp 7, .fz)] = true := by kernel_rfl
def wp_spec_l8Match (p0 : Tm) (p1 : Tm) (p2 : (List Bd)) (post : ((List Bd) × Bool) → Prop) : Prop :=
  ((((Tm.kind p0) == (1 : Int)) = true → (∃ r2 : Tm × Bool, C_spec_FindBind p2 (Tm.name p0) r2 ∧ ((r2.2 = true → (∃ r5 : Bool, C_spec_EqualTerm r2.1 p1 r5 ∧ post (p2, r5))) ∧ (r2.2 = false → (∃ r8 : Tm, C_spec_l3Copy p1 r8 ∧ ((List.length p2 + List.length ([(Bd.mk (Tm.name p0) r8)] : List Bd)) * 72 ≤ 140737488355328 ∧ post ((p2 ++ ([(Bd.mk (Tm.name p0) r8)] : List Bd)), true))))))) ∧ (((Tm.kind p0) == (1 : Int)) = false → ((((Tm.kind p0) != (Tm.kind p1)) = true → post (p2, false)) ∧ (((Tm.kind p0) != (Tm.kind p1)) = false → ((((Tm.n p0) != (Tm.n p1)) = true → post (p2, false)) ∧ (((Tm.n p0) != (Tm.n p1)) = false → (((!((Tm.name p0) == (Tm.name p1))) = true → post (p2, false)) ∧ ((!((Tm.name p0) == (Tm.name p1))) = false → (((((List.length (Tm.args p0) : Nat) : Int) != ((List.length (Tm.args p1) : Nat) : Int)) = true → post (p2, false)) ∧ ((((List.length (Tm.args p0) : Nat) : Int) != ((List.length (Tm.args p1) : Nat) : Int)) = false → LOOP (fun (N32 : (Int × (List Bd)) → Prop) (s15 : Int × (List Bd)) => (((decide (s15.1 < ((List.length (Tm.args p0) : Nat) : Int))) = true → (∃ u37, GETI (Tm.args p0) s15.1 u37 ∧ (∃ u39, GETI (Tm.args p1) s15.1 u39 ∧ (∃ r41 : (List Bd) × Bool, C_spec_l8Match u37 u39 s15.2 r41 ∧ ((r41.2 = true → N32 ((IntKind.i64.wrap (s15.1 + (1 : Int))), r41.1)) ∧ (r41.2 = false → post (s15.2, false))))))) ∧ ((decide (s15.1 < ((List.length (Tm.args p0) : Nat) : Int))) = false → post (s15.2, true)))) ((0 : Int), p2)))))))))))
theorem w_spec_l8Match (p0 : Tm) (p1 : Tm) (p2 : (List Bd)) (post : ((List Bd) × Bool) → Prop) (h : wp_spec_l8Match p0 p1 p2 post) : ∃ r, post r ∧ C_spec_l8Match p0 p1 p2 r := by
  unfold wp_spec_l8Match at h
  refine evs_of2 (encR := fun r : (List Bd) × Bool => .tup [cond r.2 (.l (.ow 5 (e_Bd r.1))) (.l (.fz (.slice (e_Bd r.1)))), .l (.fz (.bool r.2))]) (encO := fun r => []) 3 [(.tmp 6, .ow), (.tmp 7, .fz)] [(.tmp 6, .fz), (.tmp 7, .fz)] [.fz, .fz, .ow] Try.func35 chk_spec_l8Match chk2_spec_l8Match rfl rfl [(2, .tip (0, 2, 0) (0) (e_Bd p2)), (1, .p (.agg (Tm.cells p1))), (0, .p (.agg (Tm.cells p0)))] [] [((0, 2, 0), 0, .tip (e_Bd p2).length 5)] rfl ?_
  refine aw_seq (s_reg ?_)
  refine s_run 4 [(7, pB false), (6, .tip (0, 6, 0) (0) (e_Bd ([] : List Bd))), (4, .ptr 4 0), (3, .ptr 3 0)] [(4, [pI (Tm.kind p1), pI (Tm.n p1), pS (Tm.name p1), pL (Tm.encL (Tm.args p1))]), (3, [pI (Tm.kind p0), pI (Tm.n p0), pS (Tm.name p0), pL (Tm.encL (Tm.args p0))])] [((0, 6, 0), 0, .tip (e_Bd ([] : List Bd)).length 5)] rfl ?_
  refine seq_n (aw_wk (St [(2, .tip (0, 2, 0) (0) (e_Bd p2)), (3, .ptr 3 0), (4, .ptr 4 0)] [(3, [pI (Tm.kind p0), pI (Tm.n p0), pS (Tm.name p0), pL (Tm.encL (Tm.args p0))]), (4, [pI (Tm.kind p1), pI (Tm.n p1), pS (Tm.name p1), pL (Tm.encL (Tm.args p1))])] [((0, 2, 0), 0, .tip (e_Bd p2).length 5)]) (wk_St ⟨le_rfl _, le_rfl _, le_rfl _, trivial⟩ ⟨box_rfl rfl, box_rfl rfl, trivial⟩ ⟨rfl, trivial⟩ rfl ⟨rfl, rfl, rfl, trivial⟩ ⟨rfl, rfl, rfl, trivial⟩) ?_)
  refine aw_seq (aw_seq (s_reg ?_))
  refine s_run 3 [(15, pB ((Tm.kind p0) == (1 : Int))), (14, pI (Tm.kind p0)), (13, .ptr 3 0)] [] [] rfl ?_
  refine seq_n (s_if rfl (fun c1 => ?_) (fun c1 => ?_))
  · have h := h.1 c1
    refine aw_seq (s_reg ?_)
    refine s_run 3 [(19, pS (Tm.name p0)), (18, .ptr 3 2), (17, .tip (0, 2, 0) (0) (e_Bd p2))] [] [] rfl ?_
    obtain ⟨r2, k3, h⟩ := h
    refine s_call (.tup [.p (.agg (Tm.cells r2.1)), pB r2.2]) [] [] rfl k3 rfl ?_
    refine s_run 6 [(9, pB r2.2), (8, .ptr 8 0), (22, pB r2.2), (21, .p (.agg (Tm.cells r2.1))), (16, .tup [.p (.agg (Tm.cells r2.1)), pB r2.2])] [(8, [pI (Tm.kind r2.1), pI (Tm.n r2.1), pS (Tm.name r2.1), pL (Tm.encL (Tm.args r2.1))]), (8, [pI (0 : Int), pI (0 : Int), pS ([] : Str), pL (Tm.encL ([] : List Tm))])] [] rfl ?_
    refine seq_n (aw_wk (St [(2, .tip (0, 2, 0) (0) (e_Bd p2)), (3, .ptr 3 0), (4, .ptr 4 0), (8, .ptr 8 0), (9, pB r2.2)] [(3, [pI (Tm.kind p0), pI (Tm.n p0), pS (Tm.name p0), pL (Tm.encL (Tm.args p0))]), (4, [pI (Tm.kind p1), pI (Tm.n p1), pS (Tm.name p1), pL (Tm.encL (Tm.args p1))]), (8, [pI (Tm.kind r2.1), pI (Tm.n r2.1), pS (Tm.name r2.1), pL (Tm.encL (Tm.args r2.1))])] [((0, 2, 0), 0, .tip (e_Bd p2).length 5)]) (wk_St ⟨le_rfl _, le_rfl _, le_rfl _, le_rfl _, le_rfl _, trivial⟩ ⟨box_rfl rfl, box_rfl rfl, box_rfl rfl, trivial⟩ ⟨rfl, trivial⟩ rfl ⟨rfl, rfl, rfl, trivial⟩ ⟨rfl, rfl, rfl, trivial⟩) ?_)
    refine aw_seq (aw_seq (s_reg ?_))
    refine s_run 1 [(23, pB r2.2)] [] [] rfl ?_
    refine seq_n (s_if rfl (fun c4 => ?_) (fun c4 => ?_))
    · have h := h.1 c4
      refine aw_seq (s_reg ?_)
      refine s_run 3 [(26, .agg [pI (Tm.kind p1), pI (Tm.n p1), pS (Tm.name p1), pL (Tm.encL (Tm.args p1))]), (25, .agg [pI (Tm.kind r2.1), pI (Tm.n r2.1), pS (Tm.name r2.1), pL (Tm.encL (Tm.args r2.1))]), (24, .tip (0, 2, 0) (0) (e_Bd p2))] [] [] rfl ?_
      obtain ⟨r5, k6, h⟩ := h
      refine s_call (pB r5) [] [] rfl k6 rfl ?_
      refine s_run 2 [(7, pB r5), (6, .tip (0, 2, 0) (0) (e_Bd p2))] [] [] rfl ?_
      refine seq_n (aw_ret ?_)
      cases b7 : r5 with
      | true =>
        rw [b7] at h
        exact enda1_ret _ h (endB_of (end_one rfl (arg_own rfl rfl) (end_one rfl (rfl) (end_nil))) (end_nil) (of_decide_eq_true rfl) rfl rfl)
      | false =>
        rw [b7] at h
        exact enda2_ret _ h (endB_of (end_one rfl (rfl) (end_one rfl (rfl) (end_nil))) (end_nil) (of_decide_eq_true rfl) rfl rfl)
    · have h := h.2 c4
      refine aw_skip (seq_n (aw_wk (St [(2, .tip (0, 2, 0) (0) (e_Bd p2)), (3, .ptr 3 0), (4, .ptr 4 0)] [(3, [pI (Tm.kind p0), pI (Tm.n p0), pS (Tm.name p0), pL (Tm.encL (Tm.args p0))]), (4, [pI (Tm.kind p1), pI (Tm.n p1), pS (Tm.name p1), pL (Tm.encL (Tm.args p1))])] [((0, 2, 0), 0, .tip (e_Bd p2).length 5)]) (wk_St ⟨le_rfl _, le_rfl _, le_rfl _, trivial⟩ ⟨box_rfl rfl, box_rfl rfl, trivial⟩ ⟨rfl, trivial⟩ rfl ⟨rfl, rfl, rfl, trivial⟩ ⟨rfl, rfl, rfl, trivial⟩) ?_))
      refine aw_seq (s_reg ?_)
      refine s_run 4 [(31, .agg [pI (Tm.kind p1), pI (Tm.n p1), pS (Tm.name p1), pL (Tm.encL (Tm.args p1))]), (30, pS (Tm.name p0)), (29, .ptr 3 2), (28, .tip (0, 2, 0) (0) (e_Bd p2))] [] [] rfl ?_
      obtain ⟨r8, k9, h⟩ := h
      refine s_call (.p (.agg (Tm.cells r8))) [] [] rfl k9 rfl ?_
      refine s_run 1 [(33, .agg [pS (Tm.name p0), pI (Tm.kind r8), pI (Tm.n r8), pS (Tm.name r8), pL (Tm.encL (Tm.args r8))])] [] [] rfl ?_
      refine s_bs rfl rfl (enc_cons (e := e_Bd) (Bd.mk (Tm.name p0) r8) (enc_nil (e := e_Bd))) ?_
      obtain ⟨g10, h⟩ := h
      refine s_app rfl rfl rfl (enc_sz (e := e_Bd) _) (enc_len (e := e_Bd) _) (enc_len (e := e_Bd) _) g10 (enc_app (e := e_Bd) _ _) ?_
      refine s_run 2 [(7, pB true), (6, .tip (0, 2, 0) (0) (e_Bd (p2 ++ ([(Bd.mk (Tm.name p0) r8)] : List Bd))))] [] [] rfl ?_
      refine seq_n (aw_ret ?_)
      exact enda1_ret _ h (endB_of (end_one rfl (arg_own rfl rfl) (end_one rfl (rfl) (end_nil))) (end_nil) (of_decide_eq_true rfl) rfl rfl)
  · have h := h.2 c1
    refine aw_skip (seq_n (aw_wk (St [(2, .tip (0, 2, 0) (0) (e_Bd p2)), (3, .ptr 3 0), (4, .ptr 4 0)] [(3, [pI (Tm.kind p0), pI (Tm.n p0), pS (Tm.name p0), pL (Tm.encL (Tm.args p0))]), (4, [pI (Tm.kind p1), pI (Tm.n p1), pS (Tm.name p1), pL (Tm.encL (Tm.args p1))])] [((0, 2, 0), 0, .tip (e_Bd p2).length 5)]) (wk_St ⟨le_rfl _, le_rfl _, le_rfl _, trivial⟩ ⟨box_rfl rfl, box_rfl rfl, trivial⟩ ⟨rfl, trivial⟩ rfl ⟨rfl, rfl, rfl, trivial⟩ ⟨rfl, rfl, rfl, trivial⟩) ?_))
    refine aw_seq (aw_seq (s_reg ?_))
    refine s_run 6 [(41, pB ((Tm.kind p0) != (Tm.kind p1))), (40, pB ((Tm.kind p0) != (Tm.kind p1))), (39, pI (Tm.kind p1)), (38, .ptr 4 0), (37, pI (Tm.kind p0)), (36, .ptr 3 0)] [] [] rfl ?_
    refine s_op_if rfl rfl (fun c11 => ?_) (fun c11 => ?_)
    · have h := h.1 c11
      refine s_run 22 [(63, pB true), (62, .p (.tup [])), (61, .p (.tup [])), (60, .p (.tup [])), (59, .p (.tup [])), (58, .p (.tup [])), (57, .p (.tup [])), (56, .p (.tup [])), (55, pB true), (54, pB true), (53, .p (.tup [])), (52, .p (.tup [])), (51, .p (.tup [])), (50, .p (.tup [])), (49, .p (.tup [])), (48, pB true), (47, pB true), (46, .p (.tup [])), (45, .p (.tup [])), (44, .p (.tup [])), (43, .p (.tup [])), (42, .p (.tup []))] [] [] rfl ?_
      refine seq_n (aw_wk (St [(2, .tip (0, 2, 0) (0) (e_Bd p2)), (3, .ptr 3 0), (4, .ptr 4 0), (63, pB true)] [(3, [pI (Tm.kind p0), pI (Tm.n p0), pS (Tm.name p0), pL (Tm.encL (Tm.args p0))]), (4, [pI (Tm.kind p1), pI (Tm.n p1), pS (Tm.name p1), pL (Tm.encL (Tm.args p1))])] [((0, 2, 0), 0, .tip (e_Bd p2).length 5)]) (wk_St ⟨le_rfl _, le_rfl _, le_rfl _, le_rfl _, trivial⟩ ⟨box_rfl rfl, box_rfl rfl, trivial⟩ ⟨rfl, trivial⟩ rfl ⟨rfl, rfl, rfl, trivial⟩ ⟨rfl, rfl, rfl, trivial⟩) ?_)
      refine s_yes rfl (aw_seq (s_reg ?_))
      refine s_run 3 [(7, pB false), (6, .tip (0, 2, 0) (0) (e_Bd p2)), (64, .tip (0, 2, 0) (0) (e_Bd p2))] [] [] rfl ?_
      refine seq_n (aw_ret ?_)
      exact enda2_ret _ h (endB_of (end_one rfl (rfl) (end_one rfl (rfl) (end_nil))) (end_nil) (of_decide_eq_true rfl) rfl rfl)
    · have h := h.2 c11
      refine s_run 7 [(48, pB ((Tm.n p0) != (Tm.n p1))), (47, pB ((Tm.n p0) != (Tm.n p1))), (46, pB ((Tm.n p0) != (Tm.n p1))), (45, pI (Tm.n p1)), (44, .ptr 4 1), (43, pI (Tm.n p0)), (42, .ptr 3 1)] [] [] rfl ?_
      refine s_op_if rfl rfl (fun c12 => ?_) (fun c12 => ?_)
      · have h := h.1 c12
        refine s_run 15 [(63, pB true), (62, .p (.tup [])), (61, .p (.tup [])), (60, .p (.tup [])), (59, .p (.tup [])), (58, .p (.tup [])), (57, .p (.tup [])), (56, .p (.tup [])), (55, pB true), (54, pB true), (53, .p (.tup [])), (52, .p (.tup [])), (51, .p (.tup [])), (50, .p (.tup [])), (49, .p (.tup []))] [] [] rfl ?_
        refine seq_n (aw_wk (St [(2, .tip (0, 2, 0) (0) (e_Bd p2)), (3, .ptr 3 0), (4, .ptr 4 0), (63, pB true)] [(3, [pI (Tm.kind p0), pI (Tm.n p0), pS (Tm.name p0), pL (Tm.encL (Tm.args p0))]), (4, [pI (Tm.kind p1), pI (Tm.n p1), pS (Tm.name p1), pL (Tm.encL (Tm.args p1))])] [((0, 2, 0), 0, .tip (e_Bd p2).length 5)]) (wk_St ⟨le_rfl _, le_rfl _, le_rfl _, le_rfl _, trivial⟩ ⟨box_rfl rfl, box_rfl rfl, trivial⟩ ⟨rfl, trivial⟩ rfl ⟨rfl, rfl, rfl, trivial⟩ ⟨rfl, rfl, rfl, trivial⟩) ?_)
        refine s_yes rfl (aw_seq (s_reg ?_))
        refine s_run 3 [(7, pB false), (6, .tip (0, 2, 0) (0) (e_Bd p2)), (64, .tip (0, 2, 0) (0) (e_Bd p2))] [] [] rfl ?_
        refine seq_n (aw_ret ?_)
        exact enda2_ret _ h (endB_of (end_one rfl (rfl) (end_one rfl (rfl) (end_nil))) (end_nil) (of_decide_eq_true rfl) rfl rfl)
      · have h := h.2 c12
        refine s_run 7 [(55, pB (!((Tm.name p0) == (Tm.name p1)))), (54, pB (!((Tm.name p0) == (Tm.name p1)))), (53, pB (!((Tm.name p0) == (Tm.name p1)))), (52, pS (Tm.name p1)), (51, .ptr 4 2), (50, pS (Tm.name p0)), (49, .ptr 3 2)] [] [] rfl ?_
        refine s_op_if rfl rfl (fun c13 => ?_) (fun c13 => ?_)
        · have h := h.1 c13
          refine s_run 8 [(63, pB true), (62, .p (.tup [])), (61, .p (.tup [])), (60, .p (.tup [])), (59, .p (.tup [])), (58, .p (.tup [])), (57, .p (.tup [])), (56, .p (.tup []))] [] [] rfl ?_
          refine seq_n (aw_wk (St [(2, .tip (0, 2, 0) (0) (e_Bd p2)), (3, .ptr 3 0), (4, .ptr 4 0), (63, pB true)] [(3, [pI (Tm.kind p0), pI (Tm.n p0), pS (Tm.name p0), pL (Tm.encL (Tm.args p0))]), (4, [pI (Tm.kind p1), pI (Tm.n p1), pS (Tm.name p1), pL (Tm.encL (Tm.args p1))])] [((0, 2, 0), 0, .tip (e_Bd p2).length 5)]) (wk_St ⟨le_rfl _, le_rfl _, le_rfl _, le_rfl _, trivial⟩ ⟨box_rfl rfl, box_rfl rfl, trivial⟩ ⟨rfl, trivial⟩ rfl ⟨rfl, rfl, rfl, trivial⟩ ⟨rfl, rfl, rfl, trivial⟩) ?_)
          refine s_yes rfl (aw_seq (s_reg ?_))
          refine s_run 3 [(7, pB false), (6, .tip (0, 2, 0) (0) (e_Bd p2)), (64, .tip (0, 2, 0) (0) (e_Bd p2))] [] [] rfl ?_
          refine seq_n (aw_ret ?_)
          exact enda2_ret _ h (endB_of (end_one rfl (rfl) (end_one rfl (rfl) (end_nil))) (end_nil) (of_decide_eq_true rfl) rfl rfl)
        · have h := h.2 c13
          refine s_run 2 [(57, pL (Tm.encL (Tm.args p0))), (56, .ptr 3 3)] [] [] rfl ?_
          refine s_on rfl ?_
          refine s_len rfl (enc_len (e := Tm.encL) _) ?_
          refine s_run 2 [(60, pL (Tm.encL (Tm.args p1))), (59, .ptr 4 3)] [] [] rfl ?_
          refine s_on rfl ?_
          refine s_len rfl (enc_len (e := Tm.encL) _) ?_
          refine s_run 2 [(63, pB (((List.length (Tm.args p0) : Nat) : Int) != ((List.length (Tm.args p1) : Nat) : Int))), (62, pB (((List.length (Tm.args p0) : Nat) : Int) != ((List.length (Tm.args p1) : Nat) : Int)))] [] [] rfl ?_
          refine seq_n (aw_wk (St [(2, .tip (0, 2, 0) (0) (e_Bd p2)), (3, .ptr 3 0), (4, .ptr 4 0), (63, pB (((List.length (Tm.args p0) : Nat) : Int) != ((List.length (Tm.args p1) : Nat) : Int)))] [(3, [pI (Tm.kind p0), pI (Tm.n p0), pS (Tm.name p0), pL (Tm.encL (Tm.args p0))]), (4, [pI (Tm.kind p1), pI (Tm.n p1), pS (Tm.name p1), pL (Tm.encL (Tm.args p1))])] [((0, 2, 0), 0, .tip (e_Bd p2).length 5)]) (wk_St ⟨le_rfl _, le_rfl _, le_rfl _, le_rfl _, trivial⟩ ⟨box_rfl rfl, box_rfl rfl, trivial⟩ ⟨rfl, trivial⟩ rfl ⟨rfl, rfl, rfl, trivial⟩ ⟨rfl, rfl, rfl, trivial⟩) ?_)
          refine s_if rfl (fun c14 => ?_) (fun c14 => ?_)
          · have h := h.1 c14
            refine aw_seq (s_reg ?_)
            refine s_run 3 [(7, pB false), (6, .tip (0, 2, 0) (0) (e_Bd p2)), (64, .tip (0, 2, 0) (0) (e_Bd p2))] [] [] rfl ?_
            refine seq_n (aw_ret ?_)
            exact enda2_ret _ h (endB_of (end_one rfl (rfl) (end_one rfl (rfl) (end_nil))) (end_nil) (of_decide_eq_true rfl) rfl rfl)
          · have h := h.2 c14
            refine aw_skip (seq_n (aw_wk (St [(2, .tip (0, 2, 0) (0) (e_Bd p2)), (3, .ptr 3 0), (4, .ptr 4 0)] [(3, [pI (Tm.kind p0), pI (Tm.n p0), pS (Tm.name p0), pL (Tm.encL (Tm.args p0))]), (4, [pI (Tm.kind p1), pI (Tm.n p1), pS (Tm.name p1), pL (Tm.encL (Tm.args p1))])] [((0, 2, 0), 0, .tip (e_Bd p2).length 5)]) (wk_St ⟨le_rfl _, le_rfl _, le_rfl _, trivial⟩ ⟨box_rfl rfl, box_rfl rfl, trivial⟩ ⟨rfl, trivial⟩ rfl ⟨rfl, rfl, rfl, trivial⟩ ⟨rfl, rfl, rfl, trivial⟩) ?_))
            refine aw_seq (aw_seq (s_reg ?_))
            refine s_run 1 [(10, pI (0 : Int))] [] [] rfl ?_
            refine seq_n (aw_blk ?_)
            obtain ⟨I34, m35, h0, h⟩ := h
            refine aw_loop' (ι := { y : (Int × (List Bd)) × (Nat) // I34 y.1 }) (fun x33 => St [(2, .tip (0, 2, 0) (x33.1.2) (e_Bd x33.1.1.2)), (3, .ptr 3 0), (4, .ptr 4 0), (10, pI x33.1.1.1)] [(3, [pI (Tm.kind p0), pI (Tm.n p0), pS (Tm.name p0), pL (Tm.encL (Tm.args p0))]), (4, [pI (Tm.kind p1), pI (Tm.n p1), pS (Tm.name p1), pL (Tm.encL (Tm.args p1))])] [((0, 2, 0), x33.1.2, .tip (e_Bd x33.1.1.2).length 5)]) (fun x33 => m35 x33.1.1) ⟨(_, 0), h0⟩ ?_ ?_
            · exact wk_St ⟨le_rfl _, le_rfl _, le_rfl _, le_rfl _, trivial⟩ ⟨box_rfl rfl, box_rfl rfl, trivial⟩ ⟨rfl, trivial⟩ rfl ⟨rfl, rfl, rfl, trivial⟩ ⟨rfl, rfl, rfl, trivial⟩
            · rintro ⟨⟨s15, s15q⟩, hs15⟩
              replace h := h s15 hs15
              refine aw_seq (aw_seq (s_reg ?_))
              refine s_run 3 [(67, pL (Tm.encL (Tm.args p0))), (66, .ptr 3 3), (65, pI s15.1)] [] [] rfl ?_
              refine s_len rfl (enc_len (e := Tm.encL) _) ?_
              refine s_run 1 [(69, pB (decide (s15.1 < ((List.length (Tm.args p0) : Nat) : Int))))] [] [] rfl ?_
              refine seq_n (s_if rfl (fun c36 => ?_) (fun c36 => ?_))
              · have h := h.1 c36
                refine aw_skip (seq_n (aw_wk (St [(2, .tip (0, 2, 0) (s15q) (e_Bd s15.2)), (3, .ptr 3 0), (4, .ptr 4 0), (10, pI s15.1)] [(3, [pI (Tm.kind p0), pI (Tm.n p0), pS (Tm.name p0), pL (Tm.encL (Tm.args p0))]), (4, [pI (Tm.kind p1), pI (Tm.n p1), pS (Tm.name p1), pL (Tm.encL (Tm.args p1))])] [((0, 2, 0), s15q, .tip (e_Bd s15.2).length 5)]) (wk_St ⟨le_rfl _, le_rfl _, le_rfl _, le_rfl _, trivial⟩ ⟨box_rfl rfl, box_rfl rfl, trivial⟩ ⟨rfl, trivial⟩ rfl ⟨rfl, rfl, rfl, trivial⟩ ⟨rfl, rfl, rfl, trivial⟩) ?_))
                refine aw_seq (aw_blk (aw_seq (s_reg ?_)))
                refine s_run 3 [(75, pI s15.1), (74, pL (Tm.encL (Tm.args p0))), (73, .ptr 3 3)] [] [] rfl ?_
                obtain ⟨u37, ⟨g38a, g38b⟩, h⟩ := h
                refine s_ia rfl rfl g38a (enc_get (e := Tm.encL) g38b) rfl ?_
                refine s_run 4 [(80, pI s15.1), (79, pL (Tm.encL (Tm.args p1))), (78, .ptr 4 3), (77, .p (.agg (Tm.cells u37)))] [] [] rfl ?_
                obtain ⟨u39, ⟨g40a, g40b⟩, h⟩ := h
                refine s_ia rfl rfl g40a (enc_get (e := Tm.encL) g40b) rfl ?_
                refine s_run 2 [(83, .tip (0, 2, 0) (s15q) (e_Bd s15.2)), (82, .p (.agg (Tm.cells u39)))] [] [] rfl ?_
                obtain ⟨r41, k42, h⟩ := h
                cases b43 : r41.2 with
                | true =>
                  have h := h.1 b43
                  unfold C_spec_l8Match at k42
                  rw [b43] at k42
                  refine s_call (.tup [.tip (0, 84, 0) (0) (e_Bd r41.1), pB true]) [] [((0, 2, 0), s15q + 1, .spent), ((0, 84, 0), 0, .tip (e_Bd r41.1).length 5)] (args_one rfl (args_one rfl (args_one (arg_own rfl rfl) (args_nil)))) k42 rfl ?_
                  refine s_run 5 [(12, pB true), (11, .tip (0, 84, 0) (0) (e_Bd r41.1)), (86, pB true), (85, .tip (0, 84, 0) (0) (e_Bd r41.1)), (72, .tup [.tip (0, 84, 0) (0) (e_Bd r41.1), pB true])] [] [] rfl ?_
                  refine seq_n (aw_wk (St [(2, .tip (0, 2, 0) (s15q) (e_Bd s15.2)), (3, .ptr 3 0), (4, .ptr 4 0), (10, pI s15.1), (11, .tip (0, 84, 0) (0) (e_Bd r41.1)), (12, pB true)] [(3, [pI (Tm.kind p0), pI (Tm.n p0), pS (Tm.name p0), pL (Tm.encL (Tm.args p0))]), (4, [pI (Tm.kind p1), pI (Tm.n p1), pS (Tm.name p1), pL (Tm.encL (Tm.args p1))])] [((0, 2, 0), s15q + 1, .spent), ((0, 84, 0), 0, .tip (e_Bd r41.1).length 5)]) (wk_St ⟨le_rfl _, le_rfl _, le_rfl _, le_rfl _, le_rfl _, le_rfl _, trivial⟩ ⟨box_rfl rfl, box_rfl rfl, trivial⟩ ⟨rfl, rfl, trivial⟩ rfl ⟨rfl, rfl, rfl, trivial⟩ ⟨rfl, rfl, rfl, trivial⟩) ?_)
                  refine aw_seq (aw_seq (s_reg ?_))
                  refine s_run 2 [(88, pB false), (87, pB true)] [] [] rfl ?_
                  refine seq_n (s_no rfl (aw_skip (seq_n (s_reg ?_))))
                  refine s_run 1 [(90, .tip (0, 84, 0) (0) (e_Bd r41.1))] [] [] rfl ?_
                  refine s_asgo (g := (0, 84, 0)) (r := 0) (q := s15q + 1 + 1) (sz := 5) (xs := e_Bd r41.1) rfl rfl (by decide) rfl ?_
                  refine blk_n (seq_n (aw_wk (St [(2, .tip (0, 2, 0) (s15q + 1 + 1) (e_Bd r41.1)), (3, .ptr 3 0), (4, .ptr 4 0), (10, pI s15.1)] [(3, [pI (Tm.kind p0), pI (Tm.n p0), pS (Tm.name p0), pL (Tm.encL (Tm.args p0))]), (4, [pI (Tm.kind p1), pI (Tm.n p1), pS (Tm.name p1), pL (Tm.encL (Tm.args p1))])] [((0, 2, 0), s15q + 1 + 1, .tip (e_Bd r41.1).length 5)]) (wk_St ⟨le_rfl _, le_rfl _, le_rfl _, le_rfl _, trivial⟩ ⟨box_rfl rfl, box_rfl rfl, trivial⟩ ⟨rfl, trivial⟩ rfl ⟨rfl, rfl, rfl, trivial⟩ ⟨rfl, rfl, rfl, trivial⟩) ?_))
                  refine s_reg ?_
                  refine s_run 3 [(10, pI (IntKind.i64.wrap (s15.1 + (1 : Int)))), (71, pI (IntKind.i64.wrap (s15.1 + (1 : Int)))), (70, pI s15.1)] [] [] rfl ?_
                  exact loop_n ⟨(_, s15q + 1 + 1), h.1⟩ h.2 (wk_St ⟨le_rfl _, le_rfl _, le_rfl _, le_rfl _, trivial⟩ ⟨box_rfl rfl, box_rfl rfl, trivial⟩ ⟨rfl, trivial⟩ rfl ⟨rfl, rfl, rfl, trivial⟩ ⟨rfl, rfl, rfl, trivial⟩)
                | false =>
                  have h := h.2 b43
                  unfold C_spec_l8Match at k42
                  rw [b43] at k42
                  refine s_call (.tup [pL (e_Bd r41.1), pB false]) [] [((0, 2, 0), s15q + 1, .spent)] (args_one rfl (args_one rfl (args_one (arg_own rfl rfl) (args_nil)))) k42 rfl ?_
                  refine s_run 5 [(12, pB false), (11, pL (e_Bd r41.1)), (86, pB false), (85, pL (e_Bd r41.1)), (72, .tup [pL (e_Bd r41.1), pB false])] [] [] rfl ?_
                  refine seq_n (aw_wk (St [(2, .tip (0, 2, 0) (s15q) (e_Bd s15.2)), (3, .ptr 3 0), (4, .ptr 4 0), (10, pI s15.1), (11, pL (e_Bd r41.1)), (12, pB false)] [(3, [pI (Tm.kind p0), pI (Tm.n p0), pS (Tm.name p0), pL (Tm.encL (Tm.args p0))]), (4, [pI (Tm.kind p1), pI (Tm.n p1), pS (Tm.name p1), pL (Tm.encL (Tm.args p1))])] [((0, 2, 0), s15q + 1, .spent)]) (wk_St ⟨le_rfl _, le_rfl _, le_rfl _, le_rfl _, le_rfl _, le_rfl _, trivial⟩ ⟨box_rfl rfl, box_rfl rfl, trivial⟩ ⟨rfl, trivial⟩ rfl ⟨rfl, rfl, rfl, trivial⟩ ⟨rfl, rfl, rfl, trivial⟩) ?_)
                  refine aw_seq (aw_seq (s_reg ?_))
                  refine s_run 2 [(88, pB true), (87, pB false)] [] [] rfl ?_
                  refine seq_n (s_yes rfl (aw_seq (s_reg ?_)))
                  refine s_run 3 [(7, pB false), (6, .tip (0, 2, 0) (s15q) (e_Bd s15.2)), (89, .tip (0, 2, 0) (s15q) (e_Bd s15.2))] [] [] rfl ?_
                  refine seq_n (aw_ret ?_)
                  exact enda2_ret _ h (endB_of (end_one rfl (rfl) (end_one rfl (rfl) (end_nil))) (end_nil) (of_decide_eq_true rfl) rfl rfl)
              · have h := h.2 c36
                refine aw_exit (seq_x (loop_x (blk_x (seq_n (aw_wk (St [(2, .tip (0, 2, 0) (s15q) (e_Bd s15.2))] [] [((0, 2, 0), s15q, .tip (e_Bd s15.2).length 5)]) (wk_St ⟨le_rfl _, trivial⟩ trivial ⟨rfl, trivial⟩ rfl ⟨rfl, rfl, rfl, trivial⟩ ⟨rfl, rfl, rfl, trivial⟩) ?_)))))
                refine aw_seq (s_reg ?_)
                refine s_run 3 [(7, pB true), (6, .tip (0, 2, 0) (s15q) (e_Bd s15.2)), (91, .tip (0, 2, 0) (s15q) (e_Bd s15.2))] [] [] rfl ?_
                refine seq_n (aw_ret ?_)
                exact enda1_ret _ h (endB_of (end_one rfl (arg_own rfl rfl) (end_one rfl (rfl) (end_nil))) (end_nil) (of_decide_eq_true rfl) rfl rfl)


def ac_spec_l3Draw : AC :=
  .seq (.reg false [
    { dst := some 6, k := .al [.p (.int .i64 0), .p (.int .i64 0), .p (.str []), .nil 4] }])
  (.seq (.seq (.reg false [
    { dst := some 8, k := .mv (.t 1) },
    { dst := some 9, k := .bin .lss (.t 8) (.c (.int .i64 (2))) },
    { dst := some 10, k := .mv (.t 9) },
    { dst := some 11, k := .mv (.t 0), g := some (10, false) },
    { dst := some 12, k := .call 39 [(.t 11, .io [false, false, false]), (.c (.int .i64 (4)), .fz)], g := some (10, false) },
    { dst := some 13, k := .pick (.t 10) (.c (.bool true)) (.t 12) }])
  (.wk (.cond (.t 13) (.seq (.seq (.reg false [
      { dst := some 14, k := .mv (.t 2) },
      { dst := some 15, k := .un .not (.t 14) },
      { dst := some 16, k := .mv (.t 15) },
      { dst := some 17, k := .mv (.t 0), g := some (16, true) },
      { dst := some 18, k := .call 39 [(.t 17, .io [false, false, false]), (.c (.int .i64 (2)), .fz)], g := some (16, true) },
      { dst := some 19, k := .pick (.t 16) (.t 18) (.c (.bool false)) }])
    (.wk (.cond (.t 19) (.seq (.reg false [
        { dst := some 20, k := .mv (.t 0) },
        { dst := some 21, k := .bs 1 [.c (.str [88]), .c (.str [89]), .c (.str [90])] },
        { dst := some 22, k := .call 67 [(.t 20, .io [false, false, false]), (.t 21, .fz)] },
        { dst := some 23, k := .call 57 [(.t 22, .fz)] },
        { dst := none, k := .st (.t 6) (.t 23) 4 6 }])
      (.ret))
    (.skip))))
    (.wk (.seq (.seq (.reg false [
      { dst := some 24, k := .mv (.t 0) },
      { dst := some 25, k := .call 39 [(.t 24, .io [false, false, false]), (.c (.int .i64 (2)), .fz)] }])
    (.wk (.cond (.t 25) (.seq (.reg false [
        { dst := some 26, k := .mv (.t 0) },
        { dst := some 27, k := .call 49 [(.t 26, .io [false, false, false]), (.c (.int .i64 (4)), .fz)] },
        { dst := some 28, k := .call 69 [(.t 27, .fz)] },
        { dst := none, k := .st (.t 6) (.t 28) 4 6 }])
      (.ret))
    (.skip))))
    (.wk (.seq (.reg false [
      { dst := some 29, k := .mv (.t 0) },
      { dst := some 30, k := .bs 1 [.c (.str [97]), .c (.str [98])] },
      { dst := some 31, k := .call 67 [(.t 29, .io [false, false, false]), (.t 30, .fz)] },
      { dst := some 32, k := .bs 4 [] },
      { dst := some 33, k := .call 80 [(.t 31, .fz), (.t 32, .ow)] },
      { dst := none, k := .st (.t 6) (.t 33) 4 6 }])
    (.ret))))))
  (.skip))))
  (.wk (.seq (.seq (.reg false [
    { dst := some 34, k := .mv (.t 0) },
    { dst := some 35, k := .call 39 [(.t 34, .io [false, false, false]), (.c (.int .i64 (3)), .fz)] }])
  (.wk (.cond (.t 35) (.seq (.reg false [
      { dst := some 36, k := .mv (.t 0) },
      { dst := some 37, k := .mv (.t 1) },
      { dst := some 38, k := .bin .sub (.t 37) (.c (.int .i64 (1))) },
      { dst := some 39, k := .mv (.t 2) },
      { dst := some 40, k := .call 63 [(.t 36, .io [false, false, false]), (.t 38, .fz), (.t 39, .fz)] },
      { dst := some 41, k := .call 70 [(.c (.str [103]), .fz), (.t 40, .fz)] },
      { dst := none, k := .st (.t 6) (.t 41) 4 6 }])
    (.ret))
  (.skip))))
  (.wk (.seq (.reg false [
    { dst := some 42, k := .mv (.t 0) },
    { dst := some 43, k := .mv (.t 1) },
    { dst := some 44, k := .bin .sub (.t 43) (.c (.int .i64 (1))) },
    { dst := some 45, k := .mv (.t 2) },
    { dst := some 46, k := .call 63 [(.t 42, .io [false, false, false]), (.t 44, .fz), (.t 45, .fz)] },
    { dst := some 7, k := .al [.p (.int .i64 0), .p (.int .i64 0), .p (.str []), .p (.slice [])] },
    { dst := none, k := .st (.t 7) (.t 46) 4 7 }])
  (.wk (.seq (.reg true [
    { dst := some 47, k := .mv (.t 0) },
    { dst := some 48, k := .bs 1 [.c (.str [102]), .c (.str [102]), .c (.str [104])] },
    { dst := some 49, k := .call 67 [(.t 47, .io [false, false, false]), (.t 48, .fz)], vb := .but [7], vl := .but [7] },
    { dst := some 50, k := .ld (.t 7) 4 true, vb := .only [7] },
    { dst := some 51, k := .mv (.t 0) },
    { dst := some 52, k := .mv (.t 1) },
    { dst := some 53, k := .bin .sub (.t 52) (.c (.int .i64 (1))) },
    { dst := some 54, k := .mv (.t 2) },
    { dst := some 55, k := .call 63 [(.t 51, .io [false, false, false]), (.t 53, .fz), (.t 54, .fz)], vb := .but [7], vl := .but [7] },
    { dst := some 56, k := .call 81 [(.t 49, .fz), (.t 50, .fz), (.t 55, .fz)] },
    { dst := none, k := .st (.t 6) (.t 56) 4 6, vb := .only [6] }])
  (.ret))))))))
theorem chk_spec_l3Draw : fnOK Try.prog 3 Try.f63 ac_spec_l3Draw [(.cell 6 4 true, .ag [false, false, false, true])] = true := by kernel_rfl
def wp_spec_l3Draw (p0 : T_spec_l1Cur) (p1 : Int) (p2 : Bool) (post : (Tm × T_spec_l1Cur) → Prop) : Prop :=
  JOIN (fun (N5 : (Bool × T_spec_l1Cur) → Prop) => (((decide (p1 < (2 : Int))) = true → N5 (true, p0)) ∧ ((decide (p1 < (2 : Int))) = false → (∃ r56 : Bool × T_spec_l1Cur, C_spec_l1Once p0 (4 : Int) r56 ∧ N5 (r56.1, r56.2))))) (fun (t4 : Bool × T_spec_l1Cur) => ((t4.1 = true → JOIN (fun (N18 : T_spec_l1Cur → Prop) => (((!p2) = true → (∃ r33 : Bool × T_spec_l1Cur, C_spec_l1Once t4.2 (2 : Int) r33 ∧ ((r33.1 = true → (∃ r36 : Str × T_spec_l1Cur, C_spec_l1Pick r33.2 ([([88] : Str), ([89] : Str), ([90] : Str)] : List Str) r36 ∧ (∃ r38 : Tm, C_spec_l3Var r36.1 r38 ∧ post (r38, r36.2)))) ∧ (r33.1 = false → N18 r33.2)))) ∧ ((!p2) = false → N18 t4.2))) (fun (t17 : T_spec_l1Cur) => (∃ r21 : Bool × T_spec_l1Cur, C_spec_l1Once t17 (2 : Int) r21 ∧ ((r21.1 = true → (∃ r24 : Int × T_spec_l1Cur, C_spec_l1Below r21.2 (4 : Int) r24 ∧ (∃ r26 : Tm, C_spec_l3Word r24.1 r26 ∧ post (r26, r24.2)))) ∧ (r21.1 = false → (∃ r28 : Str × T_spec_l1Cur, C_spec_l1Pick r21.2 ([([97] : Str), ([98] : Str)] : List Str) r28 ∧ (∃ r30 : Tm, C_spec_l3App r28.1 ([] : List Tm) r30 ∧ post (r30, r28.2)))))))) ∧ (t4.1 = false → (∃ r40 : Bool × T_spec_l1Cur, C_spec_l1Once t4.2 (3 : Int) r40 ∧ ((r40.1 = true → (∃ r43 : Tm × T_spec_l1Cur, C_spec_l3Draw r40.2 (IntKind.i64.wrap (p1 - (1 : Int))) p2 r43 ∧ (∃ r45 : Tm, C_spec_l3One ([103] : Str) r43.1 r45 ∧ post (r45, r43.2)))) ∧ (r40.1 = false → (∃ r47 : Tm × T_spec_l1Cur, C_spec_l3Draw r40.2 (IntKind.i64.wrap (p1 - (1 : Int))) p2 r47 ∧ (∃ r49 : Str × T_spec_l1Cur, C_spec_l1Pick r47.2 ([([102] : Str), ([102] : Str), ([104] : Str)] : List Str) r49 ∧ (∃ r51 : Tm × T_spec_l1Cur, C_spec_l3Draw r49.2 (IntKind.i64.wrap (p1 - (1 : Int))) p2 r51 ∧ (∃ r53 : Tm, C_spec_l3Pair r49.1 r47.1 r51.1 r53 ∧ post (r53, r51.2)))))))))))
theorem w_spec_l3Draw (p0 : T_spec_l1Cur) (p1 : Int) (p2 : Bool) (post : (Tm × T_spec_l1Cur) → Prop) (h : wp_spec_l3Draw p0 p1 p2 post) : ∃ r, post r ∧ C_spec_l3Draw p0 p1 p2 r := by
  unfold wp_spec_l3Draw at h
  refine evs_of (encR := fun r : Tm × T_spec_l1Cur => .one (.agg [.fz (.int .i64 (Tm.kind r.1)), .fz (.int .i64 (Tm.n r.1)), .fz (.str (Tm.name r.1)), .ow 4 (Tm.encL (Tm.args r.1))])) (encO := fun r => [.ptr [.fz (.slice (e_u8 (T_spec_l1Cur.b r.2))), .fz (.int .i64 (T_spec_l1Cur.i r.2)), .fz (.int .i64 (T_spec_l1Cur.h r.2))]]) 3 [(.cell 6 4 true, .ag [false, false, false, true])] [.io [false, false, false], .fz, .fz] Try.func63 chk_spec_l3Draw rfl rfl [(2, pB p2), (1, pI p1), (0, .ptr 0 0)] [(0, [pL (e_u8 (T_spec_l1Cur.b p0)), pI (T_spec_l1Cur.i p0), pI (T_spec_l1Cur.h p0)])] [] rfl ?_
  refine aw_seq (s_reg ?_)
  refine s_run 1 [(6, .ptr 6 0)] [(6, [pI (0 : Int), pI (0 : Int), pS ([] : Str), .tip (1, 6, 3) (0) (Tm.encL ([] : List Tm))])] [((1, 6, 3), 0, .tip (Tm.encL ([] : List Tm)).length 4)] rfl ?_
  refine seq_n (aw_seq ?_)
  obtain ⟨J7, hJ7, h⟩ := h
  refine aw_join (ι := { y : Bool × T_spec_l1Cur // J7 y }) (fun x6 => St [(0, .ptr 0 0), (1, pI p1), (2, pB p2), (6, .ptr 6 0), (13, pB x6.1.1)] [(0, [pL (e_u8 (T_spec_l1Cur.b x6.1.2)), pI (T_spec_l1Cur.i x6.1.2), pI (T_spec_l1Cur.h x6.1.2)]), (6, [pI (0 : Int), pI (0 : Int), pS ([] : Str), .tip (1, 6, 3) (0) (Tm.encL ([] : List Tm))])] [((1, 6, 3), 0, .tip (Tm.encL ([] : List Tm)).length 4)]) ?_ ?_
  · rintro ⟨t4, ht4⟩
    replace h := hJ7 t4 ht4
    refine s_if rfl (fun c8 => ?_) (fun c8 => ?_)
    · have h := h.1 c8
      obtain ⟨J20, hJ20, h⟩ := h
      refine aw_join (ι := { y : T_spec_l1Cur // J20 y }) (fun x19 => St [(0, .ptr 0 0), (6, .ptr 6 0)] [(0, [pL (e_u8 (T_spec_l1Cur.b x19.1)), pI (T_spec_l1Cur.i x19.1), pI (T_spec_l1Cur.h x19.1)]), (6, [pI (0 : Int), pI (0 : Int), pS ([] : Str), .tip (1, 6, 3) (0) (Tm.encL ([] : List Tm))])] [((1, 6, 3), 0, .tip (Tm.encL ([] : List Tm)).length 4)]) ?_ ?_
      · rintro ⟨t17, ht17⟩
        replace h := hJ20 t17 ht17
        refine aw_seq (aw_seq (s_reg ?_))
        refine s_run 1 [(24, .ptr 0 0)] [] [] rfl ?_
        obtain ⟨r21, k22, h⟩ := h
        refine s_call (pB r21.1) [(0, [pL (e_u8 (T_spec_l1Cur.b r21.2)), pI (T_spec_l1Cur.i r21.2), pI (T_spec_l1Cur.h r21.2)])] [] rfl k22 rfl ?_
        refine seq_n (aw_wk (St [(0, .ptr 0 0), (6, .ptr 6 0), (25, pB r21.1)] [(0, [pL (e_u8 (T_spec_l1Cur.b r21.2)), pI (T_spec_l1Cur.i r21.2), pI (T_spec_l1Cur.h r21.2)]), (6, [pI (0 : Int), pI (0 : Int), pS ([] : Str), .tip (1, 6, 3) (0) (Tm.encL ([] : List Tm))])] [((1, 6, 3), 0, .tip (Tm.encL ([] : List Tm)).length 4)]) (wk_St ⟨le_rfl _, le_rfl _, le_rfl _, trivial⟩ ⟨box_rfl rfl, box_rfl rfl, trivial⟩ ⟨rfl, trivial⟩ rfl ⟨rfl, rfl, rfl, trivial⟩ ⟨rfl, rfl, rfl, trivial⟩) ?_)
        refine s_if rfl (fun c23 => ?_) (fun c23 => ?_)
        · have h := h.1 c23
          refine aw_seq (s_reg ?_)
          refine s_run 1 [(26, .ptr 0 0)] [] [] rfl ?_
          obtain ⟨r24, k25, h⟩ := h
          refine s_call (pI r24.1) [(0, [pL (e_u8 (T_spec_l1Cur.b r24.2)), pI (T_spec_l1Cur.i r24.2), pI (T_spec_l1Cur.h r24.2)])] [] rfl k25 rfl ?_
          obtain ⟨r26, k27, h⟩ := h
          refine s_call (.agg [pI (Tm.kind r26), pI (Tm.n r26), pS (Tm.name r26), .tip (2, 28, 3) (0) (Tm.encL (Tm.args r26))]) [] [((2, 28, 3), 0, .tip (Tm.encL (Tm.args r26)).length 4)] (args_one rfl (args_nil)) k27 rfl ?_
          refine s_run 1 [] [(6, [pI (Tm.kind r26), pI (Tm.n r26), pS (Tm.name r26), .tip (2, 28, 3) (0) (Tm.encL (Tm.args r26))])] [] rfl ?_
          refine seq_n (aw_ret ?_)
          exact endp_ret _ h (endB_of (end_one rfl (arg_ag rfl (leaves_one (rfl) (leaves_one (rfl) (leaves_one (rfl) (leaves_one (leaf_own rfl rfl) (leaves_nil)))))) (end_nil)) (end_one rfl (arg_io rfl rfl (leaves_one (rfl) (leaves_one (rfl) (leaves_one (rfl) (leaves_nil))))) (end_nil)) (of_decide_eq_true rfl) rfl rfl)
        · have h := h.2 c23
          refine aw_skip (seq_n (aw_wk (St [(0, .ptr 0 0), (6, .ptr 6 0)] [(0, [pL (e_u8 (T_spec_l1Cur.b r21.2)), pI (T_spec_l1Cur.i r21.2), pI (T_spec_l1Cur.h r21.2)]), (6, [pI (0 : Int), pI (0 : Int), pS ([] : Str), .tip (1, 6, 3) (0) (Tm.encL ([] : List Tm))])] [((1, 6, 3), 0, .tip (Tm.encL ([] : List Tm)).length 4)]) (wk_St ⟨le_rfl _, le_rfl _, trivial⟩ ⟨box_rfl rfl, box_rfl rfl, trivial⟩ ⟨rfl, trivial⟩ rfl ⟨rfl, rfl, rfl, trivial⟩ ⟨rfl, rfl, rfl, trivial⟩) ?_))
          refine aw_seq (s_reg ?_)
          refine s_run 1 [(29, .ptr 0 0)] [] [] rfl ?_
          refine s_bs rfl rfl (enc_cons (e := e_str) ([97] : Str) (enc_cons (e := e_str) ([98] : Str) (enc_nil (e := e_str)))) ?_
          obtain ⟨r28, k29, h⟩ := h
          refine s_call (pS r28.1) [(0, [pL (e_u8 (T_spec_l1Cur.b r28.2)), pI (T_spec_l1Cur.i r28.2), pI (T_spec_l1Cur.h r28.2)])] [] rfl k29 rfl ?_
          refine s_bs rfl rfl (enc_nil (e := Tm.encL)) ?_
          obtain ⟨r30, k31, h⟩ := h
          refine s_call (.agg [pI (Tm.kind r30), pI (Tm.n r30), pS (Tm.name r30), .tip (2, 33, 3) (0) (Tm.encL (Tm.args r30))]) [] [((0, 32, 0), 1, .spent), ((2, 33, 3), 0, .tip (Tm.encL (Tm.args r30)).length 4)] (args_one rfl (args_one (arg_own rfl rfl) (args_nil))) k31 rfl ?_
          refine s_run 1 [] [(6, [pI (Tm.kind r30), pI (Tm.n r30), pS (Tm.name r30), .tip (2, 33, 3) (0) (Tm.encL (Tm.args r30))])] [] rfl ?_
          refine seq_n (aw_ret ?_)
          exact endp_ret _ h (endB_of (end_one rfl (arg_ag rfl (leaves_one (rfl) (leaves_one (rfl) (leaves_one (rfl) (leaves_one (leaf_own rfl rfl) (leaves_nil)))))) (end_nil)) (end_one rfl (arg_io rfl rfl (leaves_one (rfl) (leaves_one (rfl) (leaves_one (rfl) (leaves_nil))))) (end_nil)) (of_decide_eq_true rfl) rfl rfl)
      · refine aw_seq (s_reg ?_)
        refine s_run 3 [(16, pB (!p2)), (15, pB (!p2)), (14, pB p2)] [] [] rfl ?_
        refine s_op_if rfl rfl (fun c32 => ?_) (fun c32 => ?_)
        · have h := h.1 c32
          refine s_run 1 [(17, .ptr 0 0)] [] [] rfl ?_
          refine s_on rfl ?_
          obtain ⟨r33, k34, h⟩ := h
          refine s_call (pB r33.1) [(0, [pL (e_u8 (T_spec_l1Cur.b r33.2)), pI (T_spec_l1Cur.i r33.2), pI (T_spec_l1Cur.h r33.2)])] [] rfl k34 rfl ?_
          refine s_run 1 [(19, pB r33.1)] [] [] rfl ?_
          refine seq_n (aw_wk (St [(0, .ptr 0 0), (6, .ptr 6 0), (19, pB r33.1)] [(0, [pL (e_u8 (T_spec_l1Cur.b r33.2)), pI (T_spec_l1Cur.i r33.2), pI (T_spec_l1Cur.h r33.2)]), (6, [pI (0 : Int), pI (0 : Int), pS ([] : Str), .tip (1, 6, 3) (0) (Tm.encL ([] : List Tm))])] [((1, 6, 3), 0, .tip (Tm.encL ([] : List Tm)).length 4)]) (wk_St ⟨le_rfl _, le_rfl _, le_rfl _, trivial⟩ ⟨box_rfl rfl, box_rfl rfl, trivial⟩ ⟨rfl, trivial⟩ rfl ⟨rfl, rfl, rfl, trivial⟩ ⟨rfl, rfl, rfl, trivial⟩) ?_)
          refine s_if rfl (fun c35 => ?_) (fun c35 => ?_)
          · have h := h.1 c35
            refine aw_seq (s_reg ?_)
            refine s_run 1 [(20, .ptr 0 0)] [] [] rfl ?_
            refine s_bs rfl rfl (enc_cons (e := e_str) ([88] : Str) (enc_cons (e := e_str) ([89] : Str) (enc_cons (e := e_str) ([90] : Str) (enc_nil (e := e_str))))) ?_
            obtain ⟨r36, k37, h⟩ := h
            refine s_call (pS r36.1) [(0, [pL (e_u8 (T_spec_l1Cur.b r36.2)), pI (T_spec_l1Cur.i r36.2), pI (T_spec_l1Cur.h r36.2)])] [] rfl k37 rfl ?_
            obtain ⟨r38, k39, h⟩ := h
            refine s_call (.agg [pI (Tm.kind r38), pI (Tm.n r38), pS (Tm.name r38), .tip (2, 23, 3) (0) (Tm.encL (Tm.args r38))]) [] [((2, 23, 3), 0, .tip (Tm.encL (Tm.args r38)).length 4)] (args_one rfl (args_nil)) k39 rfl ?_
            refine s_run 1 [] [(6, [pI (Tm.kind r38), pI (Tm.n r38), pS (Tm.name r38), .tip (2, 23, 3) (0) (Tm.encL (Tm.args r38))])] [] rfl ?_
            refine seq_n (aw_ret ?_)
            exact endp_ret _ h (endB_of (end_one rfl (arg_ag rfl (leaves_one (rfl) (leaves_one (rfl) (leaves_one (rfl) (leaves_one (leaf_own rfl rfl) (leaves_nil)))))) (end_nil)) (end_one rfl (arg_io rfl rfl (leaves_one (rfl) (leaves_one (rfl) (leaves_one (rfl) (leaves_nil))))) (end_nil)) (of_decide_eq_true rfl) rfl rfl)
          · have h := h.2 c35
            refine aw_skip ?_
            exact join_n ⟨_, h⟩ (wk_St ⟨le_rfl _, le_rfl _, trivial⟩ ⟨box_rfl rfl, box_rfl rfl, trivial⟩ ⟨rfl, trivial⟩ rfl ⟨rfl, rfl, rfl, trivial⟩ ⟨rfl, rfl, rfl, trivial⟩)
        · have h := h.2 c32
          refine s_run 3 [(19, pB false), (18, .p (.tup [])), (17, .p (.tup []))] [] [] rfl ?_
          refine seq_n (aw_wk (St [(0, .ptr 0 0), (6, .ptr 6 0), (19, pB false)] [(0, [pL (e_u8 (T_spec_l1Cur.b t4.2)), pI (T_spec_l1Cur.i t4.2), pI (T_spec_l1Cur.h t4.2)]), (6, [pI (0 : Int), pI (0 : Int), pS ([] : Str), .tip (1, 6, 3) (0) (Tm.encL ([] : List Tm))])] [((1, 6, 3), 0, .tip (Tm.encL ([] : List Tm)).length 4)]) (wk_St ⟨le_rfl _, le_rfl _, le_rfl _, trivial⟩ ⟨box_rfl rfl, box_rfl rfl, trivial⟩ ⟨rfl, trivial⟩ rfl ⟨rfl, rfl, rfl, trivial⟩ ⟨rfl, rfl, rfl, trivial⟩) ?_)
          refine s_no rfl (aw_skip ?_)
          exact join_n ⟨_, h⟩ (wk_St ⟨le_rfl _, le_rfl _, trivial⟩ ⟨box_rfl rfl, box_rfl rfl, trivial⟩ ⟨rfl, trivial⟩ rfl ⟨rfl, rfl, rfl, trivial⟩ ⟨rfl, rfl, rfl, trivial⟩)
    · have h := h.2 c8
      refine aw_skip (seq_n (aw_wk (St [(0, .ptr 0 0), (1, pI p1), (2, pB p2), (6, .ptr 6 0)] [(0, [pL (e_u8 (T_spec_l1Cur.b t4.2)), pI (T_spec_l1Cur.i t4.2), pI (T_spec_l1Cur.h t4.2)]), (6, [pI (0 : Int), pI (0 : Int), pS ([] : Str), .tip (1, 6, 3) (0) (Tm.encL ([] : List Tm))])] [((1, 6, 3), 0, .tip (Tm.encL ([] : List Tm)).length 4)]) (wk_St ⟨le_rfl _, le_rfl _, le_rfl _, le_rfl _, trivial⟩ ⟨box_rfl rfl, box_rfl rfl, trivial⟩ ⟨rfl, trivial⟩ rfl ⟨rfl, rfl, rfl, trivial⟩ ⟨rfl, rfl, rfl, trivial⟩) ?_))
      refine aw_seq (aw_seq (s_reg ?_))
      refine s_run 1 [(34, .ptr 0 0)] [] [] rfl ?_
      obtain ⟨r40, k41, h⟩ := h
      refine s_call (pB r40.1) [(0, [pL (e_u8 (T_spec_l1Cur.b r40.2)), pI (T_spec_l1Cur.i r40.2), pI (T_spec_l1Cur.h r40.2)])] [] rfl k41 rfl ?_
      refine seq_n (aw_wk (St [(0, .ptr 0 0), (1, pI p1), (2, pB p2), (6, .ptr 6 0), (35, pB r40.1)] [(0, [pL (e_u8 (T_spec_l1Cur.b r40.2)), pI (T_spec_l1Cur.i r40.2), pI (T_spec_l1Cur.h r40.2)]), (6, [pI (0 : Int), pI (0 : Int), pS ([] : Str), .tip (1, 6, 3) (0) (Tm.encL ([] : List Tm))])] [((1, 6, 3), 0, .tip (Tm.encL ([] : List Tm)).length 4)]) (wk_St ⟨le_rfl _, le_rfl _, le_rfl _, le_rfl _, le_rfl _, trivial⟩ ⟨box_rfl rfl, box_rfl rfl, trivial⟩ ⟨rfl, trivial⟩ rfl ⟨rfl, rfl, rfl, trivial⟩ ⟨rfl, rfl, rfl, trivial⟩) ?_)
      refine s_if rfl (fun c42 => ?_) (fun c42 => ?_)
      · have h := h.1 c42
        refine aw_seq (s_reg ?_)
        refine s_run 4 [(39, pB p2), (38, pI (IntKind.i64.wrap (p1 - (1 : Int)))), (37, pI p1), (36, .ptr 0 0)] [] [] rfl ?_
        obtain ⟨r43, k44, h⟩ := h
        refine s_call (.agg [pI (Tm.kind r43.1), pI (Tm.n r43.1), pS (Tm.name r43.1), .tip (2, 40, 3) (0) (Tm.encL (Tm.args r43.1))]) [(0, [pL (e_u8 (T_spec_l1Cur.b r43.2)), pI (T_spec_l1Cur.i r43.2), pI (T_spec_l1Cur.h r43.2)])] [((2, 40, 3), 0, .tip (Tm.encL (Tm.args r43.1)).length 4)] (args_one rfl (args_one rfl (args_one rfl (args_nil)))) k44 rfl ?_
        obtain ⟨r45, k46, h⟩ := h
        refine s_call (.agg [pI (Tm.kind r45), pI (Tm.n r45), pS (Tm.name r45), .tip (2, 41, 3) (0) (Tm.encL (Tm.args r45))]) [] [((2, 41, 3), 0, .tip (Tm.encL (Tm.args r45)).length 4)] (args_one rfl (args_one rfl (args_nil))) k46 rfl ?_
        refine s_run 1 [] [(6, [pI (Tm.kind r45), pI (Tm.n r45), pS (Tm.name r45), .tip (2, 41, 3) (0) (Tm.encL (Tm.args r45))])] [] rfl ?_
        refine seq_n (aw_ret ?_)
        exact endp_ret _ h (endB_of (end_one rfl (arg_ag rfl (leaves_one (rfl) (leaves_one (rfl) (leaves_one (rfl) (leaves_one (leaf_own rfl rfl) (leaves_nil)))))) (end_nil)) (end_one rfl (arg_io rfl rfl (leaves_one (rfl) (leaves_one (rfl) (leaves_one (rfl) (leaves_nil))))) (end_nil)) (of_decide_eq_true rfl) rfl rfl)
      · have h := h.2 c42
        refine aw_skip (seq_n (aw_wk (St [(0, .ptr 0 0), (1, pI p1), (2, pB p2), (6, .ptr 6 0)] [(0, [pL (e_u8 (T_spec_l1Cur.b r40.2)), pI (T_spec_l1Cur.i r40.2), pI (T_spec_l1Cur.h r40.2)]), (6, [pI (0 : Int), pI (0 : Int), pS ([] : Str), .tip (1, 6, 3) (0) (Tm.encL ([] : List Tm))])] [((1, 6, 3), 0, .tip (Tm.encL ([] : List Tm)).length 4)]) (wk_St ⟨le_rfl _, le_rfl _, le_rfl _, le_rfl _, trivial⟩ ⟨box_rfl rfl, box_rfl rfl, trivial⟩ ⟨rfl, trivial⟩ rfl ⟨rfl, rfl, rfl, trivial⟩ ⟨rfl, rfl, rfl, trivial⟩) ?_))
        refine aw_seq (s_reg ?_)
        refine s_run 4 [(45, pB p2), (44, pI (IntKind.i64.wrap (p1 - (1 : Int)))), (43, pI p1), (42, .ptr 0 0)] [] [] rfl ?_
        obtain ⟨r47, k48, h⟩ := h
        refine s_call (.agg [pI (Tm.kind r47.1), pI (Tm.n r47.1), pS (Tm.name r47.1), .tip (2, 46, 3) (0) (Tm.encL (Tm.args r47.1))]) [(0, [pL (e_u8 (T_spec_l1Cur.b r47.2)), pI (T_spec_l1Cur.i r47.2), pI (T_spec_l1Cur.h r47.2)])] [((2, 46, 3), 0, .tip (Tm.encL (Tm.args r47.1)).length 4)] (args_one rfl (args_one rfl (args_one rfl (args_nil)))) k48 rfl ?_
        refine s_run 2 [(7, .ptr 7 0)] [(7, [pI (Tm.kind r47.1), pI (Tm.n r47.1), pS (Tm.name r47.1), .tip (2, 46, 3) (0) (Tm.encL (Tm.args r47.1))]), (7, [pI (0 : Int), pI (0 : Int), pS ([] : Str), pL (Tm.encL ([] : List Tm))])] [] rfl ?_
        refine seq_n (aw_wk (St [(0, .ptr 0 0), (1, pI p1), (2, pB p2), (6, .ptr 6 0), (7, .ptr 7 0)] [(0, [pL (e_u8 (T_spec_l1Cur.b r47.2)), pI (T_spec_l1Cur.i r47.2), pI (T_spec_l1Cur.h r47.2)]), (6, [pI (0 : Int), pI (0 : Int), pS ([] : Str), .tip (1, 6, 3) (0) (Tm.encL ([] : List Tm))]), (7, [pI (Tm.kind r47.1), pI (Tm.n r47.1), pS (Tm.name r47.1), .tip (2, 46, 3) (0) (Tm.encL (Tm.args r47.1))])] [((1, 6, 3), 0, .tip (Tm.encL ([] : List Tm)).length 4), ((2, 46, 3), 0, .tip (Tm.encL (Tm.args r47.1)).length 4)]) (wk_St ⟨le_rfl _, le_rfl _, le_rfl _, le_rfl _, le_rfl _, trivial⟩ ⟨box_rfl rfl, box_rfl rfl, box_rfl rfl, trivial⟩ ⟨rfl, rfl, trivial⟩ rfl ⟨rfl, rfl, rfl, trivial⟩ ⟨rfl, rfl, rfl, trivial⟩) ?_)
        refine aw_seq (s_reg ?_)
        refine s_run 1 [(47, .ptr 0 0)] [] [] rfl ?_
        refine s_bs rfl rfl (enc_cons (e := e_str) ([102] : Str) (enc_cons (e := e_str) ([102] : Str) (enc_cons (e := e_str) ([104] : Str) (enc_nil (e := e_str))))) ?_
        obtain ⟨r49, k50, h⟩ := h
        refine s_call (pS r49.1) [(0, [pL (e_u8 (T_spec_l1Cur.b r49.2)), pI (T_spec_l1Cur.i r49.2), pI (T_spec_l1Cur.h r49.2)])] [] rfl k50 rfl ?_
        refine s_run 5 [(54, pB p2), (53, pI (IntKind.i64.wrap (p1 - (1 : Int)))), (52, pI p1), (51, .ptr 0 0), (50, .agg [pI (Tm.kind r47.1), pI (Tm.n r47.1), pS (Tm.name r47.1), .tip (2, 46, 3) (0) (Tm.encL (Tm.args r47.1))])] [] [] rfl ?_
        obtain ⟨r51, k52, h⟩ := h
        refine s_call (.agg [pI (Tm.kind r51.1), pI (Tm.n r51.1), pS (Tm.name r51.1), .tip (2, 55, 3) (0) (Tm.encL (Tm.args r51.1))]) [(0, [pL (e_u8 (T_spec_l1Cur.b r51.2)), pI (T_spec_l1Cur.i r51.2), pI (T_spec_l1Cur.h r51.2)])] [((2, 55, 3), 0, .tip (Tm.encL (Tm.args r51.1)).length 4)] (args_one rfl (args_one rfl (args_one rfl (args_nil)))) k52 rfl ?_
        obtain ⟨r53, k54, h⟩ := h
        refine s_call (.agg [pI (Tm.kind r53), pI (Tm.n r53), pS (Tm.name r53), .tip (2, 56, 3) (0) (Tm.encL (Tm.args r53))]) [] [((2, 56, 3), 0, .tip (Tm.encL (Tm.args r53)).length 4)] (args_one rfl (args_one rfl (args_one rfl (args_nil)))) k54 rfl ?_
        refine s_run 1 [] [(6, [pI (Tm.kind r53), pI (Tm.n r53), pS (Tm.name r53), .tip (2, 56, 3) (0) (Tm.encL (Tm.args r53))])] [] rfl ?_
        refine seq_n (aw_ret ?_)
        exact endp_ret _ h (endB_of (end_one rfl (arg_ag rfl (leaves_one (rfl) (leaves_one (rfl) (leaves_one (rfl) (leaves_one (leaf_own rfl rfl) (leaves_nil)))))) (end_nil)) (end_one rfl (arg_io rfl rfl (leaves_one (rfl) (leaves_one (rfl) (leaves_one (rfl) (leaves_nil))))) (end_nil)) (of_decide_eq_true rfl) rfl rfl)
  · refine s_reg ?_
    refine s_run 3 [(10, pB (decide (p1 < (2 : Int)))), (9, pB (decide (p1 < (2 : Int)))), (8, pI p1)] [] [] rfl ?_
    refine s_op_if rfl rfl (fun c55 => ?_) (fun c55 => ?_)
    · have h := h.1 c55
      refine s_run 3 [(13, pB true), (12, .p (.tup [])), (11, .p (.tup []))] [] [] rfl ?_
      exact join_n ⟨_, h⟩ (wk_St ⟨le_rfl _, le_rfl _, le_rfl _, le_rfl _, le_rfl _, trivial⟩ ⟨box_rfl rfl, box_rfl rfl, trivial⟩ ⟨rfl, trivial⟩ rfl ⟨rfl, rfl, rfl, trivial⟩ ⟨rfl, rfl, rfl, trivial⟩)
    · have h := h.2 c55
      refine s_run 1 [(11, .ptr 0 0)] [] [] rfl ?_
      refine s_on rfl ?_
      obtain ⟨r56, k57, h⟩ := h
      refine s_call (pB r56.1) [(0, [pL (e_u8 (T_spec_l1Cur.b r56.2)), pI (T_spec_l1Cur.i r56.2), pI (T_spec_l1Cur.h r56.2)])] [] rfl k57 rfl ?_
      refine s_run 1 [(13, pB r56.1)] [] [] rfl ?_
      exact join_n ⟨_, h⟩ (wk_St ⟨le_rfl _, le_rfl _, le_rfl _, le_rfl _, le_rfl _, trivial⟩ ⟨box_rfl rfl, box_rfl rfl, trivial⟩ ⟨rfl, trivial⟩ rfl ⟨rfl, rfl, rfl, trivial⟩ ⟨rfl, rfl, rfl, trivial⟩)


def ac_laws_FnMatched : AC :=
  .seq (.reg false [
    { dst := some 2, k := .mv (.c (.bool false)) }])
  (.seq (.seq (.reg false [
    { dst := some 11, k := .mv (.t 0) },
    { dst := some 12, k := .call 6 [(.t 11, .fz)] }])
  (.cond (.t 12) (.seq (.reg false [
      { dst := some 2, k := .mv (.c (.bool true)) }])
    (.ret))
  (.skip)))
  (.wk (.seq (.reg false [
    { dst := some 14, k := .mv (.t 0) },
    { dst := some 15, k := .call 7 [(.t 14, .fz)] },
    { dst := some 13, k := .mv (.t 15) },
    { dst := some 16, k := .ex (.t 13) 0 },
    { dst := some 17, k := .ex (.t 13) 1 },
    { dst := some 3, k := .al [.p (.int .i64 0), .p (.int .i64 0), .p (.str []), .p (.slice [])] },
    { dst := some 4, k := .al [.p (.int .i64 0), .p (.int .i64 0), .p (.str []), .p (.slice [])] },
    { dst := none, k := .st (.t 3) (.t 16) 4 3 },
    { dst := none, k := .st (.t 4) (.t 17) 4 4 }])
  (.wk (.seq (.reg false [
    { dst := some 19, k := .ld (.t 3) 4 true },
    { dst := some 20, k := .ld (.t 4) 4 true },
    { dst := some 21, k := .call 8 [(.t 19, .fz), (.t 20, .fz)] },
    { dst := some 18, k := .mv (.t 21) },
    { dst := some 22, k := .ex (.t 18) 0 },
    { dst := some 23, k := .ex (.t 18) 1 },
    { dst := some 5, k := .mv (.t 22) },
    { dst := some 6, k := .mv (.t 23) }])
  (.wk (.seq (.reg false [
    { dst := some 25, k := .ld (.t 3) 4 true },
    { dst := some 26, k := .ld (.t 4) 4 true },
    { dst := some 27, k := .call 9 [(.t 25, .fz), (.t 26, .fz)] },
    { dst := some 24, k := .mv (.t 27) },
    { dst := some 28, k := .ex (.t 24) 0 },
    { dst := some 29, k := .ex (.t 24) 1 },
    { dst := some 7, k := .mv (.t 28) },
    { dst := some 8, k := .mv (.t 29) }])
  (.wk (.seq (.seq (.reg false [
    { dst := some 30, k := .mv (.t 6) },
    { dst := some 31, k := .mv (.t 8) },
    { dst := some 32, k := .bnb .neq (.t 30) (.t 31) },
    { dst := some 33, k := .mv (.t 32) },
    { dst := some 34, k := .mv (.t 5), g := some (33, false) },
    { dst := some 35, k := .mv (.t 7), g := some (33, false) },
    { dst := some 36, k := .call 10 [(.t 34, .fz), (.t 35, .fz)], g := some (33, false) },
    { dst := some 37, k := .un .not (.t 36), g := some (33, false) },
    { dst := some 38, k := .pick (.t 33) (.c (.bool true)) (.t 37) },
    { dst := some 39, k := .mv (.t 38) },
    { dst := some 40, k := .ld (.t 4) 4 true, g := some (39, false) },
    { dst := some 41, k := .ld (.t 3) 4 true, g := some (39, false) },
    { dst := some 42, k := .call 11 [(.t 40, .fz), (.t 41, .fz)], g := some (39, false) },
    { dst := some 43, k := .mv (.t 6), g := some (39, false) },
    { dst := some 44, k := .bnb .neq (.t 42) (.t 43), g := some (39, false) },
    { dst := some 45, k := .pick (.t 39) (.c (.bool true)) (.t 44) }])
  (.cond (.t 45) (.seq (.reg false [
      { dst := some 2, k := .mv (.c (.bool false)) }])
    (.ret))
  (.skip)))
  (.wk (.seq (.reg false [
    { dst := some 47, k := .mv (.t 0) },
    { dst := some 48, k := .call 12 [(.t 47, .fz)] },
    { dst := some 46, k := .mv (.t 48) },
    { dst := some 49, k := .ex (.t 46) 0 },
    { dst := some 50, k := .ex (.t 46) 1 },
    { dst := some 9, k := .al [.p (.int .i64 0), .p (.int .i64 0), .p (.str []), .p (.slice [])] },
    { dst := some 10, k := .al [.p (.int .i64 0), .p (.int .i64 0), .p (.str []), .p (.slice [])] },
    { dst := none, k := .st (.t 9) (.t 49) 4 9 },
    { dst := none, k := .st (.t 10) (.t 50) 4 10 }])
  (.wk (.seq (.reg true [
    { dst := some 51, k := .mv (.t 6) },
    { dst := some 52, k := .un .not (.t 51) },
    { dst := some 53, k := .mv (.t 52) },
    { dst := some 54, k := .mv (.t 5), g := some (53, false) },
    { dst := some 55, k := .ld (.t 3) 4 true, g := some (53, false), vb := .only [3] },
    { dst := some 56, k := .call 14 [(.t 54, .fz), (.t 55, .fz)], g := some (53, false), vb := .but [4], vl := .but [4] },
    { dst := some 57, k := .ld (.t 4) 4 true, g := some (53, false), vb := .only [4] },
    { dst := some 58, k := .call 13 [(.t 56, .fz), (.t 57, .fz)], g := some (53, false) },
    { dst := some 59, k := .pick (.t 53) (.c (.bool true)) (.t 58) },
    { dst := some 60, k := .mv (.t 59) },
    { dst := some 61, k := .ld (.t 9) 4 true, g := some (60, true), vb := .only [9] },
    { dst := some 62, k := .ld (.t 10) 4 true, g := some (60, true), vb := .only [10] },
    { dst := some 63, k := .call 15 [(.t 61, .fz), (.t 62, .fz)], g := some (60, true), vb := .but [9, 10], vl := .but [9, 10] },
    { dst := some 64, k := .ld (.t 9) 4 true, g := some (60, true), vb := .only [9] },
    { dst := some 65, k := .ld (.t 10) 4 true, g := some (60, true), vb := .only [10] },
    { dst := some 66, k := .call 16 [(.t 64, .fz), (.t 65, .fz)], g := some (60, true) },
    { dst := some 67, k := .bnb .eql (.t 63) (.t 66), g := some (60, true) },
    { dst := some 68, k := .pick (.t 60) (.t 67) (.c (.bool false)) },
    { dst := some 2, k := .mv (.t 68) }])
  (.ret))))))))))))))
theorem chk_laws_FnMatched : fnOK Try.prog 1 Try.f3 ac_laws_FnMatched [(.tmp 2, .fz)] = true := by kernel_rfl
def wp_laws_FnMatched (p0 : (List Int)) (post : Bool → Prop) : Prop :=
  (∃ r1 : Bool, C_laws_big p0 r1 ∧ ((r1 = true → post true) ∧ (r1 = false → (∃ r4 : Tm × Tm, C_spec_DrawMatchTerm p0 r4 ∧ (∃ r6 : (List Bd) × Bool, C_impl_MatchTerm r4.1 r4.2 r6 ∧ (∃ r8 : (List Bd) × Bool, C_spec_MatchTerm r4.1 r4.2 r8 ∧ (((!(r6.2 == r8.2)) = true → post false) ∧ ((!(r6.2 == r8.2)) = false → (∃ r11 : Bool, C_laws_sameBinds r6.1 r8.1 r11 ∧ (((!r11) = true → post false) ∧ ((!r11) = false → (∃ r14 : Bool, C_impl_IsInstance r4.2 r4.1 r14 ∧ (((!(r14 == r6.2)) = true → post false) ∧ ((!(r14 == r6.2)) = false → (∃ r17 : Tm × Tm, C_spec_DrawIsVariant p0 r17 ∧ (((!r6.2) = true → (∃ r20 : Bool, C_impl_IsVariant r17.1 r17.2 r20 ∧ (∃ r22 : Bool, C_spec_IsVariant r17.1 r17.2 r22 ∧ post (r20 == r22)))) ∧ ((!r6.2) = false → (∃ r24 : Tm, C_impl_ApplySubst r6.1 r4.1 r24 ∧ (∃ r26 : Bool, C_spec_EqualTerm r24 r4.2 r26 ∧ ((r26 = true → (∃ r29 : Bool, C_impl_IsVariant r17.1 r17.2 r29 ∧ (∃ r31 : Bool, C_spec_IsVariant r17.1 r17.2 r31 ∧ post (r29 == r31)))) ∧ (r26 = false → post false)))))))))))))))))))))
theorem w_laws_FnMatched (p0 : (List Int)) (post : Bool → Prop) (h : wp_laws_FnMatched p0 post) : ∃ r, post r ∧ C_laws_FnMatched p0 r := by
  unfold wp_laws_FnMatched at h
  refine evs_of (encR := fun r : Bool => .one (.l (.fz (.bool r)))) (encO := fun r => []) 1 [(.tmp 2, .fz)] [.fz] Try.func3 chk_laws_FnMatched rfl rfl [(0, pL (e_u8 p0))] [] [] rfl ?_
  refine aw_seq (s_reg ?_)
  refine s_run 1 [(2, pB false)] [] [] rfl ?_
  refine seq_n (aw_seq (aw_seq (s_reg ?_)))
  refine s_run 1 [(11, pL (e_u8 p0))] [] [] rfl ?_
  obtain ⟨r1, k2, h⟩ := h
  refine s_call (pB r1) [] [] rfl k2 rfl ?_
  refine seq_n (s_if rfl (fun c3 => ?_) (fun c3 => ?_))
  · have h := h.1 c3
    refine aw_seq (s_reg ?_)
    refine s_run 1 [(2, pB true)] [] [] rfl ?_
    refine seq_n (aw_ret ?_)
    exact endp_ret _ h rfl
  · have h := h.2 c3
    refine aw_skip (seq_n (aw_wk (St [(0, pL (e_u8 p0))] [] []) (wk_St ⟨le_rfl _, trivial⟩ trivial trivial rfl ⟨rfl, trivial⟩ ⟨rfl, trivial⟩) ?_))
    refine aw_seq (s_reg ?_)
    refine s_run 1 [(14, pL (e_u8 p0))] [] [] rfl ?_
    obtain ⟨r4, k5, h⟩ := h
    refine s_call (.tup [.p (.agg (Tm.cells r4.1)), .p (.agg (Tm.cells r4.2))]) [] [] rfl k5 rfl ?_
    refine s_run 7 [(4, .ptr 4 0), (3, .ptr 3 0), (17, .p (.agg (Tm.cells r4.2))), (16, .p (.agg (Tm.cells r4.1))), (13, .tup [.p (.agg (Tm.cells r4.1)), .p (.agg (Tm.cells r4.2))])] [(4, [pI (Tm.kind r4.2), pI (Tm.n r4.2), pS (Tm.name r4.2), pL (Tm.encL (Tm.args r4.2))]), (3, [pI (Tm.kind r4.1), pI (Tm.n r4.1), pS (Tm.name r4.1), pL (Tm.encL (Tm.args r4.1))]), (4, [pI (0 : Int), pI (0 : Int), pS ([] : Str), pL (Tm.encL ([] : List Tm))]), (3, [pI (0 : Int), pI (0 : Int), pS ([] : Str), pL (Tm.encL ([] : List Tm))])] [] rfl ?_
    refine seq_n (aw_wk (St [(0, pL (e_u8 p0)), (3, .ptr 3 0), (4, .ptr 4 0)] [(3, [pI (Tm.kind r4.1), pI (Tm.n r4.1), pS (Tm.name r4.1), pL (Tm.encL (Tm.args r4.1))]), (4, [pI (Tm.kind r4.2), pI (Tm.n r4.2), pS (Tm.name r4.2), pL (Tm.encL (Tm.args r4.2))])] []) (wk_St ⟨le_rfl _, le_rfl _, le_rfl _, trivial⟩ ⟨box_rfl rfl, box_rfl rfl, trivial⟩ trivial rfl ⟨rfl, trivial⟩ ⟨rfl, trivial⟩) ?_)
    refine aw_seq (s_reg ?_)
    refine s_run 2 [(20, .agg [pI (Tm.kind r4.2), pI (Tm.n r4.2), pS (Tm.name r4.2), pL (Tm.encL (Tm.args r4.2))]), (19, .agg [pI (Tm.kind r4.1), pI (Tm.n r4.1), pS (Tm.name r4.1), pL (Tm.encL (Tm.args r4.1))])] [] [] rfl ?_
    obtain ⟨r6, k7, h⟩ := h
    refine s_call (.tup [pL (e_Bd r6.1), pB r6.2]) [] [] rfl k7 rfl ?_
    refine s_run 5 [(6, pB r6.2), (5, pL (e_Bd r6.1)), (23, pB r6.2), (22, pL (e_Bd r6.1)), (18, .tup [pL (e_Bd r6.1), pB r6.2])] [] [] rfl ?_
    refine seq_n (aw_wk (St [(0, pL (e_u8 p0)), (3, .ptr 3 0), (4, .ptr 4 0), (5, pL (e_Bd r6.1)), (6, pB r6.2)] [(3, [pI (Tm.kind r4.1), pI (Tm.n r4.1), pS (Tm.name r4.1), pL (Tm.encL (Tm.args r4.1))]), (4, [pI (Tm.kind r4.2), pI (Tm.n r4.2), pS (Tm.name r4.2), pL (Tm.encL (Tm.args r4.2))])] []) (wk_St ⟨le_rfl _, le_rfl _, le_rfl _, le_rfl _, le_rfl _, trivial⟩ ⟨box_rfl rfl, box_rfl rfl, trivial⟩ trivial rfl ⟨rfl, trivial⟩ ⟨rfl, trivial⟩) ?_)
    refine aw_seq (s_reg ?_)
    refine s_run 2 [(26, .agg [pI (Tm.kind r4.2), pI (Tm.n r4.2), pS (Tm.name r4.2), pL (Tm.encL (Tm.args r4.2))]), (25, .agg [pI (Tm.kind r4.1), pI (Tm.n r4.1), pS (Tm.name r4.1), pL (Tm.encL (Tm.args r4.1))])] [] [] rfl ?_
    obtain ⟨r8, k9, h⟩ := h
    refine s_call (.tup [pL (e_Bd r8.1), pB r8.2]) [] [] rfl k9 rfl ?_
    refine s_run 5 [(8, pB r8.2), (7, pL (e_Bd r8.1)), (29, pB r8.2), (28, pL (e_Bd r8.1)), (24, .tup [pL (e_Bd r8.1), pB r8.2])] [] [] rfl ?_
    refine seq_n (aw_wk (St [(0, pL (e_u8 p0)), (3, .ptr 3 0), (4, .ptr 4 0), (5, pL (e_Bd r6.1)), (6, pB r6.2), (7, pL (e_Bd r8.1)), (8, pB r8.2)] [(3, [pI (Tm.kind r4.1), pI (Tm.n r4.1), pS (Tm.name r4.1), pL (Tm.encL (Tm.args r4.1))]), (4, [pI (Tm.kind r4.2), pI (Tm.n r4.2), pS (Tm.name r4.2), pL (Tm.encL (Tm.args r4.2))])] []) (wk_St ⟨le_rfl _, le_rfl _, le_rfl _, le_rfl _, le_rfl _, le_rfl _, le_rfl _, trivial⟩ ⟨box_rfl rfl, box_rfl rfl, trivial⟩ trivial rfl ⟨rfl, trivial⟩ ⟨rfl, trivial⟩) ?_)
    refine aw_seq (aw_seq (s_reg ?_))
    refine s_run 4 [(33, pB (!(r6.2 == r8.2))), (32, pB (!(r6.2 == r8.2))), (31, pB r8.2), (30, pB r6.2)] [] [] rfl ?_
    refine s_op_if rfl rfl (fun c10 => ?_) (fun c10 => ?_)
    · have h := h.1 c10
      refine s_run 12 [(45, pB true), (44, .p (.tup [])), (43, .p (.tup [])), (42, .p (.tup [])), (41, .p (.tup [])), (40, .p (.tup [])), (39, pB true), (38, pB true), (37, .p (.tup [])), (36, .p (.tup [])), (35, .p (.tup [])), (34, .p (.tup []))] [] [] rfl ?_
      refine seq_n (s_yes rfl (aw_seq (s_reg ?_)))
      refine s_run 1 [(2, pB false)] [] [] rfl ?_
      refine seq_n (aw_ret ?_)
      exact endp_ret _ h rfl
    · have h := h.2 c10
      refine s_run 2 [(35, pL (e_Bd r8.1)), (34, pL (e_Bd r6.1))] [] [] rfl ?_
      refine s_on rfl ?_
      obtain ⟨r11, k12, h⟩ := h
      refine s_call (pB r11) [] [] rfl k12 rfl ?_
      refine s_run 3 [(39, pB (!r11)), (38, pB (!r11)), (37, pB (!r11))] [] [] rfl ?_
      refine s_op_if rfl rfl (fun c13 => ?_) (fun c13 => ?_)
      · have h := h.1 c13
        refine s_run 6 [(45, pB true), (44, .p (.tup [])), (43, .p (.tup [])), (42, .p (.tup [])), (41, .p (.tup [])), (40, .p (.tup []))] [] [] rfl ?_
        refine seq_n (s_yes rfl (aw_seq (s_reg ?_)))
        refine s_run 1 [(2, pB false)] [] [] rfl ?_
        refine seq_n (aw_ret ?_)
        exact endp_ret _ h rfl
      · have h := h.2 c13
        refine s_run 2 [(41, .agg [pI (Tm.kind r4.1), pI (Tm.n r4.1), pS (Tm.name r4.1), pL (Tm.encL (Tm.args r4.1))]), (40, .agg [pI (Tm.kind r4.2), pI (Tm.n r4.2), pS (Tm.name r4.2), pL (Tm.encL (Tm.args r4.2))])] [] [] rfl ?_
        refine s_on rfl ?_
        obtain ⟨r14, k15, h⟩ := h
        refine s_call (pB r14) [] [] rfl k15 rfl ?_
        refine s_run 3 [(45, pB (!(r14 == r6.2))), (44, pB (!(r14 == r6.2))), (43, pB r6.2)] [] [] rfl ?_
        refine seq_n (s_if rfl (fun c16 => ?_) (fun c16 => ?_))
        · have h := h.1 c16
          refine aw_seq (s_reg ?_)
          refine s_run 1 [(2, pB false)] [] [] rfl ?_
          refine seq_n (aw_ret ?_)
          exact endp_ret _ h rfl
        · have h := h.2 c16
          refine aw_skip (seq_n (aw_wk (St [(0, pL (e_u8 p0)), (3, .ptr 3 0), (4, .ptr 4 0), (5, pL (e_Bd r6.1)), (6, pB r6.2)] [(3, [pI (Tm.kind r4.1), pI (Tm.n r4.1), pS (Tm.name r4.1), pL (Tm.encL (Tm.args r4.1))]), (4, [pI (Tm.kind r4.2), pI (Tm.n r4.2), pS (Tm.name r4.2), pL (Tm.encL (Tm.args r4.2))])] []) (wk_St ⟨le_rfl _, le_rfl _, le_rfl _, le_rfl _, le_rfl _, trivial⟩ ⟨box_rfl rfl, box_rfl rfl, trivial⟩ trivial rfl ⟨rfl, trivial⟩ ⟨rfl, trivial⟩) ?_))
          refine aw_seq (s_reg ?_)
          refine s_run 1 [(47, pL (e_u8 p0))] [] [] rfl ?_
          obtain ⟨r17, k18, h⟩ := h
          refine s_call (.tup [.p (.agg (Tm.cells r17.1)), .p (.agg (Tm.cells r17.2))]) [] [] rfl k18 rfl ?_
          refine s_run 7 [(10, .ptr 10 0), (9, .ptr 9 0), (50, .p (.agg (Tm.cells r17.2))), (49, .p (.agg (Tm.cells r17.1))), (46, .tup [.p (.agg (Tm.cells r17.1)), .p (.agg (Tm.cells r17.2))])] [(10, [pI (Tm.kind r17.2), pI (Tm.n r17.2), pS (Tm.name r17.2), pL (Tm.encL (Tm.args r17.2))]), (9, [pI (Tm.kind r17.1), pI (Tm.n r17.1), pS (Tm.name r17.1), pL (Tm.encL (Tm.args r17.1))]), (10, [pI (0 : Int), pI (0 : Int), pS ([] : Str), pL (Tm.encL ([] : List Tm))]), (9, [pI (0 : Int), pI (0 : Int), pS ([] : Str), pL (Tm.encL ([] : List Tm))])] [] rfl ?_
          refine seq_n (aw_wk (St [(3, .ptr 3 0), (4, .ptr 4 0), (5, pL (e_Bd r6.1)), (6, pB r6.2), (9, .ptr 9 0), (10, .ptr 10 0)] [(3, [pI (Tm.kind r4.1), pI (Tm.n r4.1), pS (Tm.name r4.1), pL (Tm.encL (Tm.args r4.1))]), (4, [pI (Tm.kind r4.2), pI (Tm.n r4.2), pS (Tm.name r4.2), pL (Tm.encL (Tm.args r4.2))]), (9, [pI (Tm.kind r17.1), pI (Tm.n r17.1), pS (Tm.name r17.1), pL (Tm.encL (Tm.args r17.1))]), (10, [pI (Tm.kind r17.2), pI (Tm.n r17.2), pS (Tm.name r17.2), pL (Tm.encL (Tm.args r17.2))])] []) (wk_St ⟨le_rfl _, le_rfl _, le_rfl _, le_rfl _, le_rfl _, le_rfl _, trivial⟩ ⟨box_rfl rfl, box_rfl rfl, box_rfl rfl, box_rfl rfl, trivial⟩ trivial rfl ⟨rfl, trivial⟩ ⟨rfl, trivial⟩) ?_)
          refine aw_seq (s_reg ?_)
          refine s_run 3 [(53, pB (!r6.2)), (52, pB (!r6.2)), (51, pB r6.2)] [] [] rfl ?_
          refine s_op_if rfl rfl (fun c19 => ?_) (fun c19 => ?_)
          · have h := h.1 c19
            refine s_run 9 [(62, .agg [pI (Tm.kind r17.2), pI (Tm.n r17.2), pS (Tm.name r17.2), pL (Tm.encL (Tm.args r17.2))]), (61, .agg [pI (Tm.kind r17.1), pI (Tm.n r17.1), pS (Tm.name r17.1), pL (Tm.encL (Tm.args r17.1))]), (60, pB true), (59, pB true), (58, .p (.tup [])), (57, .p (.tup [])), (56, .p (.tup [])), (55, .p (.tup [])), (54, .p (.tup []))] [] [] rfl ?_
            refine s_on rfl ?_
            obtain ⟨r20, k21, h⟩ := h
            refine s_call (pB r20) [] [] rfl k21 rfl ?_
            refine s_run 2 [(65, .agg [pI (Tm.kind r17.2), pI (Tm.n r17.2), pS (Tm.name r17.2), pL (Tm.encL (Tm.args r17.2))]), (64, .agg [pI (Tm.kind r17.1), pI (Tm.n r17.1), pS (Tm.name r17.1), pL (Tm.encL (Tm.args r17.1))])] [] [] rfl ?_
            refine s_on rfl ?_
            obtain ⟨r22, k23, h⟩ := h
            refine s_call (pB r22) [] [] rfl k23 rfl ?_
            refine s_run 3 [(2, pB (r20 == r22)), (68, pB (r20 == r22)), (67, pB (r20 == r22))] [] [] rfl ?_
            refine seq_n (aw_ret ?_)
            exact endp_ret _ h rfl
          · have h := h.2 c19
            refine s_run 2 [(55, .agg [pI (Tm.kind r4.1), pI (Tm.n r4.1), pS (Tm.name r4.1), pL (Tm.encL (Tm.args r4.1))]), (54, pL (e_Bd r6.1))] [] [] rfl ?_
            refine s_on rfl ?_
            obtain ⟨r24, k25, h⟩ := h
            refine s_call (.p (.agg (Tm.cells r24))) [] [] rfl k25 rfl ?_
            refine s_run 1 [(57, .agg [pI (Tm.kind r4.2), pI (Tm.n r4.2), pS (Tm.name r4.2), pL (Tm.encL (Tm.args r4.2))])] [] [] rfl ?_
            refine s_on rfl ?_
            obtain ⟨r26, k27, h⟩ := h
            refine s_call (pB r26) [] [] rfl k27 rfl ?_
            refine s_run 2 [(60, pB r26), (59, pB r26)] [] [] rfl ?_
            refine s_op_if rfl rfl (fun c28 => ?_) (fun c28 => ?_)
            · have h := h.1 c28
              refine s_run 2 [(62, .agg [pI (Tm.kind r17.2), pI (Tm.n r17.2), pS (Tm.name r17.2), pL (Tm.encL (Tm.args r17.2))]), (61, .agg [pI (Tm.kind r17.1), pI (Tm.n r17.1), pS (Tm.name r17.1), pL (Tm.encL (Tm.args r17.1))])] [] [] rfl ?_
              refine s_on rfl ?_
              obtain ⟨r29, k30, h⟩ := h
              refine s_call (pB r29) [] [] rfl k30 rfl ?_
              refine s_run 2 [(65, .agg [pI (Tm.kind r17.2), pI (Tm.n r17.2), pS (Tm.name r17.2), pL (Tm.encL (Tm.args r17.2))]), (64, .agg [pI (Tm.kind r17.1), pI (Tm.n r17.1), pS (Tm.name r17.1), pL (Tm.encL (Tm.args r17.1))])] [] [] rfl ?_
              refine s_on rfl ?_
              obtain ⟨r31, k32, h⟩ := h
              refine s_call (pB r31) [] [] rfl k32 rfl ?_
              refine s_run 3 [(2, pB (r29 == r31)), (68, pB (r29 == r31)), (67, pB (r29 == r31))] [] [] rfl ?_
              refine seq_n (aw_ret ?_)
              exact endp_ret _ h rfl
            · have h := h.2 c28
              refine s_run 9 [(2, pB false), (68, pB false), (67, .p (.tup [])), (66, .p (.tup [])), (65, .p (.tup [])), (64, .p (.tup [])), (63, .p (.tup [])), (62, .p (.tup [])), (61, .p (.tup []))] [] [] rfl ?_
              refine seq_n (aw_ret ?_)
              exact endp_ret _ h rfl


def ac_laws_FnSubst : AC :=
  .seq (.reg false [
    { dst := some 2, k := .mv (.c (.bool false)) }])
  (.seq (.seq (.reg false [
    { dst := some 13, k := .mv (.t 0) },
    { dst := some 14, k := .call 6 [(.t 13, .fz)] }])
  (.cond (.t 14) (.seq (.reg false [
      { dst := some 2, k := .mv (.c (.bool true)) }])
    (.ret))
  (.skip)))
  (.wk (.seq (.reg false [
    { dst := some 16, k := .mv (.t 0) },
    { dst := some 17, k := .call 17 [(.t 16, .fz)] },
    { dst := some 15, k := .mv (.t 17) },
    { dst := some 18, k := .ex (.t 15) 0 },
    { dst := some 19, k := .ex (.t 15) 1 },
    { dst := some 3, k := .mv (.t 18) },
    { dst := some 4, k := .mv (.t 19) }])
  (.wk (.seq (.reg false [
    { dst := some 21, k := .mv (.t 0) },
    { dst := some 22, k := .call 18 [(.t 21, .fz)] },
    { dst := some 20, k := .mv (.t 22) },
    { dst := some 23, k := .ex (.t 20) 0 },
    { dst := some 24, k := .ex (.t 20) 1 },
    { dst := some 6, k := .al [.p (.int .i64 0), .p (.int .i64 0), .p (.str []), .p (.slice [])] },
    { dst := some 5, k := .mv (.t 23) },
    { dst := none, k := .st (.t 6) (.t 24) 4 6 }])
  (.wk (.seq (.reg false [
    { dst := some 25, k := .mv (.t 3) },
    { dst := some 26, k := .mv (.t 4) },
    { dst := some 27, k := .call 19 [(.t 25, .fz), (.t 26, .fz)] },
    { dst := some 7, k := .mv (.t 27) }])
  (.wk (.seq (.seq (.reg true [
    { dst := some 28, k := .mv (.t 7) },
    { dst := some 29, k := .ld (.t 6) 4 true, vb := .only [6] },
    { dst := some 30, k := .call 14 [(.t 28, .fz), (.t 29, .fz)], vb := .but [6], vl := .but [6] },
    { dst := some 31, k := .mv (.t 4) },
    { dst := some 32, k := .mv (.t 3) },
    { dst := some 33, k := .ld (.t 6) 4 true, vb := .only [6] },
    { dst := some 34, k := .call 14 [(.t 32, .fz), (.t 33, .fz)] },
    { dst := some 35, k := .call 14 [(.t 31, .fz), (.t 34, .fz)] },
    { dst := some 36, k := .call 13 [(.t 30, .fz), (.t 35, .fz)] },
    { dst := some 37, k := .un .not (.t 36) },
    { dst := some 38, k := .mv (.t 37) },
    { dst := some 39, k := .mv (.t 7), g := some (38, false) },
    { dst := some 40, k := .mv (.t 3), g := some (38, false) },
    { dst := some 41, k := .mv (.t 4), g := some (38, false) },
    { dst := some 42, k := .call 20 [(.t 40, .fz), (.t 41, .fz)], g := some (38, false) },
    { dst := some 43, k := .call 10 [(.t 39, .fz), (.t 42, .fz)], g := some (38, false) },
    { dst := some 44, k := .un .not (.t 43), g := some (38, false) },
    { dst := some 45, k := .pick (.t 38) (.c (.bool true)) (.t 44) }])
  (.cond (.t 45) (.seq (.reg false [
      { dst := some 2, k := .mv (.c (.bool false)) }])
    (.ret))
  (.skip)))
  (.wk (.seq (.reg false [
    { dst := some 47, k := .mv (.t 0) },
    { dst := some 48, k := .call 21 [(.t 47, .fz)] },
    { dst := some 46, k := .mv (.t 48) },
    { dst := some 49, k := .ex (.t 46) 0 },
    { dst := some 50, k := .ex (.t 46) 1 },
    { dst := some 8, k := .mv (.t 49) },
    { dst := some 9, k := .mv (.t 50) }])
  (.wk (.seq (.reg false [
    { dst := some 51, k := .mv (.t 8) },
    { dst := some 52, k := .mv (.t 9) },
    { dst := some 53, k := .call 22 [(.t 51, .fz), (.t 52, .fz)] },
    { dst := some 10, k := .mv (.t 53) }])
  (.wk (.seq (.reg false [
    { dst := some 55, k := .mv (.t 0) },
    { dst := some 56, k := .call 23 [(.t 55, .fz)] },
    { dst := some 54, k := .mv (.t 56) },
    { dst := some 57, k := .ex (.t 54) 0 },
    { dst := some 58, k := .ex (.t 54) 1 },
    { dst := some 11, k := .mv (.t 57) },
    { dst := some 12, k := .mv (.t 58) }])
  (.wk (.seq (.reg false [
    { dst := some 59, k := .mv (.t 10) },
    { dst := some 60, k := .mv (.t 8) },
    { dst := some 61, k := .mv (.t 9) },
    { dst := some 62, k := .call 24 [(.t 60, .fz), (.t 61, .fz)] },
    { dst := some 63, k := .call 10 [(.t 59, .fz), (.t 62, .fz)] },
    { dst := some 64, k := .mv (.t 63) },
    { dst := some 65, k := .mv (.t 11), g := some (64, true) },
    { dst := some 66, k := .mv (.t 12), g := some (64, true) },
    { dst := some 67, k := .call 25 [(.t 65, .fz), (.t 66, .fz)], g := some (64, true) },
    { dst := some 68, k := .mv (.t 11), g := some (64, true) },
    { dst := some 69, k := .mv (.t 12), g := some (64, true) },
    { dst := some 70, k := .call 26 [(.t 68, .fz), (.t 69, .fz)], g := some (64, true) },
    { dst := some 71, k := .bnb .eql (.t 67) (.t 70), g := some (64, true) },
    { dst := some 72, k := .pick (.t 64) (.t 71) (.c (.bool false)) },
    { dst := some 73, k := .mv (.t 72) },
    { dst := some 74, k := .mv (.t 3), g := some (73, true) },
    { dst := some 75, k := .mv (.t 3), g := some (73, true) },
    { dst := some 76, k := .call 25 [(.t 74, .fz), (.t 75, .fz)], g := some (73, true) },
    { dst := some 77, k := .pick (.t 73) (.t 76) (.c (.bool false)) },
    { dst := some 2, k := .mv (.t 77) }])
  (.ret))))))))))))))))))
theorem chk_laws_FnSubst : fnOK Try.prog 1 Try.f4 ac_laws_FnSubst [(.tmp 2, .fz)] = true := by kernel_rfl
def wp_laws_FnSubst (p0 : (List Int)) (post : Bool → Prop) : Prop :=
  (∃ r1 : Bool, C_laws_big p0 r1 ∧ ((r1 = true → post true) ∧ (r1 = false → (∃ r4 : (List Bd) × (List Bd), C_spec_DrawComposeSubst p0 r4 ∧ (∃ r6 : (List Bd) × Tm, C_spec_DrawApplySubst p0 r6 ∧ (∃ r8 : (List Bd), C_impl_ComposeSubst r4.1 r4.2 r8 ∧ (∃ r10 : Tm, C_impl_ApplySubst r8 r6.2 r10 ∧ (∃ r12 : Tm, C_impl_ApplySubst r4.1 r6.2 r12 ∧ (∃ r14 : Tm, C_impl_ApplySubst r4.2 r12 r14 ∧ (∃ r16 : Bool, C_spec_EqualTerm r10 r14 r16 ∧ (((!r16) = true → post false) ∧ ((!r16) = false → (∃ r19 : (List Bd), C_spec_ComposeSubst r4.1 r4.2 r19 ∧ (∃ r21 : Bool, C_laws_sameBinds r8 r19 r21 ∧ (((!r21) = true → post false) ∧ ((!r21) = false → (∃ r24 : (List Bd) × (List Str), C_spec_DrawRestrictSubst p0 r24 ∧ (∃ r26 : (List Bd), C_impl_RestrictSubst r24.1 r24.2 r26 ∧ (∃ r28 : (List Bd) × (List Bd), C_spec_DrawSameSubst p0 r28 ∧ (∃ r30 : (List Bd), C_spec_RestrictSubst r24.1 r24.2 r30 ∧ (∃ r32 : Bool, C_laws_sameBinds r26 r30 r32 ∧ ((r32 = true → (∃ r35 : Bool, C_impl_SameSubst r28.1 r28.2 r35 ∧ (∃ r37 : Bool, C_spec_SameSubst r28.1 r28.2 r37 ∧ (((r35 == r37) = true → (∃ r40 : Bool, C_impl_SameSubst r4.1 r4.1 r40 ∧ post r40)) ∧ ((r35 == r37) = false → post false))))) ∧ (r32 = false → post false)))))))))))))))))))))))
theorem w_laws_FnSubst (p0 : (List Int)) (post : Bool → Prop) (h : wp_laws_FnSubst p0 post) : ∃ r, post r ∧ C_laws_FnSubst p0 r := by
  unfold wp_laws_FnSubst at h
  refine evs_of (encR := fun r : Bool => .one (.l (.fz (.bool r)))) (encO := fun r => []) 1 [(.tmp 2, .fz)] [.fz] Try.func4 chk_laws_FnSubst rfl rfl [(0, pL (e_u8 p0))] [] [] rfl ?_
  refine aw_seq (s_reg ?_)
  refine s_run 1 [(2, pB false)] [] [] rfl ?_
  refine seq_n (aw_seq (aw_seq (s_reg ?_)))
  refine s_run 1 [(13, pL (e_u8 p0))] [] [] rfl ?_
  obtain ⟨r1, k2, h⟩ := h
  refine s_call (pB r1) [] [] rfl k2 rfl ?_
  refine seq_n (s_if rfl (fun c3 => ?_) (fun c3 => ?_))
  · have h := h.1 c3
    refine aw_seq (s_reg ?_)
    refine s_run 1 [(2, pB true)] [] [] rfl ?_
    refine seq_n (aw_ret ?_)
    exact endp_ret _ h rfl
  · have h := h.2 c3
    refine aw_skip (seq_n (aw_wk (St [(0, pL (e_u8 p0))] [] []) (wk_St ⟨le_rfl _, trivial⟩ trivial trivial rfl ⟨rfl, trivial⟩ ⟨rfl, trivial⟩) ?_))
    refine aw_seq (s_reg ?_)
    refine s_run 1 [(16, pL (e_u8 p0))] [] [] rfl ?_
    obtain ⟨r4, k5, h⟩ := h
    refine s_call (.tup [pL (e_Bd r4.1), pL (e_Bd r4.2)]) [] [] rfl k5 rfl ?_
    refine s_run 5 [(4, pL (e_Bd r4.2)), (3, pL (e_Bd r4.1)), (19, pL (e_Bd r4.2)), (18, pL (e_Bd r4.1)), (15, .tup [pL (e_Bd r4.1), pL (e_Bd r4.2)])] [] [] rfl ?_
    refine seq_n (aw_wk (St [(0, pL (e_u8 p0)), (3, pL (e_Bd r4.1)), (4, pL (e_Bd r4.2))] [] []) (wk_St ⟨le_rfl _, le_rfl _, le_rfl _, trivial⟩ trivial trivial rfl ⟨rfl, trivial⟩ ⟨rfl, trivial⟩) ?_)
    refine aw_seq (s_reg ?_)
    refine s_run 1 [(21, pL (e_u8 p0))] [] [] rfl ?_
    obtain ⟨r6, k7, h⟩ := h
    refine s_call (.tup [pL (e_Bd r6.1), .p (.agg (Tm.cells r6.2))]) [] [] rfl k7 rfl ?_
    refine s_run 6 [(5, pL (e_Bd r6.1)), (6, .ptr 6 0), (24, .p (.agg (Tm.cells r6.2))), (23, pL (e_Bd r6.1)), (20, .tup [pL (e_Bd r6.1), .p (.agg (Tm.cells r6.2))])] [(6, [pI (Tm.kind r6.2), pI (Tm.n r6.2), pS (Tm.name r6.2), pL (Tm.encL (Tm.args r6.2))]), (6, [pI (0 : Int), pI (0 : Int), pS ([] : Str), pL (Tm.encL ([] : List Tm))])] [] rfl ?_
    refine seq_n (aw_wk (St [(0, pL (e_u8 p0)), (3, pL (e_Bd r4.1)), (4, pL (e_Bd r4.2)), (6, .ptr 6 0)] [(6, [pI (Tm.kind r6.2), pI (Tm.n r6.2), pS (Tm.name r6.2), pL (Tm.encL (Tm.args r6.2))])] []) (wk_St ⟨le_rfl _, le_rfl _, le_rfl _, le_rfl _, trivial⟩ ⟨box_rfl rfl, trivial⟩ trivial rfl ⟨rfl, trivial⟩ ⟨rfl, trivial⟩) ?_)
    refine aw_seq (s_reg ?_)
    refine s_run 2 [(26, pL (e_Bd r4.2)), (25, pL (e_Bd r4.1))] [] [] rfl ?_
    obtain ⟨r8, k9, h⟩ := h
    refine s_call (pL (e_Bd r8)) [] [] rfl k9 rfl ?_
    refine s_run 1 [(7, pL (e_Bd r8))] [] [] rfl ?_
    refine seq_n (aw_wk (St [(0, pL (e_u8 p0)), (3, pL (e_Bd r4.1)), (4, pL (e_Bd r4.2)), (6, .ptr 6 0), (7, pL (e_Bd r8))] [(6, [pI (Tm.kind r6.2), pI (Tm.n r6.2), pS (Tm.name r6.2), pL (Tm.encL (Tm.args r6.2))])] []) (wk_St ⟨le_rfl _, le_rfl _, le_rfl _, le_rfl _, le_rfl _, trivial⟩ ⟨box_rfl rfl, trivial⟩ trivial rfl ⟨rfl, trivial⟩ ⟨rfl, trivial⟩) ?_)
    refine aw_seq (aw_seq (s_reg ?_))
    refine s_run 2 [(29, .agg [pI (Tm.kind r6.2), pI (Tm.n r6.2), pS (Tm.name r6.2), pL (Tm.encL (Tm.args r6.2))]), (28, pL (e_Bd r8))] [] [] rfl ?_
    obtain ⟨r10, k11, h⟩ := h
    refine s_call (.p (.agg (Tm.cells r10))) [] [] rfl k11 rfl ?_
    refine s_run 3 [(33, .agg [pI (Tm.kind r6.2), pI (Tm.n r6.2), pS (Tm.name r6.2), pL (Tm.encL (Tm.args r6.2))]), (32, pL (e_Bd r4.1)), (31, pL (e_Bd r4.2))] [] [] rfl ?_
    obtain ⟨r12, k13, h⟩ := h
    refine s_call (.p (.agg (Tm.cells r12))) [] [] rfl k13 rfl ?_
    obtain ⟨r14, k15, h⟩ := h
    refine s_call (.p (.agg (Tm.cells r14))) [] [] rfl k15 rfl ?_
    obtain ⟨r16, k17, h⟩ := h
    refine s_call (pB r16) [] [] rfl k17 rfl ?_
    refine s_run 2 [(38, pB (!r16)), (37, pB (!r16))] [] [] rfl ?_
    refine s_op_if rfl rfl (fun c18 => ?_) (fun c18 => ?_)
    · have h := h.1 c18
      refine s_run 7 [(45, pB true), (44, .p (.tup [])), (43, .p (.tup [])), (42, .p (.tup [])), (41, .p (.tup [])), (40, .p (.tup [])), (39, .p (.tup []))] [] [] rfl ?_
      refine seq_n (s_yes rfl (aw_seq (s_reg ?_)))
      refine s_run 1 [(2, pB false)] [] [] rfl ?_
      refine seq_n (aw_ret ?_)
      exact endp_ret _ h rfl
    · have h := h.2 c18
      refine s_run 3 [(41, pL (e_Bd r4.2)), (40, pL (e_Bd r4.1)), (39, pL (e_Bd r8))] [] [] rfl ?_
      refine s_on rfl ?_
      obtain ⟨r19, k20, h⟩ := h
      refine s_call (pL (e_Bd r19)) [] [] rfl k20 rfl ?_
      refine s_on rfl ?_
      obtain ⟨r21, k22, h⟩ := h
      refine s_call (pB r21) [] [] rfl k22 rfl ?_
      refine s_run 2 [(45, pB (!r21)), (44, pB (!r21))] [] [] rfl ?_
      refine seq_n (s_if rfl (fun c23 => ?_) (fun c23 => ?_))
      · have h := h.1 c23
        refine aw_seq (s_reg ?_)
        refine s_run 1 [(2, pB false)] [] [] rfl ?_
        refine seq_n (aw_ret ?_)
        exact endp_ret _ h rfl
      · have h := h.2 c23
        refine aw_skip (seq_n (aw_wk (St [(0, pL (e_u8 p0)), (3, pL (e_Bd r4.1))] [] []) (wk_St ⟨le_rfl _, le_rfl _, trivial⟩ trivial trivial rfl ⟨rfl, trivial⟩ ⟨rfl, trivial⟩) ?_))
        refine aw_seq (s_reg ?_)
        refine s_run 1 [(47, pL (e_u8 p0))] [] [] rfl ?_
        obtain ⟨r24, k25, h⟩ := h
        refine s_call (.tup [pL (e_Bd r24.1), pL (e_str r24.2)]) [] [] rfl k25 rfl ?_
        refine s_run 5 [(9, pL (e_str r24.2)), (8, pL (e_Bd r24.1)), (50, pL (e_str r24.2)), (49, pL (e_Bd r24.1)), (46, .tup [pL (e_Bd r24.1), pL (e_str r24.2)])] [] [] rfl ?_
        refine seq_n (aw_wk (St [(0, pL (e_u8 p0)), (3, pL (e_Bd r4.1)), (8, pL (e_Bd r24.1)), (9, pL (e_str r24.2))] [] []) (wk_St ⟨le_rfl _, le_rfl _, le_rfl _, le_rfl _, trivial⟩ trivial trivial rfl ⟨rfl, trivial⟩ ⟨rfl, trivial⟩) ?_)
        refine aw_seq (s_reg ?_)
        refine s_run 2 [(52, pL (e_str r24.2)), (51, pL (e_Bd r24.1))] [] [] rfl ?_
        obtain ⟨r26, k27, h⟩ := h
        refine s_call (pL (e_Bd r26)) [] [] rfl k27 rfl ?_
        refine s_run 1 [(10, pL (e_Bd r26))] [] [] rfl ?_
        refine seq_n (aw_wk (St [(0, pL (e_u8 p0)), (3, pL (e_Bd r4.1)), (8, pL (e_Bd r24.1)), (9, pL (e_str r24.2)), (10, pL (e_Bd r26))] [] []) (wk_St ⟨le_rfl _, le_rfl _, le_rfl _, le_rfl _, le_rfl _, trivial⟩ trivial trivial rfl ⟨rfl, trivial⟩ ⟨rfl, trivial⟩) ?_)
        refine aw_seq (s_reg ?_)
        refine s_run 1 [(55, pL (e_u8 p0))] [] [] rfl ?_
        obtain ⟨r28, k29, h⟩ := h
        refine s_call (.tup [pL (e_Bd r28.1), pL (e_Bd r28.2)]) [] [] rfl k29 rfl ?_
        refine s_run 5 [(12, pL (e_Bd r28.2)), (11, pL (e_Bd r28.1)), (58, pL (e_Bd r28.2)), (57, pL (e_Bd r28.1)), (54, .tup [pL (e_Bd r28.1), pL (e_Bd r28.2)])] [] [] rfl ?_
        refine seq_n (aw_wk (St [(3, pL (e_Bd r4.1)), (8, pL (e_Bd r24.1)), (9, pL (e_str r24.2)), (10, pL (e_Bd r26)), (11, pL (e_Bd r28.1)), (12, pL (e_Bd r28.2))] [] []) (wk_St ⟨le_rfl _, le_rfl _, le_rfl _, le_rfl _, le_rfl _, le_rfl _, trivial⟩ trivial trivial rfl ⟨rfl, trivial⟩ ⟨rfl, trivial⟩) ?_)
        refine aw_seq (s_reg ?_)
        refine s_run 3 [(61, pL (e_str r24.2)), (60, pL (e_Bd r24.1)), (59, pL (e_Bd r26))] [] [] rfl ?_
        obtain ⟨r30, k31, h⟩ := h
        refine s_call (pL (e_Bd r30)) [] [] rfl k31 rfl ?_
        obtain ⟨r32, k33, h⟩ := h
        refine s_call (pB r32) [] [] rfl k33 rfl ?_
        refine s_run 1 [(64, pB r32)] [] [] rfl ?_
        refine s_op_if rfl rfl (fun c34 => ?_) (fun c34 => ?_)
        · have h := h.1 c34
          refine s_run 2 [(66, pL (e_Bd r28.2)), (65, pL (e_Bd r28.1))] [] [] rfl ?_
          refine s_on rfl ?_
          obtain ⟨r35, k36, h⟩ := h
          refine s_call (pB r35) [] [] rfl k36 rfl ?_
          refine s_run 2 [(69, pL (e_Bd r28.2)), (68, pL (e_Bd r28.1))] [] [] rfl ?_
          refine s_on rfl ?_
          obtain ⟨r37, k38, h⟩ := h
          refine s_call (pB r37) [] [] rfl k38 rfl ?_
          refine s_run 3 [(73, pB (r35 == r37)), (72, pB (r35 == r37)), (71, pB (r35 == r37))] [] [] rfl ?_
          refine s_op_if rfl rfl (fun c39 => ?_) (fun c39 => ?_)
          · have h := h.1 c39
            refine s_run 2 [(75, pL (e_Bd r4.1)), (74, pL (e_Bd r4.1))] [] [] rfl ?_
            refine s_on rfl ?_
            obtain ⟨r40, k41, h⟩ := h
            refine s_call (pB r40) [] [] rfl k41 rfl ?_
            refine s_run 2 [(2, pB r40), (77, pB r40)] [] [] rfl ?_
            refine seq_n (aw_ret ?_)
            exact endp_ret _ h rfl
          · have h := h.2 c39
            refine s_run 5 [(2, pB false), (77, pB false), (76, .p (.tup [])), (75, .p (.tup [])), (74, .p (.tup []))] [] [] rfl ?_
            refine seq_n (aw_ret ?_)
            exact endp_ret _ h rfl
        · have h := h.2 c34
          refine s_run 14 [(2, pB false), (77, pB false), (76, .p (.tup [])), (75, .p (.tup [])), (74, .p (.tup [])), (73, pB false), (72, pB false), (71, .p (.tup [])), (70, .p (.tup [])), (69, .p (.tup [])), (68, .p (.tup [])), (67, .p (.tup [])), (66, .p (.tup [])), (65, .p (.tup []))] [] [] rfl ?_
          refine seq_n (aw_ret ?_)
          exact endp_ret _ h rfl


def ac_spec_RenameVars : AC :=
  .seq (.reg false [
    { dst := some 2, k := .bx (.t 0) 4 },
    { dst := some 4, k := .al [.p (.int .i64 0), .p (.int .i64 0), .p (.str []), .p (.slice [])] }])
  (.seq (.reg false [
    { dst := some 7, k := .fa (.t 2) 0 },
    { dst := some 8, k := .ld (.t 7) 1 false },
    { dst := some 9, k := .fa (.t 2) 1 },
    { dst := some 10, k := .ld (.t 9) 1 false },
    { dst := some 11, k := .fa (.t 2) 2 },
    { dst := some 12, k := .ld (.t 11) 1 false },
    { dst := some 13, k := .bd [.p (.int .i64 0), .p (.int .i64 0), .p (.str []), .nil 4] [(0, 1, .t 8), (1, 1, .t 10), (2, 1, .t 12)] },
    { dst := some 5, k := .al [.p (.int .i64 0), .p (.int .i64 0), .p (.str []), .nil 4] },
    { dst := none, k := .stn (.t 5) (.t 13) 4 5 }])
  (.wk (.seq (.seq (.reg false [
    { dst := some 14, k := .fa (.t 2) 0 },
    { dst := some 15, k := .ld (.t 14) 1 false },
    { dst := some 16, k := .bin .eql (.t 15) (.c (.int .i64 (1))) }])
  (.cond (.t 16) (.reg false [
      { dst := some 17, k := .fa (.t 2) 2 },
      { dst := some 18, k := .ld (.t 17) 1 false },
      { dst := some 19, k := .mv (.t 1) },
      { dst := some 20, k := .bin .add (.t 18) (.t 19) },
      { dst := some 21, k := .fa (.t 5) 2 },
      { dst := none, k := .st (.t 21) (.t 20) 1 5 }])
  (.skip)))
  (.wk (.seq (.seq (.reg false [
    { dst := some 6, k := .mv (.c (.int .i64 (0))) }])
  (.block 0 (.loop (.seq (.seq (.reg false [
        { dst := some 22, k := .mv (.t 6) },
        { dst := some 23, k := .fa (.t 2) 3 },
        { dst := some 24, k := .ld (.t 23) 1 false },
        { dst := some 25, k := .len (.t 24) },
        { dst := some 26, k := .bin .lss (.t 22) (.t 25) }])
      (.cond (.t 26) (.skip)
      (.exit 0)))
      (.wk (.seq (.block 1 (.reg true [
          { dst := some 29, k := .fa (.t 5) 3 },
          { dst := some 30, k := .ld (.t 29) 1 false, vb := .only [5] },
          { dst := some 31, k := .fa (.t 2) 3 },
          { dst := some 32, k := .ld (.t 31) 1 false, vb := .only [2] },
          { dst := some 33, k := .mv (.t 6) },
          { dst := some 34, k := .ia (.t 32) (.t 33) 4 },
          { dst := some 35, k := .ld (.t 34) 4 true, vb := .only [] },
          { dst := some 36, k := .mv (.t 1) },
          { dst := some 37, k := .call 40 [(.t 35, .fz), (.t 36, .fz)], vb := .but [5], vl := .but [5] },
          { dst := some 38, k := .bs 4 [.t 37] },
          { dst := some 39, k := .app (.t 30) (.t 38) 4 56 },
          { dst := some 40, k := .fa (.t 5) 3 },
          { dst := none, k := .st (.t 40) (.t 39) 1 5, vb := .only [5] }]))
      (.wk (.reg false [
        { dst := some 27, k := .mv (.t 6) },
        { dst := some 28, k := .bin .add (.t 27) (.c (.int .i64 (1))) },
        { dst := some 6, k := .mv (.t 28) }]))))))))
  (.seq (.reg false [
    { dst := some 41, k := .ld (.t 5) 4 true },
    { dst := none, k := .st (.t 4) (.t 41) 4 4 }])
  (.ret)))))))
theorem chk_spec_RenameVars : fnOK Try.prog 2 Try.f40 ac_spec_RenameVars [(.cell 4 4 true, .fz)] = true := by kernel_rfl
def wp_spec_RenameVars (p0 : Tm) (p1 : Str) (post : Tm → Prop) : Prop :=
  JOIN (fun (N4 : Str → Prop) => ((((Tm.kind p0) == (1 : Int)) = true → (List.length (Tm.name p0) + List.length p1 ≤ 9223372036854775807 ∧ N4 ((Tm.name p0) ++ p1))) ∧ (((Tm.kind p0) == (1 : Int)) = false → N4 (Tm.name p0)))) (fun (t3 : Str) => LOOP (fun (N20 : (Int × (List Tm)) → Prop) (s7 : Int × (List Tm)) => (((decide (s7.1 < ((List.length (Tm.args p0) : Nat) : Int))) = true → (∃ u25, GETI (Tm.args p0) s7.1 u25 ∧ (∃ r27 : Tm, C_spec_RenameVars u25 p1 r27 ∧ ((List.length s7.2 + List.length ([r27] : List Tm)) * 56 ≤ 140737488355328 ∧ N20 ((IntKind.i64.wrap (s7.1 + (1 : Int))), (s7.2 ++ ([r27] : List Tm))))))) ∧ ((decide (s7.1 < ((List.length (Tm.args p0) : Nat) : Int))) = false → post (Tm.mk (Tm.kind p0) (Tm.n p0) t3 s7.2)))) ((0 : Int), ([] : List Tm)))
theorem w_spec_RenameVars (p0 : Tm) (p1 : Str) (post : Tm → Prop) (h : wp_spec_RenameVars p0 p1 post) : ∃ r, post r ∧ C_spec_RenameVars p0 p1 r := by
  unfold wp_spec_RenameVars at h
  refine evs_of (encR := fun r : Tm => .one (.l (.fz (.agg (Tm.cells r))))) (encO := fun r => []) 2 [(.cell 4 4 true, .fz)] [.fz, .fz] Try.func40 chk_spec_RenameVars rfl rfl [(1, pS p1), (0, .p (.agg (Tm.cells p0)))] [] [] rfl ?_
  refine aw_seq (s_reg ?_)
  refine s_run 2 [(4, .ptr 4 0), (2, .ptr 2 0)] [(4, [pI (0 : Int), pI (0 : Int), pS ([] : Str), pL (Tm.encL ([] : List Tm))]), (2, [pI (Tm.kind p0), pI (Tm.n p0), pS (Tm.name p0), pL (Tm.encL (Tm.args p0))])] [] rfl ?_
  refine seq_n (aw_seq (s_reg ?_))
  refine s_run 9 [(5, .ptr 5 0), (13, .agg [pI (Tm.kind p0), pI (Tm.n p0), pS (Tm.name p0), .nil 4]), (12, pS (Tm.name p0)), (11, .ptr 2 2), (10, pI (Tm.n p0)), (9, .ptr 2 1), (8, pI (Tm.kind p0)), (7, .ptr 2 0)] [(5, [pI (Tm.kind p0), pI (Tm.n p0), pS (Tm.name p0), .tip (3, 5, 3) (0) (Tm.encL ([] : List Tm))]), (5, [pI (0 : Int), pI (0 : Int), pS ([] : Str), .tip (1, 5, 3) (0) (Tm.encL ([] : List Tm))])] [((3, 5, 3), 0, .tip (Tm.encL ([] : List Tm)).length 4), ((1, 5, 3), 0, .tip (Tm.encL ([] : List Tm)).length 4)] rfl ?_
  refine seq_n (aw_wk (St [(1, pS p1), (2, .ptr 2 0), (4, .ptr 4 0), (5, .ptr 5 0)] [(2, [pI (Tm.kind p0), pI (Tm.n p0), pS (Tm.name p0), pL (Tm.encL (Tm.args p0))]), (4, [pI (0 : Int), pI (0 : Int), pS ([] : Str), pL (Tm.encL ([] : List Tm))]), (5, [pI (Tm.kind p0), pI (Tm.n p0), pS (Tm.name p0), .tip (3, 5, 3) (0) (Tm.encL ([] : List Tm))])] [((3, 5, 3), 0, .tip (Tm.encL ([] : List Tm)).length 4)]) (wk_St ⟨le_rfl _, le_rfl _, le_rfl _, le_rfl _, trivial⟩ ⟨box_rfl rfl, box_rfl rfl, box_rfl rfl, trivial⟩ ⟨rfl, trivial⟩ rfl ⟨rfl, rfl, trivial⟩ ⟨rfl, rfl, trivial⟩) ?_)
  obtain ⟨J6, hJ6, h⟩ := h
  refine aw_join (ι := { y : Str // J6 y }) (fun x5 => St [(1, pS p1), (2, .ptr 2 0), (4, .ptr 4 0), (5, .ptr 5 0)] [(2, [pI (Tm.kind p0), pI (Tm.n p0), pS (Tm.name p0), pL (Tm.encL (Tm.args p0))]), (4, [pI (0 : Int), pI (0 : Int), pS ([] : Str), pL (Tm.encL ([] : List Tm))]), (5, [pI (Tm.kind p0), pI (Tm.n p0), pS x5.1, .tip (3, 5, 3) (0) (Tm.encL ([] : List Tm))])] [((3, 5, 3), 0, .tip (Tm.encL ([] : List Tm)).length 4)]) ?_ ?_
  · rintro ⟨t3, ht3⟩
    replace h := hJ6 t3 ht3
    refine aw_seq (aw_seq (s_reg ?_))
    refine s_run 1 [(6, pI (0 : Int))] [] [] rfl ?_
    refine seq_n (aw_blk ?_)
    obtain ⟨I22, m23, h0, h⟩ := h
    refine aw_loop' (ι := { y : Int × (List Tm) // I22 y }) (fun x21 => St [(1, pS p1), (2, .ptr 2 0), (4, .ptr 4 0), (5, .ptr 5 0), (6, pI x21.1.1)] [(2, [pI (Tm.kind p0), pI (Tm.n p0), pS (Tm.name p0), pL (Tm.encL (Tm.args p0))]), (4, [pI (0 : Int), pI (0 : Int), pS ([] : Str), pL (Tm.encL ([] : List Tm))]), (5, [pI (Tm.kind p0), pI (Tm.n p0), pS t3, .tip (3, 5, 3) (0) (Tm.encL x21.1.2)])] [((3, 5, 3), 0, .tip (Tm.encL x21.1.2).length 4)]) (fun x21 => m23 x21.1) ⟨_, h0⟩ ?_ ?_
    · exact wk_St ⟨le_rfl _, le_rfl _, le_rfl _, le_rfl _, le_rfl _, trivial⟩ ⟨box_rfl rfl, box_rfl rfl, box_rfl rfl, trivial⟩ ⟨rfl, trivial⟩ rfl ⟨rfl, rfl, trivial⟩ ⟨rfl, rfl, trivial⟩
    · rintro ⟨s7, hs7⟩
      replace h := h s7 hs7
      refine aw_seq (aw_seq (s_reg ?_))
      refine s_run 3 [(24, pL (Tm.encL (Tm.args p0))), (23, .ptr 2 3), (22, pI s7.1)] [] [] rfl ?_
      refine s_len rfl (enc_len (e := Tm.encL) _) ?_
      refine s_run 1 [(26, pB (decide (s7.1 < ((List.length (Tm.args p0) : Nat) : Int))))] [] [] rfl ?_
      refine seq_n (s_if rfl (fun c24 => ?_) (fun c24 => ?_))
      · have h := h.1 c24
        refine aw_skip (seq_n (aw_wk (St [(1, pS p1), (2, .ptr 2 0), (4, .ptr 4 0), (5, .ptr 5 0), (6, pI s7.1)] [(2, [pI (Tm.kind p0), pI (Tm.n p0), pS (Tm.name p0), pL (Tm.encL (Tm.args p0))]), (4, [pI (0 : Int), pI (0 : Int), pS ([] : Str), pL (Tm.encL ([] : List Tm))]), (5, [pI (Tm.kind p0), pI (Tm.n p0), pS t3, .tip (3, 5, 3) (0) (Tm.encL s7.2)])] [((3, 5, 3), 0, .tip (Tm.encL s7.2).length 4)]) (wk_St ⟨le_rfl _, le_rfl _, le_rfl _, le_rfl _, le_rfl _, trivial⟩ ⟨box_rfl rfl, box_rfl rfl, box_rfl rfl, trivial⟩ ⟨rfl, trivial⟩ rfl ⟨rfl, rfl, trivial⟩ ⟨rfl, rfl, trivial⟩) ?_))
        refine aw_seq (aw_blk (s_reg ?_))
        refine s_run 5 [(33, pI s7.1), (32, pL (Tm.encL (Tm.args p0))), (31, .ptr 2 3), (30, .tip (3, 5, 3) (0) (Tm.encL s7.2)), (29, .ptr 5 3)] [] [] rfl ?_
        obtain ⟨u25, ⟨g26a, g26b⟩, h⟩ := h
        refine s_ia rfl rfl g26a (enc_get (e := Tm.encL) g26b) rfl ?_
        refine s_run 2 [(36, pS p1), (35, .p (.agg (Tm.cells u25)))] [] [] rfl ?_
        obtain ⟨r27, k28, h⟩ := h
        refine s_call (.p (.agg (Tm.cells r27))) [] [] rfl k28 rfl ?_
        refine s_bs rfl rfl (enc_cons (e := Tm.encL) r27 (enc_nil (e := Tm.encL))) ?_
        obtain ⟨g29, h⟩ := h
        refine s_app rfl rfl rfl (enc_sz (e := Tm.encL) _) (enc_len (e := Tm.encL) _) (enc_len (e := Tm.encL) _) g29 (enc_app (e := Tm.encL) _ _) ?_
        refine s_run 2 [(40, .ptr 5 3)] [(5, [pI (Tm.kind p0), pI (Tm.n p0), pS t3, .tip (3, 5, 3) (0) (Tm.encL (s7.2 ++ ([r27] : List Tm)))])] [] rfl ?_
        refine blk_n (seq_n (aw_wk (St [(1, pS p1), (2, .ptr 2 0), (4, .ptr 4 0), (5, .ptr 5 0), (6, pI s7.1)] [(2, [pI (Tm.kind p0), pI (Tm.n p0), pS (Tm.name p0), pL (Tm.encL (Tm.args p0))]), (4, [pI (0 : Int), pI (0 : Int), pS ([] : Str), pL (Tm.encL ([] : List Tm))]), (5, [pI (Tm.kind p0), pI (Tm.n p0), pS t3, .tip (3, 5, 3) (0) (Tm.encL (s7.2 ++ ([r27] : List Tm)))])] [((3, 5, 3), 0, .tip (Tm.encL (s7.2 ++ ([r27] : List Tm))).length 4)]) (wk_St ⟨le_rfl _, le_rfl _, le_rfl _, le_rfl _, le_rfl _, trivial⟩ ⟨box_rfl rfl, box_rfl rfl, box_rfl rfl, trivial⟩ ⟨rfl, trivial⟩ rfl ⟨rfl, rfl, trivial⟩ ⟨rfl, rfl, trivial⟩) ?_))
        refine s_reg ?_
        refine s_run 3 [(6, pI (IntKind.i64.wrap (s7.1 + (1 : Int)))), (28, pI (IntKind.i64.wrap (s7.1 + (1 : Int)))), (27, pI s7.1)] [] [] rfl ?_
        exact loop_n ⟨_, h.1⟩ h.2 (wk_St ⟨le_rfl _, le_rfl _, le_rfl _, le_rfl _, le_rfl _, trivial⟩ ⟨box_rfl rfl, box_rfl rfl, box_rfl rfl, trivial⟩ ⟨rfl, trivial⟩ rfl ⟨rfl, rfl, trivial⟩ ⟨rfl, rfl, trivial⟩)
      · have h := h.2 c24
        refine aw_exit (seq_x (loop_x (blk_x (seq_n (aw_seq (s_reg ?_))))))
        refine s_run 2 [(41, .agg [pI (Tm.kind p0), pI (Tm.n p0), pS t3, .tip (3, 5, 3) (0) (Tm.encL s7.2)])] [(4, [pI (Tm.kind p0), pI (Tm.n p0), pS t3, .tip (3, 5, 3) (0) (Tm.encL s7.2)])] [] rfl ?_
        refine seq_n (aw_ret ?_)
        exact endp_ret _ h rfl
  · refine aw_seq (s_reg ?_)
    refine s_run 3 [(16, pB ((Tm.kind p0) == (1 : Int))), (15, pI (Tm.kind p0)), (14, .ptr 2 0)] [] [] rfl ?_
    refine seq_n (s_if rfl (fun c30 => ?_) (fun c30 => ?_))
    · have h := h.1 c30
      refine s_reg ?_
      refine s_run 3 [(19, pS p1), (18, pS (Tm.name p0)), (17, .ptr 2 2)] [] [] rfl ?_
      obtain ⟨g31, h⟩ := h
      refine s_cat rfl rfl g31 ?_
      refine s_run 2 [(21, .ptr 5 2)] [(5, [pI (Tm.kind p0), pI (Tm.n p0), pS ((Tm.name p0) ++ p1), .tip (3, 5, 3) (0) (Tm.encL ([] : List Tm))])] [] rfl ?_
      exact join_n ⟨_, h⟩ (wk_St ⟨le_rfl _, le_rfl _, le_rfl _, le_rfl _, trivial⟩ ⟨box_rfl rfl, box_rfl rfl, box_rfl rfl, trivial⟩ ⟨rfl, trivial⟩ rfl ⟨rfl, rfl, trivial⟩ ⟨rfl, rfl, trivial⟩)
    · have h := h.2 c30
      refine aw_skip ?_
      exact join_n ⟨_, h⟩ (wk_St ⟨le_rfl _, le_rfl _, le_rfl _, le_rfl _, trivial⟩ ⟨box_rfl rfl, box_rfl rfl, box_rfl rfl, trivial⟩ ⟨rfl, trivial⟩ rfl ⟨rfl, rfl, trivial⟩ ⟨rfl, rfl, trivial⟩)


def ac_spec_RestrictSubst : AC :=
  .seq (.reg false [
    { dst := some 4, k := .mv (.c (.slice [])) }])
  (.seq (.reg false [
    { dst := some 10, k := .bs 5 [] },
    { dst := some 5, k := .asgo (.t 10) }])
  (.seq (.reg false [
    { dst := some 11, k := .mv (.t 1) },
    { dst := some 12, k := .call 52 [(.t 11, .fz)] },
    { dst := some 6, k := .mv (.t 12) }])
  (.wk (.seq (.seq (.reg false [
    { dst := some 7, k := .mv (.c (.int .i64 (0))) }])
  (.block 0 (.loop (.seq (.seq (.reg false [
        { dst := some 13, k := .mv (.t 7) },
        { dst := some 14, k := .mv (.t 6) },
        { dst := some 15, k := .len (.t 14) },
        { dst := some 16, k := .bin .lss (.t 13) (.t 15) }])
      (.cond (.t 16) (.skip)
      (.exit 0)))
      (.wk (.seq (.block 1 (.seq (.reg false [
          { dst := some 20, k := .mv (.t 0) },
          { dst := some 21, k := .mv (.t 6) },
          { dst := some 22, k := .mv (.t 7) },
          { dst := some 23, k := .ia (.t 21) (.t 22) 1 },
          { dst := some 24, k := .ld (.t 23) 1 false },
          { dst := some 25, k := .call 53 [(.t 20, .fz), (.t 24, .fz)] },
          { dst := some 19, k := .mv (.t 25) },
          { dst := some 26, k := .ex (.t 19) 0 },
          { dst := some 27, k := .ex (.t 19) 1 },
          { dst := some 8, k := .al [.p (.int .i64 0), .p (.int .i64 0), .p (.str []), .p (.slice [])] },
          { dst := none, k := .st (.t 8) (.t 26) 4 8 },
          { dst := some 9, k := .mv (.t 27) }])
        (.wk (.seq (.reg false [
          { dst := some 28, k := .mv (.t 9) }])
        (.cond (.t 28) (.reg true [
            { dst := some 29, k := .mv (.t 5) },
            { dst := some 30, k := .mv (.t 6) },
            { dst := some 31, k := .mv (.t 7) },
            { dst := some 32, k := .ia (.t 30) (.t 31) 1 },
            { dst := some 33, k := .ld (.t 32) 1 false, vb := .only [] },
            { dst := some 34, k := .ld (.t 8) 4 true, vb := .only [8] },
            { dst := some 35, k := .bd [.p (.str []), .p (.int .i64 0), .p (.int .i64 0), .p (.str []), .p (.slice [])] [(0, 1, .t 33), (1, 4, .t 34)] },
            { dst := some 36, k := .bs 5 [.t 35] },
            { dst := some 37, k := .app (.t 29) (.t 36) 5 72 },
            { dst := some 5, k := .mv (.t 37) }])
        (.skip))))))
      (.wk (.reg false [
        { dst := some 17, k := .mv (.t 7) },
        { dst := some 18, k := .bin .add (.t 17) (.c (.int .i64 (1))) },
        { dst := some 7, k := .mv (.t 18) }]))))))))
  (.seq (.reg false [
    { dst := some 38, k := .mv (.t 5) },
    { dst := some 4, k := .mv (.t 38) }])
  (.ret))))))
theorem chk_spec_RestrictSubst : fnOK Try.prog 2 Try.f24 ac_spec_RestrictSubst [(.tmp 4, .fz)] = true := by kernel_rfl
def wp_spec_RestrictSubst (p0 : (List Bd)) (p1 : (List Str)) (post : (List Bd) → Prop) : Prop :=
  (∃ r1 : (List Str), C_spec_SortNames p1 r1 ∧ LOOP (fun (N22 : (Int × (List Bd)) → Prop) (s3 : Int × (List Bd)) => (((decide (s3.1 < ((List.length r1 : Nat) : Int))) = true → (∃ u27, GETI r1 s3.1 u27 ∧ (∃ r29 : Tm × Bool, C_spec_FindBind p0 u27 r29 ∧ ((r29.2 = true → (∃ u32, GETI r1 s3.1 u32 ∧ ((List.length s3.2 + List.length ([(Bd.mk u32 r29.1)] : List Bd)) * 72 ≤ 140737488355328 ∧ N22 ((IntKind.i64.wrap (s3.1 + (1 : Int))), (s3.2 ++ ([(Bd.mk u32 r29.1)] : List Bd)))))) ∧ (r29.2 = false → N22 ((IntKind.i64.wrap (s3.1 + (1 : Int))), s3.2)))))) ∧ ((decide (s3.1 < ((List.length r1 : Nat) : Int))) = false → post s3.2))) ((0 : Int), ([] : List Bd)))
theorem w_spec_RestrictSubst (p0 : (List Bd)) (p1 : (List Str)) (post : (List Bd) → Prop) (h : wp_spec_RestrictSubst p0 p1 post) : ∃ r, post r ∧ C_spec_RestrictSubst p0 p1 r := by
  unfold wp_spec_RestrictSubst at h
  refine evs_of (encR := fun r : (List Bd) => .one (.l (.fz (.slice (e_Bd r))))) (encO := fun r => []) 2 [(.tmp 4, .fz)] [.fz, .fz] Try.func24 chk_spec_RestrictSubst rfl rfl [(1, pL (e_str p1)), (0, pL (e_Bd p0))] [] [] rfl ?_
  refine aw_seq (s_reg ?_)
  refine s_run 1 [(4, pL (e_Bd ([] : List Bd)))] [] [] rfl ?_
  refine seq_n (aw_seq (s_reg ?_))
  refine s_bs rfl rfl (enc_nil (e := e_Bd)) ?_
  refine s_asgo (g := (0, 10, 0)) (r := 0) (q := 0) (sz := 5) (xs := e_Bd ([] : List Bd)) rfl rfl (by decide) rfl ?_
  refine seq_n (aw_seq (s_reg ?_))
  refine s_run 1 [(11, pL (e_str p1))] [] [] rfl ?_
  obtain ⟨r1, k2, h⟩ := h
  refine s_call (.tip (0, 12, 0) (0) (e_str r1)) [] [((0, 12, 0), 0, .tip (e_str r1).length 1)] (args_one rfl (args_nil)) k2 rfl ?_
  refine s_run 1 [(6, .tip (0, 12, 0) (0) (e_str r1))] [] [] rfl ?_
  refine seq_n (aw_wk (St [(0, pL (e_Bd p0)), (5, .tip (0, 5, 0) (0) (e_Bd ([] : List Bd))), (6, .tip (0, 12, 0) (0) (e_str r1))] [] [((0, 5, 0), 0, .tip (e_Bd ([] : List Bd)).length 5), ((0, 12, 0), 0, .tip (e_str r1).length 1)]) (wk_St ⟨le_rfl _, le_rfl _, le_rfl _, trivial⟩ trivial ⟨rfl, rfl, trivial⟩ rfl ⟨rfl, rfl, trivial⟩ ⟨rfl, rfl, trivial⟩) ?_)
  refine aw_seq (aw_seq (s_reg ?_))
  refine s_run 1 [(7, pI (0 : Int))] [] [] rfl ?_
  refine seq_n (aw_blk ?_)
  obtain ⟨I24, m25, h0, h⟩ := h
  refine aw_loop' (ι := { y : Int × (List Bd) // I24 y }) (fun x23 => St [(0, pL (e_Bd p0)), (5, .tip (0, 5, 0) (0) (e_Bd x23.1.2)), (6, .tip (0, 12, 0) (0) (e_str r1)), (7, pI x23.1.1)] [] [((0, 5, 0), 0, .tip (e_Bd x23.1.2).length 5), ((0, 12, 0), 0, .tip (e_str r1).length 1)]) (fun x23 => m25 x23.1) ⟨_, h0⟩ ?_ ?_
  · exact wk_St ⟨le_rfl _, le_rfl _, le_rfl _, le_rfl _, trivial⟩ trivial ⟨rfl, rfl, trivial⟩ rfl ⟨rfl, rfl, trivial⟩ ⟨rfl, rfl, trivial⟩
  · rintro ⟨s3, hs3⟩
    replace h := h s3 hs3
    refine aw_seq (aw_seq (s_reg ?_))
    refine s_run 2 [(14, .tip (0, 12, 0) (0) (e_str r1)), (13, pI s3.1)] [] [] rfl ?_
    refine s_len rfl (enc_len (e := e_str) _) ?_
    refine s_run 1 [(16, pB (decide (s3.1 < ((List.length r1 : Nat) : Int))))] [] [] rfl ?_
    refine seq_n (s_if rfl (fun c26 => ?_) (fun c26 => ?_))
    · have h := h.1 c26
      refine aw_skip (seq_n (aw_wk (St [(0, pL (e_Bd p0)), (5, .tip (0, 5, 0) (0) (e_Bd s3.2)), (6, .tip (0, 12, 0) (0) (e_str r1)), (7, pI s3.1)] [] [((0, 5, 0), 0, .tip (e_Bd s3.2).length 5), ((0, 12, 0), 0, .tip (e_str r1).length 1)]) (wk_St ⟨le_rfl _, le_rfl _, le_rfl _, le_rfl _, trivial⟩ trivial ⟨rfl, rfl, trivial⟩ rfl ⟨rfl, rfl, trivial⟩ ⟨rfl, rfl, trivial⟩) ?_))
      refine aw_seq (aw_blk (aw_seq (s_reg ?_)))
      refine s_run 3 [(22, pI s3.1), (21, .tip (0, 12, 0) (0) (e_str r1)), (20, pL (e_Bd p0))] [] [] rfl ?_
      obtain ⟨u27, ⟨g28a, g28b⟩, h⟩ := h
      refine s_ia rfl rfl g28a (enc_get (e := e_str) g28b) rfl ?_
      refine s_run 1 [(24, pS u27)] [] [] rfl ?_
      obtain ⟨r29, k30, h⟩ := h
      refine s_call (.tup [.p (.agg (Tm.cells r29.1)), pB r29.2]) [] [] rfl k30 rfl ?_
      refine s_run 6 [(9, pB r29.2), (8, .ptr 8 0), (27, pB r29.2), (26, .p (.agg (Tm.cells r29.1))), (19, .tup [.p (.agg (Tm.cells r29.1)), pB r29.2])] [(8, [pI (Tm.kind r29.1), pI (Tm.n r29.1), pS (Tm.name r29.1), pL (Tm.encL (Tm.args r29.1))]), (8, [pI (0 : Int), pI (0 : Int), pS ([] : Str), pL (Tm.encL ([] : List Tm))])] [] rfl ?_
      refine seq_n (aw_wk (St [(0, pL (e_Bd p0)), (5, .tip (0, 5, 0) (0) (e_Bd s3.2)), (6, .tip (0, 12, 0) (0) (e_str r1)), (7, pI s3.1), (8, .ptr 8 0), (9, pB r29.2)] [(8, [pI (Tm.kind r29.1), pI (Tm.n r29.1), pS (Tm.name r29.1), pL (Tm.encL (Tm.args r29.1))])] [((0, 5, 0), 0, .tip (e_Bd s3.2).length 5), ((0, 12, 0), 0, .tip (e_str r1).length 1)]) (wk_St ⟨le_rfl _, le_rfl _, le_rfl _, le_rfl _, le_rfl _, le_rfl _, trivial⟩ ⟨box_rfl rfl, trivial⟩ ⟨rfl, rfl, trivial⟩ rfl ⟨rfl, rfl, trivial⟩ ⟨rfl, rfl, trivial⟩) ?_)
      refine aw_seq (s_reg ?_)
      refine s_run 1 [(28, pB r29.2)] [] [] rfl ?_
      refine seq_n (s_if rfl (fun c31 => ?_) (fun c31 => ?_))
      · have h := h.1 c31
        refine s_reg ?_
        refine s_run 3 [(31, pI s3.1), (30, .tip (0, 12, 0) (0) (e_str r1)), (29, .tip (0, 5, 0) (0) (e_Bd s3.2))] [] [] rfl ?_
        obtain ⟨u32, ⟨g33a, g33b⟩, h⟩ := h
        refine s_ia rfl rfl g33a (enc_get (e := e_str) g33b) rfl ?_
        refine s_run 3 [(35, .agg [pS u32, pI (Tm.kind r29.1), pI (Tm.n r29.1), pS (Tm.name r29.1), pL (Tm.encL (Tm.args r29.1))]), (34, .agg [pI (Tm.kind r29.1), pI (Tm.n r29.1), pS (Tm.name r29.1), pL (Tm.encL (Tm.args r29.1))]), (33, pS u32)] [] [] rfl ?_
        refine s_bs rfl rfl (enc_cons (e := e_Bd) (Bd.mk u32 r29.1) (enc_nil (e := e_Bd))) ?_
        obtain ⟨g34, h⟩ := h
        refine s_app rfl rfl rfl (enc_sz (e := e_Bd) _) (enc_len (e := e_Bd) _) (enc_len (e := e_Bd) _) g34 (enc_app (e := e_Bd) _ _) ?_
        refine s_run 1 [(5, .tip (0, 5, 0) (0) (e_Bd (s3.2 ++ ([(Bd.mk u32 r29.1)] : List Bd))))] [] [] rfl ?_
        refine blk_n (seq_n (aw_wk (St [(0, pL (e_Bd p0)), (5, .tip (0, 5, 0) (0) (e_Bd (s3.2 ++ ([(Bd.mk u32 r29.1)] : List Bd)))), (6, .tip (0, 12, 0) (0) (e_str r1)), (7, pI s3.1)] [] [((0, 5, 0), 0, .tip (e_Bd (s3.2 ++ ([(Bd.mk u32 r29.1)] : List Bd))).length 5), ((0, 12, 0), 0, .tip (e_str r1).length 1)]) (wk_St ⟨le_rfl _, le_rfl _, le_rfl _, le_rfl _, trivial⟩ trivial ⟨rfl, rfl, trivial⟩ rfl ⟨rfl, rfl, trivial⟩ ⟨rfl, rfl, trivial⟩) ?_))
        refine s_reg ?_
        refine s_run 3 [(7, pI (IntKind.i64.wrap (s3.1 + (1 : Int)))), (18, pI (IntKind.i64.wrap (s3.1 + (1 : Int)))), (17, pI s3.1)] [] [] rfl ?_
        exact loop_n ⟨_, h.1⟩ h.2 (wk_St ⟨le_rfl _, le_rfl _, le_rfl _, le_rfl _, trivial⟩ trivial ⟨rfl, rfl, trivial⟩ rfl ⟨rfl, rfl, trivial⟩ ⟨rfl, rfl, trivial⟩)
      · have h := h.2 c31
        refine aw_skip (blk_n (seq_n (aw_wk (St [(0, pL (e_Bd p0)), (5, .tip (0, 5, 0) (0) (e_Bd s3.2)), (6, .tip (0, 12, 0) (0) (e_str r1)), (7, pI s3.1)] [] [((0, 5, 0), 0, .tip (e_Bd s3.2).length 5), ((0, 12, 0), 0, .tip (e_str r1).length 1)]) (wk_St ⟨le_rfl _, le_rfl _, le_rfl _, le_rfl _, trivial⟩ trivial ⟨rfl, rfl, trivial⟩ rfl ⟨rfl, rfl, trivial⟩ ⟨rfl, rfl, trivial⟩) ?_)))
        refine s_reg ?_
        refine s_run 3 [(7, pI (IntKind.i64.wrap (s3.1 + (1 : Int)))), (18, pI (IntKind.i64.wrap (s3.1 + (1 : Int)))), (17, pI s3.1)] [] [] rfl ?_
        exact loop_n ⟨_, h.1⟩ h.2 (wk_St ⟨le_rfl _, le_rfl _, le_rfl _, le_rfl _, trivial⟩ trivial ⟨rfl, rfl, trivial⟩ rfl ⟨rfl, rfl, trivial⟩ ⟨rfl, rfl, trivial⟩)
    · have h := h.2 c26
      refine aw_exit (seq_x (loop_x (blk_x (seq_n (aw_seq (s_reg ?_))))))
      refine s_run 2 [(4, .tip (0, 5, 0) (0) (e_Bd s3.2)), (38, .tip (0, 5, 0) (0) (e_Bd s3.2))] [] [] rfl ?_
      refine seq_n (aw_ret ?_)
      exact endp_ret _ h rfl


def ac_slices_EqualFunc_Term : AC :=
  .seq (.reg false [
    { dst := some 6, k := .mv (.c (.bool false)) }])
  (.seq (.seq (.reg false [
    { dst := some 10, k := .mv (.t 0) },
    { dst := some 11, k := .len (.t 10) },
    { dst := some 12, k := .mv (.t 1) },
    { dst := some 13, k := .len (.t 12) },
    { dst := some 14, k := .bin .neq (.t 11) (.t 13) }])
  (.cond (.t 14) (.seq (.reg false [
      { dst := some 6, k := .mv (.c (.bool false)) }])
    (.ret))
  (.skip)))
  (.wk (.seq (.seq (.reg false [
    { dst := some 15, k := .mv (.t 0) },
    { dst := some 16, k := .len (.t 15) },
    { dst := some 17, k := .mv (.c (.int .i64 (0))) }])
  (.block 0 (.loop (.seq (.reg false [
        { dst := some 18, k := .bin .lss (.t 17) (.t 16) }])
      (.seq (.cond (.t 18) (.skip)
      (.exit 0))
      (.seq (.block 1 (.seq (.reg false [
          { dst := some 19, k := .mv (.t 17) },
          { dst := some 20, k := .ia (.t 15) (.t 17) 4 },
          { dst := some 21, k := .ld (.t 20) 4 true },
          { dst := some 8, k := .al [.p (.int .i64 0), .p (.int .i64 0), .p (.str []), .p (.slice [])] },
          { dst := some 7, k := .mv (.t 19) },
          { dst := none, k := .st (.t 8) (.t 21) 4 8 }])
        (.wk (.seq (.reg false [
          { dst := some 22, k := .mv (.t 1) },
          { dst := some 23, k := .mv (.t 7) },
          { dst := some 24, k := .ia (.t 22) (.t 23) 4 },
          { dst := some 25, k := .ld (.t 24) 4 true },
          { dst := some 9, k := .al [.p (.int .i64 0), .p (.int .i64 0), .p (.str []), .p (.slice [])] },
          { dst := none, k := .st (.t 9) (.t 25) 4 9 }])
        (.wk (.seq (.reg false [
          { dst := some 26, k := .mv (.t 2) },
          { dst := some 27, k := .ld (.t 8) 4 true },
          { dst := some 28, k := .ld (.t 9) 4 true },
          { dst := some 29, k := .callv (.t 26) [.t 27, .t 28] },
          { dst := some 30, k := .un .not (.t 29) }])
        (.cond (.t 30) (.seq (.reg false [
            { dst := some 6, k := .mv (.c (.bool false)) }])
          (.ret))
        (.skip))))))))
      (.reg false [
        { dst := some 31, k := .bin .add (.t 17) (.c (.int .i64 (1))) },
        { dst := some 17, k := .mv (.t 31) }])))))))
  (.seq (.reg false [
    { dst := some 6, k := .mv (.c (.bool true)) }])
  (.ret)))))
theorem chk_slices_EqualFunc_Term : fnOK Try.prog 3 Try.f76 ac_slices_EqualFunc_Term [(.tmp 6, .fz)] = true := by kernel_rfl
def wp_slices_EqualFunc_Term (p0 : (List Tm)) (p1 : (List Tm)) (p2 : Clo) (post : Bool → Prop) : Prop :=
  (((((List.length p0 : Nat) : Int) != ((List.length p1 : Nat) : Int)) = true → post false) ∧ ((((List.length p0 : Nat) : Int) != ((List.length p1 : Nat) : Int)) = false → LOOP (fun (N19 : Int → Prop) (s2 : Int) => (((decide (s2 < ((List.length p0 : Nat) : Int))) = true → (∃ u24, GETI p0 s2 u24 ∧ (∃ u26, GETI p1 s2 u26 ∧ (∃ r28 : Bool, Ev Try.prog (Prod.fst p2) ([.l (.fz (.agg (Tm.cells u24))), .l (.fz (.agg (Tm.cells u26)))] ++ (Prod.snd p2).map fun v => .l (.fz v)) (.one (.l (.fz (.bool r28)))) [] ∧ (((!r28) = true → post false) ∧ ((!r28) = false → N19 (IntKind.i64.wrap (s2 + (1 : Int))))))))) ∧ ((decide (s2 < ((List.length p0 : Nat) : Int))) = false → post true))) (0 : Int)))
theorem w_slices_EqualFunc_Term (p0 : (List Tm)) (p1 : (List Tm)) (p2 : Clo) (post : Bool → Prop) (h : wp_slices_EqualFunc_Term p0 p1 p2 post) : ∃ r, post r ∧ C_slices_EqualFunc_Term p0 p1 p2 r := by
  unfold wp_slices_EqualFunc_Term at h
  refine evs_of (encR := fun r : Bool => .one (.l (.fz (.bool r)))) (encO := fun r => []) 3 [(.tmp 6, .fz)] [.fz, .fz, .fz] Try.func76 chk_slices_EqualFunc_Term rfl rfl [(2, .p (.clo (Prod.fst p2) (Prod.snd p2))), (1, pL (Tm.encL p1)), (0, pL (Tm.encL p0))] [] [] rfl ?_
  refine aw_seq (s_reg ?_)
  refine s_run 1 [(6, pB false)] [] [] rfl ?_
  refine seq_n (aw_seq (aw_seq (s_reg ?_)))
  refine s_run 1 [(10, pL (Tm.encL p0))] [] [] rfl ?_
  refine s_len rfl (enc_len (e := Tm.encL) _) ?_
  refine s_run 1 [(12, pL (Tm.encL p1))] [] [] rfl ?_
  refine s_len rfl (enc_len (e := Tm.encL) _) ?_
  refine s_run 1 [(14, pB (((List.length p0 : Nat) : Int) != ((List.length p1 : Nat) : Int)))] [] [] rfl ?_
  refine seq_n (s_if rfl (fun c1 => ?_) (fun c1 => ?_))
  · have h := h.1 c1
    refine aw_seq (s_reg ?_)
    refine s_run 1 [(6, pB false)] [] [] rfl ?_
    refine seq_n (aw_ret ?_)
    exact endp_ret _ h rfl
  · have h := h.2 c1
    refine aw_skip (seq_n (aw_wk (St [(0, pL (Tm.encL p0)), (1, pL (Tm.encL p1)), (2, .p (.clo (Prod.fst p2) (Prod.snd p2)))] [] []) (wk_St ⟨le_rfl _, le_rfl _, le_rfl _, trivial⟩ trivial trivial rfl ⟨rfl, rfl, rfl, trivial⟩ ⟨rfl, rfl, rfl, trivial⟩) ?_))
    refine aw_seq (aw_seq (s_reg ?_))
    refine s_run 1 [(15, pL (Tm.encL p0))] [] [] rfl ?_
    refine s_len rfl (enc_len (e := Tm.encL) _) ?_
    refine s_run 1 [(17, pI (0 : Int))] [] [] rfl ?_
    refine seq_n (aw_blk ?_)
    obtain ⟨I21, m22, h0, h⟩ := h
    refine aw_loop' (ι := { y : Int // I21 y }) (fun x20 => St [(1, pL (Tm.encL p1)), (2, .p (.clo (Prod.fst p2) (Prod.snd p2))), (15, pL (Tm.encL p0)), (16, pI ((List.length p0 : Nat) : Int)), (17, pI x20.1)] [] []) (fun x20 => m22 x20.1) ⟨_, h0⟩ ?_ ?_
    · exact wk_St ⟨le_rfl _, le_rfl _, le_rfl _, le_rfl _, le_rfl _, trivial⟩ trivial trivial rfl ⟨rfl, rfl, rfl, trivial⟩ ⟨rfl, rfl, rfl, trivial⟩
    · rintro ⟨s2, hs2⟩
      replace h := h s2 hs2
      refine aw_seq (s_reg ?_)
      refine s_run 1 [(18, pB (decide (s2 < ((List.length p0 : Nat) : Int))))] [] [] rfl ?_
      refine seq_n (aw_seq (s_if rfl (fun c23 => ?_) (fun c23 => ?_)))
      · have h := h.1 c23
        refine aw_skip (seq_n (aw_seq (aw_blk (aw_seq (s_reg ?_)))))
        refine s_run 1 [(19, pI s2)] [] [] rfl ?_
        obtain ⟨u24, ⟨g25a, g25b⟩, h⟩ := h
        refine s_ia rfl rfl g25a (enc_get (e := Tm.encL) g25b) rfl ?_
        refine s_run 4 [(7, pI s2), (8, .ptr 8 0), (21, .p (.agg (Tm.cells u24)))] [(8, [pI (Tm.kind u24), pI (Tm.n u24), pS (Tm.name u24), pL (Tm.encL (Tm.args u24))]), (8, [pI (0 : Int), pI (0 : Int), pS ([] : Str), pL (Tm.encL ([] : List Tm))])] [] rfl ?_
        refine seq_n (aw_wk (St [(1, pL (Tm.encL p1)), (2, .p (.clo (Prod.fst p2) (Prod.snd p2))), (7, pI s2), (8, .ptr 8 0), (15, pL (Tm.encL p0)), (16, pI ((List.length p0 : Nat) : Int)), (17, pI s2)] [(8, [pI (Tm.kind u24), pI (Tm.n u24), pS (Tm.name u24), pL (Tm.encL (Tm.args u24))])] []) (wk_St ⟨le_rfl _, le_rfl _, le_rfl _, le_rfl _, le_rfl _, le_rfl _, le_rfl _, trivial⟩ ⟨box_rfl rfl, trivial⟩ trivial rfl ⟨rfl, rfl, rfl, trivial⟩ ⟨rfl, rfl, rfl, trivial⟩) ?_)
        refine aw_seq (s_reg ?_)
        refine s_run 2 [(23, pI s2), (22, pL (Tm.encL p1))] [] [] rfl ?_
        obtain ⟨u26, ⟨g27a, g27b⟩, h⟩ := h
        refine s_ia rfl rfl g27a (enc_get (e := Tm.encL) g27b) rfl ?_
        refine s_run 3 [(9, .ptr 9 0), (25, .p (.agg (Tm.cells u26)))] [(9, [pI (Tm.kind u26), pI (Tm.n u26), pS (Tm.name u26), pL (Tm.encL (Tm.args u26))]), (9, [pI (0 : Int), pI (0 : Int), pS ([] : Str), pL (Tm.encL ([] : List Tm))])] [] rfl ?_
        refine seq_n (aw_wk (St [(1, pL (Tm.encL p1)), (2, .p (.clo (Prod.fst p2) (Prod.snd p2))), (8, .ptr 8 0), (9, .ptr 9 0), (15, pL (Tm.encL p0)), (16, pI ((List.length p0 : Nat) : Int)), (17, pI s2)] [(8, [pI (Tm.kind u24), pI (Tm.n u24), pS (Tm.name u24), pL (Tm.encL (Tm.args u24))]), (9, [pI (Tm.kind u26), pI (Tm.n u26), pS (Tm.name u26), pL (Tm.encL (Tm.args u26))])] []) (wk_St ⟨le_rfl _, le_rfl _, le_rfl _, le_rfl _, le_rfl _, le_rfl _, le_rfl _, trivial⟩ ⟨box_rfl rfl, box_rfl rfl, trivial⟩ trivial rfl ⟨rfl, rfl, rfl, trivial⟩ ⟨rfl, rfl, rfl, trivial⟩) ?_)
        refine aw_seq (s_reg ?_)
        refine s_run 3 [(28, .agg [pI (Tm.kind u26), pI (Tm.n u26), pS (Tm.name u26), pL (Tm.encL (Tm.args u26))]), (27, .agg [pI (Tm.kind u24), pI (Tm.n u24), pS (Tm.name u24), pL (Tm.encL (Tm.args u24))]), (26, .p (.clo (Prod.fst p2) (Prod.snd p2)))] [] [] rfl ?_
        obtain ⟨r28, k29, h⟩ := h
        refine s_callv (pB r28) rfl rfl k29 rfl ?_
        refine s_run 1 [(30, pB (!r28))] [] [] rfl ?_
        refine seq_n (s_if rfl (fun c30 => ?_) (fun c30 => ?_))
        · have h := h.1 c30
          refine aw_seq (s_reg ?_)
          refine s_run 1 [(6, pB false)] [] [] rfl ?_
          refine seq_n (aw_ret ?_)
          exact endp_ret _ h rfl
        · have h := h.2 c30
          refine aw_skip (blk_n (seq_n (s_reg ?_)))
          refine s_run 2 [(17, pI (IntKind.i64.wrap (s2 + (1 : Int)))), (31, pI (IntKind.i64.wrap (s2 + (1 : Int))))] [] [] rfl ?_
          exact loop_n ⟨_, h.1⟩ h.2 (wk_St ⟨le_rfl _, le_rfl _, le_rfl _, le_rfl _, le_rfl _, trivial⟩ trivial trivial rfl ⟨rfl, rfl, rfl, trivial⟩ ⟨rfl, rfl, rfl, trivial⟩)
      · have h := h.2 c23
        refine aw_exit (seq_x (loop_x (blk_x (seq_n (aw_seq (s_reg ?_))))))
        refine s_run 1 [(6, pB true)] [] [] rfl ?_
        refine seq_n (aw_ret ?_)
        exact endp_ret _ h rfl


def ac_spec_l7Draw : AC :=
  .seq (.reg false [
    { dst := some 2, k := .mv (.c (.slice [])) }])
  (.seq (.reg false [
    { dst := some 6, k := .bs 5 [] },
    { dst := some 3, k := .asgo (.t 6) }])
  (.seq (.reg false [
    { dst := some 7, k := .mv (.t 0) },
    { dst := some 8, k := .call 49 [(.t 7, .io [false, false, false]), (.c (.int .i64 (4)), .fz)] },
    { dst := some 4, k := .mv (.t 8) }])
  (.wk (.seq (.seq (.reg false [
    { dst := some 5, k := .mv (.c (.int .i64 (0))) }])
  (.block 0 (.loop (.seq (.seq (.reg false [
        { dst := some 9, k := .mv (.t 5) },
        { dst := some 10, k := .mv (.t 4) },
        { dst := some 11, k := .bin .lss (.t 9) (.t 10) }])
      (.cond (.t 11) (.skip)
      (.exit 0)))
      (.seq (.block 1 (.reg false [
          { dst := some 14, k := .mv (.t 3) },
          { dst := some 15, k := .mv (.t 0) },
          { dst := some 16, k := .bs 1 [.c (.str [88]), .c (.str [89]), .c (.str [90])] },
          { dst := some 17, k := .call 67 [(.t 15, .io [false, false, false]), (.t 16, .fz)] },
          { dst := some 18, k := .mv (.t 0) },
          { dst := some 19, k := .mv (.t 0) },
          { dst := some 20, k := .call 49 [(.t 19, .io [false, false, false]), (.c (.int .i64 (2)), .fz)] },
          { dst := some 21, k := .bin .add (.c (.int .i64 (1))) (.t 20) },
          { dst := some 22, k := .mv (.t 0) },
          { dst := some 23, k := .call 39 [(.t 22, .io [false, false, false]), (.c (.int .i64 (2)), .fz)] },
          { dst := some 24, k := .call 63 [(.t 18, .io [false, false, false]), (.t 21, .fz), (.t 23, .fz)] },
          { dst := some 25, k := .bd [.p (.str []), .p (.int .i64 0), .p (.int .i64 0), .p (.str []), .p (.slice [])] [(0, 1, .t 17), (1, 4, .t 24)] },
          { dst := some 26, k := .bs 5 [.t 25] },
          { dst := some 27, k := .app (.t 14) (.t 26) 5 72 },
          { dst := some 3, k := .mv (.t 27) }]))
      (.wk (.reg false [
        { dst := some 12, k := .mv (.t 5) },
        { dst := some 13, k := .bin .add (.t 12) (.c (.int .i64 (1))) },
        { dst := some 5, k := .mv (.t 13) }])))))))
  (.seq (.reg false [
    { dst := some 28, k := .mv (.t 3) },
    { dst := some 2, k := .mv (.t 28) }])
  (.ret))))))
theorem chk_spec_l7Draw : fnOK Try.prog 1 Try.f43 ac_spec_l7Draw [(.tmp 2, .fz)] = true := by kernel_rfl
def wp_spec_l7Draw (p0 : T_spec_l1Cur) (post : ((List Bd) × T_spec_l1Cur) → Prop) : Prop :=
  (∃ r1 : Int × T_spec_l1Cur, C_spec_l1Below p0 (4 : Int) r1 ∧ LOOP (fun (N24 : (Int × (List Bd) × T_spec_l1Cur) → Prop) (s3 : Int × (List Bd) × T_spec_l1Cur) => (((decide (s3.1 < r1.1)) = true → (∃ r29 : Str × T_spec_l1Cur, C_spec_l1Pick s3.2.2 ([([88] : Str), ([89] : Str), ([90] : Str)] : List Str) r29 ∧ (∃ r31 : Int × T_spec_l1Cur, C_spec_l1Below r29.2 (2 : Int) r31 ∧ (∃ r33 : Bool × T_spec_l1Cur, C_spec_l1Once r31.2 (2 : Int) r33 ∧ (∃ r35 : Tm × T_spec_l1Cur, C_spec_l3Draw r33.2 (IntKind.i64.wrap ((1 : Int) + r31.1)) r33.1 r35 ∧ ((List.length s3.2.1 + List.length ([(Bd.mk r29.1 r35.1)] : List Bd)) * 72 ≤ 140737488355328 ∧ N24 ((IntKind.i64.wrap (s3.1 + (1 : Int))), (s3.2.1 ++ ([(Bd.mk r29.1 r35.1)] : List Bd)), r35.2))))))) ∧ ((decide (s3.1 < r1.1)) = false → post (s3.2.1, s3.2.2)))) ((0 : Int), ([] : List Bd), r1.2))
theorem w_spec_l7Draw (p0 : T_spec_l1Cur) (post : ((List Bd) × T_spec_l1Cur) → Prop) (h : wp_spec_l7Draw p0 post) : ∃ r, post r ∧ C_spec_l7Draw p0 r := by
  unfold wp_spec_l7Draw at h
  refine evs_of (encR := fun r : (List Bd) × T_spec_l1Cur => .one (.l (.fz (.slice (e_Bd r.1))))) (encO := fun r => [.ptr [.fz (.slice (e_u8 (T_spec_l1Cur.b r.2))), .fz (.int .i64 (T_spec_l1Cur.i r.2)), .fz (.int .i64 (T_spec_l1Cur.h r.2))]]) 1 [(.tmp 2, .fz)] [.io [false, false, false]] Try.func43 chk_spec_l7Draw rfl rfl [(0, .ptr 0 0)] [(0, [pL (e_u8 (T_spec_l1Cur.b p0)), pI (T_spec_l1Cur.i p0), pI (T_spec_l1Cur.h p0)])] [] rfl ?_
  refine aw_seq (s_reg ?_)
  refine s_run 1 [(2, pL (e_Bd ([] : List Bd)))] [] [] rfl ?_
  refine seq_n (aw_seq (s_reg ?_))
  refine s_bs rfl rfl (enc_nil (e := e_Bd)) ?_
  refine s_asgo (g := (0, 6, 0)) (r := 0) (q := 0) (sz := 5) (xs := e_Bd ([] : List Bd)) rfl rfl (by decide) rfl ?_
  refine seq_n (aw_seq (s_reg ?_))
  refine s_run 1 [(7, .ptr 0 0)] [] [] rfl ?_
  obtain ⟨r1, k2, h⟩ := h
  refine s_call (pI r1.1) [(0, [pL (e_u8 (T_spec_l1Cur.b r1.2)), pI (T_spec_l1Cur.i r1.2), pI (T_spec_l1Cur.h r1.2)])] [] rfl k2 rfl ?_
  refine s_run 1 [(4, pI r1.1)] [] [] rfl ?_
  refine seq_n (aw_wk (St [(0, .ptr 0 0), (3, .tip (0, 3, 0) (0) (e_Bd ([] : List Bd))), (4, pI r1.1)] [(0, [pL (e_u8 (T_spec_l1Cur.b r1.2)), pI (T_spec_l1Cur.i r1.2), pI (T_spec_l1Cur.h r1.2)])] [((0, 3, 0), 0, .tip (e_Bd ([] : List Bd)).length 5)]) (wk_St ⟨le_rfl _, le_rfl _, le_rfl _, trivial⟩ ⟨box_rfl rfl, trivial⟩ ⟨rfl, trivial⟩ rfl ⟨rfl, trivial⟩ ⟨rfl, trivial⟩) ?_)
  refine aw_seq (aw_seq (s_reg ?_))
  refine s_run 1 [(5, pI (0 : Int))] [] [] rfl ?_
  refine seq_n (aw_blk ?_)
  obtain ⟨I26, m27, h0, h⟩ := h
  refine aw_loop' (ι := { y : Int × (List Bd) × T_spec_l1Cur // I26 y }) (fun x25 => St [(0, .ptr 0 0), (3, .tip (0, 3, 0) (0) (e_Bd x25.1.2.1)), (4, pI r1.1), (5, pI x25.1.1)] [(0, [pL (e_u8 (T_spec_l1Cur.b x25.1.2.2)), pI (T_spec_l1Cur.i x25.1.2.2), pI (T_spec_l1Cur.h x25.1.2.2)])] [((0, 3, 0), 0, .tip (e_Bd x25.1.2.1).length 5)]) (fun x25 => m27 x25.1) ⟨_, h0⟩ ?_ ?_
  · exact wk_St ⟨le_rfl _, le_rfl _, le_rfl _, le_rfl _, trivial⟩ ⟨box_rfl rfl, trivial⟩ ⟨rfl, trivial⟩ rfl ⟨rfl, trivial⟩ ⟨rfl, trivial⟩
  · rintro ⟨s3, hs3⟩
    replace h := h s3 hs3
    refine aw_seq (aw_seq (s_reg ?_))
    refine s_run 3 [(11, pB (decide (s3.1 < r1.1))), (10, pI r1.1), (9, pI s3.1)] [] [] rfl ?_
    refine seq_n (s_if rfl (fun c28 => ?_) (fun c28 => ?_))
    · have h := h.1 c28
      refine aw_skip (seq_n (aw_seq (aw_blk (s_reg ?_))))
      refine s_run 2 [(15, .ptr 0 0), (14, .tip (0, 3, 0) (0) (e_Bd s3.2.1))] [] [] rfl ?_
      refine s_bs rfl rfl (enc_cons (e := e_str) ([88] : Str) (enc_cons (e := e_str) ([89] : Str) (enc_cons (e := e_str) ([90] : Str) (enc_nil (e := e_str))))) ?_
      obtain ⟨r29, k30, h⟩ := h
      refine s_call (pS r29.1) [(0, [pL (e_u8 (T_spec_l1Cur.b r29.2)), pI (T_spec_l1Cur.i r29.2), pI (T_spec_l1Cur.h r29.2)])] [] rfl k30 rfl ?_
      refine s_run 2 [(19, .ptr 0 0), (18, .ptr 0 0)] [] [] rfl ?_
      obtain ⟨r31, k32, h⟩ := h
      refine s_call (pI r31.1) [(0, [pL (e_u8 (T_spec_l1Cur.b r31.2)), pI (T_spec_l1Cur.i r31.2), pI (T_spec_l1Cur.h r31.2)])] [] rfl k32 rfl ?_
      refine s_run 2 [(22, .ptr 0 0), (21, pI (IntKind.i64.wrap ((1 : Int) + r31.1)))] [] [] rfl ?_
      obtain ⟨r33, k34, h⟩ := h
      refine s_call (pB r33.1) [(0, [pL (e_u8 (T_spec_l1Cur.b r33.2)), pI (T_spec_l1Cur.i r33.2), pI (T_spec_l1Cur.h r33.2)])] [] rfl k34 rfl ?_
      obtain ⟨r35, k36, h⟩ := h
      refine s_call (.agg [pI (Tm.kind r35.1), pI (Tm.n r35.1), pS (Tm.name r35.1), .tip (2, 24, 3) (0) (Tm.encL (Tm.args r35.1))]) [(0, [pL (e_u8 (T_spec_l1Cur.b r35.2)), pI (T_spec_l1Cur.i r35.2), pI (T_spec_l1Cur.h r35.2)])] [((2, 24, 3), 0, .tip (Tm.encL (Tm.args r35.1)).length 4)] (args_one rfl (args_one rfl (args_one rfl (args_nil)))) k36 rfl ?_
      refine s_run 1 [(25, .agg [pS r29.1, pI (Tm.kind r35.1), pI (Tm.n r35.1), pS (Tm.name r35.1), .tip (2, 24, 3) (0) (Tm.encL (Tm.args r35.1))])] [] [] rfl ?_
      refine s_bs rfl rfl (enc_cons (e := e_Bd) (Bd.mk r29.1 r35.1) (enc_nil (e := e_Bd))) ?_
      obtain ⟨g37, h⟩ := h
      refine s_app rfl rfl rfl (enc_sz (e := e_Bd) _) (enc_len (e := e_Bd) _) (enc_len (e := e_Bd) _) g37 (enc_app (e := e_Bd) _ _) ?_
      refine s_run 1 [(3, .tip (0, 3, 0) (0) (e_Bd (s3.2.1 ++ ([(Bd.mk r29.1 r35.1)] : List Bd))))] [] [] rfl ?_
      refine blk_n (seq_n (aw_wk (St [(0, .ptr 0 0), (3, .tip (0, 3, 0) (0) (e_Bd (s3.2.1 ++ ([(Bd.mk r29.1 r35.1)] : List Bd)))), (4, pI r1.1), (5, pI s3.1)] [(0, [pL (e_u8 (T_spec_l1Cur.b r35.2)), pI (T_spec_l1Cur.i r35.2), pI (T_spec_l1Cur.h r35.2)])] [((0, 3, 0), 0, .tip (e_Bd (s3.2.1 ++ ([(Bd.mk r29.1 r35.1)] : List Bd))).length 5)]) (wk_St ⟨le_rfl _, le_rfl _, le_rfl _, le_rfl _, trivial⟩ ⟨box_rfl rfl, trivial⟩ ⟨rfl, trivial⟩ rfl ⟨rfl, trivial⟩ ⟨rfl, trivial⟩) ?_))
      refine s_reg ?_
      refine s_run 3 [(5, pI (IntKind.i64.wrap (s3.1 + (1 : Int)))), (13, pI (IntKind.i64.wrap (s3.1 + (1 : Int)))), (12, pI s3.1)] [] [] rfl ?_
      exact loop_n ⟨_, h.1⟩ h.2 (wk_St ⟨le_rfl _, le_rfl _, le_rfl _, le_rfl _, trivial⟩ ⟨box_rfl rfl, trivial⟩ ⟨rfl, trivial⟩ rfl ⟨rfl, trivial⟩ ⟨rfl, trivial⟩)
    · have h := h.2 c28
      refine aw_exit (seq_x (loop_x (blk_x (seq_n (aw_seq (s_reg ?_))))))
      refine s_run 2 [(2, .tip (0, 3, 0) (0) (e_Bd s3.2.1)), (28, .tip (0, 3, 0) (0) (e_Bd s3.2.1))] [] [] rfl ?_
      refine seq_n (aw_ret ?_)
      exact endp_ret _ h rfl


def ac_spec_l3Copy : AC :=
  .seq (.reg false [
    { dst := some 1, k := .bx (.t 0) 4 },
    { dst := some 2, k := .al [.p (.int .i64 0), .p (.int .i64 0), .p (.str []), .p (.slice [])] }])
  (.seq (.reg false [
    { dst := some 5, k := .bs 4 [] },
    { dst := some 3, k := .asgo (.t 5) }])
  (.seq (.seq (.reg false [
    { dst := some 4, k := .mv (.c (.int .i64 (0))) }])
  (.block 0 (.loop (.seq (.seq (.reg false [
        { dst := some 6, k := .mv (.t 4) },
        { dst := some 7, k := .fa (.t 1) 3 },
        { dst := some 8, k := .ld (.t 7) 1 false },
        { dst := some 9, k := .len (.t 8) },
        { dst := some 10, k := .bin .lss (.t 6) (.t 9) }])
      (.cond (.t 10) (.skip)
      (.exit 0)))
      (.wk (.seq (.block 1 (.reg false [
          { dst := some 13, k := .mv (.t 3) },
          { dst := some 14, k := .fa (.t 1) 3 },
          { dst := some 15, k := .ld (.t 14) 1 false },
          { dst := some 16, k := .mv (.t 4) },
          { dst := some 17, k := .ia (.t 15) (.t 16) 4 },
          { dst := some 18, k := .ld (.t 17) 4 true },
          { dst := some 19, k := .call 48 [(.t 18, .fz)] },
          { dst := some 20, k := .bs 4 [.t 19] },
          { dst := some 21, k := .app (.t 13) (.t 20) 4 56 },
          { dst := some 3, k := .mv (.t 21) }]))
      (.wk (.reg false [
        { dst := some 11, k := .mv (.t 4) },
        { dst := some 12, k := .bin .add (.t 11) (.c (.int .i64 (1))) },
        { dst := some 4, k := .mv (.t 12) }]))))))))
  (.wk (.seq (.reg false [
    { dst := some 22, k := .mv (.t 3) },
    { dst := some 23, k := .fa (.t 1) 3 },
    { dst := none, k := .st (.t 23) (.t 22) 1 1 }])
  (.seq (.reg false [
    { dst := some 24, k := .ld (.t 1) 4 true },
    { dst := none, k := .st (.t 2) (.t 24) 4 2 }])
  (.ret))))))
theorem chk_spec_l3Copy : fnOK Try.prog 1 Try.f48 ac_spec_l3Copy [(.cell 2 4 true, .fz)] = true := by kernel_rfl
def wp_spec_l3Copy (p0 : Tm) (post : Tm → Prop) : Prop :=
  LOOP (fun (N14 : (Int × (List Tm)) → Prop) (s1 : Int × (List Tm)) => (((decide (s1.1 < ((List.length (Tm.args p0) : Nat) : Int))) = true → (∃ u19, GETI (Tm.args p0) s1.1 u19 ∧ (∃ r21 : Tm, C_spec_l3Copy u19 r21 ∧ ((List.length s1.2 + List.length ([r21] : List Tm)) * 56 ≤ 140737488355328 ∧ N14 ((IntKind.i64.wrap (s1.1 + (1 : Int))), (s1.2 ++ ([r21] : List Tm))))))) ∧ ((decide (s1.1 < ((List.length (Tm.args p0) : Nat) : Int))) = false → post (Tm.mk (Tm.kind p0) (Tm.n p0) (Tm.name p0) s1.2)))) ((0 : Int), ([] : List Tm))
theorem w_spec_l3Copy (p0 : Tm) (post : Tm → Prop) (h : wp_spec_l3Copy p0 post) : ∃ r, post r ∧ C_spec_l3Copy p0 r := by
  unfold wp_spec_l3Copy at h
  refine evs_of (encR := fun r : Tm => .one (.l (.fz (.agg (Tm.cells r))))) (encO := fun r => []) 1 [(.cell 2 4 true, .fz)] [.fz] Try.func48 chk_spec_l3Copy rfl rfl [(0, .p (.agg (Tm.cells p0)))] [] [] rfl ?_
  refine aw_seq (s_reg ?_)
  refine s_run 2 [(2, .ptr 2 0), (1, .ptr 1 0)] [(2, [pI (0 : Int), pI (0 : Int), pS ([] : Str), pL (Tm.encL ([] : List Tm))]), (1, [pI (Tm.kind p0), pI (Tm.n p0), pS (Tm.name p0), pL (Tm.encL (Tm.args p0))])] [] rfl ?_
  refine seq_n (aw_seq (s_reg ?_))
  refine s_bs rfl rfl (enc_nil (e := Tm.encL)) ?_
  refine s_asgo (g := (0, 5, 0)) (r := 0) (q := 0) (sz := 4) (xs := Tm.encL ([] : List Tm)) rfl rfl (by decide) rfl ?_
  refine seq_n (aw_seq (aw_seq (s_reg ?_)))
  refine s_run 1 [(4, pI (0 : Int))] [] [] rfl ?_
  refine seq_n (aw_blk ?_)
  obtain ⟨I16, m17, h0, h⟩ := h
  refine aw_loop' (ι := { y : Int × (List Tm) // I16 y }) (fun x15 => St [(1, .ptr 1 0), (2, .ptr 2 0), (3, .tip (0, 3, 0) (0) (Tm.encL x15.1.2)), (4, pI x15.1.1)] [(1, [pI (Tm.kind p0), pI (Tm.n p0), pS (Tm.name p0), pL (Tm.encL (Tm.args p0))]), (2, [pI (0 : Int), pI (0 : Int), pS ([] : Str), pL (Tm.encL ([] : List Tm))])] [((0, 3, 0), 0, .tip (Tm.encL x15.1.2).length 4)]) (fun x15 => m17 x15.1) ⟨_, h0⟩ ?_ ?_
  · exact wk_St ⟨le_rfl _, le_rfl _, le_rfl _, le_rfl _, trivial⟩ ⟨box_rfl rfl, box_rfl rfl, trivial⟩ ⟨rfl, trivial⟩ rfl ⟨rfl, trivial⟩ ⟨rfl, trivial⟩
  · rintro ⟨s1, hs1⟩
    replace h := h s1 hs1
    refine aw_seq (aw_seq (s_reg ?_))
    refine s_run 3 [(8, pL (Tm.encL (Tm.args p0))), (7, .ptr 1 3), (6, pI s1.1)] [] [] rfl ?_
    refine s_len rfl (enc_len (e := Tm.encL) _) ?_
    refine s_run 1 [(10, pB (decide (s1.1 < ((List.length (Tm.args p0) : Nat) : Int))))] [] [] rfl ?_
    refine seq_n (s_if rfl (fun c18 => ?_) (fun c18 => ?_))
    · have h := h.1 c18
      refine aw_skip (seq_n (aw_wk (St [(1, .ptr 1 0), (2, .ptr 2 0), (3, .tip (0, 3, 0) (0) (Tm.encL s1.2)), (4, pI s1.1)] [(1, [pI (Tm.kind p0), pI (Tm.n p0), pS (Tm.name p0), pL (Tm.encL (Tm.args p0))]), (2, [pI (0 : Int), pI (0 : Int), pS ([] : Str), pL (Tm.encL ([] : List Tm))])] [((0, 3, 0), 0, .tip (Tm.encL s1.2).length 4)]) (wk_St ⟨le_rfl _, le_rfl _, le_rfl _, le_rfl _, trivial⟩ ⟨box_rfl rfl, box_rfl rfl, trivial⟩ ⟨rfl, trivial⟩ rfl ⟨rfl, trivial⟩ ⟨rfl, trivial⟩) ?_))
      refine aw_seq (aw_blk (s_reg ?_))
      refine s_run 4 [(16, pI s1.1), (15, pL (Tm.encL (Tm.args p0))), (14, .ptr 1 3), (13, .tip (0, 3, 0) (0) (Tm.encL s1.2))] [] [] rfl ?_
      obtain ⟨u19, ⟨g20a, g20b⟩, h⟩ := h
      refine s_ia rfl rfl g20a (enc_get (e := Tm.encL) g20b) rfl ?_
      refine s_run 1 [(18, .p (.agg (Tm.cells u19)))] [] [] rfl ?_
      obtain ⟨r21, k22, h⟩ := h
      refine s_call (.p (.agg (Tm.cells r21))) [] [] rfl k22 rfl ?_
      refine s_bs rfl rfl (enc_cons (e := Tm.encL) r21 (enc_nil (e := Tm.encL))) ?_
      obtain ⟨g23, h⟩ := h
      refine s_app rfl rfl rfl (enc_sz (e := Tm.encL) _) (enc_len (e := Tm.encL) _) (enc_len (e := Tm.encL) _) g23 (enc_app (e := Tm.encL) _ _) ?_
      refine s_run 1 [(3, .tip (0, 3, 0) (0) (Tm.encL (s1.2 ++ ([r21] : List Tm))))] [] [] rfl ?_
      refine blk_n (seq_n (aw_wk (St [(1, .ptr 1 0), (2, .ptr 2 0), (3, .tip (0, 3, 0) (0) (Tm.encL (s1.2 ++ ([r21] : List Tm)))), (4, pI s1.1)] [(1, [pI (Tm.kind p0), pI (Tm.n p0), pS (Tm.name p0), pL (Tm.encL (Tm.args p0))]), (2, [pI (0 : Int), pI (0 : Int), pS ([] : Str), pL (Tm.encL ([] : List Tm))])] [((0, 3, 0), 0, .tip (Tm.encL (s1.2 ++ ([r21] : List Tm))).length 4)]) (wk_St ⟨le_rfl _, le_rfl _, le_rfl _, le_rfl _, trivial⟩ ⟨box_rfl rfl, box_rfl rfl, trivial⟩ ⟨rfl, trivial⟩ rfl ⟨rfl, trivial⟩ ⟨rfl, trivial⟩) ?_))
      refine s_reg ?_
      refine s_run 3 [(4, pI (IntKind.i64.wrap (s1.1 + (1 : Int)))), (12, pI (IntKind.i64.wrap (s1.1 + (1 : Int)))), (11, pI s1.1)] [] [] rfl ?_
      exact loop_n ⟨_, h.1⟩ h.2 (wk_St ⟨le_rfl _, le_rfl _, le_rfl _, le_rfl _, trivial⟩ ⟨box_rfl rfl, box_rfl rfl, trivial⟩ ⟨rfl, trivial⟩ rfl ⟨rfl, trivial⟩ ⟨rfl, trivial⟩)
    · have h := h.2 c18
      refine aw_exit (seq_x (loop_x (blk_x (seq_n (aw_wk (St [(1, .ptr 1 0), (2, .ptr 2 0), (3, .tip (0, 3, 0) (0) (Tm.encL s1.2))] [(1, [pI (Tm.kind p0), pI (Tm.n p0), pS (Tm.name p0), pL (Tm.encL (Tm.args p0))]), (2, [pI (0 : Int), pI (0 : Int), pS ([] : Str), pL (Tm.encL ([] : List Tm))])] [((0, 3, 0), 0, .tip (Tm.encL s1.2).length 4)]) (wk_St ⟨le_rfl _, le_rfl _, le_rfl _, trivial⟩ ⟨box_rfl rfl, box_rfl rfl, trivial⟩ ⟨rfl, trivial⟩ rfl ⟨rfl, trivial⟩ ⟨rfl, trivial⟩) ?_)))))
      refine aw_seq (s_reg ?_)
      refine s_run 3 [(23, .ptr 1 3), (22, .tip (0, 3, 0) (0) (Tm.encL s1.2))] [(1, [pI (Tm.kind p0), pI (Tm.n p0), pS (Tm.name p0), .tip (0, 3, 0) (0) (Tm.encL s1.2)])] [] rfl ?_
      refine seq_n (aw_seq (s_reg ?_))
      refine s_run 2 [(24, .agg [pI (Tm.kind p0), pI (Tm.n p0), pS (Tm.name p0), .tip (0, 3, 0) (0) (Tm.encL s1.2)])] [(2, [pI (Tm.kind p0), pI (Tm.n p0), pS (Tm.name p0), .tip (0, 3, 0) (0) (Tm.encL s1.2)])] [] rfl ?_
      refine seq_n (aw_ret ?_)
      exact endp_ret _ h rfl


def ac_impl_bound : AC :=
  .seq (.reg false [
    { dst := some 4, k := .al [.p (.int .i64 0), .p (.int .i64 0), .p (.str []), .p (.slice [])] },
    { dst := some 5, k := .mv (.c (.bool false)) }])
  (.seq (.seq (.reg false [
    { dst := some 8, k := .mv (.t 0) },
    { dst := some 9, k := .len (.t 8) },
    { dst := some 10, k := .mv (.c (.int .i64 (0))) }])
  (.block 0 (.loop (.seq (.reg false [
        { dst := some 11, k := .bin .lss (.t 10) (.t 9) }])
      (.seq (.cond (.t 11) (.skip)
      (.exit 0))
      (.seq (.block 1 (.seq (.reg false [
          { dst := some 12, k := .ia (.t 8) (.t 10) 5 },
          { dst := some 13, k := .ld (.t 12) 5 true },
          { dst := some 7, k := .al [.p (.str []), .p (.int .i64 0), .p (.int .i64 0), .p (.str []), .p (.slice [])] },
          { dst := none, k := .st (.t 7) (.t 13) 5 7 }])
        (.wk (.seq (.reg false [
          { dst := some 14, k := .fa (.t 7) 0 },
          { dst := some 15, k := .ld (.t 14) 1 false },
          { dst := some 16, k := .mv (.t 1) },
          { dst := some 17, k := .bin .eql (.t 15) (.t 16) }])
        (.wk (.cond (.t 17) (.seq (.reg false [
            { dst := some 18, k := .fa (.t 7) 1 },
            { dst := some 19, k := .ld (.t 18) 4 true },
            { dst := none, k := .st (.t 4) (.t 19) 4 4 },
            { dst := some 5, k := .mv (.c (.bool true)) }])
          (.ret))
        (.skip)))))))
      (.reg false [
        { dst := some 20, k := .bin .add (.t 10) (.c (.int .i64 (1))) },
        { dst := some 10, k := .mv (.t 20) }])))))))
  (.wk (.seq (.reg false [
    { dst := some 21, k := .bd [.p (.int .i64 0), .p (.int .i64 0), .p (.str []), .p (.slice [])] [] },
    { dst := none, k := .st (.t 4) (.t 21) 4 4 },
    { dst := some 5, k := .mv (.c (.bool false)) }])
  (.ret))))
theorem chk_impl_bound : fnOK Try.prog 2 Try.f41 ac_impl_bound [(.cell 4 4 true, .fz), (.tmp 5, .fz)] = true := by kernel_rfl
def wp_impl_bound (p0 : (List Bd)) (p1 : Str) (post : (Tm × Bool) → Prop) : Prop :=
  LOOP (fun (N10 : Int → Prop) (s1 : Int) => (((decide (s1 < ((List.length p0 : Nat) : Int))) = true → (∃ u15, GETI p0 s1 u15 ∧ ((((Bd.name u15) == p1) = true → post ((Bd.term u15), true)) ∧ (((Bd.name u15) == p1) = false → N10 (IntKind.i64.wrap (s1 + (1 : Int))))))) ∧ ((decide (s1 < ((List.length p0 : Nat) : Int))) = false → post ((Tm.mk (0 : Int) (0 : Int) ([] : Str) ([] : List Tm)), false)))) (0 : Int)
theorem w_impl_bound (p0 : (List Bd)) (p1 : Str) (post : (Tm × Bool) → Prop) (h : wp_impl_bound p0 p1 post) : ∃ r, post r ∧ C_impl_bound p0 p1 r := by
  unfold wp_impl_bound at h
  refine evs_of (encR := fun r : Tm × Bool => .tup [.l (.fz (.agg (Tm.cells r.1))), .l (.fz (.bool r.2))]) (encO := fun r => []) 2 [(.cell 4 4 true, .fz), (.tmp 5, .fz)] [.fz, .fz] Try.func41 chk_impl_bound rfl rfl [(1, pS p1), (0, pL (e_Bd p0))] [] [] rfl ?_
  refine aw_seq (s_reg ?_)
  refine s_run 2 [(5, pB false), (4, .ptr 4 0)] [(4, [pI (0 : Int), pI (0 : Int), pS ([] : Str), pL (Tm.encL ([] : List Tm))])] [] rfl ?_
  refine seq_n (aw_seq (aw_seq (s_reg ?_)))
  refine s_run 1 [(8, pL (e_Bd p0))] [] [] rfl ?_
  refine s_len rfl (enc_len (e := e_Bd) _) ?_
  refine s_run 1 [(10, pI (0 : Int))] [] [] rfl ?_
  refine seq_n (aw_blk ?_)
  obtain ⟨I12, m13, h0, h⟩ := h
  refine aw_loop' (ι := { y : Int // I12 y }) (fun x11 => St [(1, pS p1), (4, .ptr 4 0), (8, pL (e_Bd p0)), (9, pI ((List.length p0 : Nat) : Int)), (10, pI x11.1)] [(4, [pI (0 : Int), pI (0 : Int), pS ([] : Str), pL (Tm.encL ([] : List Tm))])] []) (fun x11 => m13 x11.1) ⟨_, h0⟩ ?_ ?_
  · exact wk_St ⟨le_rfl _, le_rfl _, le_rfl _, le_rfl _, le_rfl _, trivial⟩ ⟨box_rfl rfl, trivial⟩ trivial rfl ⟨rfl, rfl, trivial⟩ ⟨rfl, rfl, trivial⟩
  · rintro ⟨s1, hs1⟩
    replace h := h s1 hs1
    refine aw_seq (s_reg ?_)
    refine s_run 1 [(11, pB (decide (s1 < ((List.length p0 : Nat) : Int))))] [] [] rfl ?_
    refine seq_n (aw_seq (s_if rfl (fun c14 => ?_) (fun c14 => ?_)))
    · have h := h.1 c14
      refine aw_skip (seq_n (aw_seq (aw_blk (aw_seq (s_reg ?_)))))
      obtain ⟨u15, ⟨g16a, g16b⟩, h⟩ := h
      refine s_ia rfl rfl g16a (enc_get (e := e_Bd) g16b) rfl ?_
      refine s_run 3 [(7, .ptr 7 0), (13, .p (.agg (Bd.cells u15)))] [(7, [pS (Bd.name u15), pI (Tm.kind (Bd.term u15)), pI (Tm.n (Bd.term u15)), pS (Tm.name (Bd.term u15)), pL (Tm.encL (Tm.args (Bd.term u15)))]), (7, [pS ([] : Str), pI (0 : Int), pI (0 : Int), pS ([] : Str), pL (Tm.encL ([] : List Tm))])] [] rfl ?_
      refine seq_n (aw_wk (St [(1, pS p1), (4, .ptr 4 0), (7, .ptr 7 0), (8, pL (e_Bd p0)), (9, pI ((List.length p0 : Nat) : Int)), (10, pI s1)] [(4, [pI (0 : Int), pI (0 : Int), pS ([] : Str), pL (Tm.encL ([] : List Tm))]), (7, [pS (Bd.name u15), pI (Tm.kind (Bd.term u15)), pI (Tm.n (Bd.term u15)), pS (Tm.name (Bd.term u15)), pL (Tm.encL (Tm.args (Bd.term u15)))])] []) (wk_St ⟨le_rfl _, le_rfl _, le_rfl _, le_rfl _, le_rfl _, le_rfl _, trivial⟩ ⟨box_rfl rfl, box_rfl rfl, trivial⟩ trivial rfl ⟨rfl, rfl, trivial⟩ ⟨rfl, rfl, trivial⟩) ?_)
      refine aw_seq (s_reg ?_)
      refine s_run 4 [(17, pB ((Bd.name u15) == p1)), (16, pS p1), (15, pS (Bd.name u15)), (14, .ptr 7 0)] [] [] rfl ?_
      refine seq_n (aw_wk (St [(1, pS p1), (4, .ptr 4 0), (7, .ptr 7 0), (8, pL (e_Bd p0)), (9, pI ((List.length p0 : Nat) : Int)), (10, pI s1), (17, pB ((Bd.name u15) == p1))] [(4, [pI (0 : Int), pI (0 : Int), pS ([] : Str), pL (Tm.encL ([] : List Tm))]), (7, [pS (Bd.name u15), pI (Tm.kind (Bd.term u15)), pI (Tm.n (Bd.term u15)), pS (Tm.name (Bd.term u15)), pL (Tm.encL (Tm.args (Bd.term u15)))])] []) (wk_St ⟨le_rfl _, le_rfl _, le_rfl _, le_rfl _, le_rfl _, le_rfl _, le_rfl _, trivial⟩ ⟨box_rfl rfl, box_rfl rfl, trivial⟩ trivial rfl ⟨rfl, rfl, trivial⟩ ⟨rfl, rfl, trivial⟩) ?_)
      refine s_if rfl (fun c17 => ?_) (fun c17 => ?_)
      · have h := h.1 c17
        refine aw_seq (s_reg ?_)
        refine s_run 4 [(5, pB true), (19, .agg [pI (Tm.kind (Bd.term u15)), pI (Tm.n (Bd.term u15)), pS (Tm.name (Bd.term u15)), pL (Tm.encL (Tm.args (Bd.term u15)))]), (18, .ptr 7 1)] [(4, [pI (Tm.kind (Bd.term u15)), pI (Tm.n (Bd.term u15)), pS (Tm.name (Bd.term u15)), pL (Tm.encL (Tm.args (Bd.term u15)))])] [] rfl ?_
        refine seq_n (aw_ret ?_)
        exact endp_ret _ h rfl
      · have h := h.2 c17
        refine aw_skip (blk_n (seq_n (s_reg ?_)))
        refine s_run 2 [(10, pI (IntKind.i64.wrap (s1 + (1 : Int)))), (20, pI (IntKind.i64.wrap (s1 + (1 : Int))))] [] [] rfl ?_
        exact loop_n ⟨_, h.1⟩ h.2 (wk_St ⟨le_rfl _, le_rfl _, le_rfl _, le_rfl _, le_rfl _, trivial⟩ ⟨box_rfl rfl, trivial⟩ trivial rfl ⟨rfl, rfl, trivial⟩ ⟨rfl, rfl, trivial⟩)
    · have h := h.2 c14
      refine aw_exit (seq_x (loop_x (blk_x (seq_n (aw_wk (St [(4, .ptr 4 0)] [(4, [pI (0 : Int), pI (0 : Int), pS ([] : Str), pL (Tm.encL ([] : List Tm))])] []) (wk_St ⟨le_rfl _, trivial⟩ ⟨box_rfl rfl, trivial⟩ trivial rfl ⟨rfl, rfl, trivial⟩ ⟨rfl, rfl, trivial⟩) ?_)))))
      refine aw_seq (s_reg ?_)
      refine s_run 3 [(5, pB false), (21, .agg [pI (0 : Int), pI (0 : Int), pS ([] : Str), pL (Tm.encL ([] : List Tm))])] [(4, [pI (0 : Int), pI (0 : Int), pS ([] : Str), pL (Tm.encL ([] : List Tm))])] [] rfl ?_
      refine seq_n (aw_ret ?_)
      exact endp_ret _ h rfl


def ac_impl_CountTerm : AC :=
  .seq (.reg false [
    { dst := some 1, k := .bx (.t 0) 4 },
    { dst := some 2, k := .mv (.c (.int .i64 (0))) }])
  (.seq (.reg false [
    { dst := some 3, k := .mv (.c (.int .i64 (1))) }])
  (.seq (.seq (.reg false [
    { dst := some 6, k := .fa (.t 1) 3 },
    { dst := some 7, k := .ld (.t 6) 1 false },
    { dst := some 8, k := .len (.t 7) },
    { dst := some 9, k := .mv (.c (.int .i64 (0))) }])
  (.wk (.block 0 (.loop (.seq (.reg false [
        { dst := some 10, k := .bin .lss (.t 9) (.t 8) }])
      (.seq (.cond (.t 10) (.skip)
      (.exit 0))
      (.seq (.block 1 (.seq (.reg false [
          { dst := some 11, k := .ia (.t 7) (.t 9) 4 },
          { dst := some 12, k := .ld (.t 11) 4 true },
          { dst := some 5, k := .al [.p (.int .i64 0), .p (.int .i64 0), .p (.str []), .p (.slice [])] },
          { dst := none, k := .st (.t 5) (.t 12) 4 5 }])
        (.wk (.reg false [
          { dst := some 13, k := .mv (.t 3) },
          { dst := some 14, k := .ld (.t 5) 4 true },
          { dst := some 15, k := .call 59 [(.t 14, .fz)] },
          { dst := some 16, k := .bin .add (.t 13) (.t 15) },
          { dst := some 3, k := .mv (.t 16) }]))))
      (.reg false [
        { dst := some 17, k := .bin .add (.t 9) (.c (.int .i64 (1))) },
        { dst := some 9, k := .mv (.t 17) }]))))))))
  (.seq (.reg false [
    { dst := some 18, k := .mv (.t 3) },
    { dst := some 2, k := .mv (.t 18) }])
  (.ret))))
theorem chk_impl_CountTerm : fnOK Try.prog 1 Try.f59 ac_impl_CountTerm [(.tmp 2, .fz)] = true := by kernel_rfl
def wp_impl_CountTerm (p0 : Tm) (post : Int → Prop) : Prop :=
  LOOP (fun (N12 : (Int × Int) → Prop) (s1 : Int × Int) => (((decide (s1.1 < ((List.length (Tm.args p0) : Nat) : Int))) = true → (∃ u17, GETI (Tm.args p0) s1.1 u17 ∧ (∃ r19 : Int, C_impl_CountTerm u17 r19 ∧ N12 ((IntKind.i64.wrap (s1.1 + (1 : Int))), (IntKind.i64.wrap (s1.2 + r19)))))) ∧ ((decide (s1.1 < ((List.length (Tm.args p0) : Nat) : Int))) = false → post s1.2))) ((0 : Int), (1 : Int))
theorem w_impl_CountTerm (p0 : Tm) (post : Int → Prop) (h : wp_impl_CountTerm p0 post) : ∃ r, post r ∧ C_impl_CountTerm p0 r := by
  unfold wp_impl_CountTerm at h
  refine evs_of (encR := fun r : Int => .one (.l (.fz (.int .i64 r)))) (encO := fun r => []) 1 [(.tmp 2, .fz)] [.fz] Try.func59 chk_impl_CountTerm rfl rfl [(0, .p (.agg (Tm.cells p0)))] [] [] rfl ?_
  refine aw_seq (s_reg ?_)
  refine s_run 2 [(2, pI (0 : Int)), (1, .ptr 1 0)] [(1, [pI (Tm.kind p0), pI (Tm.n p0), pS (Tm.name p0), pL (Tm.encL (Tm.args p0))])] [] rfl ?_
  refine seq_n (aw_seq (s_reg ?_))
  refine s_run 1 [(3, pI (1 : Int))] [] [] rfl ?_
  refine seq_n (aw_seq (aw_seq (s_reg ?_)))
  refine s_run 2 [(7, pL (Tm.encL (Tm.args p0))), (6, .ptr 1 3)] [] [] rfl ?_
  refine s_len rfl (enc_len (e := Tm.encL) _) ?_
  refine s_run 1 [(9, pI (0 : Int))] [] [] rfl ?_
  refine seq_n (aw_wk (St [(3, pI (1 : Int)), (7, pL (Tm.encL (Tm.args p0))), (8, pI ((List.length (Tm.args p0) : Nat) : Int)), (9, pI (0 : Int))] [] []) (wk_St ⟨le_rfl _, le_rfl _, le_rfl _, le_rfl _, trivial⟩ trivial trivial rfl ⟨rfl, trivial⟩ ⟨rfl, trivial⟩) ?_)
  refine aw_blk ?_
  obtain ⟨I14, m15, h0, h⟩ := h
  refine aw_loop' (ι := { y : Int × Int // I14 y }) (fun x13 => St [(3, pI x13.1.2), (7, pL (Tm.encL (Tm.args p0))), (8, pI ((List.length (Tm.args p0) : Nat) : Int)), (9, pI x13.1.1)] [] []) (fun x13 => m15 x13.1) ⟨_, h0⟩ ?_ ?_
  · exact wk_St ⟨le_rfl _, le_rfl _, le_rfl _, le_rfl _, trivial⟩ trivial trivial rfl ⟨rfl, trivial⟩ ⟨rfl, trivial⟩
  · rintro ⟨s1, hs1⟩
    replace h := h s1 hs1
    refine aw_seq (s_reg ?_)
    refine s_run 1 [(10, pB (decide (s1.1 < ((List.length (Tm.args p0) : Nat) : Int))))] [] [] rfl ?_
    refine seq_n (aw_seq (s_if rfl (fun c16 => ?_) (fun c16 => ?_)))
    · have h := h.1 c16
      refine aw_skip (seq_n (aw_seq (aw_blk (aw_seq (s_reg ?_)))))
      obtain ⟨u17, ⟨g18a, g18b⟩, h⟩ := h
      refine s_ia rfl rfl g18a (enc_get (e := Tm.encL) g18b) rfl ?_
      refine s_run 3 [(5, .ptr 5 0), (12, .p (.agg (Tm.cells u17)))] [(5, [pI (Tm.kind u17), pI (Tm.n u17), pS (Tm.name u17), pL (Tm.encL (Tm.args u17))]), (5, [pI (0 : Int), pI (0 : Int), pS ([] : Str), pL (Tm.encL ([] : List Tm))])] [] rfl ?_
      refine seq_n (aw_wk (St [(3, pI s1.2), (5, .ptr 5 0), (7, pL (Tm.encL (Tm.args p0))), (8, pI ((List.length (Tm.args p0) : Nat) : Int)), (9, pI s1.1)] [(5, [pI (Tm.kind u17), pI (Tm.n u17), pS (Tm.name u17), pL (Tm.encL (Tm.args u17))])] []) (wk_St ⟨le_rfl _, le_rfl _, le_rfl _, le_rfl _, le_rfl _, trivial⟩ ⟨box_rfl rfl, trivial⟩ trivial rfl ⟨rfl, trivial⟩ ⟨rfl, trivial⟩) ?_)
      refine s_reg ?_
      refine s_run 2 [(14, .agg [pI (Tm.kind u17), pI (Tm.n u17), pS (Tm.name u17), pL (Tm.encL (Tm.args u17))]), (13, pI s1.2)] [] [] rfl ?_
      obtain ⟨r19, k20, h⟩ := h
      refine s_call (pI r19) [] [] rfl k20 rfl ?_
      refine s_run 2 [(3, pI (IntKind.i64.wrap (s1.2 + r19))), (16, pI (IntKind.i64.wrap (s1.2 + r19)))] [] [] rfl ?_
      refine blk_n (seq_n (s_reg ?_))
      refine s_run 2 [(9, pI (IntKind.i64.wrap (s1.1 + (1 : Int)))), (17, pI (IntKind.i64.wrap (s1.1 + (1 : Int))))] [] [] rfl ?_
      exact loop_n ⟨_, h.1⟩ h.2 (wk_St ⟨le_rfl _, le_rfl _, le_rfl _, le_rfl _, trivial⟩ trivial trivial rfl ⟨rfl, trivial⟩ ⟨rfl, trivial⟩)
    · have h := h.2 c16
      refine aw_exit (seq_x (loop_x (blk_x (seq_n (aw_seq (s_reg ?_))))))
      refine s_run 2 [(2, pI s1.2), (18, pI s1.2)] [] [] rfl ?_
      refine seq_n (aw_ret ?_)
      exact endp_ret _ h rfl


def ac_spec_l8Bind : AC :=
  .seq (.reg false [
    { dst := some 5, k := .bx (.t 2) 4 },
    { dst := some 6, k := .mv (.c (.bool false)) }])
  (.seq (.seq (.reg false [
    { dst := some 7, k := .ld (.t 5) 4 true },
    { dst := some 8, k := .call 36 [(.t 7, .fz)] },
    { dst := some 9, k := .mv (.t 1) },
    { dst := some 10, k := .call 85 [(.t 8, .fz), (.t 9, .fz)] },
    { dst := some 11, k := .bin .geq (.t 10) (.c (.int .i64 (0))) }])
  (.cond (.t 11) (.seq (.reg false [
      { dst := some 6, k := .mv (.c (.bool false)) }])
    (.ret))
  (.skip)))
  (.wk (.seq (.reg true [
    { dst := some 12, k := .mv (.t 0) },
    { dst := some 13, k := .mv (.t 0) },
    { dst := some 14, k := .nc (.t 13) },
    { dst := some 15, k := .fa (.t 14) 2 },
    { dst := some 16, k := .ld (.t 15) 1 false, vb := .only [0] },
    { dst := some 17, k := .mv (.t 1) },
    { dst := some 18, k := .ld (.t 5) 4 true, vb := .only [5] },
    { dst := some 19, k := .bd [.p (.str []), .p (.int .i64 0), .p (.int .i64 0), .p (.str []), .p (.slice [])] [(0, 1, .t 17), (1, 4, .t 18)] },
    { dst := some 20, k := .bs 5 [.t 19] },
    { dst := some 21, k := .call 20 [(.t 16, .fz), (.t 20, .fz)] },
    { dst := some 22, k := .nc (.t 12) },
    { dst := some 23, k := .fa (.t 22) 2 },
    { dst := none, k := .st (.t 23) (.t 21) 1 0, vb := .only [0] }])
  (.seq (.reg false [
    { dst := some 6, k := .mv (.c (.bool true)) }])
  (.ret)))))
theorem chk_spec_l8Bind : fnOK Try.prog 3 Try.f78 ac_spec_l8Bind [(.tmp 6, .fz)] = true := by kernel_rfl
def wp_spec_l8Bind (p0 : T_spec_l8Equations) (p1 : Str) (p2 : Tm) (post : (Bool × T_spec_l8Equations) → Prop) : Prop :=
  (∃ r1 : (List Str), C_spec_VarsOfTerm p2 r1 ∧ (∃ r3 : Int, C_spec_IndexOf r1 p1 r3 ∧ (((decide (r3 ≥ (0 : Int))) = true → post (false, p0)) ∧ ((decide (r3 ≥ (0 : Int))) = false → (∃ r6 : (List Bd), C_spec_ComposeSubst (T_spec_l8Equations.subst p0) ([(Bd.mk p1 p2)] : List Bd) r6 ∧ post (true, (T_spec_l8Equations.mk (T_spec_l8Equations.left_ p0) (T_spec_l8Equations.right_ p0) r6)))))))
theorem w_spec_l8Bind (p0 : T_spec_l8Equations) (p1 : Str) (p2 : Tm) (post : (Bool × T_spec_l8Equations) → Prop) (h : wp_spec_l8Bind p0 p1 p2 post) : ∃ r, post r ∧ C_spec_l8Bind p0 p1 p2 r := by
  unfold wp_spec_l8Bind at h
  refine evs_of (encR := fun r : Bool × T_spec_l8Equations => .one (.l (.fz (.bool r.1)))) (encO := fun r => [.ptr [.fz (.slice (Tm.encL (T_spec_l8Equations.left_ r.2))), .fz (.slice (Tm.encL (T_spec_l8Equations.right_ r.2))), .fz (.slice (e_Bd (T_spec_l8Equations.subst r.2)))]]) 3 [(.tmp 6, .fz)] [.io [false, false, false], .fz, .fz] Try.func78 chk_spec_l8Bind rfl rfl [(2, .p (.agg (Tm.cells p2))), (1, pS p1), (0, .ptr 0 0)] [(0, [pL (Tm.encL (T_spec_l8Equations.left_ p0)), pL (Tm.encL (T_spec_l8Equations.right_ p0)), pL (e_Bd (T_spec_l8Equations.subst p0))])] [] rfl ?_
  refine aw_seq (s_reg ?_)
  refine s_run 2 [(6, pB false), (5, .ptr 5 0)] [(5, [pI (Tm.kind p2), pI (Tm.n p2), pS (Tm.name p2), pL (Tm.encL (Tm.args p2))])] [] rfl ?_
  refine seq_n (aw_seq (aw_seq (s_reg ?_)))
  refine s_run 1 [(7, .agg [pI (Tm.kind p2), pI (Tm.n p2), pS (Tm.name p2), pL (Tm.encL (Tm.args p2))])] [] [] rfl ?_
  obtain ⟨r1, k2, h⟩ := h
  refine s_call (.tip (0, 8, 0) (0) (e_str r1)) [] [((0, 8, 0), 0, .tip (e_str r1).length 1)] (args_one rfl (args_nil)) k2 rfl ?_
  refine s_run 1 [(9, pS p1)] [] [] rfl ?_
  obtain ⟨r3, k4, h⟩ := h
  refine s_call (pI r3) [] [] rfl k4 rfl ?_
  refine s_run 1 [(11, pB (decide (r3 ≥ (0 : Int))))] [] [] rfl ?_
  refine seq_n (s_if rfl (fun c5 => ?_) (fun c5 => ?_))
  · have h := h.1 c5
    refine aw_seq (s_reg ?_)
    refine s_run 1 [(6, pB false)] [] [] rfl ?_
    refine seq_n (aw_ret ?_)
    exact endp_ret _ h rfl
  · have h := h.2 c5
    refine aw_skip (seq_n (aw_wk (St [(0, .ptr 0 0), (1, pS p1), (5, .ptr 5 0)] [(0, [pL (Tm.encL (T_spec_l8Equations.left_ p0)), pL (Tm.encL (T_spec_l8Equations.right_ p0)), pL (e_Bd (T_spec_l8Equations.subst p0))]), (5, [pI (Tm.kind p2), pI (Tm.n p2), pS (Tm.name p2), pL (Tm.encL (Tm.args p2))])] []) (wk_St ⟨le_rfl _, le_rfl _, le_rfl _, trivial⟩ ⟨box_rfl rfl, box_rfl rfl, trivial⟩ trivial rfl ⟨rfl, rfl, rfl, trivial⟩ ⟨rfl, rfl, rfl, trivial⟩) ?_))
    refine aw_seq (s_reg ?_)
    refine s_run 8 [(19, .agg [pS p1, pI (Tm.kind p2), pI (Tm.n p2), pS (Tm.name p2), pL (Tm.encL (Tm.args p2))]), (18, .agg [pI (Tm.kind p2), pI (Tm.n p2), pS (Tm.name p2), pL (Tm.encL (Tm.args p2))]), (17, pS p1), (16, pL (e_Bd (T_spec_l8Equations.subst p0))), (15, .ptr 0 2), (14, .ptr 0 0), (13, .ptr 0 0), (12, .ptr 0 0)] [] [] rfl ?_
    refine s_bs rfl rfl (enc_cons (e := e_Bd) (Bd.mk p1 p2) (enc_nil (e := e_Bd))) ?_
    obtain ⟨r6, k7, h⟩ := h
    refine s_call (pL (e_Bd r6)) [] [] rfl k7 rfl ?_
    refine s_run 3 [(23, .ptr 0 2), (22, .ptr 0 0)] [(0, [pL (Tm.encL (T_spec_l8Equations.left_ p0)), pL (Tm.encL (T_spec_l8Equations.right_ p0)), pL (e_Bd r6)])] [] rfl ?_
    refine seq_n (aw_seq (s_reg ?_))
    refine s_run 1 [(6, pB true)] [] [] rfl ?_
    refine seq_n (aw_ret ?_)
    exact endp_ret _ h rfl


def ac_spec_DrawRestrictSubst : AC :=
  .seq (.reg false [
    { dst := some 2, k := .mv (.c (.slice [])) },
    { dst := some 3, k := .mv (.c (.slice [])) }])
  (.seq (.reg false [
    { dst := some 5, k := .mv (.t 0) },
    { dst := some 6, k := .call 38 [(.t 5, .fz)] },
    { dst := some 4, k := .mv (.t 6) }])
  (.wk (.seq (.reg true [
    { dst := some 7, k := .mv (.t 4) },
    { dst := some 8, k := .call 43 [(.t 7, .io [false, false, false])], vb := .but [9], vl := .but [9] },
    { dst := some 9, k := .bs 1 [.c (.str [90]), .c (.str [88]), .c (.str [88]), .c (.str [81])] },
    { dst := some 10, k := .mv (.t 4) },
    { dst := some 11, k := .call 49 [(.t 10, .io [false, false, false]), (.c (.int .i64 (5)), .fz)], vb := .but [9], vl := .but [9] },
    { dst := some 12, k := .sl (.t 9) none (some (.t 11)) 1 },
    { dst := some 2, k := .mv (.t 8) },
    { dst := some 3, k := .mv (.t 12) }])
  (.ret))))
theorem chk_spec_DrawRestrictSubst : fnOK Try.prog 1 Try.f21 ac_spec_DrawRestrictSubst [(.tmp 2, .fz), (.tmp 3, .fz)] = true := by kernel_rfl
def wp_spec_DrawRestrictSubst (p0 : (List Int)) (post : ((List Bd) × (List Str)) → Prop) : Prop :=
  (∃ r1 : T_spec_l1Cur, C_spec_l1New p0 r1 ∧ (∃ r3 : (List Bd) × T_spec_l1Cur, C_spec_l7Draw r1 r3 ∧ (∃ r5 : Int × T_spec_l1Cur, C_spec_l1Below r3.2 (5 : Int) r5 ∧ (SUB ((List.length ([([90] : Str), ([88] : Str), ([88] : Str), ([81] : Str)] : List Str) : Nat) : Int) (0 : Int) r5.1 ∧ post (r3.1, (List.drop 0 (List.take (Int.toNat r5.1) ([([90] : Str), ([88] : Str), ([88] : Str), ([81] : Str)] : List Str))))))))
theorem w_spec_DrawRestrictSubst (p0 : (List Int)) (post : ((List Bd) × (List Str)) → Prop) (h : wp_spec_DrawRestrictSubst p0 post) : ∃ r, post r ∧ C_spec_DrawRestrictSubst p0 r := by
  unfold wp_spec_DrawRestrictSubst at h
  refine evs_of (encR := fun r : (List Bd) × (List Str) => .tup [.l (.fz (.slice (e_Bd r.1))), .l (.fz (.slice (e_str r.2)))]) (encO := fun r => []) 1 [(.tmp 2, .fz), (.tmp 3, .fz)] [.fz] Try.func21 chk_spec_DrawRestrictSubst rfl rfl [(0, pL (e_u8 p0))] [] [] rfl ?_
  refine aw_seq (s_reg ?_)
  refine s_run 2 [(3, pL (e_str ([] : List Str))), (2, pL (e_Bd ([] : List Bd)))] [] [] rfl ?_
  refine seq_n (aw_seq (s_reg ?_))
  refine s_run 1 [(5, pL (e_u8 p0))] [] [] rfl ?_
  obtain ⟨r1, k2, h⟩ := h
  refine s_call (.ptr 6 0) [(6, [pL (e_u8 (T_spec_l1Cur.b r1)), pI (T_spec_l1Cur.i r1), pI (T_spec_l1Cur.h r1)])] [] rfl k2 rfl ?_
  refine s_run 1 [(4, .ptr 6 0)] [] [] rfl ?_
  refine seq_n (aw_wk (St [(4, .ptr 6 0)] [(6, [pL (e_u8 (T_spec_l1Cur.b r1)), pI (T_spec_l1Cur.i r1), pI (T_spec_l1Cur.h r1)])] []) (wk_St ⟨le_rfl _, trivial⟩ ⟨box_rfl rfl, trivial⟩ trivial rfl ⟨rfl, trivial⟩ ⟨rfl, trivial⟩) ?_)
  refine aw_seq (s_reg ?_)
  refine s_run 1 [(7, .ptr 6 0)] [] [] rfl ?_
  obtain ⟨r3, k4, h⟩ := h
  refine s_call (pL (e_Bd r3.1)) [(6, [pL (e_u8 (T_spec_l1Cur.b r3.2)), pI (T_spec_l1Cur.i r3.2), pI (T_spec_l1Cur.h r3.2)])] [] rfl k4 rfl ?_
  refine s_bs rfl rfl (enc_cons (e := e_str) ([90] : Str) (enc_cons (e := e_str) ([88] : Str) (enc_cons (e := e_str) ([88] : Str) (enc_cons (e := e_str) ([81] : Str) (enc_nil (e := e_str)))))) ?_
  refine s_run 1 [(10, .ptr 6 0)] [] [] rfl ?_
  obtain ⟨r5, k6, h⟩ := h
  refine s_call (pI r5.1) [(6, [pL (e_u8 (T_spec_l1Cur.b r5.2)), pI (T_spec_l1Cur.i r5.2), pI (T_spec_l1Cur.h r5.2)])] [] rfl k6 rfl ?_
  obtain ⟨g7, h⟩ := h
  refine s_sl rfl (enc_len (e := e_str) _) rfl (bound_some rfl g7.b) g7.c g7.d (enc_sz (e := e_str) _) (enc_sub (e := e_str) _ _ _) ?_
  refine s_run 2 [(3, pL (e_str (List.drop 0 (List.take (Int.toNat r5.1) ([([90] : Str), ([88] : Str), ([88] : Str), ([81] : Str)] : List Str))))), (2, pL (e_Bd r3.1))] [] [] rfl ?_
  refine seq_n (aw_ret ?_)
  exact endp_ret _ h rfl


def ac_spec_DrawComposeSubst : AC :=
  .seq (.reg false [
    { dst := some 2, k := .mv (.c (.slice [])) },
    { dst := some 3, k := .mv (.c (.slice [])) }])
  (.seq (.reg false [
    { dst := some 6, k := .mv (.t 0) },
    { dst := some 7, k := .call 38 [(.t 6, .fz)] },
    { dst := some 4, k := .mv (.t 7) }])
  (.wk (.seq (.reg false [
    { dst := some 8, k := .mv (.t 4) },
    { dst := some 9, k := .call 43 [(.t 8, .io [false, false, false])] },
    { dst := some 5, k := .mv (.t 9) }])
  (.wk (.seq (.reg false [
    { dst := some 10, k := .mv (.t 5) },
    { dst := some 11, k := .mv (.t 4) },
    { dst := some 12, k := .call 43 [(.t 11, .io [false, false, false])] },
    { dst := some 2, k := .mv (.t 10) },
    { dst := some 3, k := .mv (.t 12) }])
  (.ret))))))
theorem chk_spec_DrawComposeSubst : fnOK Try.prog 1 Try.f17 ac_spec_DrawComposeSubst [(.tmp 2, .fz), (.tmp 3, .fz)] = true := by kernel_rfl
def wp_spec_DrawComposeSubst (p0 : (List Int)) (post : ((List Bd) × (List Bd)) → Prop) : Prop :=
  (∃ r1 : T_spec_l1Cur, C_spec_l1New p0 r1 ∧ (∃ r3 : (List Bd) × T_spec_l1Cur, C_spec_l7Draw r1 r3 ∧ (∃ r5 : (List Bd) × T_spec_l1Cur, C_spec_l7Draw r3.2 r5 ∧ post (r3.1, r5.1))))
theorem w_spec_DrawComposeSubst (p0 : (List Int)) (post : ((List Bd) × (List Bd)) → Prop) (h : wp_spec_DrawComposeSubst p0 post) : ∃ r, post r ∧ C_spec_DrawComposeSubst p0 r := by
  unfold wp_spec_DrawComposeSubst at h
  refine evs_of (encR := fun r : (List Bd) × (List Bd) => .tup [.l (.fz (.slice (e_Bd r.1))), .l (.fz (.slice (e_Bd r.2)))]) (encO := fun r => []) 1 [(.tmp 2, .fz), (.tmp 3, .fz)] [.fz] Try.func17 chk_spec_DrawComposeSubst rfl rfl [(0, pL (e_u8 p0))] [] [] rfl ?_
  refine aw_seq (s_reg ?_)
  refine s_run 2 [(3, pL (e_Bd ([] : List Bd))), (2, pL (e_Bd ([] : List Bd)))] [] [] rfl ?_
  refine seq_n (aw_seq (s_reg ?_))
  refine s_run 1 [(6, pL (e_u8 p0))] [] [] rfl ?_
  obtain ⟨r1, k2, h⟩ := h
  refine s_call (.ptr 7 0) [(7, [pL (e_u8 (T_spec_l1Cur.b r1)), pI (T_spec_l1Cur.i r1), pI (T_spec_l1Cur.h r1)])] [] rfl k2 rfl ?_
  refine s_run 1 [(4, .ptr 7 0)] [] [] rfl ?_
  refine seq_n (aw_wk (St [(4, .ptr 7 0)] [(7, [pL (e_u8 (T_spec_l1Cur.b r1)), pI (T_spec_l1Cur.i r1), pI (T_spec_l1Cur.h r1)])] []) (wk_St ⟨le_rfl _, trivial⟩ ⟨box_rfl rfl, trivial⟩ trivial rfl ⟨rfl, trivial⟩ ⟨rfl, trivial⟩) ?_)
  refine aw_seq (s_reg ?_)
  refine s_run 1 [(8, .ptr 7 0)] [] [] rfl ?_
  obtain ⟨r3, k4, h⟩ := h
  refine s_call (pL (e_Bd r3.1)) [(7, [pL (e_u8 (T_spec_l1Cur.b r3.2)), pI (T_spec_l1Cur.i r3.2), pI (T_spec_l1Cur.h r3.2)])] [] rfl k4 rfl ?_
  refine s_run 1 [(5, pL (e_Bd r3.1))] [] [] rfl ?_
  refine seq_n (aw_wk (St [(4, .ptr 7 0), (5, pL (e_Bd r3.1))] [(7, [pL (e_u8 (T_spec_l1Cur.b r3.2)), pI (T_spec_l1Cur.i r3.2), pI (T_spec_l1Cur.h r3.2)])] []) (wk_St ⟨le_rfl _, le_rfl _, trivial⟩ ⟨box_rfl rfl, trivial⟩ trivial rfl ⟨rfl, trivial⟩ ⟨rfl, trivial⟩) ?_)
  refine aw_seq (s_reg ?_)
  refine s_run 2 [(11, .ptr 7 0), (10, pL (e_Bd r3.1))] [] [] rfl ?_
  obtain ⟨r5, k6, h⟩ := h
  refine s_call (pL (e_Bd r5.1)) [(7, [pL (e_u8 (T_spec_l1Cur.b r5.2)), pI (T_spec_l1Cur.i r5.2), pI (T_spec_l1Cur.h r5.2)])] [] rfl k6 rfl ?_
  refine s_run 2 [(3, pL (e_Bd r5.1)), (2, pL (e_Bd r3.1))] [] [] rfl ?_
  refine seq_n (aw_ret ?_)
  exact endp_ret _ h rfl


def ac_spec_l3Pair : AC :=
  .seq (.reg false [
    { dst := some 4, k := .bx (.t 1) 4 },
    { dst := some 5, k := .bx (.t 2) 4 },
    { dst := some 6, k := .al [.p (.int .i64 0), .p (.int .i64 0), .p (.str []), .nil 4] }])
  (.seq (.reg false [
    { dst := some 7, k := .mv (.t 0) },
    { dst := some 8, k := .ld (.t 4) 4 true },
    { dst := some 9, k := .ld (.t 5) 4 true },
    { dst := some 10, k := .bs 4 [.t 8, .t 9] },
    { dst := some 11, k := .call 80 [(.t 7, .fz), (.t 10, .ow)] },
    { dst := none, k := .st (.t 6) (.t 11) 4 6 }])
  (.ret))
theorem chk_spec_l3Pair : fnOK Try.prog 3 Try.f81 ac_spec_l3Pair [(.cell 6 4 true, .ag [false, false, false, true])] = true := by kernel_rfl
def wp_spec_l3Pair (p0 : Str) (p1 : Tm) (p2 : Tm) (post : Tm → Prop) : Prop :=
  (∃ r1 : Tm, C_spec_l3App p0 ([p1, p2] : List Tm) r1 ∧ post r1)
theorem w_spec_l3Pair (p0 : Str) (p1 : Tm) (p2 : Tm) (post : Tm → Prop) (h : wp_spec_l3Pair p0 p1 p2 post) : ∃ r, post r ∧ C_spec_l3Pair p0 p1 p2 r := by
  unfold wp_spec_l3Pair at h
  refine evs_of (encR := fun r : Tm => .one (.agg [.fz (.int .i64 (Tm.kind r)), .fz (.int .i64 (Tm.n r)), .fz (.str (Tm.name r)), .ow 4 (Tm.encL (Tm.args r))])) (encO := fun r => []) 3 [(.cell 6 4 true, .ag [false, false, false, true])] [.fz, .fz, .fz] Try.func81 chk_spec_l3Pair rfl rfl [(2, .p (.agg (Tm.cells p2))), (1, .p (.agg (Tm.cells p1))), (0, pS p0)] [] [] rfl ?_
  refine aw_seq (s_reg ?_)
  refine s_run 3 [(6, .ptr 6 0), (5, .ptr 5 0), (4, .ptr 4 0)] [(6, [pI (0 : Int), pI (0 : Int), pS ([] : Str), .tip (1, 6, 3) (0) (Tm.encL ([] : List Tm))]), (5, [pI (Tm.kind p2), pI (Tm.n p2), pS (Tm.name p2), pL (Tm.encL (Tm.args p2))]), (4, [pI (Tm.kind p1), pI (Tm.n p1), pS (Tm.name p1), pL (Tm.encL (Tm.args p1))])] [((1, 6, 3), 0, .tip (Tm.encL ([] : List Tm)).length 4)] rfl ?_
  refine seq_n (aw_seq (s_reg ?_))
  refine s_run 3 [(9, .agg [pI (Tm.kind p2), pI (Tm.n p2), pS (Tm.name p2), pL (Tm.encL (Tm.args p2))]), (8, .agg [pI (Tm.kind p1), pI (Tm.n p1), pS (Tm.name p1), pL (Tm.encL (Tm.args p1))]), (7, pS p0)] [] [] rfl ?_
  refine s_bs rfl rfl (enc_cons (e := Tm.encL) p1 (enc_cons (e := Tm.encL) p2 (enc_nil (e := Tm.encL)))) ?_
  obtain ⟨r1, k2, h⟩ := h
  refine s_call (.agg [pI (Tm.kind r1), pI (Tm.n r1), pS (Tm.name r1), .tip (2, 11, 3) (0) (Tm.encL (Tm.args r1))]) [] [((0, 10, 0), 1, .spent), ((2, 11, 3), 0, .tip (Tm.encL (Tm.args r1)).length 4)] (args_one rfl (args_one (arg_own rfl rfl) (args_nil))) k2 rfl ?_
  refine s_run 1 [] [(6, [pI (Tm.kind r1), pI (Tm.n r1), pS (Tm.name r1), .tip (2, 11, 3) (0) (Tm.encL (Tm.args r1))])] [] rfl ?_
  refine seq_n (aw_ret ?_)
  exact endp_ret _ h (endB_of (end_one rfl (arg_ag rfl (leaves_one (rfl) (leaves_one (rfl) (leaves_one (rfl) (leaves_one (leaf_own rfl rfl) (leaves_nil)))))) (end_nil)) (end_nil) (of_decide_eq_true rfl) rfl rfl)


def ac_spec_IsInstance : AC :=
  .seq (.reg false [
    { dst := some 2, k := .bx (.t 0) 4 },
    { dst := some 3, k := .bx (.t 1) 4 },
    { dst := some 4, k := .mv (.c (.bool false)) }])
  (.seq (.reg false [
    { dst := some 8, k := .ld (.t 3) 4 true },
    { dst := some 9, k := .ld (.t 2) 4 true },
    { dst := some 10, k := .call 9 [(.t 8, .fz), (.t 9, .fz)] },
    { dst := some 7, k := .mv (.t 10) },
    { dst := some 11, k := .ex (.t 7) 0 },
    { dst := some 12, k := .ex (.t 7) 1 },
    { dst := some 5, k := .mv (.t 11) },
    { dst := some 6, k := .mv (.t 12) }])
  (.seq (.reg false [
    { dst := some 13, k := .mv (.t 6) },
    { dst := some 4, k := .mv (.t 13) }])
  (.ret)))
theorem chk_spec_IsInstance : fnOK Try.prog 2 Try.f31 ac_spec_IsInstance [(.tmp 4, .fz)] = true := by kernel_rfl
def wp_spec_IsInstance (p0 : Tm) (p1 : Tm) (post : Bool → Prop) : Prop :=
  (∃ r1 : (List Bd) × Bool, C_spec_MatchTerm p1 p0 r1 ∧ post r1.2)
theorem w_spec_IsInstance (p0 : Tm) (p1 : Tm) (post : Bool → Prop) (h : wp_spec_IsInstance p0 p1 post) : ∃ r, post r ∧ C_spec_IsInstance p0 p1 r := by
  unfold wp_spec_IsInstance at h
  refine evs_of (encR := fun r : Bool => .one (.l (.fz (.bool r)))) (encO := fun r => []) 2 [(.tmp 4, .fz)] [.fz, .fz] Try.func31 chk_spec_IsInstance rfl rfl [(1, .p (.agg (Tm.cells p1))), (0, .p (.agg (Tm.cells p0)))] [] [] rfl ?_
  refine aw_seq (s_reg ?_)
  refine s_run 3 [(4, pB false), (3, .ptr 3 0), (2, .ptr 2 0)] [(3, [pI (Tm.kind p1), pI (Tm.n p1), pS (Tm.name p1), pL (Tm.encL (Tm.args p1))]), (2, [pI (Tm.kind p0), pI (Tm.n p0), pS (Tm.name p0), pL (Tm.encL (Tm.args p0))])] [] rfl ?_
  refine seq_n (aw_seq (s_reg ?_))
  refine s_run 2 [(9, .agg [pI (Tm.kind p0), pI (Tm.n p0), pS (Tm.name p0), pL (Tm.encL (Tm.args p0))]), (8, .agg [pI (Tm.kind p1), pI (Tm.n p1), pS (Tm.name p1), pL (Tm.encL (Tm.args p1))])] [] [] rfl ?_
  obtain ⟨r1, k2, h⟩ := h
  refine s_call (.tup [pL (e_Bd r1.1), pB r1.2]) [] [] rfl k2 rfl ?_
  refine s_run 5 [(6, pB r1.2), (5, pL (e_Bd r1.1)), (12, pB r1.2), (11, pL (e_Bd r1.1)), (7, .tup [pL (e_Bd r1.1), pB r1.2])] [] [] rfl ?_
  refine seq_n (aw_seq (s_reg ?_))
  refine s_run 2 [(4, pB r1.2), (13, pB r1.2)] [] [] rfl ?_
  refine seq_n (aw_ret ?_)
  exact endp_ret _ h rfl


def ac_spec_l1PickInt : AC :=
  .seq (.reg false [
    { dst := some 4, k := .mv (.c (.int .i64 (0))) }])
  (.seq (.reg false [
    { dst := some 5, k := .mv (.t 1) },
    { dst := some 6, k := .mv (.t 0) },
    { dst := some 7, k := .mv (.t 1) },
    { dst := some 8, k := .len (.t 7) },
    { dst := some 9, k := .call 49 [(.t 6, .io [false, false, false]), (.t 8, .fz)] },
    { dst := some 10, k := .ia (.t 5) (.t 9) 1 },
    { dst := some 11, k := .ld (.t 10) 1 false },
    { dst := some 4, k := .mv (.t 11) }])
  (.ret))
theorem chk_spec_l1PickInt : fnOK Try.prog 2 Try.f68 ac_spec_l1PickInt [(.tmp 4, .fz)] = true := by kernel_rfl
def wp_spec_l1PickInt (p0 : T_spec_l1Cur) (p1 : (List Int)) (post : (Int × T_spec_l1Cur) → Prop) : Prop :=
  (∃ r1 : Int × T_spec_l1Cur, C_spec_l1Below p0 ((List.length p1 : Nat) : Int) r1 ∧ (∃ u3, GETI p1 r1.1 u3 ∧ post (u3, r1.2)))
theorem w_spec_l1PickInt (p0 : T_spec_l1Cur) (p1 : (List Int)) (post : (Int × T_spec_l1Cur) → Prop) (h : wp_spec_l1PickInt p0 p1 post) : ∃ r, post r ∧ C_spec_l1PickInt p0 p1 r := by
  unfold wp_spec_l1PickInt at h
  refine evs_of (encR := fun r : Int × T_spec_l1Cur => .one (.l (.fz (.int .i64 r.1)))) (encO := fun r => [.ptr [.fz (.slice (e_u8 (T_spec_l1Cur.b r.2))), .fz (.int .i64 (T_spec_l1Cur.i r.2)), .fz (.int .i64 (T_spec_l1Cur.h r.2))]]) 2 [(.tmp 4, .fz)] [.io [false, false, false], .fz] Try.func68 chk_spec_l1PickInt rfl rfl [(1, pL (e_i64 p1)), (0, .ptr 0 0)] [(0, [pL (e_u8 (T_spec_l1Cur.b p0)), pI (T_spec_l1Cur.i p0), pI (T_spec_l1Cur.h p0)])] [] rfl ?_
  refine aw_seq (s_reg ?_)
  refine s_run 1 [(4, pI (0 : Int))] [] [] rfl ?_
  refine seq_n (aw_seq (s_reg ?_))
  refine s_run 3 [(7, pL (e_i64 p1)), (6, .ptr 0 0), (5, pL (e_i64 p1))] [] [] rfl ?_
  refine s_len rfl (enc_len (e := e_i64) _) ?_
  obtain ⟨r1, k2, h⟩ := h
  refine s_call (pI r1.1) [(0, [pL (e_u8 (T_spec_l1Cur.b r1.2)), pI (T_spec_l1Cur.i r1.2), pI (T_spec_l1Cur.h r1.2)])] [] rfl k2 rfl ?_
  obtain ⟨u3, ⟨g4a, g4b⟩, h⟩ := h
  refine s_ia rfl rfl g4a (enc_get (e := e_i64) g4b) rfl ?_
  refine s_run 2 [(4, pI u3), (11, pI u3)] [] [] rfl ?_
  refine seq_n (aw_ret ?_)
  exact endp_ret _ h rfl


def ac_spec_l1Once : AC :=
  .seq (.reg false [
    { dst := some 4, k := .mv (.c (.bool false)) }])
  (.seq (.reg false [
    { dst := some 5, k := .mv (.t 0) },
    { dst := some 6, k := .mv (.t 1) },
    { dst := some 7, k := .call 49 [(.t 5, .io [false, false, false]), (.t 6, .fz)] },
    { dst := some 8, k := .bin .eql (.t 7) (.c (.int .i64 (0))) },
    { dst := some 4, k := .mv (.t 8) }])
  (.ret))
theorem chk_spec_l1Once : fnOK Try.prog 2 Try.f39 ac_spec_l1Once [(.tmp 4, .fz)] = true := by kernel_rfl
def wp_spec_l1Once (p0 : T_spec_l1Cur) (p1 : Int) (post : (Bool × T_spec_l1Cur) → Prop) : Prop :=
  (∃ r1 : Int × T_spec_l1Cur, C_spec_l1Below p0 p1 r1 ∧ post ((r1.1 == (0 : Int)), r1.2))
theorem w_spec_l1Once (p0 : T_spec_l1Cur) (p1 : Int) (post : (Bool × T_spec_l1Cur) → Prop) (h : wp_spec_l1Once p0 p1 post) : ∃ r, post r ∧ C_spec_l1Once p0 p1 r := by
  unfold wp_spec_l1Once at h
  refine evs_of (encR := fun r : Bool × T_spec_l1Cur => .one (.l (.fz (.bool r.1)))) (encO := fun r => [.ptr [.fz (.slice (e_u8 (T_spec_l1Cur.b r.2))), .fz (.int .i64 (T_spec_l1Cur.i r.2)), .fz (.int .i64 (T_spec_l1Cur.h r.2))]]) 2 [(.tmp 4, .fz)] [.io [false, false, false], .fz] Try.func39 chk_spec_l1Once rfl rfl [(1, pI p1), (0, .ptr 0 0)] [(0, [pL (e_u8 (T_spec_l1Cur.b p0)), pI (T_spec_l1Cur.i p0), pI (T_spec_l1Cur.h p0)])] [] rfl ?_
  refine aw_seq (s_reg ?_)
  refine s_run 1 [(4, pB false)] [] [] rfl ?_
  refine seq_n (aw_seq (s_reg ?_))
  refine s_run 2 [(6, pI p1), (5, .ptr 0 0)] [] [] rfl ?_
  obtain ⟨r1, k2, h⟩ := h
  refine s_call (pI r1.1) [(0, [pL (e_u8 (T_spec_l1Cur.b r1.2)), pI (T_spec_l1Cur.i r1.2), pI (T_spec_l1Cur.h r1.2)])] [] rfl k2 rfl ?_
  refine s_run 2 [(4, pB (r1.1 == (0 : Int))), (8, pB (r1.1 == (0 : Int)))] [] [] rfl ?_
  refine seq_n (aw_ret ?_)
  exact endp_ret _ h rfl


def ac_spec_l3Var : AC :=
  .seq (.reg false [
    { dst := some 2, k := .al [.p (.int .i64 0), .p (.int .i64 0), .p (.str []), .nil 4] }])
  (.seq (.reg false [
    { dst := some 3, k := .mv (.t 0) },
    { dst := some 4, k := .bd [.p (.int .i64 0), .p (.int .i64 0), .p (.str []), .nil 4] [(0, 1, .c (.int .i64 (1))), (2, 1, .t 3)] },
    { dst := none, k := .stn (.t 2) (.t 4) 4 2 }])
  (.ret))
theorem chk_spec_l3Var : fnOK Try.prog 1 Try.f57 ac_spec_l3Var [(.cell 2 4 true, .ag [false, false, false, true])] = true := by kernel_rfl
def wp_spec_l3Var (p0 : Str) (post : Tm → Prop) : Prop :=
  post (Tm.mk (1 : Int) (0 : Int) p0 ([] : List Tm))
theorem w_spec_l3Var (p0 : Str) (post : Tm → Prop) (h : wp_spec_l3Var p0 post) : ∃ r, post r ∧ C_spec_l3Var p0 r := by
  unfold wp_spec_l3Var at h
  refine evs_of (encR := fun r : Tm => .one (.agg [.fz (.int .i64 (Tm.kind r)), .fz (.int .i64 (Tm.n r)), .fz (.str (Tm.name r)), .ow 4 (Tm.encL (Tm.args r))])) (encO := fun r => []) 1 [(.cell 2 4 true, .ag [false, false, false, true])] [.fz] Try.func57 chk_spec_l3Var rfl rfl [(0, pS p0)] [] [] rfl ?_
  refine aw_seq (s_reg ?_)
  refine s_run 1 [(2, .ptr 2 0)] [(2, [pI (0 : Int), pI (0 : Int), pS ([] : Str), .tip (1, 2, 3) (0) (Tm.encL ([] : List Tm))])] [((1, 2, 3), 0, .tip (Tm.encL ([] : List Tm)).length 4)] rfl ?_
  refine seq_n (aw_seq (s_reg ?_))
  refine s_run 3 [(4, .agg [pI (1 : Int), pI (0 : Int), pS p0, .nil 4]), (3, pS p0)] [(2, [pI (1 : Int), pI (0 : Int), pS p0, .tip (3, 2, 3) (0) (Tm.encL ([] : List Tm))])] [((3, 2, 3), 0, .tip (Tm.encL ([] : List Tm)).length 4)] rfl ?_
  refine seq_n (aw_ret ?_)
  exact endp_ret _ h (endB_of (end_one rfl (arg_ag rfl (leaves_one (rfl) (leaves_one (rfl) (leaves_one (rfl) (leaves_one (leaf_own rfl rfl) (leaves_nil)))))) (end_nil)) (end_nil) (of_decide_eq_true rfl) rfl rfl)


end Go.Proofs.Ytfhgjhchjekbgaa
