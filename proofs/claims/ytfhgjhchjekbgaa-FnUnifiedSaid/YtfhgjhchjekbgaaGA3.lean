/-
  What bodies come to, told over typed data, printed by wp.py.
-/
import Derived.Test.YtfhgjhchjekbgaaGC
import Derived.KernelRfl
set_option linter.unusedVariables false
set_option linter.unusedSimpArgs false
set_option maxHeartbeats 4000000
namespace Go.Proofs.Ytfhgjhchjekbgaa
open Go

def ac_laws_FnUnified : AC :=
  .seq (.reg false [
    { dst := some 2, k := .mv (.c (.bool false)) }])
  (.seq (.seq (.reg false [
    { dst := some 15, k := .mv (.t 0) },
    { dst := some 16, k := .call 6 [(.t 15, .fz)] }])
  (.cond (.t 16) (.seq (.reg false [
      { dst := some 2, k := .mv (.c (.bool true)) }])
    (.ret))
  (.skip)))
  (.wk (.seq (.reg false [
    { dst := some 18, k := .mv (.t 0) },
    { dst := some 19, k := .call 27 [(.t 18, .fz)] },
    { dst := some 17, k := .mv (.t 19) },
    { dst := some 20, k := .ex (.t 17) 0 },
    { dst := some 21, k := .ex (.t 17) 1 },
    { dst := some 3, k := .al [.p (.int .i64 0), .p (.int .i64 0), .p (.str []), .p (.slice [])] },
    { dst := some 4, k := .al [.p (.int .i64 0), .p (.int .i64 0), .p (.str []), .p (.slice [])] },
    { dst := none, k := .st (.t 3) (.t 20) 4 3 },
    { dst := none, k := .st (.t 4) (.t 21) 4 4 }])
  (.wk (.seq (.reg false [
    { dst := some 23, k := .ld (.t 3) 4 true },
    { dst := some 24, k := .ld (.t 4) 4 true },
    { dst := some 25, k := .call 28 [(.t 23, .fz), (.t 24, .fz)] },
    { dst := some 22, k := .mv (.t 25) },
    { dst := some 26, k := .ex (.t 22) 0 },
    { dst := some 27, k := .ex (.t 22) 1 },
    { dst := some 5, k := .mv (.t 26) },
    { dst := some 6, k := .mv (.t 27) }])
  (.wk (.seq (.reg false [
    { dst := some 29, k := .ld (.t 3) 4 true },
    { dst := some 30, k := .ld (.t 4) 4 true },
    { dst := some 31, k := .call 29 [(.t 29, .fz), (.t 30, .fz)] },
    { dst := some 28, k := .mv (.t 31) },
    { dst := some 32, k := .ex (.t 28) 0 },
    { dst := some 33, k := .ex (.t 28) 1 },
    { dst := some 7, k := .mv (.t 32) },
    { dst := some 8, k := .mv (.t 33) }])
  (.wk (.seq (.seq (.reg true [
    { dst := some 34, k := .mv (.t 6) },
    { dst := some 35, k := .mv (.t 8) },
    { dst := some 36, k := .bnb .neq (.t 34) (.t 35) },
    { dst := some 37, k := .mv (.t 36) },
    { dst := some 38, k := .mv (.t 5), g := some (37, false) },
    { dst := some 39, k := .mv (.t 7), g := some (37, false) },
    { dst := some 40, k := .call 10 [(.t 38, .fz), (.t 39, .fz)], g := some (37, false) },
    { dst := some 41, k := .un .not (.t 40), g := some (37, false) },
    { dst := some 42, k := .pick (.t 37) (.c (.bool true)) (.t 41) },
    { dst := some 43, k := .mv (.t 42) },
    { dst := some 44, k := .mv (.t 6), g := some (43, false) },
    { dst := some 45, k := .mv (.t 44), g := some (43, false) },
    { dst := some 46, k := .mv (.t 5), g := some (45, true) },
    { dst := some 47, k := .ld (.t 3) 4 true, g := some (45, true), vb := .only [3] },
    { dst := some 48, k := .call 14 [(.t 46, .fz), (.t 47, .fz)], g := some (45, true), vb := .but [4], vl := .but [4] },
    { dst := some 49, k := .mv (.t 5), g := some (45, true) },
    { dst := some 50, k := .ld (.t 4) 4 true, g := some (45, true), vb := .only [4] },
    { dst := some 51, k := .call 14 [(.t 49, .fz), (.t 50, .fz)], g := some (45, true) },
    { dst := some 52, k := .call 13 [(.t 48, .fz), (.t 51, .fz)], g := some (45, true) },
    { dst := some 53, k := .un .not (.t 52), g := some (45, true) },
    { dst := some 54, k := .pick (.t 45) (.t 53) (.c (.bool false)), g := some (43, false) },
    { dst := some 55, k := .pick (.t 43) (.c (.bool true)) (.t 54) }])
  (.cond (.t 55) (.seq (.reg false [
      { dst := some 2, k := .mv (.c (.bool false)) }])
    (.ret))
  (.skip)))
  (.wk (.seq (.reg false [
    { dst := some 57, k := .mv (.t 0) },
    { dst := some 58, k := .call 7 [(.t 57, .fz)] },
    { dst := some 56, k := .mv (.t 58) },
    { dst := some 59, k := .ex (.t 56) 0 },
    { dst := some 60, k := .ex (.t 56) 1 },
    { dst := some 9, k := .al [.p (.int .i64 0), .p (.int .i64 0), .p (.str []), .p (.slice [])] },
    { dst := some 10, k := .al [.p (.int .i64 0), .p (.int .i64 0), .p (.str []), .p (.slice [])] },
    { dst := none, k := .st (.t 9) (.t 59) 4 9 },
    { dst := none, k := .st (.t 10) (.t 60) 4 10 }])
  (.wk (.seq (.seq (.reg false [
    { dst := some 61, k := .ld (.t 10) 4 true },
    { dst := some 62, k := .call 30 [(.t 61, .fz)] },
    { dst := some 63, k := .un .not (.t 62) },
    { dst := some 64, k := .mv (.t 63) },
    { dst := some 65, k := .ld (.t 10) 4 true, g := some (64, false) },
    { dst := some 66, k := .ld (.t 9) 4 true, g := some (64, false) },
    { dst := some 67, k := .call 31 [(.t 65, .fz), (.t 66, .fz)], g := some (64, false) },
    { dst := some 68, k := .un .not (.t 67), g := some (64, false) },
    { dst := some 69, k := .pick (.t 64) (.c (.bool true)) (.t 68) }])
  (.cond (.t 69) (.seq (.reg false [
      { dst := some 2, k := .mv (.c (.bool true)) }])
    (.ret))
  (.skip)))
  (.wk (.seq (.reg false [
    { dst := some 71, k := .ld (.t 9) 4 true },
    { dst := some 72, k := .ld (.t 10) 4 true },
    { dst := some 73, k := .call 28 [(.t 71, .fz), (.t 72, .fz)] },
    { dst := some 70, k := .mv (.t 73) },
    { dst := some 74, k := .ex (.t 70) 0 },
    { dst := some 75, k := .ex (.t 70) 1 },
    { dst := some 11, k := .mv (.t 74) },
    { dst := some 12, k := .mv (.t 75) }])
  (.wk (.seq (.reg false [
    { dst := some 77, k := .ld (.t 9) 4 true },
    { dst := some 78, k := .ld (.t 10) 4 true },
    { dst := some 79, k := .call 9 [(.t 77, .fz), (.t 78, .fz)] },
    { dst := some 76, k := .mv (.t 79) },
    { dst := some 80, k := .ex (.t 76) 0 },
    { dst := some 81, k := .ex (.t 76) 1 },
    { dst := some 13, k := .mv (.t 80) },
    { dst := some 14, k := .mv (.t 81) }])
  (.wk (.seq (.reg false [
    { dst := some 82, k := .mv (.t 12) },
    { dst := some 83, k := .mv (.t 82) },
    { dst := some 84, k := .mv (.t 11), g := some (83, true) },
    { dst := some 85, k := .mv (.t 13), g := some (83, true) },
    { dst := some 86, k := .call 10 [(.t 84, .fz), (.t 85, .fz)], g := some (83, true) },
    { dst := some 87, k := .pick (.t 83) (.t 86) (.c (.bool false)) },
    { dst := some 2, k := .mv (.t 87) }])
  (.ret))))))))))))))))))))
theorem chk_laws_FnUnified : fnOK Try.prog 1 Try.f5 ac_laws_FnUnified [(.tmp 2, .fz)] = true := by kernel_rfl
def wp_laws_FnUnified (p0 : (List Int)) (post : Bool → Prop) : Prop :=
  (∃ r1 : Bool, C_laws_big p0 r1 ∧ ((r1 = true → post true) ∧ (r1 = false → (∃ r4 : Tm × Tm, C_spec_DrawUnifyTerms p0 r4 ∧ (∃ r6 : (List Bd) × Bool, C_impl_UnifyTerms r4.1 r4.2 r6 ∧ (∃ r8 : (List Bd) × Bool, C_spec_UnifyTerms r4.1 r4.2 r8 ∧ (((!(r6.2 == r8.2)) = true → post false) ∧ ((!(r6.2 == r8.2)) = false → (∃ r11 : Bool, C_laws_sameBinds r6.1 r8.1 r11 ∧ (((!r11) = true → post false) ∧ ((!r11) = false → ((r6.2 = true → (∃ r15 : Tm, C_impl_ApplySubst r6.1 r4.1 r15 ∧ (∃ r17 : Tm, C_impl_ApplySubst r6.1 r4.2 r17 ∧ (∃ r19 : Bool, C_spec_EqualTerm r15 r17 r19 ∧ (((!r19) = true → post false) ∧ ((!r19) = false → (∃ r22 : Tm × Tm, C_spec_DrawMatchTerm p0 r22 ∧ (∃ r24 : Bool, C_spec_IsGround r22.2 r24 ∧ (((!r24) = true → post true) ∧ ((!r24) = false → (∃ r27 : Bool, C_spec_IsInstance r22.2 r22.1 r27 ∧ (((!r27) = true → post true) ∧ ((!r27) = false → (∃ r30 : (List Bd) × Bool, C_impl_UnifyTerms r22.1 r22.2 r30 ∧ (∃ r32 : (List Bd) × Bool, C_spec_MatchTerm r22.1 r22.2 r32 ∧ ((r30.2 = true → (∃ r35 : Bool, C_laws_sameBinds r30.1 r32.1 r35 ∧ post r35)) ∧ (r30.2 = false → post false))))))))))))))))) ∧ (r6.2 = false → (∃ r37 : Tm × Tm, C_spec_DrawMatchTerm p0 r37 ∧ (∃ r39 : Bool, C_spec_IsGround r37.2 r39 ∧ (((!r39) = true → post true) ∧ ((!r39) = false → (∃ r42 : Bool, C_spec_IsInstance r37.2 r37.1 r42 ∧ (((!r42) = true → post true) ∧ ((!r42) = false → (∃ r45 : (List Bd) × Bool, C_impl_UnifyTerms r37.1 r37.2 r45 ∧ (∃ r47 : (List Bd) × Bool, C_spec_MatchTerm r37.1 r37.2 r47 ∧ ((r45.2 = true → (∃ r50 : Bool, C_laws_sameBinds r45.1 r47.1 r50 ∧ post r50)) ∧ (r45.2 = false → post false))))))))))))))))))))))))
theorem w_laws_FnUnified (p0 : (List Int)) (post : Bool → Prop) (h : wp_laws_FnUnified p0 post) : ∃ r, post r ∧ C_laws_FnUnified p0 r := by
  unfold wp_laws_FnUnified at h
  refine evs_of (encR := fun r : Bool => .one (.l (.fz (.bool r)))) (encO := fun r => []) 1 [(.tmp 2, .fz)] [.fz] Try.func5 chk_laws_FnUnified rfl rfl [(0, pL (e_u8 p0))] [] [] rfl ?_
  refine aw_seq (s_reg ?_)
  refine s_run 1 [(2, pB false)] [] [] rfl ?_
  refine seq_n (aw_seq (aw_seq (s_reg ?_)))
  refine s_run 1 [(15, pL (e_u8 p0))] [] [] rfl ?_
  obtain ⟨r1, k2, h⟩ := h
  refine s_call (pB r1) [] [] rfl k2 rfl ?_
  refine seq_n (s_if rfl (fun c3 => ?_) (fun c3 => ?_))
  · have h := h.1 c3
    refine aw_seq (s_reg ?_)
    refine s_run 1 [(2, pB true)] [] [] rfl ?_
    refine seq_n (aw_ret ?_)
    exact endp_ret _ h rfl
  · have h := h.2 c3
    refine aw_skip (seq_n (aw_wk (St [(0, pL (e_u8 p0))] [] []) (wk_St ⟨le_rfl _, trivial⟩ trivial trivial rfl ⟨rfl, trivial⟩ ⟨rfl, trivial⟩) ?_))
    refine aw_seq (s_reg ?_)
    refine s_run 1 [(18, pL (e_u8 p0))] [] [] rfl ?_
    obtain ⟨r4, k5, h⟩ := h
    refine s_call (.tup [.p (.agg (Tm.cells r4.1)), .p (.agg (Tm.cells r4.2))]) [] [] rfl k5 rfl ?_
    refine s_run 7 [(4, .ptr 4 0), (3, .ptr 3 0), (21, .p (.agg (Tm.cells r4.2))), (20, .p (.agg (Tm.cells r4.1))), (17, .tup [.p (.agg (Tm.cells r4.1)), .p (.agg (Tm.cells r4.2))])] [(4, [pI (Tm.kind r4.2), pI (Tm.n r4.2), pS (Tm.name r4.2), pL (Tm.encL (Tm.args r4.2))]), (3, [pI (Tm.kind r4.1), pI (Tm.n r4.1), pS (Tm.name r4.1), pL (Tm.encL (Tm.args r4.1))]), (4, [pI (0 : Int), pI (0 : Int), pS ([] : Str), pL (Tm.encL ([] : List Tm))]), (3, [pI (0 : Int), pI (0 : Int), pS ([] : Str), pL (Tm.encL ([] : List Tm))])] [] rfl ?_
    refine seq_n (aw_wk (St [(0, pL (e_u8 p0)), (3, .ptr 3 0), (4, .ptr 4 0)] [(3, [pI (Tm.kind r4.1), pI (Tm.n r4.1), pS (Tm.name r4.1), pL (Tm.encL (Tm.args r4.1))]), (4, [pI (Tm.kind r4.2), pI (Tm.n r4.2), pS (Tm.name r4.2), pL (Tm.encL (Tm.args r4.2))])] []) (wk_St ⟨le_rfl _, le_rfl _, le_rfl _, trivial⟩ ⟨box_rfl rfl, box_rfl rfl, trivial⟩ trivial rfl ⟨rfl, trivial⟩ ⟨rfl, trivial⟩) ?_)
    refine aw_seq (s_reg ?_)
    refine s_run 2 [(24, .agg [pI (Tm.kind r4.2), pI (Tm.n r4.2), pS (Tm.name r4.2), pL (Tm.encL (Tm.args r4.2))]), (23, .agg [pI (Tm.kind r4.1), pI (Tm.n r4.1), pS (Tm.name r4.1), pL (Tm.encL (Tm.args r4.1))])] [] [] rfl ?_
    obtain ⟨r6, k7, h⟩ := h
    refine s_call (.tup [pL (e_Bd r6.1), pB r6.2]) [] [] rfl k7 rfl ?_
    refine s_run 5 [(6, pB r6.2), (5, pL (e_Bd r6.1)), (27, pB r6.2), (26, pL (e_Bd r6.1)), (22, .tup [pL (e_Bd r6.1), pB r6.2])] [] [] rfl ?_
    refine seq_n (aw_wk (St [(0, pL (e_u8 p0)), (3, .ptr 3 0), (4, .ptr 4 0), (5, pL (e_Bd r6.1)), (6, pB r6.2)] [(3, [pI (Tm.kind r4.1), pI (Tm.n r4.1), pS (Tm.name r4.1), pL (Tm.encL (Tm.args r4.1))]), (4, [pI (Tm.kind r4.2), pI (Tm.n r4.2), pS (Tm.name r4.2), pL (Tm.encL (Tm.args r4.2))])] []) (wk_St ⟨le_rfl _, le_rfl _, le_rfl _, le_rfl _, le_rfl _, trivial⟩ ⟨box_rfl rfl, box_rfl rfl, trivial⟩ trivial rfl ⟨rfl, trivial⟩ ⟨rfl, trivial⟩) ?_)
    refine aw_seq (s_reg ?_)
    refine s_run 2 [(30, .agg [pI (Tm.kind r4.2), pI (Tm.n r4.2), pS (Tm.name r4.2), pL (Tm.encL (Tm.args r4.2))]), (29, .agg [pI (Tm.kind r4.1), pI (Tm.n r4.1), pS (Tm.name r4.1), pL (Tm.encL (Tm.args r4.1))])] [] [] rfl ?_
    obtain ⟨r8, k9, h⟩ := h
    refine s_call (.tup [pL (e_Bd r8.1), pB r8.2]) [] [] rfl k9 rfl ?_
    refine s_run 5 [(8, pB r8.2), (7, pL (e_Bd r8.1)), (33, pB r8.2), (32, pL (e_Bd r8.1)), (28, .tup [pL (e_Bd r8.1), pB r8.2])] [] [] rfl ?_
    refine seq_n (aw_wk (St [(0, pL (e_u8 p0)), (3, .ptr 3 0), (4, .ptr 4 0), (5, pL (e_Bd r6.1)), (6, pB r6.2), (7, pL (e_Bd r8.1)), (8, pB r8.2)] [(3, [pI (Tm.kind r4.1), pI (Tm.n r4.1), pS (Tm.name r4.1), pL (Tm.encL (Tm.args r4.1))]), (4, [pI (Tm.kind r4.2), pI (Tm.n r4.2), pS (Tm.name r4.2), pL (Tm.encL (Tm.args r4.2))])] []) (wk_St ⟨le_rfl _, le_rfl _, le_rfl _, le_rfl _, le_rfl _, le_rfl _, le_rfl _, trivial⟩ ⟨box_rfl rfl, box_rfl rfl, trivial⟩ trivial rfl ⟨rfl, trivial⟩ ⟨rfl, trivial⟩) ?_)
    refine aw_seq (aw_seq (s_reg ?_))
    refine s_run 4 [(37, pB (!(r6.2 == r8.2))), (36, pB (!(r6.2 == r8.2))), (35, pB r8.2), (34, pB r6.2)] [] [] rfl ?_
    refine s_op_if rfl rfl (fun c10 => ?_) (fun c10 => ?_)
    · have h := h.1 c10
      refine s_run 18 [(55, pB true), (54, .p (.tup [])), (53, .p (.tup [])), (52, .p (.tup [])), (51, .p (.tup [])), (50, .p (.tup [])), (49, .p (.tup [])), (48, .p (.tup [])), (47, .p (.tup [])), (46, .p (.tup [])), (45, .p (.tup [])), (44, .p (.tup [])), (43, pB true), (42, pB true), (41, .p (.tup [])), (40, .p (.tup [])), (39, .p (.tup [])), (38, .p (.tup []))] [] [] rfl ?_
      refine seq_n (s_yes rfl (aw_seq (s_reg ?_)))
      refine s_run 1 [(2, pB false)] [] [] rfl ?_
      refine seq_n (aw_ret ?_)
      exact endp_ret _ h rfl
    · have h := h.2 c10
      refine s_run 2 [(39, pL (e_Bd r8.1)), (38, pL (e_Bd r6.1))] [] [] rfl ?_
      refine s_on rfl ?_
      obtain ⟨r11, k12, h⟩ := h
      refine s_call (pB r11) [] [] rfl k12 rfl ?_
      refine s_run 3 [(43, pB (!r11)), (42, pB (!r11)), (41, pB (!r11))] [] [] rfl ?_
      refine s_op_if rfl rfl (fun c13 => ?_) (fun c13 => ?_)
      · have h := h.1 c13
        refine s_run 12 [(55, pB true), (54, .p (.tup [])), (53, .p (.tup [])), (52, .p (.tup [])), (51, .p (.tup [])), (50, .p (.tup [])), (49, .p (.tup [])), (48, .p (.tup [])), (47, .p (.tup [])), (46, .p (.tup [])), (45, .p (.tup [])), (44, .p (.tup []))] [] [] rfl ?_
        refine seq_n (s_yes rfl (aw_seq (s_reg ?_)))
        refine s_run 1 [(2, pB false)] [] [] rfl ?_
        refine seq_n (aw_ret ?_)
        exact endp_ret _ h rfl
      · have h := h.2 c13
        refine s_run 2 [(45, pB r6.2), (44, pB r6.2)] [] [] rfl ?_
        refine s_op_if rfl rfl (fun c14 => ?_) (fun c14 => ?_)
        · have h := h.1 c14
          refine s_run 2 [(47, .agg [pI (Tm.kind r4.1), pI (Tm.n r4.1), pS (Tm.name r4.1), pL (Tm.encL (Tm.args r4.1))]), (46, pL (e_Bd r6.1))] [] [] rfl ?_
          refine s_on rfl ?_
          obtain ⟨r15, k16, h⟩ := h
          refine s_call (.p (.agg (Tm.cells r15))) [] [] rfl k16 rfl ?_
          refine s_run 2 [(50, .agg [pI (Tm.kind r4.2), pI (Tm.n r4.2), pS (Tm.name r4.2), pL (Tm.encL (Tm.args r4.2))]), (49, pL (e_Bd r6.1))] [] [] rfl ?_
          refine s_on rfl ?_
          obtain ⟨r17, k18, h⟩ := h
          refine s_call (.p (.agg (Tm.cells r17))) [] [] rfl k18 rfl ?_
          refine s_on rfl ?_
          obtain ⟨r19, k20, h⟩ := h
          refine s_call (pB r19) [] [] rfl k20 rfl ?_
          refine s_run 3 [(55, pB (!r19)), (54, pB (!r19)), (53, pB (!r19))] [] [] rfl ?_
          refine seq_n (s_if rfl (fun c21 => ?_) (fun c21 => ?_))
          · have h := h.1 c21
            refine aw_seq (s_reg ?_)
            refine s_run 1 [(2, pB false)] [] [] rfl ?_
            refine seq_n (aw_ret ?_)
            exact endp_ret _ h rfl
          · have h := h.2 c21
            refine aw_skip (seq_n (aw_wk (St [(0, pL (e_u8 p0))] [] []) (wk_St ⟨le_rfl _, trivial⟩ trivial trivial rfl ⟨rfl, trivial⟩ ⟨rfl, trivial⟩) ?_))
            refine aw_seq (s_reg ?_)
            refine s_run 1 [(57, pL (e_u8 p0))] [] [] rfl ?_
            obtain ⟨r22, k23, h⟩ := h
            refine s_call (.tup [.p (.agg (Tm.cells r22.1)), .p (.agg (Tm.cells r22.2))]) [] [] rfl k23 rfl ?_
            refine s_run 7 [(10, .ptr 10 0), (9, .ptr 9 0), (60, .p (.agg (Tm.cells r22.2))), (59, .p (.agg (Tm.cells r22.1))), (56, .tup [.p (.agg (Tm.cells r22.1)), .p (.agg (Tm.cells r22.2))])] [(10, [pI (Tm.kind r22.2), pI (Tm.n r22.2), pS (Tm.name r22.2), pL (Tm.encL (Tm.args r22.2))]), (9, [pI (Tm.kind r22.1), pI (Tm.n r22.1), pS (Tm.name r22.1), pL (Tm.encL (Tm.args r22.1))]), (10, [pI (0 : Int), pI (0 : Int), pS ([] : Str), pL (Tm.encL ([] : List Tm))]), (9, [pI (0 : Int), pI (0 : Int), pS ([] : Str), pL (Tm.encL ([] : List Tm))])] [] rfl ?_
            refine seq_n (aw_wk (St [(9, .ptr 9 0), (10, .ptr 10 0)] [(9, [pI (Tm.kind r22.1), pI (Tm.n r22.1), pS (Tm.name r22.1), pL (Tm.encL (Tm.args r22.1))]), (10, [pI (Tm.kind r22.2), pI (Tm.n r22.2), pS (Tm.name r22.2), pL (Tm.encL (Tm.args r22.2))])] []) (wk_St ⟨le_rfl _, le_rfl _, trivial⟩ ⟨box_rfl rfl, box_rfl rfl, trivial⟩ trivial rfl ⟨rfl, trivial⟩ ⟨rfl, trivial⟩) ?_)
            refine aw_seq (aw_seq (s_reg ?_))
            refine s_run 1 [(61, .agg [pI (Tm.kind r22.2), pI (Tm.n r22.2), pS (Tm.name r22.2), pL (Tm.encL (Tm.args r22.2))])] [] [] rfl ?_
            obtain ⟨r24, k25, h⟩ := h
            refine s_call (pB r24) [] [] rfl k25 rfl ?_
            refine s_run 2 [(64, pB (!r24)), (63, pB (!r24))] [] [] rfl ?_
            refine s_op_if rfl rfl (fun c26 => ?_) (fun c26 => ?_)
            · have h := h.1 c26
              refine s_run 5 [(69, pB true), (68, .p (.tup [])), (67, .p (.tup [])), (66, .p (.tup [])), (65, .p (.tup []))] [] [] rfl ?_
              refine seq_n (s_yes rfl (aw_seq (s_reg ?_)))
              refine s_run 1 [(2, pB true)] [] [] rfl ?_
              refine seq_n (aw_ret ?_)
              exact endp_ret _ h rfl
            · have h := h.2 c26
              refine s_run 2 [(66, .agg [pI (Tm.kind r22.1), pI (Tm.n r22.1), pS (Tm.name r22.1), pL (Tm.encL (Tm.args r22.1))]), (65, .agg [pI (Tm.kind r22.2), pI (Tm.n r22.2), pS (Tm.name r22.2), pL (Tm.encL (Tm.args r22.2))])] [] [] rfl ?_
              refine s_on rfl ?_
              obtain ⟨r27, k28, h⟩ := h
              refine s_call (pB r27) [] [] rfl k28 rfl ?_
              refine s_run 2 [(69, pB (!r27)), (68, pB (!r27))] [] [] rfl ?_
              refine seq_n (s_if rfl (fun c29 => ?_) (fun c29 => ?_))
              · have h := h.1 c29
                refine aw_seq (s_reg ?_)
                refine s_run 1 [(2, pB true)] [] [] rfl ?_
                refine seq_n (aw_ret ?_)
                exact endp_ret _ h rfl
              · have h := h.2 c29
                refine aw_skip (seq_n (aw_wk (St [(9, .ptr 9 0), (10, .ptr 10 0)] [(9, [pI (Tm.kind r22.1), pI (Tm.n r22.1), pS (Tm.name r22.1), pL (Tm.encL (Tm.args r22.1))]), (10, [pI (Tm.kind r22.2), pI (Tm.n r22.2), pS (Tm.name r22.2), pL (Tm.encL (Tm.args r22.2))])] []) (wk_St ⟨le_rfl _, le_rfl _, trivial⟩ ⟨box_rfl rfl, box_rfl rfl, trivial⟩ trivial rfl ⟨rfl, trivial⟩ ⟨rfl, trivial⟩) ?_))
                refine aw_seq (s_reg ?_)
                refine s_run 2 [(72, .agg [pI (Tm.kind r22.2), pI (Tm.n r22.2), pS (Tm.name r22.2), pL (Tm.encL (Tm.args r22.2))]), (71, .agg [pI (Tm.kind r22.1), pI (Tm.n r22.1), pS (Tm.name r22.1), pL (Tm.encL (Tm.args r22.1))])] [] [] rfl ?_
                obtain ⟨r30, k31, h⟩ := h
                refine s_call (.tup [pL (e_Bd r30.1), pB r30.2]) [] [] rfl k31 rfl ?_
                refine s_run 5 [(12, pB r30.2), (11, pL (e_Bd r30.1)), (75, pB r30.2), (74, pL (e_Bd r30.1)), (70, .tup [pL (e_Bd r30.1), pB r30.2])] [] [] rfl ?_
                refine seq_n (aw_wk (St [(9, .ptr 9 0), (10, .ptr 10 0), (11, pL (e_Bd r30.1)), (12, pB r30.2)] [(9, [pI (Tm.kind r22.1), pI (Tm.n r22.1), pS (Tm.name r22.1), pL (Tm.encL (Tm.args r22.1))]), (10, [pI (Tm.kind r22.2), pI (Tm.n r22.2), pS (Tm.name r22.2), pL (Tm.encL (Tm.args r22.2))])] []) (wk_St ⟨le_rfl _, le_rfl _, le_rfl _, le_rfl _, trivial⟩ ⟨box_rfl rfl, box_rfl rfl, trivial⟩ trivial rfl ⟨rfl, trivial⟩ ⟨rfl, trivial⟩) ?_)
                refine aw_seq (s_reg ?_)
                refine s_run 2 [(78, .agg [pI (Tm.kind r22.2), pI (Tm.n r22.2), pS (Tm.name r22.2), pL (Tm.encL (Tm.args r22.2))]), (77, .agg [pI (Tm.kind r22.1), pI (Tm.n r22.1), pS (Tm.name r22.1), pL (Tm.encL (Tm.args r22.1))])] [] [] rfl ?_
                obtain ⟨r32, k33, h⟩ := h
                refine s_call (.tup [pL (e_Bd r32.1), pB r32.2]) [] [] rfl k33 rfl ?_
                refine s_run 5 [(14, pB r32.2), (13, pL (e_Bd r32.1)), (81, pB r32.2), (80, pL (e_Bd r32.1)), (76, .tup [pL (e_Bd r32.1), pB r32.2])] [] [] rfl ?_
                refine seq_n (aw_wk (St [(11, pL (e_Bd r30.1)), (12, pB r30.2), (13, pL (e_Bd r32.1))] [] []) (wk_St ⟨le_rfl _, le_rfl _, le_rfl _, trivial⟩ trivial trivial rfl ⟨rfl, trivial⟩ ⟨rfl, trivial⟩) ?_)
                refine aw_seq (s_reg ?_)
                refine s_run 2 [(83, pB r30.2), (82, pB r30.2)] [] [] rfl ?_
                refine s_op_if rfl rfl (fun c34 => ?_) (fun c34 => ?_)
                · have h := h.1 c34
                  refine s_run 2 [(85, pL (e_Bd r32.1)), (84, pL (e_Bd r30.1))] [] [] rfl ?_
                  refine s_on rfl ?_
                  obtain ⟨r35, k36, h⟩ := h
                  refine s_call (pB r35) [] [] rfl k36 rfl ?_
                  refine s_run 2 [(2, pB r35), (87, pB r35)] [] [] rfl ?_
                  refine seq_n (aw_ret ?_)
                  exact endp_ret _ h rfl
                · have h := h.2 c34
                  refine s_run 5 [(2, pB false), (87, pB false), (86, .p (.tup [])), (85, .p (.tup [])), (84, .p (.tup []))] [] [] rfl ?_
                  refine seq_n (aw_ret ?_)
                  exact endp_ret _ h rfl
        · have h := h.2 c14
          refine s_run 10 [(55, pB false), (54, pB false), (53, .p (.tup [])), (52, .p (.tup [])), (51, .p (.tup [])), (50, .p (.tup [])), (49, .p (.tup [])), (48, .p (.tup [])), (47, .p (.tup [])), (46, .p (.tup []))] [] [] rfl ?_
          refine seq_n (s_no rfl (aw_skip (seq_n (aw_wk (St [(0, pL (e_u8 p0))] [] []) (wk_St ⟨le_rfl _, trivial⟩ trivial trivial rfl ⟨rfl, trivial⟩ ⟨rfl, trivial⟩) ?_))))
          refine aw_seq (s_reg ?_)
          refine s_run 1 [(57, pL (e_u8 p0))] [] [] rfl ?_
          obtain ⟨r37, k38, h⟩ := h
          refine s_call (.tup [.p (.agg (Tm.cells r37.1)), .p (.agg (Tm.cells r37.2))]) [] [] rfl k38 rfl ?_
          refine s_run 7 [(10, .ptr 10 0), (9, .ptr 9 0), (60, .p (.agg (Tm.cells r37.2))), (59, .p (.agg (Tm.cells r37.1))), (56, .tup [.p (.agg (Tm.cells r37.1)), .p (.agg (Tm.cells r37.2))])] [(10, [pI (Tm.kind r37.2), pI (Tm.n r37.2), pS (Tm.name r37.2), pL (Tm.encL (Tm.args r37.2))]), (9, [pI (Tm.kind r37.1), pI (Tm.n r37.1), pS (Tm.name r37.1), pL (Tm.encL (Tm.args r37.1))]), (10, [pI (0 : Int), pI (0 : Int), pS ([] : Str), pL (Tm.encL ([] : List Tm))]), (9, [pI (0 : Int), pI (0 : Int), pS ([] : Str), pL (Tm.encL ([] : List Tm))])] [] rfl ?_
          refine seq_n (aw_wk (St [(9, .ptr 9 0), (10, .ptr 10 0)] [(9, [pI (Tm.kind r37.1), pI (Tm.n r37.1), pS (Tm.name r37.1), pL (Tm.encL (Tm.args r37.1))]), (10, [pI (Tm.kind r37.2), pI (Tm.n r37.2), pS (Tm.name r37.2), pL (Tm.encL (Tm.args r37.2))])] []) (wk_St ⟨le_rfl _, le_rfl _, trivial⟩ ⟨box_rfl rfl, box_rfl rfl, trivial⟩ trivial rfl ⟨rfl, trivial⟩ ⟨rfl, trivial⟩) ?_)
          refine aw_seq (aw_seq (s_reg ?_))
          refine s_run 1 [(61, .agg [pI (Tm.kind r37.2), pI (Tm.n r37.2), pS (Tm.name r37.2), pL (Tm.encL (Tm.args r37.2))])] [] [] rfl ?_
          obtain ⟨r39, k40, h⟩ := h
          refine s_call (pB r39) [] [] rfl k40 rfl ?_
          refine s_run 2 [(64, pB (!r39)), (63, pB (!r39))] [] [] rfl ?_
          refine s_op_if rfl rfl (fun c41 => ?_) (fun c41 => ?_)
          · have h := h.1 c41
            refine s_run 5 [(69, pB true), (68, .p (.tup [])), (67, .p (.tup [])), (66, .p (.tup [])), (65, .p (.tup []))] [] [] rfl ?_
            refine seq_n (s_yes rfl (aw_seq (s_reg ?_)))
            refine s_run 1 [(2, pB true)] [] [] rfl ?_
            refine seq_n (aw_ret ?_)
            exact endp_ret _ h rfl
          · have h := h.2 c41
            refine s_run 2 [(66, .agg [pI (Tm.kind r37.1), pI (Tm.n r37.1), pS (Tm.name r37.1), pL (Tm.encL (Tm.args r37.1))]), (65, .agg [pI (Tm.kind r37.2), pI (Tm.n r37.2), pS (Tm.name r37.2), pL (Tm.encL (Tm.args r37.2))])] [] [] rfl ?_
            refine s_on rfl ?_
            obtain ⟨r42, k43, h⟩ := h
            refine s_call (pB r42) [] [] rfl k43 rfl ?_
            refine s_run 2 [(69, pB (!r42)), (68, pB (!r42))] [] [] rfl ?_
            refine seq_n (s_if rfl (fun c44 => ?_) (fun c44 => ?_))
            · have h := h.1 c44
              refine aw_seq (s_reg ?_)
              refine s_run 1 [(2, pB true)] [] [] rfl ?_
              refine seq_n (aw_ret ?_)
              exact endp_ret _ h rfl
            · have h := h.2 c44
              refine aw_skip (seq_n (aw_wk (St [(9, .ptr 9 0), (10, .ptr 10 0)] [(9, [pI (Tm.kind r37.1), pI (Tm.n r37.1), pS (Tm.name r37.1), pL (Tm.encL (Tm.args r37.1))]), (10, [pI (Tm.kind r37.2), pI (Tm.n r37.2), pS (Tm.name r37.2), pL (Tm.encL (Tm.args r37.2))])] []) (wk_St ⟨le_rfl _, le_rfl _, trivial⟩ ⟨box_rfl rfl, box_rfl rfl, trivial⟩ trivial rfl ⟨rfl, trivial⟩ ⟨rfl, trivial⟩) ?_))
              refine aw_seq (s_reg ?_)
              refine s_run 2 [(72, .agg [pI (Tm.kind r37.2), pI (Tm.n r37.2), pS (Tm.name r37.2), pL (Tm.encL (Tm.args r37.2))]), (71, .agg [pI (Tm.kind r37.1), pI (Tm.n r37.1), pS (Tm.name r37.1), pL (Tm.encL (Tm.args r37.1))])] [] [] rfl ?_
              obtain ⟨r45, k46, h⟩ := h
              refine s_call (.tup [pL (e_Bd r45.1), pB r45.2]) [] [] rfl k46 rfl ?_
              refine s_run 5 [(12, pB r45.2), (11, pL (e_Bd r45.1)), (75, pB r45.2), (74, pL (e_Bd r45.1)), (70, .tup [pL (e_Bd r45.1), pB r45.2])] [] [] rfl ?_
              refine seq_n (aw_wk (St [(9, .ptr 9 0), (10, .ptr 10 0), (11, pL (e_Bd r45.1)), (12, pB r45.2)] [(9, [pI (Tm.kind r37.1), pI (Tm.n r37.1), pS (Tm.name r37.1), pL (Tm.encL (Tm.args r37.1))]), (10, [pI (Tm.kind r37.2), pI (Tm.n r37.2), pS (Tm.name r37.2), pL (Tm.encL (Tm.args r37.2))])] []) (wk_St ⟨le_rfl _, le_rfl _, le_rfl _, le_rfl _, trivial⟩ ⟨box_rfl rfl, box_rfl rfl, trivial⟩ trivial rfl ⟨rfl, trivial⟩ ⟨rfl, trivial⟩) ?_)
              refine aw_seq (s_reg ?_)
              refine s_run 2 [(78, .agg [pI (Tm.kind r37.2), pI (Tm.n r37.2), pS (Tm.name r37.2), pL (Tm.encL (Tm.args r37.2))]), (77, .agg [pI (Tm.kind r37.1), pI (Tm.n r37.1), pS (Tm.name r37.1), pL (Tm.encL (Tm.args r37.1))])] [] [] rfl ?_
              obtain ⟨r47, k48, h⟩ := h
              refine s_call (.tup [pL (e_Bd r47.1), pB r47.2]) [] [] rfl k48 rfl ?_
              refine s_run 5 [(14, pB r47.2), (13, pL (e_Bd r47.1)), (81, pB r47.2), (80, pL (e_Bd r47.1)), (76, .tup [pL (e_Bd r47.1), pB r47.2])] [] [] rfl ?_
              refine seq_n (aw_wk (St [(11, pL (e_Bd r45.1)), (12, pB r45.2), (13, pL (e_Bd r47.1))] [] []) (wk_St ⟨le_rfl _, le_rfl _, le_rfl _, trivial⟩ trivial trivial rfl ⟨rfl, trivial⟩ ⟨rfl, trivial⟩) ?_)
              refine aw_seq (s_reg ?_)
              refine s_run 2 [(83, pB r45.2), (82, pB r45.2)] [] [] rfl ?_
              refine s_op_if rfl rfl (fun c49 => ?_) (fun c49 => ?_)
              · have h := h.1 c49
                refine s_run 2 [(85, pL (e_Bd r47.1)), (84, pL (e_Bd r45.1))] [] [] rfl ?_
                refine s_on rfl ?_
                obtain ⟨r50, k51, h⟩ := h
                refine s_call (pB r50) [] [] rfl k51 rfl ?_
                refine s_run 2 [(2, pB r50), (87, pB r50)] [] [] rfl ?_
                refine seq_n (aw_ret ?_)
                exact endp_ret _ h rfl
              · have h := h.2 c49
                refine s_run 5 [(2, pB false), (87, pB false), (86, .p (.tup [])), (85, .p (.tup [])), (84, .p (.tup []))] [] [] rfl ?_
                refine seq_n (aw_ret ?_)
                exact endp_ret _ h rfl


def ac_impl_match : AC :=
  .seq (.reg false [
    { dst := some 3, k := .bx (.t 0) 4 },
    { dst := some 4, k := .bx (.t 1) 4 },
    { dst := some 6, k := .asg (.nl 5) },
    { dst := some 7, k := .mv (.c (.bool false)) }])
  (.wk (.seq (.seq (.reg false [
    { dst := some 12, k := .fa (.t 3) 0 },
    { dst := some 13, k := .ld (.t 12) 1 false },
    { dst := some 14, k := .bin .eql (.t 13) (.c (.int .i64 (1))) }])
  (.cond (.t 14) (.seq (.seq (.reg false [
      { dst := some 16, k := .mv (.t 2) },
      { dst := some 17, k := .fa (.t 3) 2 },
      { dst := some 18, k := .ld (.t 17) 1 false },
      { dst := some 19, k := .call 41 [(.t 16, .fz), (.t 18, .fz)] },
      { dst := some 15, k := .mv (.t 19) },
      { dst := some 20, k := .ex (.t 15) 0 },
      { dst := some 21, k := .ex (.t 15) 1 },
      { dst := some 8, k := .al [.p (.int .i64 0), .p (.int .i64 0), .p (.str []), .p (.slice [])] },
      { dst := none, k := .st (.t 8) (.t 20) 4 8 },
      { dst := some 9, k := .mv (.t 21) }])
    (.wk (.seq (.reg false [
      { dst := some 22, k := .mv (.t 9) }])
    (.cond (.t 22) (.seq (.reg false [
        { dst := some 23, k := .mv (.t 2) },
        { dst := some 24, k := .ld (.t 8) 4 true },
        { dst := some 25, k := .ld (.t 4) 4 true },
        { dst := some 26, k := .call 55 [(.t 24, .fz), (.t 25, .fz)] },
        { dst := some 6, k := .mv (.t 23) },
        { dst := some 7, k := .mv (.t 26) }])
      (.ret))
    (.skip)))))
    (.wk (.seq (.reg false [
      { dst := some 27, k := .mv (.t 2) },
      { dst := some 28, k := .fa (.t 3) 2 },
      { dst := some 29, k := .ld (.t 28) 1 false },
      { dst := some 30, k := .ld (.t 4) 4 true },
      { dst := some 31, k := .bd [.p (.str []), .p (.int .i64 0), .p (.int .i64 0), .p (.str []), .p (.slice [])] [(0, 1, .t 29), (1, 4, .t 30)] },
      { dst := some 32, k := .bs 5 [.t 31] },
      { dst := some 33, k := .app (.t 27) (.t 32) 5 72 },
      { dst := some 6, k := .mv (.t 33) },
      { dst := some 7, k := .mv (.c (.bool true)) }])
    (.ret))))
  (.skip)))
  (.wk (.seq (.seq (.reg false [
    { dst := some 34, k := .fa (.t 3) 0 },
    { dst := some 35, k := .ld (.t 34) 1 false },
    { dst := some 36, k := .fa (.t 4) 0 },
    { dst := some 37, k := .ld (.t 36) 1 false },
    { dst := some 38, k := .bin .neq (.t 35) (.t 37) },
    { dst := some 39, k := .mv (.t 38) },
    { dst := some 40, k := .fa (.t 3) 1, g := some (39, false) },
    { dst := some 41, k := .ld (.t 40) 1 false, g := some (39, false) },
    { dst := some 42, k := .fa (.t 4) 1, g := some (39, false) },
    { dst := some 43, k := .ld (.t 42) 1 false, g := some (39, false) },
    { dst := some 44, k := .bin .neq (.t 41) (.t 43), g := some (39, false) },
    { dst := some 45, k := .pick (.t 39) (.c (.bool true)) (.t 44) },
    { dst := some 46, k := .mv (.t 45) },
    { dst := some 47, k := .fa (.t 3) 2, g := some (46, false) },
    { dst := some 48, k := .ld (.t 47) 1 false, g := some (46, false) },
    { dst := some 49, k := .fa (.t 4) 2, g := some (46, false) },
    { dst := some 50, k := .ld (.t 49) 1 false, g := some (46, false) },
    { dst := some 51, k := .bin .neq (.t 48) (.t 50), g := some (46, false) },
    { dst := some 52, k := .pick (.t 46) (.c (.bool true)) (.t 51) },
    { dst := some 53, k := .mv (.t 52) },
    { dst := some 54, k := .fa (.t 3) 3, g := some (53, false) },
    { dst := some 55, k := .ld (.t 54) 1 false, g := some (53, false) },
    { dst := some 56, k := .len (.t 55), g := some (53, false) },
    { dst := some 57, k := .fa (.t 4) 3, g := some (53, false) },
    { dst := some 58, k := .ld (.t 57) 1 false, g := some (53, false) },
    { dst := some 59, k := .len (.t 58), g := some (53, false) },
    { dst := some 60, k := .bin .neq (.t 56) (.t 59), g := some (53, false) },
    { dst := some 61, k := .pick (.t 53) (.c (.bool true)) (.t 60) }])
  (.cond (.t 61) (.seq (.reg false [
      { dst := some 6, k := .asg (.nl 5) },
      { dst := some 7, k := .mv (.c (.bool false)) }])
    (.ret))
  (.skip)))
  (.wk (.seq (.seq (.reg false [
    { dst := some 62, k := .fa (.t 3) 3 },
    { dst := some 63, k := .ld (.t 62) 1 false },
    { dst := some 64, k := .len (.t 63) },
    { dst := some 65, k := .mv (.c (.int .i64 (0))) }])
  (.wk (.block 0 (.loop (.seq (.reg false [
        { dst := some 66, k := .bin .lss (.t 65) (.t 64) }])
      (.seq (.cond (.t 66) (.skip)
      (.exit 0))
      (.seq (.block 1 (.seq (.reg false [
          { dst := some 67, k := .mv (.t 65) },
          { dst := some 10, k := .mv (.t 67) }])
        (.seq (.reg false [
          { dst := some 11, k := .mv (.c (.bool false)) }])
        (.seq (.reg true [
          { dst := some 69, k := .fa (.t 3) 3 },
          { dst := some 70, k := .ld (.t 69) 1 false, vb := .only [3] },
          { dst := some 71, k := .mv (.t 10) },
          { dst := some 72, k := .ia (.t 70) (.t 71) 4 },
          { dst := some 73, k := .ld (.t 72) 4 true, vb := .only [] },
          { dst := some 74, k := .fa (.t 4) 3 },
          { dst := some 75, k := .ld (.t 74) 1 false, vb := .only [4] },
          { dst := some 76, k := .mv (.t 10) },
          { dst := some 77, k := .ia (.t 75) (.t 76) 4 },
          { dst := some 78, k := .ld (.t 77) 4 true, vb := .only [] },
          { dst := some 79, k := .mv (.t 2) },
          { dst := some 80, k := .call 33 [(.t 73, .fz), (.t 78, .fz), (.t 79, .ow)] },
          { dst := some 68, k := .mv (.t 80) },
          { dst := some 81, k := .ex (.t 68) 0 },
          { dst := some 82, k := .ex (.t 68) 1 },
          { dst := some 2, k := .asgo (.t 81) },
          { dst := some 11, k := .mv (.t 82) }])
        (.wk (.seq (.reg false [
          { dst := some 83, k := .mv (.t 11) },
          { dst := some 84, k := .un .not (.t 83) }])
        (.cond (.t 84) (.seq (.reg false [
            { dst := some 6, k := .asg (.nl 5) },
            { dst := some 7, k := .mv (.c (.bool false)) }])
          (.ret))
        (.skip))))))))
      (.reg false [
        { dst := some 85, k := .bin .add (.t 65) (.c (.int .i64 (1))) },
        { dst := some 65, k := .mv (.t 85) }]))))))))
  (.wk (.seq (.reg false [
    { dst := some 86, k := .mv (.t 2) },
    { dst := some 6, k := .mv (.t 86) },
    { dst := some 7, k := .mv (.c (.bool true)) }])
  (.ret)))))))))
theorem chk_impl_match : fnOK Try.prog 3 Try.f33 ac_impl_match [(.tmp 6, .ow), (.tmp 7, .fz)] = true := by kernel_rfl
def wp_impl_match (p0 : Tm) (p1 : Tm) (p2 : (List Bd)) (post : ((List Bd) × Bool) → Prop) : Prop :=
  ((((Tm.kind p0) == (1 : Int)) = true → (∃ r2 : Tm × Bool, C_impl_bound p2 (Tm.name p0) r2 ∧ ((r2.2 = true → (∃ r5 : Bool, C_impl_EqualTerm r2.1 p1 r5 ∧ post (p2, r5))) ∧ (r2.2 = false → ((List.length p2 + List.length ([(Bd.mk (Tm.name p0) p1)] : List Bd)) * 72 ≤ 140737488355328 ∧ post ((p2 ++ ([(Bd.mk (Tm.name p0) p1)] : List Bd)), true)))))) ∧ (((Tm.kind p0) == (1 : Int)) = false → ((((Tm.kind p0) != (Tm.kind p1)) = true → post (([] : List Bd), false)) ∧ (((Tm.kind p0) != (Tm.kind p1)) = false → ((((Tm.n p0) != (Tm.n p1)) = true → post (([] : List Bd), false)) ∧ (((Tm.n p0) != (Tm.n p1)) = false → (((!((Tm.name p0) == (Tm.name p1))) = true → post (([] : List Bd), false)) ∧ ((!((Tm.name p0) == (Tm.name p1))) = false → (((((List.length (Tm.args p0) : Nat) : Int) != ((List.length (Tm.args p1) : Nat) : Int)) = true → post (([] : List Bd), false)) ∧ ((((List.length (Tm.args p0) : Nat) : Int) != ((List.length (Tm.args p1) : Nat) : Int)) = false → LOOP (fun (N29 : (Int × (List Bd)) → Prop) (s12 : Int × (List Bd)) => (((decide (s12.1 < ((List.length (Tm.args p0) : Nat) : Int))) = true → (∃ u34, GETI (Tm.args p0) s12.1 u34 ∧ (∃ u36, GETI (Tm.args p1) s12.1 u36 ∧ (∃ r38 : (List Bd) × Bool, C_impl_match u34 u36 s12.2 r38 ∧ (((!r38.2) = true → post (([] : List Bd), false)) ∧ ((!r38.2) = false → N29 ((IntKind.i64.wrap (s12.1 + (1 : Int))), r38.1))))))) ∧ ((decide (s12.1 < ((List.length (Tm.args p0) : Nat) : Int))) = false → post (s12.2, true)))) ((0 : Int), p2)))))))))))
theorem w_impl_match (p0 : Tm) (p1 : Tm) (p2 : (List Bd)) (post : ((List Bd) × Bool) → Prop) (h : wp_impl_match p0 p1 p2 post) : ∃ r, post r ∧ C_impl_match p0 p1 p2 r := by
  unfold wp_impl_match at h
  refine evs_of (encR := fun r : (List Bd) × Bool => .tup [.l (.ow 5 (e_Bd r.1)), .l (.fz (.bool r.2))]) (encO := fun r => []) 3 [(.tmp 6, .ow), (.tmp 7, .fz)] [.fz, .fz, .ow] Try.func33 chk_impl_match rfl rfl [(2, .tip (0, 2, 0) (0) (e_Bd p2)), (1, .p (.agg (Tm.cells p1))), (0, .p (.agg (Tm.cells p0)))] [] [((0, 2, 0), 0, .tip (e_Bd p2).length 5)] rfl ?_
  refine aw_seq (s_reg ?_)
  refine s_run 4 [(7, pB false), (6, .tip (0, 6, 0) (0) (e_Bd ([] : List Bd))), (4, .ptr 4 0), (3, .ptr 3 0)] [(4, [pI (Tm.kind p1), pI (Tm.n p1), pS (Tm.name p1), pL (Tm.encL (Tm.args p1))]), (3, [pI (Tm.kind p0), pI (Tm.n p0), pS (Tm.name p0), pL (Tm.encL (Tm.args p0))])] [((0, 6, 0), 0, .tip (e_Bd ([] : List Bd)).length 5)] rfl ?_
  refine seq_n (aw_wk (St [(2, .tip (0, 2, 0) (0) (e_Bd p2)), (3, .ptr 3 0), (4, .ptr 4 0)] [(3, [pI (Tm.kind p0), pI (Tm.n p0), pS (Tm.name p0), pL (Tm.encL (Tm.args p0))]), (4, [pI (Tm.kind p1), pI (Tm.n p1), pS (Tm.name p1), pL (Tm.encL (Tm.args p1))])] [((0, 2, 0), 0, .tip (e_Bd p2).length 5)]) (wk_St ⟨le_rfl _, le_rfl _, le_rfl _, trivial⟩ ⟨box_rfl rfl, box_rfl rfl, trivial⟩ ⟨rfl, trivial⟩ rfl ⟨rfl, rfl, rfl, trivial⟩ ⟨rfl, rfl, rfl, trivial⟩) ?_)
  refine aw_seq (aw_seq (s_reg ?_))
  refine s_run 3 [(14, pB ((Tm.kind p0) == (1 : Int))), (13, pI (Tm.kind p0)), (12, .ptr 3 0)] [] [] rfl ?_
  refine seq_n (s_if rfl (fun c1 => ?_) (fun c1 => ?_))
  · have h := h.1 c1
    refine aw_seq (aw_seq (s_reg ?_))
    refine s_run 3 [(18, pS (Tm.name p0)), (17, .ptr 3 2), (16, .tip (0, 2, 0) (0) (e_Bd p2))] [] [] rfl ?_
    obtain ⟨r2, k3, h⟩ := h
    refine s_call (.tup [.p (.agg (Tm.cells r2.1)), pB r2.2]) [] [] rfl k3 rfl ?_
    refine s_run 6 [(9, pB r2.2), (8, .ptr 8 0), (21, pB r2.2), (20, .p (.agg (Tm.cells r2.1))), (15, .tup [.p (.agg (Tm.cells r2.1)), pB r2.2])] [(8, [pI (Tm.kind r2.1), pI (Tm.n r2.1), pS (Tm.name r2.1), pL (Tm.encL (Tm.args r2.1))]), (8, [pI (0 : Int), pI (0 : Int), pS ([] : Str), pL (Tm.encL ([] : List Tm))])] [] rfl ?_
    refine seq_n (aw_wk (St [(2, .tip (0, 2, 0) (0) (e_Bd p2)), (3, .ptr 3 0), (4, .ptr 4 0), (8, .ptr 8 0), (9, pB r2.2)] [(3, [pI (Tm.kind p0), pI (Tm.n p0), pS (Tm.name p0), pL (Tm.encL (Tm.args p0))]), (4, [pI (Tm.kind p1), pI (Tm.n p1), pS (Tm.name p1), pL (Tm.encL (Tm.args p1))]), (8, [pI (Tm.kind r2.1), pI (Tm.n r2.1), pS (Tm.name r2.1), pL (Tm.encL (Tm.args r2.1))])] [((0, 2, 0), 0, .tip (e_Bd p2).length 5)]) (wk_St ⟨le_rfl _, le_rfl _, le_rfl _, le_rfl _, le_rfl _, trivial⟩ ⟨box_rfl rfl, box_rfl rfl, box_rfl rfl, trivial⟩ ⟨rfl, trivial⟩ rfl ⟨rfl, rfl, rfl, trivial⟩ ⟨rfl, rfl, rfl, trivial⟩) ?_)
    refine aw_seq (s_reg ?_)
    refine s_run 1 [(22, pB r2.2)] [] [] rfl ?_
    refine seq_n (s_if rfl (fun c4 => ?_) (fun c4 => ?_))
    · have h := h.1 c4
      refine aw_seq (s_reg ?_)
      refine s_run 3 [(25, .agg [pI (Tm.kind p1), pI (Tm.n p1), pS (Tm.name p1), pL (Tm.encL (Tm.args p1))]), (24, .agg [pI (Tm.kind r2.1), pI (Tm.n r2.1), pS (Tm.name r2.1), pL (Tm.encL (Tm.args r2.1))]), (23, .tip (0, 2, 0) (0) (e_Bd p2))] [] [] rfl ?_
      obtain ⟨r5, k6, h⟩ := h
      refine s_call (pB r5) [] [] rfl k6 rfl ?_
      refine s_run 2 [(7, pB r5), (6, .tip (0, 2, 0) (0) (e_Bd p2))] [] [] rfl ?_
      refine seq_n (aw_ret ?_)
      exact endp_ret _ h (endB_of (end_one rfl (arg_own rfl rfl) (end_one rfl (rfl) (end_nil))) (end_nil) (of_decide_eq_true rfl) rfl rfl)
    · have h := h.2 c4
      refine aw_skip (seq_n (aw_wk (St [(2, .tip (0, 2, 0) (0) (e_Bd p2)), (3, .ptr 3 0), (4, .ptr 4 0)] [(3, [pI (Tm.kind p0), pI (Tm.n p0), pS (Tm.name p0), pL (Tm.encL (Tm.args p0))]), (4, [pI (Tm.kind p1), pI (Tm.n p1), pS (Tm.name p1), pL (Tm.encL (Tm.args p1))])] [((0, 2, 0), 0, .tip (e_Bd p2).length 5)]) (wk_St ⟨le_rfl _, le_rfl _, le_rfl _, trivial⟩ ⟨box_rfl rfl, box_rfl rfl, trivial⟩ ⟨rfl, trivial⟩ rfl ⟨rfl, rfl, rfl, trivial⟩ ⟨rfl, rfl, rfl, trivial⟩) ?_))
      refine aw_seq (s_reg ?_)
      refine s_run 5 [(31, .agg [pS (Tm.name p0), pI (Tm.kind p1), pI (Tm.n p1), pS (Tm.name p1), pL (Tm.encL (Tm.args p1))]), (30, .agg [pI (Tm.kind p1), pI (Tm.n p1), pS (Tm.name p1), pL (Tm.encL (Tm.args p1))]), (29, pS (Tm.name p0)), (28, .ptr 3 2), (27, .tip (0, 2, 0) (0) (e_Bd p2))] [] [] rfl ?_
      refine s_bs rfl rfl (enc_cons (e := e_Bd) (Bd.mk (Tm.name p0) p1) (enc_nil (e := e_Bd))) ?_
      obtain ⟨g7, h⟩ := h
      refine s_app rfl rfl rfl (enc_sz (e := e_Bd) _) (enc_len (e := e_Bd) _) (enc_len (e := e_Bd) _) g7 (enc_app (e := e_Bd) _ _) ?_
      refine s_run 2 [(7, pB true), (6, .tip (0, 2, 0) (0) (e_Bd (p2 ++ ([(Bd.mk (Tm.name p0) p1)] : List Bd))))] [] [] rfl ?_
      refine seq_n (aw_ret ?_)
      exact endp_ret _ h (endB_of (end_one rfl (arg_own rfl rfl) (end_one rfl (rfl) (end_nil))) (end_nil) (of_decide_eq_true rfl) rfl rfl)
  · have h := h.2 c1
    refine aw_skip (seq_n (aw_wk (St [(2, .tip (0, 2, 0) (0) (e_Bd p2)), (3, .ptr 3 0), (4, .ptr 4 0)] [(3, [pI (Tm.kind p0), pI (Tm.n p0), pS (Tm.name p0), pL (Tm.encL (Tm.args p0))]), (4, [pI (Tm.kind p1), pI (Tm.n p1), pS (Tm.name p1), pL (Tm.encL (Tm.args p1))])] [((0, 2, 0), 0, .tip (e_Bd p2).length 5)]) (wk_St ⟨le_rfl _, le_rfl _, le_rfl _, trivial⟩ ⟨box_rfl rfl, box_rfl rfl, trivial⟩ ⟨rfl, trivial⟩ rfl ⟨rfl, rfl, rfl, trivial⟩ ⟨rfl, rfl, rfl, trivial⟩) ?_))
    refine aw_seq (aw_seq (s_reg ?_))
    refine s_run 6 [(39, pB ((Tm.kind p0) != (Tm.kind p1))), (38, pB ((Tm.kind p0) != (Tm.kind p1))), (37, pI (Tm.kind p1)), (36, .ptr 4 0), (35, pI (Tm.kind p0)), (34, .ptr 3 0)] [] [] rfl ?_
    refine s_op_if rfl rfl (fun c8 => ?_) (fun c8 => ?_)
    · have h := h.1 c8
      refine s_run 22 [(61, pB true), (60, .p (.tup [])), (59, .p (.tup [])), (58, .p (.tup [])), (57, .p (.tup [])), (56, .p (.tup [])), (55, .p (.tup [])), (54, .p (.tup [])), (53, pB true), (52, pB true), (51, .p (.tup [])), (50, .p (.tup [])), (49, .p (.tup [])), (48, .p (.tup [])), (47, .p (.tup [])), (46, pB true), (45, pB true), (44, .p (.tup [])), (43, .p (.tup [])), (42, .p (.tup [])), (41, .p (.tup [])), (40, .p (.tup []))] [] [] rfl ?_
      refine seq_n (s_yes rfl (aw_seq (s_reg ?_)))
      refine s_run 2 [(7, pB false), (6, .tip (0, 6, 0) (0) (e_Bd ([] : List Bd)))] [] [((0, 6, 0), 0, .tip (e_Bd ([] : List Bd)).length 5)] rfl ?_
      refine seq_n (aw_ret ?_)
      exact endp_ret _ h (endB_of (end_one rfl (arg_own rfl rfl) (end_one rfl (rfl) (end_nil))) (end_nil) (of_decide_eq_true rfl) rfl rfl)
    · have h := h.2 c8
      refine s_run 7 [(46, pB ((Tm.n p0) != (Tm.n p1))), (45, pB ((Tm.n p0) != (Tm.n p1))), (44, pB ((Tm.n p0) != (Tm.n p1))), (43, pI (Tm.n p1)), (42, .ptr 4 1), (41, pI (Tm.n p0)), (40, .ptr 3 1)] [] [] rfl ?_
      refine s_op_if rfl rfl (fun c9 => ?_) (fun c9 => ?_)
      · have h := h.1 c9
        refine s_run 15 [(61, pB true), (60, .p (.tup [])), (59, .p (.tup [])), (58, .p (.tup [])), (57, .p (.tup [])), (56, .p (.tup [])), (55, .p (.tup [])), (54, .p (.tup [])), (53, pB true), (52, pB true), (51, .p (.tup [])), (50, .p (.tup [])), (49, .p (.tup [])), (48, .p (.tup [])), (47, .p (.tup []))] [] [] rfl ?_
        refine seq_n (s_yes rfl (aw_seq (s_reg ?_)))
        refine s_run 2 [(7, pB false), (6, .tip (0, 6, 0) (0) (e_Bd ([] : List Bd)))] [] [((0, 6, 0), 0, .tip (e_Bd ([] : List Bd)).length 5)] rfl ?_
        refine seq_n (aw_ret ?_)
        exact endp_ret _ h (endB_of (end_one rfl (arg_own rfl rfl) (end_one rfl (rfl) (end_nil))) (end_nil) (of_decide_eq_true rfl) rfl rfl)
      · have h := h.2 c9
        refine s_run 7 [(53, pB (!((Tm.name p0) == (Tm.name p1)))), (52, pB (!((Tm.name p0) == (Tm.name p1)))), (51, pB (!((Tm.name p0) == (Tm.name p1)))), (50, pS (Tm.name p1)), (49, .ptr 4 2), (48, pS (Tm.name p0)), (47, .ptr 3 2)] [] [] rfl ?_
        refine s_op_if rfl rfl (fun c10 => ?_) (fun c10 => ?_)
        · have h := h.1 c10
          refine s_run 8 [(61, pB true), (60, .p (.tup [])), (59, .p (.tup [])), (58, .p (.tup [])), (57, .p (.tup [])), (56, .p (.tup [])), (55, .p (.tup [])), (54, .p (.tup []))] [] [] rfl ?_
          refine seq_n (s_yes rfl (aw_seq (s_reg ?_)))
          refine s_run 2 [(7, pB false), (6, .tip (0, 6, 0) (0) (e_Bd ([] : List Bd)))] [] [((0, 6, 0), 0, .tip (e_Bd ([] : List Bd)).length 5)] rfl ?_
          refine seq_n (aw_ret ?_)
          exact endp_ret _ h (endB_of (end_one rfl (arg_own rfl rfl) (end_one rfl (rfl) (end_nil))) (end_nil) (of_decide_eq_true rfl) rfl rfl)
        · have h := h.2 c10
          refine s_run 2 [(55, pL (Tm.encL (Tm.args p0))), (54, .ptr 3 3)] [] [] rfl ?_
          refine s_on rfl ?_
          refine s_len rfl (enc_len (e := Tm.encL) _) ?_
          refine s_run 2 [(58, pL (Tm.encL (Tm.args p1))), (57, .ptr 4 3)] [] [] rfl ?_
          refine s_on rfl ?_
          refine s_len rfl (enc_len (e := Tm.encL) _) ?_
          refine s_run 2 [(61, pB (((List.length (Tm.args p0) : Nat) : Int) != ((List.length (Tm.args p1) : Nat) : Int))), (60, pB (((List.length (Tm.args p0) : Nat) : Int) != ((List.length (Tm.args p1) : Nat) : Int)))] [] [] rfl ?_
          refine seq_n (s_if rfl (fun c11 => ?_) (fun c11 => ?_))
          · have h := h.1 c11
            refine aw_seq (s_reg ?_)
            refine s_run 2 [(7, pB false), (6, .tip (0, 6, 0) (0) (e_Bd ([] : List Bd)))] [] [((0, 6, 0), 0, .tip (e_Bd ([] : List Bd)).length 5)] rfl ?_
            refine seq_n (aw_ret ?_)
            exact endp_ret _ h (endB_of (end_one rfl (arg_own rfl rfl) (end_one rfl (rfl) (end_nil))) (end_nil) (of_decide_eq_true rfl) rfl rfl)
          · have h := h.2 c11
            refine aw_skip (seq_n (aw_wk (St [(2, .tip (0, 2, 0) (0) (e_Bd p2)), (3, .ptr 3 0), (4, .ptr 4 0)] [(3, [pI (Tm.kind p0), pI (Tm.n p0), pS (Tm.name p0), pL (Tm.encL (Tm.args p0))]), (4, [pI (Tm.kind p1), pI (Tm.n p1), pS (Tm.name p1), pL (Tm.encL (Tm.args p1))])] [((0, 2, 0), 0, .tip (e_Bd p2).length 5)]) (wk_St ⟨le_rfl _, le_rfl _, le_rfl _, trivial⟩ ⟨box_rfl rfl, box_rfl rfl, trivial⟩ ⟨rfl, trivial⟩ rfl ⟨rfl, rfl, rfl, trivial⟩ ⟨rfl, rfl, rfl, trivial⟩) ?_))
            refine aw_seq (aw_seq (s_reg ?_))
            refine s_run 2 [(63, pL (Tm.encL (Tm.args p0))), (62, .ptr 3 3)] [] [] rfl ?_
            refine s_len rfl (enc_len (e := Tm.encL) _) ?_
            refine s_run 1 [(65, pI (0 : Int))] [] [] rfl ?_
            refine seq_n (aw_wk (St [(2, .tip (0, 2, 0) (0) (e_Bd p2)), (3, .ptr 3 0), (4, .ptr 4 0), (64, pI ((List.length (Tm.args p0) : Nat) : Int)), (65, pI (0 : Int))] [(3, [pI (Tm.kind p0), pI (Tm.n p0), pS (Tm.name p0), pL (Tm.encL (Tm.args p0))]), (4, [pI (Tm.kind p1), pI (Tm.n p1), pS (Tm.name p1), pL (Tm.encL (Tm.args p1))])] [((0, 2, 0), 0, .tip (e_Bd p2).length 5)]) (wk_St ⟨le_rfl _, le_rfl _, le_rfl _, le_rfl _, le_rfl _, trivial⟩ ⟨box_rfl rfl, box_rfl rfl, trivial⟩ ⟨rfl, trivial⟩ rfl ⟨rfl, rfl, rfl, trivial⟩ ⟨rfl, rfl, rfl, trivial⟩) ?_)
            refine aw_blk ?_
            obtain ⟨I31, m32, h0, h⟩ := h
            refine aw_loop' (ι := { y : (Int × (List Bd)) × (Nat) // I31 y.1 }) (fun x30 => St [(2, .tip (0, 2, 0) (x30.1.2) (e_Bd x30.1.1.2)), (3, .ptr 3 0), (4, .ptr 4 0), (64, pI ((List.length (Tm.args p0) : Nat) : Int)), (65, pI x30.1.1.1)] [(3, [pI (Tm.kind p0), pI (Tm.n p0), pS (Tm.name p0), pL (Tm.encL (Tm.args p0))]), (4, [pI (Tm.kind p1), pI (Tm.n p1), pS (Tm.name p1), pL (Tm.encL (Tm.args p1))])] [((0, 2, 0), x30.1.2, .tip (e_Bd x30.1.1.2).length 5)]) (fun x30 => m32 x30.1.1) ⟨(_, 0), h0⟩ ?_ ?_
            · exact wk_St ⟨le_rfl _, le_rfl _, le_rfl _, le_rfl _, le_rfl _, trivial⟩ ⟨box_rfl rfl, box_rfl rfl, trivial⟩ ⟨rfl, trivial⟩ rfl ⟨rfl, rfl, rfl, trivial⟩ ⟨rfl, rfl, rfl, trivial⟩
            · rintro ⟨⟨s12, s12q⟩, hs12⟩
              replace h := h s12 hs12
              refine aw_seq (s_reg ?_)
              refine s_run 1 [(66, pB (decide (s12.1 < ((List.length (Tm.args p0) : Nat) : Int))))] [] [] rfl ?_
              refine seq_n (aw_seq (s_if rfl (fun c33 => ?_) (fun c33 => ?_)))
              · have h := h.1 c33
                refine aw_skip (seq_n (aw_seq (aw_blk (aw_seq (s_reg ?_)))))
                refine s_run 2 [(10, pI s12.1), (67, pI s12.1)] [] [] rfl ?_
                refine seq_n (aw_seq (s_reg ?_))
                refine s_run 1 [(11, pB false)] [] [] rfl ?_
                refine seq_n (aw_seq (s_reg ?_))
                refine s_run 3 [(71, pI s12.1), (70, pL (Tm.encL (Tm.args p0))), (69, .ptr 3 3)] [] [] rfl ?_
                obtain ⟨u34, ⟨g35a, g35b⟩, h⟩ := h
                refine s_ia rfl rfl g35a (enc_get (e := Tm.encL) g35b) rfl ?_
                refine s_run 4 [(76, pI s12.1), (75, pL (Tm.encL (Tm.args p1))), (74, .ptr 4 3), (73, .p (.agg (Tm.cells u34)))] [] [] rfl ?_
                obtain ⟨u36, ⟨g37a, g37b⟩, h⟩ := h
                refine s_ia rfl rfl g37a (enc_get (e := Tm.encL) g37b) rfl ?_
                refine s_run 2 [(79, .tip (0, 2, 0) (s12q) (e_Bd s12.2)), (78, .p (.agg (Tm.cells u36)))] [] [] rfl ?_
                obtain ⟨r38, k39, h⟩ := h
                refine s_call (.tup [.tip (0, 80, 0) (0) (e_Bd r38.1), pB r38.2]) [] [((0, 2, 0), s12q + 1, .spent), ((0, 80, 0), 0, .tip (e_Bd r38.1).length 5)] (args_one rfl (args_one rfl (args_one (arg_own rfl rfl) (args_nil)))) k39 rfl ?_
                refine s_run 3 [(82, pB r38.2), (81, .tip (0, 80, 0) (0) (e_Bd r38.1)), (68, .tup [.tip (0, 80, 0) (0) (e_Bd r38.1), pB r38.2])] [] [] rfl ?_
                refine s_asgo (g := (0, 80, 0)) (r := 0) (q := s12q + 1 + 1) (sz := 5) (xs := e_Bd r38.1) rfl rfl (by decide) rfl ?_
                refine s_run 1 [(11, pB r38.2)] [] [] rfl ?_
                refine seq_n (aw_wk (St [(2, .tip (0, 2, 0) (s12q + 1 + 1) (e_Bd r38.1)), (3, .ptr 3 0), (4, .ptr 4 0), (11, pB r38.2), (64, pI ((List.length (Tm.args p0) : Nat) : Int)), (65, pI s12.1)] [(3, [pI (Tm.kind p0), pI (Tm.n p0), pS (Tm.name p0), pL (Tm.encL (Tm.args p0))]), (4, [pI (Tm.kind p1), pI (Tm.n p1), pS (Tm.name p1), pL (Tm.encL (Tm.args p1))])] [((0, 2, 0), s12q + 1 + 1, .tip (e_Bd r38.1).length 5)]) (wk_St ⟨le_rfl _, le_rfl _, le_rfl _, le_rfl _, le_rfl _, le_rfl _, trivial⟩ ⟨box_rfl rfl, box_rfl rfl, trivial⟩ ⟨rfl, trivial⟩ rfl ⟨rfl, rfl, rfl, trivial⟩ ⟨rfl, rfl, rfl, trivial⟩) ?_)
                refine aw_seq (s_reg ?_)
                refine s_run 2 [(84, pB (!r38.2)), (83, pB r38.2)] [] [] rfl ?_
                refine seq_n (s_if rfl (fun c40 => ?_) (fun c40 => ?_))
                · have h := h.1 c40
                  refine aw_seq (s_reg ?_)
                  refine s_run 2 [(7, pB false), (6, .tip (0, 6, 0) (0) (e_Bd ([] : List Bd)))] [] [((0, 6, 0), 0, .tip (e_Bd ([] : List Bd)).length 5)] rfl ?_
                  refine seq_n (aw_ret ?_)
                  exact endp_ret _ h (endB_of (end_one rfl (arg_own rfl rfl) (end_one rfl (rfl) (end_nil))) (end_nil) (of_decide_eq_true rfl) rfl rfl)
                · have h := h.2 c40
                  refine aw_skip (blk_n (seq_n (s_reg ?_)))
                  refine s_run 2 [(65, pI (IntKind.i64.wrap (s12.1 + (1 : Int)))), (85, pI (IntKind.i64.wrap (s12.1 + (1 : Int))))] [] [] rfl ?_
                  exact loop_n ⟨(_, s12q + 1 + 1), h.1⟩ h.2 (wk_St ⟨le_rfl _, le_rfl _, le_rfl _, le_rfl _, le_rfl _, trivial⟩ ⟨box_rfl rfl, box_rfl rfl, trivial⟩ ⟨rfl, trivial⟩ rfl ⟨rfl, rfl, rfl, trivial⟩ ⟨rfl, rfl, rfl, trivial⟩)
              · have h := h.2 c33
                refine aw_exit (seq_x (loop_x (blk_x (seq_n (aw_wk (St [(2, .tip (0, 2, 0) (s12q) (e_Bd s12.2))] [] [((0, 2, 0), s12q, .tip (e_Bd s12.2).length 5)]) (wk_St ⟨le_rfl _, trivial⟩ trivial ⟨rfl, trivial⟩ rfl ⟨rfl, rfl, rfl, trivial⟩ ⟨rfl, rfl, rfl, trivial⟩) ?_)))))
                refine aw_seq (s_reg ?_)
                refine s_run 3 [(7, pB true), (6, .tip (0, 2, 0) (s12q) (e_Bd s12.2)), (86, .tip (0, 2, 0) (s12q) (e_Bd s12.2))] [] [] rfl ?_
                refine seq_n (aw_ret ?_)
                exact endp_ret _ h (endB_of (end_one rfl (arg_own rfl rfl) (end_one rfl (rfl) (end_nil))) (end_nil) (of_decide_eq_true rfl) rfl rfl)


def ac_spec_l3Bent : AC :=
  .seq (.reg false [
    { dst := some 2, k := .al [.p (.int .i64 0), .p (.int .i64 0), .p (.str []), .p (.slice [])] }])
  (.seq (.reg false [
    { dst := some 5, k := .mv (.t 0) },
    { dst := some 6, k := .mv (.t 0) },
    { dst := some 7, k := .call 49 [(.t 6, .io [false, false, false]), (.c (.int .i64 (4)), .fz)] },
    { dst := some 8, k := .bin .add (.c (.int .i64 (1))) (.t 7) },
    { dst := some 9, k := .mv (.t 0) },
    { dst := some 10, k := .call 39 [(.t 9, .io [false, false, false]), (.c (.int .i64 (2)), .fz)] },
    { dst := some 11, k := .call 63 [(.t 5, .io [false, false, false]), (.t 8, .fz), (.t 10, .fz)] },
    { dst := some 3, k := .al [.p (.int .i64 0), .p (.int .i64 0), .p (.str []), .nil 4] },
    { dst := none, k := .st (.t 3) (.t 11) 4 3 }])
  (.wk (.seq (.seq (.reg false [
    { dst := some 12, k := .mv (.t 0) },
    { dst := some 13, k := .call 49 [(.t 12, .io [false, false, false]), (.c (.int .i64 (12)), .fz)] }])
  (.wk (.block 0 (.seq (.reg false [
      { dst := some 15, k := .bin .eql (.t 13) (.c (.int .i64 (0))) },
      { dst := some 14, k := .mv (.t 15) }])
    (.cond (.t 14) (.reg false [
        { dst := some 16, k := .mv (.t 0) },
        { dst := some 17, k := .call 49 [(.t 16, .io [false, false, false]), (.c (.int .i64 (5)), .fz)] },
        { dst := some 18, k := .fa (.t 3) 0 },
        { dst := none, k := .st (.t 18) (.t 17) 1 3 }])
    (.seq (.reg false [
        { dst := some 20, k := .bin .eql (.t 13) (.c (.int .i64 (1))) },
        { dst := some 19, k := .mv (.t 20) }])
      (.cond (.t 19) (.reg false [
          { dst := some 21, k := .mv (.t 0) },
          { dst := some 22, k := .bs 1 [.c (.int .i64 (4)), .c (.int .i64 (-1)), .c (.int .i64 (1))] },
          { dst := some 23, k := .call 68 [(.t 21, .io [false, false, false]), (.t 22, .fz)] },
          { dst := some 24, k := .fa (.t 3) 1 },
          { dst := none, k := .st (.t 24) (.t 23) 1 3 }])
      (.seq (.reg false [
          { dst := some 26, k := .bin .eql (.t 13) (.c (.int .i64 (2))) },
          { dst := some 25, k := .mv (.t 26) }])
        (.cond (.t 25) (.reg false [
            { dst := some 27, k := .mv (.t 0) },
            { dst := some 28, k := .bs 1 [.c (.str []), .c (.str [88]), .c (.str [102]), .c (.str [97, 66])] },
            { dst := some 29, k := .call 67 [(.t 27, .io [false, false, false]), (.t 28, .fz)] },
            { dst := some 30, k := .fa (.t 3) 2 },
            { dst := none, k := .st (.t 30) (.t 29) 1 3 }])
        (.seq (.reg false [
            { dst := some 32, k := .bin .eql (.t 13) (.c (.int .i64 (3))) },
            { dst := some 31, k := .mv (.t 32) }])
          (.cond (.t 31) (.reg true [
              { dst := some 33, k := .fa (.t 3) 3 },
              { dst := some 34, k := .ld (.t 33) 1 false, vb := .only [3] },
              { dst := some 35, k := .call 69 [(.c (.int .i64 (1)), .fz)], vb := .but [3], vl := .but [3] },
              { dst := some 36, k := .bs 4 [.t 35] },
              { dst := some 37, k := .app (.t 34) (.t 36) 4 56 },
              { dst := some 38, k := .fa (.t 3) 3 },
              { dst := none, k := .st (.t 38) (.t 37) 1 3, vb := .only [3] }])
          (.seq (.reg false [
              { dst := some 40, k := .bin .eql (.t 13) (.c (.int .i64 (4))) },
              { dst := some 39, k := .mv (.t 40) }])
            (.cond (.t 39) (.seq (.reg false [
                { dst := some 4, k := .mv (.c (.int .i64 (0))) }])
              (.block 1 (.loop (.seq (.seq (.reg false [
                    { dst := some 41, k := .mv (.t 4) },
                    { dst := some 42, k := .bin .lss (.t 41) (.c (.int .i64 (16))) }])
                  (.cond (.t 42) (.skip)
                  (.exit 1)))
                  (.seq (.block 2 (.reg false [
                      { dst := some 45, k := .ld (.t 3) 4 true },
                      { dst := some 46, k := .call 70 [(.c (.str [103]), .fz), (.t 45, .fz)] },
                      { dst := none, k := .st (.t 3) (.t 46) 4 3 }]))
                  (.wk (.reg false [
                    { dst := some 43, k := .mv (.t 4) },
                    { dst := some 44, k := .bin .add (.t 43) (.c (.int .i64 (1))) },
                    { dst := some 4, k := .mv (.t 44) }])))))))
            (.skip))))))))))))))
  (.seq (.reg false [
    { dst := some 47, k := .ld (.t 3) 4 true },
    { dst := none, k := .st (.t 2) (.t 47) 4 2 }])
  (.ret)))))
theorem chk_spec_l3Bent : fnOK Try.prog 1 Try.f44 ac_spec_l3Bent [(.cell 2 4 true, .fz)] = true := by kernel_rfl
def wp_spec_l3Bent (p0 : T_spec_l1Cur) (post : (Tm × T_spec_l1Cur) → Prop) : Prop :=
  (∃ r1 : Int × T_spec_l1Cur, C_spec_l1Below p0 (4 : Int) r1 ∧ (∃ r3 : Bool × T_spec_l1Cur, C_spec_l1Once r1.2 (2 : Int) r3 ∧ (∃ r5 : Tm × T_spec_l1Cur, C_spec_l3Draw r3.2 (IntKind.i64.wrap ((1 : Int) + r1.1)) r3.1 r5 ∧ (∃ r7 : Int × T_spec_l1Cur, C_spec_l1Below r5.2 (12 : Int) r7 ∧ (((r7.1 == (0 : Int)) = true → (∃ r10 : Int × T_spec_l1Cur, C_spec_l1Below r7.2 (5 : Int) r10 ∧ post ((Tm.mk r10.1 (Tm.n r5.1) (Tm.name r5.1) (Tm.args r5.1)), r10.2))) ∧ ((r7.1 == (0 : Int)) = false → (((r7.1 == (1 : Int)) = true → (∃ r13 : Int × T_spec_l1Cur, C_spec_l1PickInt r7.2 ([(4 : Int), (-1 : Int), (1 : Int)] : List Int) r13 ∧ post ((Tm.mk (Tm.kind r5.1) r13.1 (Tm.name r5.1) (Tm.args r5.1)), r13.2))) ∧ ((r7.1 == (1 : Int)) = false → (((r7.1 == (2 : Int)) = true → (∃ r16 : Str × T_spec_l1Cur, C_spec_l1Pick r7.2 ([([] : Str), ([88] : Str), ([102] : Str), ([97, 66] : Str)] : List Str) r16 ∧ post ((Tm.mk (Tm.kind r5.1) (Tm.n r5.1) r16.1 (Tm.args r5.1)), r16.2))) ∧ ((r7.1 == (2 : Int)) = false → (((r7.1 == (3 : Int)) = true → (∃ r19 : Tm, C_spec_l3Word (1 : Int) r19 ∧ ((List.length (Tm.args r5.1) + List.length ([r19] : List Tm)) * 56 ≤ 140737488355328 ∧ post ((Tm.mk (Tm.kind r5.1) (Tm.n r5.1) (Tm.name r5.1) ((Tm.args r5.1) ++ ([r19] : List Tm))), r7.2)))) ∧ ((r7.1 == (3 : Int)) = false → (((r7.1 == (4 : Int)) = true → LOOP (fun (N33 : (Int × Tm) → Prop) (s23 : Int × Tm) => (((decide (s23.1 < (16 : Int))) = true → (∃ r38 : Tm, C_spec_l3One ([103] : Str) s23.2 r38 ∧ N33 ((IntKind.i64.wrap (s23.1 + (1 : Int))), r38))) ∧ ((decide (s23.1 < (16 : Int))) = false → post (s23.2, r7.2)))) ((0 : Int), r5.1)) ∧ ((r7.1 == (4 : Int)) = false → post (r5.1, r7.2)))))))))))))))
theorem w_spec_l3Bent (p0 : T_spec_l1Cur) (post : (Tm × T_spec_l1Cur) → Prop) (h : wp_spec_l3Bent p0 post) : ∃ r, post r ∧ C_spec_l3Bent p0 r := by
  unfold wp_spec_l3Bent at h
  refine evs_of (encR := fun r : Tm × T_spec_l1Cur => .one (.l (.fz (.agg (Tm.cells r.1))))) (encO := fun r => [.ptr [.fz (.slice (e_u8 (T_spec_l1Cur.b r.2))), .fz (.int .i64 (T_spec_l1Cur.i r.2)), .fz (.int .i64 (T_spec_l1Cur.h r.2))]]) 1 [(.cell 2 4 true, .fz)] [.io [false, false, false]] Try.func44 chk_spec_l3Bent rfl rfl [(0, .ptr 0 0)] [(0, [pL (e_u8 (T_spec_l1Cur.b p0)), pI (T_spec_l1Cur.i p0), pI (T_spec_l1Cur.h p0)])] [] rfl ?_
  refine aw_seq (s_reg ?_)
  refine s_run 1 [(2, .ptr 2 0)] [(2, [pI (0 : Int), pI (0 : Int), pS ([] : Str), pL (Tm.encL ([] : List Tm))])] [] rfl ?_
  refine seq_n (aw_seq (s_reg ?_))
  refine s_run 2 [(6, .ptr 0 0), (5, .ptr 0 0)] [] [] rfl ?_
  obtain ⟨r1, k2, h⟩ := h
  refine s_call (pI r1.1) [(0, [pL (e_u8 (T_spec_l1Cur.b r1.2)), pI (T_spec_l1Cur.i r1.2), pI (T_spec_l1Cur.h r1.2)])] [] rfl k2 rfl ?_
  refine s_run 2 [(9, .ptr 0 0), (8, pI (IntKind.i64.wrap ((1 : Int) + r1.1)))] [] [] rfl ?_
  obtain ⟨r3, k4, h⟩ := h
  refine s_call (pB r3.1) [(0, [pL (e_u8 (T_spec_l1Cur.b r3.2)), pI (T_spec_l1Cur.i r3.2), pI (T_spec_l1Cur.h r3.2)])] [] rfl k4 rfl ?_
  obtain ⟨r5, k6, h⟩ := h
  refine s_call (.agg [pI (Tm.kind r5.1), pI (Tm.n r5.1), pS (Tm.name r5.1), .tip (2, 11, 3) (0) (Tm.encL (Tm.args r5.1))]) [(0, [pL (e_u8 (T_spec_l1Cur.b r5.2)), pI (T_spec_l1Cur.i r5.2), pI (T_spec_l1Cur.h r5.2)])] [((2, 11, 3), 0, .tip (Tm.encL (Tm.args r5.1)).length 4)] (args_one rfl (args_one rfl (args_one rfl (args_nil)))) k6 rfl ?_
  refine s_run 2 [(3, .ptr 3 0)] [(3, [pI (Tm.kind r5.1), pI (Tm.n r5.1), pS (Tm.name r5.1), .tip (2, 11, 3) (0) (Tm.encL (Tm.args r5.1))]), (3, [pI (0 : Int), pI (0 : Int), pS ([] : Str), .tip (1, 3, 3) (0) (Tm.encL ([] : List Tm))])] [((1, 3, 3), 0, .tip (Tm.encL ([] : List Tm)).length 4)] rfl ?_
  refine seq_n (aw_wk (St [(0, .ptr 0 0), (2, .ptr 2 0), (3, .ptr 3 0)] [(0, [pL (e_u8 (T_spec_l1Cur.b r5.2)), pI (T_spec_l1Cur.i r5.2), pI (T_spec_l1Cur.h r5.2)]), (2, [pI (0 : Int), pI (0 : Int), pS ([] : Str), pL (Tm.encL ([] : List Tm))]), (3, [pI (Tm.kind r5.1), pI (Tm.n r5.1), pS (Tm.name r5.1), .tip (2, 11, 3) (0) (Tm.encL (Tm.args r5.1))])] [((2, 11, 3), 0, .tip (Tm.encL (Tm.args r5.1)).length 4)]) (wk_St ⟨le_rfl _, le_rfl _, le_rfl _, trivial⟩ ⟨box_rfl rfl, box_rfl rfl, box_rfl rfl, trivial⟩ ⟨rfl, trivial⟩ rfl ⟨rfl, trivial⟩ ⟨rfl, trivial⟩) ?_)
  refine aw_seq (aw_seq (s_reg ?_))
  refine s_run 1 [(12, .ptr 0 0)] [] [] rfl ?_
  obtain ⟨r7, k8, h⟩ := h
  refine s_call (pI r7.1) [(0, [pL (e_u8 (T_spec_l1Cur.b r7.2)), pI (T_spec_l1Cur.i r7.2), pI (T_spec_l1Cur.h r7.2)])] [] rfl k8 rfl ?_
  refine seq_n (aw_wk (St [(0, .ptr 0 0), (2, .ptr 2 0), (3, .ptr 3 0), (13, pI r7.1)] [(0, [pL (e_u8 (T_spec_l1Cur.b r7.2)), pI (T_spec_l1Cur.i r7.2), pI (T_spec_l1Cur.h r7.2)]), (2, [pI (0 : Int), pI (0 : Int), pS ([] : Str), pL (Tm.encL ([] : List Tm))]), (3, [pI (Tm.kind r5.1), pI (Tm.n r5.1), pS (Tm.name r5.1), .tip (2, 11, 3) (0) (Tm.encL (Tm.args r5.1))])] [((2, 11, 3), 0, .tip (Tm.encL (Tm.args r5.1)).length 4)]) (wk_St ⟨le_rfl _, le_rfl _, le_rfl _, le_rfl _, trivial⟩ ⟨box_rfl rfl, box_rfl rfl, box_rfl rfl, trivial⟩ ⟨rfl, trivial⟩ rfl ⟨rfl, trivial⟩ ⟨rfl, trivial⟩) ?_)
  refine aw_blk (aw_seq (s_reg ?_))
  refine s_run 2 [(14, pB (r7.1 == (0 : Int))), (15, pB (r7.1 == (0 : Int)))] [] [] rfl ?_
  refine seq_n (s_if rfl (fun c9 => ?_) (fun c9 => ?_))
  · have h := h.1 c9
    refine s_reg ?_
    refine s_run 1 [(16, .ptr 0 0)] [] [] rfl ?_
    obtain ⟨r10, k11, h⟩ := h
    refine s_call (pI r10.1) [(0, [pL (e_u8 (T_spec_l1Cur.b r10.2)), pI (T_spec_l1Cur.i r10.2), pI (T_spec_l1Cur.h r10.2)])] [] rfl k11 rfl ?_
    refine s_run 2 [(18, .ptr 3 0)] [(3, [pI r10.1, pI (Tm.n r5.1), pS (Tm.name r5.1), .tip (2, 11, 3) (0) (Tm.encL (Tm.args r5.1))])] [] rfl ?_
    refine blk_n (seq_n (aw_seq (s_reg ?_)))
    refine s_run 2 [(47, .agg [pI r10.1, pI (Tm.n r5.1), pS (Tm.name r5.1), .tip (2, 11, 3) (0) (Tm.encL (Tm.args r5.1))])] [(2, [pI r10.1, pI (Tm.n r5.1), pS (Tm.name r5.1), .tip (2, 11, 3) (0) (Tm.encL (Tm.args r5.1))])] [] rfl ?_
    refine seq_n (aw_ret ?_)
    exact endp_ret _ h rfl
  · have h := h.2 c9
    refine aw_seq (s_reg ?_)
    refine s_run 2 [(19, pB (r7.1 == (1 : Int))), (20, pB (r7.1 == (1 : Int)))] [] [] rfl ?_
    refine seq_n (s_if rfl (fun c12 => ?_) (fun c12 => ?_))
    · have h := h.1 c12
      refine s_reg ?_
      refine s_run 1 [(21, .ptr 0 0)] [] [] rfl ?_
      refine s_bs rfl rfl (enc_cons (e := e_i64) (4 : Int) (enc_cons (e := e_i64) (-1 : Int) (enc_cons (e := e_i64) (1 : Int) (enc_nil (e := e_i64))))) ?_
      obtain ⟨r13, k14, h⟩ := h
      refine s_call (pI r13.1) [(0, [pL (e_u8 (T_spec_l1Cur.b r13.2)), pI (T_spec_l1Cur.i r13.2), pI (T_spec_l1Cur.h r13.2)])] [] rfl k14 rfl ?_
      refine s_run 2 [(24, .ptr 3 1)] [(3, [pI (Tm.kind r5.1), pI r13.1, pS (Tm.name r5.1), .tip (2, 11, 3) (0) (Tm.encL (Tm.args r5.1))])] [] rfl ?_
      refine blk_n (seq_n (aw_seq (s_reg ?_)))
      refine s_run 2 [(47, .agg [pI (Tm.kind r5.1), pI r13.1, pS (Tm.name r5.1), .tip (2, 11, 3) (0) (Tm.encL (Tm.args r5.1))])] [(2, [pI (Tm.kind r5.1), pI r13.1, pS (Tm.name r5.1), .tip (2, 11, 3) (0) (Tm.encL (Tm.args r5.1))])] [] rfl ?_
      refine seq_n (aw_ret ?_)
      exact endp_ret _ h rfl
    · have h := h.2 c12
      refine aw_seq (s_reg ?_)
      refine s_run 2 [(25, pB (r7.1 == (2 : Int))), (26, pB (r7.1 == (2 : Int)))] [] [] rfl ?_
      refine seq_n (s_if rfl (fun c15 => ?_) (fun c15 => ?_))
      · have h := h.1 c15
        refine s_reg ?_
        refine s_run 1 [(27, .ptr 0 0)] [] [] rfl ?_
        refine s_bs rfl rfl (enc_cons (e := e_str) ([] : Str) (enc_cons (e := e_str) ([88] : Str) (enc_cons (e := e_str) ([102] : Str) (enc_cons (e := e_str) ([97, 66] : Str) (enc_nil (e := e_str)))))) ?_
        obtain ⟨r16, k17, h⟩ := h
        refine s_call (pS r16.1) [(0, [pL (e_u8 (T_spec_l1Cur.b r16.2)), pI (T_spec_l1Cur.i r16.2), pI (T_spec_l1Cur.h r16.2)])] [] rfl k17 rfl ?_
        refine s_run 2 [(30, .ptr 3 2)] [(3, [pI (Tm.kind r5.1), pI (Tm.n r5.1), pS r16.1, .tip (2, 11, 3) (0) (Tm.encL (Tm.args r5.1))])] [] rfl ?_
        refine blk_n (seq_n (aw_seq (s_reg ?_)))
        refine s_run 2 [(47, .agg [pI (Tm.kind r5.1), pI (Tm.n r5.1), pS r16.1, .tip (2, 11, 3) (0) (Tm.encL (Tm.args r5.1))])] [(2, [pI (Tm.kind r5.1), pI (Tm.n r5.1), pS r16.1, .tip (2, 11, 3) (0) (Tm.encL (Tm.args r5.1))])] [] rfl ?_
        refine seq_n (aw_ret ?_)
        exact endp_ret _ h rfl
      · have h := h.2 c15
        refine aw_seq (s_reg ?_)
        refine s_run 2 [(31, pB (r7.1 == (3 : Int))), (32, pB (r7.1 == (3 : Int)))] [] [] rfl ?_
        refine seq_n (s_if rfl (fun c18 => ?_) (fun c18 => ?_))
        · have h := h.1 c18
          refine s_reg ?_
          refine s_run 2 [(34, .tip (2, 11, 3) (0) (Tm.encL (Tm.args r5.1))), (33, .ptr 3 3)] [] [] rfl ?_
          obtain ⟨r19, k20, h⟩ := h
          refine s_call (.agg [pI (Tm.kind r19), pI (Tm.n r19), pS (Tm.name r19), .tip (2, 35, 3) (0) (Tm.encL (Tm.args r19))]) [] [((2, 35, 3), 0, .tip (Tm.encL (Tm.args r19)).length 4)] (args_one rfl (args_nil)) k20 rfl ?_
          refine s_bs rfl rfl (enc_cons (e := Tm.encL) r19 (enc_nil (e := Tm.encL))) ?_
          obtain ⟨g21, h⟩ := h
          refine s_app rfl rfl rfl (enc_sz (e := Tm.encL) _) (enc_len (e := Tm.encL) _) (enc_len (e := Tm.encL) _) g21 (enc_app (e := Tm.encL) _ _) ?_
          refine s_run 2 [(38, .ptr 3 3)] [(3, [pI (Tm.kind r5.1), pI (Tm.n r5.1), pS (Tm.name r5.1), .tip (2, 11, 3) (0) (Tm.encL ((Tm.args r5.1) ++ ([r19] : List Tm)))])] [] rfl ?_
          refine blk_n (seq_n (aw_seq (s_reg ?_)))
          refine s_run 2 [(47, .agg [pI (Tm.kind r5.1), pI (Tm.n r5.1), pS (Tm.name r5.1), .tip (2, 11, 3) (0) (Tm.encL ((Tm.args r5.1) ++ ([r19] : List Tm)))])] [(2, [pI (Tm.kind r5.1), pI (Tm.n r5.1), pS (Tm.name r5.1), .tip (2, 11, 3) (0) (Tm.encL ((Tm.args r5.1) ++ ([r19] : List Tm)))])] [] rfl ?_
          refine seq_n (aw_ret ?_)
          exact endp_ret _ h rfl
        · have h := h.2 c18
          refine aw_seq (s_reg ?_)
          refine s_run 2 [(39, pB (r7.1 == (4 : Int))), (40, pB (r7.1 == (4 : Int)))] [] [] rfl ?_
          refine seq_n (s_if rfl (fun c22 => ?_) (fun c22 => ?_))
          · have h := h.1 c22
            refine aw_seq (s_reg ?_)
            refine s_run 1 [(4, pI (0 : Int))] [] [] rfl ?_
            refine seq_n (aw_blk ?_)
            obtain ⟨I35, m36, h0, h⟩ := h
            refine aw_loop' (ι := { y : Int × Tm // I35 y }) (fun x34 => St [(2, .ptr 2 0), (3, .ptr 3 0), (4, pI x34.1.1)] [(0, [pL (e_u8 (T_spec_l1Cur.b r7.2)), pI (T_spec_l1Cur.i r7.2), pI (T_spec_l1Cur.h r7.2)]), (2, [pI (0 : Int), pI (0 : Int), pS ([] : Str), pL (Tm.encL ([] : List Tm))]), (3, [pI (Tm.kind x34.1.2), pI (Tm.n x34.1.2), pS (Tm.name x34.1.2), pL (Tm.encL (Tm.args x34.1.2))])] []) (fun x34 => m36 x34.1) ⟨_, h0⟩ ?_ ?_
            · exact wk_St ⟨le_rfl _, le_rfl _, le_rfl _, trivial⟩ ⟨box_rfl rfl, box_rfl rfl, box_le rfl ⟨le_rfl _, le_rfl _, le_rfl _, le_fz rfl, trivial⟩, trivial⟩ trivial rfl ⟨rfl, trivial⟩ ⟨rfl, trivial⟩
            · rintro ⟨s23, hs23⟩
              replace h := h s23 hs23
              refine aw_seq (aw_seq (s_reg ?_))
              refine s_run 2 [(42, pB (decide (s23.1 < (16 : Int)))), (41, pI s23.1)] [] [] rfl ?_
              refine seq_n (s_if rfl (fun c37 => ?_) (fun c37 => ?_))
              · have h := h.1 c37
                refine aw_skip (seq_n (aw_seq (aw_blk (s_reg ?_))))
                refine s_run 1 [(45, .agg [pI (Tm.kind s23.2), pI (Tm.n s23.2), pS (Tm.name s23.2), pL (Tm.encL (Tm.args s23.2))])] [] [] rfl ?_
                obtain ⟨r38, k39, h⟩ := h
                refine s_call (.agg [pI (Tm.kind r38), pI (Tm.n r38), pS (Tm.name r38), .tip (2, 46, 3) (0) (Tm.encL (Tm.args r38))]) [] [((2, 46, 3), 0, .tip (Tm.encL (Tm.args r38)).length 4)] (args_one rfl (args_one rfl (args_nil))) k39 rfl ?_
                refine s_run 1 [] [(3, [pI (Tm.kind r38), pI (Tm.n r38), pS (Tm.name r38), .tip (2, 46, 3) (0) (Tm.encL (Tm.args r38))])] [] rfl ?_
                refine blk_n (seq_n (aw_wk (St [(2, .ptr 2 0), (3, .ptr 3 0), (4, pI s23.1)] [(0, [pL (e_u8 (T_spec_l1Cur.b r7.2)), pI (T_spec_l1Cur.i r7.2), pI (T_spec_l1Cur.h r7.2)]), (2, [pI (0 : Int), pI (0 : Int), pS ([] : Str), pL (Tm.encL ([] : List Tm))]), (3, [pI (Tm.kind r38), pI (Tm.n r38), pS (Tm.name r38), .tip (2, 46, 3) (0) (Tm.encL (Tm.args r38))])] [((2, 46, 3), 0, .tip (Tm.encL (Tm.args r38)).length 4)]) (wk_St ⟨le_rfl _, le_rfl _, le_rfl _, trivial⟩ ⟨box_rfl rfl, box_rfl rfl, box_rfl rfl, trivial⟩ ⟨rfl, trivial⟩ rfl ⟨rfl, trivial⟩ ⟨rfl, trivial⟩) ?_))
                refine s_reg ?_
                refine s_run 3 [(4, pI (IntKind.i64.wrap (s23.1 + (1 : Int)))), (44, pI (IntKind.i64.wrap (s23.1 + (1 : Int)))), (43, pI s23.1)] [] [] rfl ?_
                exact loop_n ⟨_, h.1⟩ h.2 (wk_St ⟨le_rfl _, le_rfl _, le_rfl _, trivial⟩ ⟨box_rfl rfl, box_rfl rfl, box_le rfl ⟨le_rfl _, le_rfl _, le_rfl _, le_fz rfl, trivial⟩, trivial⟩ trivial rfl ⟨rfl, trivial⟩ ⟨rfl, trivial⟩)
              · have h := h.2 c37
                refine aw_exit (seq_x (loop_x (blk_x (blk_n (seq_n (aw_seq (s_reg ?_)))))))
                refine s_run 2 [(47, .agg [pI (Tm.kind s23.2), pI (Tm.n s23.2), pS (Tm.name s23.2), pL (Tm.encL (Tm.args s23.2))])] [(2, [pI (Tm.kind s23.2), pI (Tm.n s23.2), pS (Tm.name s23.2), pL (Tm.encL (Tm.args s23.2))])] [] rfl ?_
                refine seq_n (aw_ret ?_)
                exact endp_ret _ h rfl
          · have h := h.2 c22
            refine aw_skip (blk_n (seq_n (aw_seq (s_reg ?_))))
            refine s_run 2 [(47, .agg [pI (Tm.kind r5.1), pI (Tm.n r5.1), pS (Tm.name r5.1), .tip (2, 11, 3) (0) (Tm.encL (Tm.args r5.1))])] [(2, [pI (Tm.kind r5.1), pI (Tm.n r5.1), pS (Tm.name r5.1), .tip (2, 11, 3) (0) (Tm.encL (Tm.args r5.1))])] [] rfl ?_
            refine seq_n (aw_ret ?_)
            exact endp_ret _ h rfl


def ac_impl_ComposeSubst : AC :=
  .seq (.reg false [
    { dst := some 4, k := .mv (.c (.slice [])) }])
  (.seq (.reg false [
    { dst := some 5, k := .asg (.nl 5) }])
  (.seq (.seq (.reg false [
    { dst := some 12, k := .mv (.t 0) },
    { dst := some 13, k := .len (.t 12) },
    { dst := some 14, k := .mv (.c (.int .i64 (0))) }])
  (.block 0 (.loop (.seq (.reg false [
        { dst := some 15, k := .bin .lss (.t 14) (.t 13) }])
      (.seq (.cond (.t 15) (.skip)
      (.exit 0))
      (.seq (.block 1 (.seq (.reg false [
          { dst := some 16, k := .ia (.t 12) (.t 14) 5 },
          { dst := some 17, k := .ld (.t 16) 5 true },
          { dst := some 7, k := .al [.p (.str []), .p (.int .i64 0), .p (.int .i64 0), .p (.str []), .p (.slice [])] },
          { dst := none, k := .st (.t 7) (.t 17) 5 7 }])
        (.wk (.reg true [
          { dst := some 18, k := .mv (.t 5) },
          { dst := some 19, k := .fa (.t 7) 0 },
          { dst := some 20, k := .ld (.t 19) 1 false, vb := .only [7] },
          { dst := some 21, k := .mv (.t 1) },
          { dst := some 22, k := .fa (.t 7) 1 },
          { dst := some 23, k := .ld (.t 22) 4 true, vb := .only [7] },
          { dst := some 24, k := .call 14 [(.t 21, .fz), (.t 23, .fz)], vb := .but [7], vl := .but [7] },
          { dst := some 25, k := .bd [.p (.str []), .p (.int .i64 0), .p (.int .i64 0), .p (.str []), .p (.slice [])] [(0, 1, .t 20), (1, 4, .t 24)] },
          { dst := some 26, k := .bs 5 [.t 25] },
          { dst := some 27, k := .app (.t 18) (.t 26) 5 72 },
          { dst := some 5, k := .mv (.t 27) }]))))
      (.reg false [
        { dst := some 28, k := .bin .add (.t 14) (.c (.int .i64 (1))) },
        { dst := some 14, k := .mv (.t 28) }])))))))
  (.wk (.seq (.seq (.reg false [
    { dst := some 29, k := .mv (.t 1) },
    { dst := some 30, k := .len (.t 29) },
    { dst := some 31, k := .mv (.c (.int .i64 (0))) }])
  (.block 2 (.loop (.seq (.reg false [
        { dst := some 32, k := .bin .lss (.t 31) (.t 30) }])
      (.seq (.cond (.t 32) (.skip)
      (.exit 2))
      (.seq (.block 3 (.seq (.reg false [
          { dst := some 33, k := .ia (.t 29) (.t 31) 5 },
          { dst := some 34, k := .ld (.t 33) 5 true },
          { dst := some 9, k := .al [.p (.str []), .p (.int .i64 0), .p (.int .i64 0), .p (.str []), .p (.slice [])] },
          { dst := none, k := .st (.t 9) (.t 34) 5 9 }])
        (.wk (.seq (.reg false [
          { dst := some 36, k := .mv (.t 0) },
          { dst := some 37, k := .fa (.t 9) 0 },
          { dst := some 38, k := .ld (.t 37) 1 false },
          { dst := some 39, k := .call 41 [(.t 36, .fz), (.t 38, .fz)] },
          { dst := some 35, k := .mv (.t 39) },
          { dst := some 40, k := .ex (.t 35) 0 },
          { dst := some 41, k := .ex (.t 35) 1 },
          { dst := some 10, k := .al [.p (.int .i64 0), .p (.int .i64 0), .p (.str []), .p (.slice [])] },
          { dst := none, k := .st (.t 10) (.t 40) 4 10 },
          { dst := some 11, k := .mv (.t 41) }])
        (.wk (.seq (.reg false [
          { dst := some 42, k := .mv (.t 11) },
          { dst := some 43, k := .un .not (.t 42) }])
        (.cond (.t 43) (.reg false [
            { dst := some 44, k := .mv (.t 5) },
            { dst := some 45, k := .ld (.t 9) 5 true },
            { dst := some 46, k := .call 45 [(.t 45, .fz)] },
            { dst := some 47, k := .bs 5 [.t 46] },
            { dst := some 48, k := .app (.t 44) (.t 47) 5 72 },
            { dst := some 5, k := .mv (.t 48) }])
        (.skip))))))))
      (.reg false [
        { dst := some 49, k := .bin .add (.t 31) (.c (.int .i64 (1))) },
        { dst := some 31, k := .mv (.t 49) }])))))))
  (.seq (.reg false [
    { dst := some 50, k := .mv (.t 5) },
    { dst := some 4, k := .mv (.t 50) }])
  (.ret))))))
theorem chk_impl_ComposeSubst : fnOK Try.prog 2 Try.f19 ac_impl_ComposeSubst [(.tmp 4, .fz)] = true := by kernel_rfl
def wp_impl_ComposeSubst (p0 : (List Bd)) (p1 : (List Bd)) (post : (List Bd) → Prop) : Prop :=
  LOOP (fun (N14 : (Int × (List Bd)) → Prop) (s1 : Int × (List Bd)) => (((decide (s1.1 < ((List.length p0 : Nat) : Int))) = true → (∃ u19, GETI p0 s1.1 u19 ∧ (∃ r21 : Tm, C_impl_ApplySubst p1 (Bd.term u19) r21 ∧ ((List.length s1.2 + List.length ([(Bd.mk (Bd.name u19) r21)] : List Bd)) * 72 ≤ 140737488355328 ∧ N14 ((IntKind.i64.wrap (s1.1 + (1 : Int))), (s1.2 ++ ([(Bd.mk (Bd.name u19) r21)] : List Bd))))))) ∧ ((decide (s1.1 < ((List.length p0 : Nat) : Int))) = false → LOOP (fun (N43 : (Int × (List Bd)) → Prop) (s24 : Int × (List Bd)) => (((decide (s24.1 < ((List.length p1 : Nat) : Int))) = true → (∃ u48, GETI p1 s24.1 u48 ∧ (∃ r50 : Tm × Bool, C_impl_bound p0 (Bd.name u48) r50 ∧ (((!r50.2) = true → (∃ r53 : Bd, C_impl_copyBind u48 r53 ∧ ((List.length s24.2 + List.length ([r53] : List Bd)) * 72 ≤ 140737488355328 ∧ N43 ((IntKind.i64.wrap (s24.1 + (1 : Int))), (s24.2 ++ ([r53] : List Bd)))))) ∧ ((!r50.2) = false → N43 ((IntKind.i64.wrap (s24.1 + (1 : Int))), s24.2)))))) ∧ ((decide (s24.1 < ((List.length p1 : Nat) : Int))) = false → post s24.2))) ((0 : Int), s1.2)))) ((0 : Int), ([] : List Bd))
theorem w_impl_ComposeSubst (p0 : (List Bd)) (p1 : (List Bd)) (post : (List Bd) → Prop) (h : wp_impl_ComposeSubst p0 p1 post) : ∃ r, post r ∧ C_impl_ComposeSubst p0 p1 r := by
  unfold wp_impl_ComposeSubst at h
  refine evs_of (encR := fun r : (List Bd) => .one (.l (.fz (.slice (e_Bd r))))) (encO := fun r => []) 2 [(.tmp 4, .fz)] [.fz, .fz] Try.func19 chk_impl_ComposeSubst rfl rfl [(1, pL (e_Bd p1)), (0, pL (e_Bd p0))] [] [] rfl ?_
  refine aw_seq (s_reg ?_)
  refine s_run 1 [(4, pL (e_Bd ([] : List Bd)))] [] [] rfl ?_
  refine seq_n (aw_seq (s_reg ?_))
  refine s_run 1 [(5, .tip (0, 5, 0) (0) (e_Bd ([] : List Bd)))] [] [((0, 5, 0), 0, .tip (e_Bd ([] : List Bd)).length 5)] rfl ?_
  refine seq_n (aw_seq (aw_seq (s_reg ?_)))
  refine s_run 1 [(12, pL (e_Bd p0))] [] [] rfl ?_
  refine s_len rfl (enc_len (e := e_Bd) _) ?_
  refine s_run 1 [(14, pI (0 : Int))] [] [] rfl ?_
  refine seq_n (aw_blk ?_)
  obtain ⟨I16, m17, h0, h⟩ := h
  refine aw_loop' (ι := { y : Int × (List Bd) // I16 y }) (fun x15 => St [(0, pL (e_Bd p0)), (1, pL (e_Bd p1)), (5, .tip (0, 5, 0) (0) (e_Bd x15.1.2)), (12, pL (e_Bd p0)), (13, pI ((List.length p0 : Nat) : Int)), (14, pI x15.1.1)] [] [((0, 5, 0), 0, .tip (e_Bd x15.1.2).length 5)]) (fun x15 => m17 x15.1) ⟨_, h0⟩ ?_ ?_
  · exact wk_St ⟨le_rfl _, le_rfl _, le_rfl _, le_rfl _, le_rfl _, le_rfl _, trivial⟩ trivial ⟨rfl, trivial⟩ rfl ⟨rfl, rfl, trivial⟩ ⟨rfl, rfl, trivial⟩
  · rintro ⟨s1, hs1⟩
    replace h := h s1 hs1
    refine aw_seq (s_reg ?_)
    refine s_run 1 [(15, pB (decide (s1.1 < ((List.length p0 : Nat) : Int))))] [] [] rfl ?_
    refine seq_n (aw_seq (s_if rfl (fun c18 => ?_) (fun c18 => ?_)))
    · have h := h.1 c18
      refine aw_skip (seq_n (aw_seq (aw_blk (aw_seq (s_reg ?_)))))
      obtain ⟨u19, ⟨g20a, g20b⟩, h⟩ := h
      refine s_ia rfl rfl g20a (enc_get (e := e_Bd) g20b) rfl ?_
      refine s_run 3 [(7, .ptr 7 0), (17, .p (.agg (Bd.cells u19)))] [(7, [pS (Bd.name u19), pI (Tm.kind (Bd.term u19)), pI (Tm.n (Bd.term u19)), pS (Tm.name (Bd.term u19)), pL (Tm.encL (Tm.args (Bd.term u19)))]), (7, [pS ([] : Str), pI (0 : Int), pI (0 : Int), pS ([] : Str), pL (Tm.encL ([] : List Tm))])] [] rfl ?_
      refine seq_n (aw_wk (St [(0, pL (e_Bd p0)), (1, pL (e_Bd p1)), (5, .tip (0, 5, 0) (0) (e_Bd s1.2)), (7, .ptr 7 0), (12, pL (e_Bd p0)), (13, pI ((List.length p0 : Nat) : Int)), (14, pI s1.1)] [(7, [pS (Bd.name u19), pI (Tm.kind (Bd.term u19)), pI (Tm.n (Bd.term u19)), pS (Tm.name (Bd.term u19)), pL (Tm.encL (Tm.args (Bd.term u19)))])] [((0, 5, 0), 0, .tip (e_Bd s1.2).length 5)]) (wk_St ⟨le_rfl _, le_rfl _, le_rfl _, le_rfl _, le_rfl _, le_rfl _, le_rfl _, trivial⟩ ⟨box_rfl rfl, trivial⟩ ⟨rfl, trivial⟩ rfl ⟨rfl, rfl, trivial⟩ ⟨rfl, rfl, trivial⟩) ?_)
      refine s_reg ?_
      refine s_run 6 [(23, .agg [pI (Tm.kind (Bd.term u19)), pI (Tm.n (Bd.term u19)), pS (Tm.name (Bd.term u19)), pL (Tm.encL (Tm.args (Bd.term u19)))]), (22, .ptr 7 1), (21, pL (e_Bd p1)), (20, pS (Bd.name u19)), (19, .ptr 7 0), (18, .tip (0, 5, 0) (0) (e_Bd s1.2))] [] [] rfl ?_
      obtain ⟨r21, k22, h⟩ := h
      refine s_call (.p (.agg (Tm.cells r21))) [] [] rfl k22 rfl ?_
      refine s_run 1 [(25, .agg [pS (Bd.name u19), pI (Tm.kind r21), pI (Tm.n r21), pS (Tm.name r21), pL (Tm.encL (Tm.args r21))])] [] [] rfl ?_
      refine s_bs rfl rfl (enc_cons (e := e_Bd) (Bd.mk (Bd.name u19) r21) (enc_nil (e := e_Bd))) ?_
      obtain ⟨g23, h⟩ := h
      refine s_app rfl rfl rfl (enc_sz (e := e_Bd) _) (enc_len (e := e_Bd) _) (enc_len (e := e_Bd) _) g23 (enc_app (e := e_Bd) _ _) ?_
      refine s_run 1 [(5, .tip (0, 5, 0) (0) (e_Bd (s1.2 ++ ([(Bd.mk (Bd.name u19) r21)] : List Bd))))] [] [] rfl ?_
      refine blk_n (seq_n (s_reg ?_))
      refine s_run 2 [(14, pI (IntKind.i64.wrap (s1.1 + (1 : Int)))), (28, pI (IntKind.i64.wrap (s1.1 + (1 : Int))))] [] [] rfl ?_
      exact loop_n ⟨_, h.1⟩ h.2 (wk_St ⟨le_rfl _, le_rfl _, le_rfl _, le_rfl _, le_rfl _, le_rfl _, trivial⟩ trivial ⟨rfl, trivial⟩ rfl ⟨rfl, rfl, trivial⟩ ⟨rfl, rfl, trivial⟩)
    · have h := h.2 c18
      refine aw_exit (seq_x (loop_x (blk_x (seq_n (aw_wk (St [(0, pL (e_Bd p0)), (1, pL (e_Bd p1)), (5, .tip (0, 5, 0) (0) (e_Bd s1.2))] [] [((0, 5, 0), 0, .tip (e_Bd s1.2).length 5)]) (wk_St ⟨le_rfl _, le_rfl _, le_rfl _, trivial⟩ trivial ⟨rfl, trivial⟩ rfl ⟨rfl, rfl, trivial⟩ ⟨rfl, rfl, trivial⟩) ?_)))))
      refine aw_seq (aw_seq (s_reg ?_))
      refine s_run 1 [(29, pL (e_Bd p1))] [] [] rfl ?_
      refine s_len rfl (enc_len (e := e_Bd) _) ?_
      refine s_run 1 [(31, pI (0 : Int))] [] [] rfl ?_
      refine seq_n (aw_blk ?_)
      obtain ⟨I45, m46, h0, h⟩ := h
      refine aw_loop' (ι := { y : Int × (List Bd) // I45 y }) (fun x44 => St [(0, pL (e_Bd p0)), (5, .tip (0, 5, 0) (0) (e_Bd x44.1.2)), (29, pL (e_Bd p1)), (30, pI ((List.length p1 : Nat) : Int)), (31, pI x44.1.1)] [] [((0, 5, 0), 0, .tip (e_Bd x44.1.2).length 5)]) (fun x44 => m46 x44.1) ⟨_, h0⟩ ?_ ?_
      · exact wk_St ⟨le_rfl _, le_rfl _, le_rfl _, le_rfl _, le_rfl _, trivial⟩ trivial ⟨rfl, trivial⟩ rfl ⟨rfl, rfl, trivial⟩ ⟨rfl, rfl, trivial⟩
      · rintro ⟨s24, hs24⟩
        replace h := h s24 hs24
        refine aw_seq (s_reg ?_)
        refine s_run 1 [(32, pB (decide (s24.1 < ((List.length p1 : Nat) : Int))))] [] [] rfl ?_
        refine seq_n (aw_seq (s_if rfl (fun c47 => ?_) (fun c47 => ?_)))
        · have h := h.1 c47
          refine aw_skip (seq_n (aw_seq (aw_blk (aw_seq (s_reg ?_)))))
          obtain ⟨u48, ⟨g49a, g49b⟩, h⟩ := h
          refine s_ia rfl rfl g49a (enc_get (e := e_Bd) g49b) rfl ?_
          refine s_run 3 [(9, .ptr 9 0), (34, .p (.agg (Bd.cells u48)))] [(9, [pS (Bd.name u48), pI (Tm.kind (Bd.term u48)), pI (Tm.n (Bd.term u48)), pS (Tm.name (Bd.term u48)), pL (Tm.encL (Tm.args (Bd.term u48)))]), (9, [pS ([] : Str), pI (0 : Int), pI (0 : Int), pS ([] : Str), pL (Tm.encL ([] : List Tm))])] [] rfl ?_
          refine seq_n (aw_wk (St [(0, pL (e_Bd p0)), (5, .tip (0, 5, 0) (0) (e_Bd s24.2)), (9, .ptr 9 0), (29, pL (e_Bd p1)), (30, pI ((List.length p1 : Nat) : Int)), (31, pI s24.1)] [(9, [pS (Bd.name u48), pI (Tm.kind (Bd.term u48)), pI (Tm.n (Bd.term u48)), pS (Tm.name (Bd.term u48)), pL (Tm.encL (Tm.args (Bd.term u48)))])] [((0, 5, 0), 0, .tip (e_Bd s24.2).length 5)]) (wk_St ⟨le_rfl _, le_rfl _, le_rfl _, le_rfl _, le_rfl _, le_rfl _, trivial⟩ ⟨box_rfl rfl, trivial⟩ ⟨rfl, trivial⟩ rfl ⟨rfl, rfl, trivial⟩ ⟨rfl, rfl, trivial⟩) ?_)
          refine aw_seq (s_reg ?_)
          refine s_run 3 [(38, pS (Bd.name u48)), (37, .ptr 9 0), (36, pL (e_Bd p0))] [] [] rfl ?_
          obtain ⟨r50, k51, h⟩ := h
          refine s_call (.tup [.p (.agg (Tm.cells r50.1)), pB r50.2]) [] [] rfl k51 rfl ?_
          refine s_run 6 [(11, pB r50.2), (10, .ptr 10 0), (41, pB r50.2), (40, .p (.agg (Tm.cells r50.1))), (35, .tup [.p (.agg (Tm.cells r50.1)), pB r50.2])] [(10, [pI (Tm.kind r50.1), pI (Tm.n r50.1), pS (Tm.name r50.1), pL (Tm.encL (Tm.args r50.1))]), (10, [pI (0 : Int), pI (0 : Int), pS ([] : Str), pL (Tm.encL ([] : List Tm))])] [] rfl ?_
          refine seq_n (aw_wk (St [(0, pL (e_Bd p0)), (5, .tip (0, 5, 0) (0) (e_Bd s24.2)), (9, .ptr 9 0), (11, pB r50.2), (29, pL (e_Bd p1)), (30, pI ((List.length p1 : Nat) : Int)), (31, pI s24.1)] [(9, [pS (Bd.name u48), pI (Tm.kind (Bd.term u48)), pI (Tm.n (Bd.term u48)), pS (Tm.name (Bd.term u48)), pL (Tm.encL (Tm.args (Bd.term u48)))])] [((0, 5, 0), 0, .tip (e_Bd s24.2).length 5)]) (wk_St ⟨le_rfl _, le_rfl _, le_rfl _, le_rfl _, le_rfl _, le_rfl _, le_rfl _, trivial⟩ ⟨box_rfl rfl, trivial⟩ ⟨rfl, trivial⟩ rfl ⟨rfl, rfl, trivial⟩ ⟨rfl, rfl, trivial⟩) ?_)
          refine aw_seq (s_reg ?_)
          refine s_run 2 [(43, pB (!r50.2)), (42, pB r50.2)] [] [] rfl ?_
          refine seq_n (s_if rfl (fun c52 => ?_) (fun c52 => ?_))
          · have h := h.1 c52
            refine s_reg ?_
            refine s_run 2 [(45, .agg [pS (Bd.name u48), pI (Tm.kind (Bd.term u48)), pI (Tm.n (Bd.term u48)), pS (Tm.name (Bd.term u48)), pL (Tm.encL (Tm.args (Bd.term u48)))]), (44, .tip (0, 5, 0) (0) (e_Bd s24.2))] [] [] rfl ?_
            obtain ⟨r53, k54, h⟩ := h
            refine s_call (.p (.agg (Bd.cells r53))) [] [] rfl k54 rfl ?_
            refine s_bs rfl rfl (enc_cons (e := e_Bd) r53 (enc_nil (e := e_Bd))) ?_
            obtain ⟨g55, h⟩ := h
            refine s_app rfl rfl rfl (enc_sz (e := e_Bd) _) (enc_len (e := e_Bd) _) (enc_len (e := e_Bd) _) g55 (enc_app (e := e_Bd) _ _) ?_
            refine s_run 1 [(5, .tip (0, 5, 0) (0) (e_Bd (s24.2 ++ ([r53] : List Bd))))] [] [] rfl ?_
            refine blk_n (seq_n (s_reg ?_))
            refine s_run 2 [(31, pI (IntKind.i64.wrap (s24.1 + (1 : Int)))), (49, pI (IntKind.i64.wrap (s24.1 + (1 : Int))))] [] [] rfl ?_
            exact loop_n ⟨_, h.1⟩ h.2 (wk_St ⟨le_rfl _, le_rfl _, le_rfl _, le_rfl _, le_rfl _, trivial⟩ trivial ⟨rfl, trivial⟩ rfl ⟨rfl, rfl, trivial⟩ ⟨rfl, rfl, trivial⟩)
          · have h := h.2 c52
            refine aw_skip (blk_n (seq_n (s_reg ?_)))
            refine s_run 2 [(31, pI (IntKind.i64.wrap (s24.1 + (1 : Int)))), (49, pI (IntKind.i64.wrap (s24.1 + (1 : Int))))] [] [] rfl ?_
            exact loop_n ⟨_, h.1⟩ h.2 (wk_St ⟨le_rfl _, le_rfl _, le_rfl _, le_rfl _, le_rfl _, trivial⟩ trivial ⟨rfl, trivial⟩ rfl ⟨rfl, rfl, trivial⟩ ⟨rfl, rfl, trivial⟩)
        · have h := h.2 c47
          refine aw_exit (seq_x (loop_x (blk_x (seq_n (aw_seq (s_reg ?_))))))
          refine s_run 2 [(4, .tip (0, 5, 0) (0) (e_Bd s24.2)), (50, .tip (0, 5, 0) (0) (e_Bd s24.2))] [] [] rfl ?_
          refine seq_n (aw_ret ?_)
          exact endp_ret _ h rfl


def ac_spec_UnifyTerms : AC :=
  .seq (.reg false [
    { dst := some 2, k := .bx (.t 0) 4 },
    { dst := some 3, k := .bx (.t 1) 4 },
    { dst := some 4, k := .mv (.c (.slice [])) },
    { dst := some 5, k := .mv (.c (.bool false)) }])
  (.wk (.seq (.reg false [
    { dst := some 7, k := .ld (.t 2) 4 true },
    { dst := some 8, k := .bs 4 [.t 7] },
    { dst := some 9, k := .ld (.t 3) 4 true },
    { dst := some 10, k := .bs 4 [.t 9] },
    { dst := some 11, k := .bd [.p (.slice []), .p (.slice []), .p (.slice [])] [(0, 1, .t 8), (1, 1, .t 10)] },
    { dst := some 12, k := .bx (.t 11) 3 },
    { dst := some 6, k := .mv (.t 12) }])
  (.wk (.seq (.block 0 (.loop (.seq (.seq (.reg false [
        { dst := some 13, k := .mv (.t 6) },
        { dst := some 14, k := .nc (.t 13) },
        { dst := some 15, k := .fa (.t 14) 0 },
        { dst := some 16, k := .ld (.t 15) 1 false },
        { dst := some 17, k := .len (.t 16) },
        { dst := some 18, k := .bin .gtr (.t 17) (.c (.int .i64 (0))) }])
      (.cond (.t 18) (.skip)
      (.exit 0)))
      (.wk (.block 1 (.seq (.reg false [
          { dst := some 19, k := .mv (.t 6) },
          { dst := some 20, k := .call 60 [(.t 19, .io [false, false, false])] },
          { dst := some 21, k := .un .not (.t 20) },
          { dst := some 22, k := .mv (.t 21) },
          { dst := some 23, k := .mv (.t 6), g := some (22, false) },
          { dst := some 24, k := .nc (.t 23), g := some (22, false) },
          { dst := some 25, k := .fa (.t 24) 2, g := some (22, false) },
          { dst := some 26, k := .ld (.t 25) 1 false, g := some (22, false) },
          { dst := some 27, k := .call 61 [(.t 26, .fz)], g := some (22, false) },
          { dst := some 28, k := .pick (.t 22) (.c (.bool true)) (.t 27) }])
        (.wk (.cond (.t 28) (.seq (.reg false [
            { dst := some 29, k := .bs 5 [] },
            { dst := some 4, k := .mv (.t 29) },
            { dst := some 5, k := .mv (.c (.bool false)) }])
          (.ret))
        (.skip)))))))))
  (.wk (.seq (.reg true [
    { dst := some 30, k := .mv (.t 6) },
    { dst := some 31, k := .nc (.t 30) },
    { dst := some 32, k := .fa (.t 31) 2 },
    { dst := some 33, k := .ld (.t 32) 1 false, vb := .only [12] },
    { dst := some 34, k := .ld (.t 2) 4 true, vb := .only [2] },
    { dst := some 35, k := .call 36 [(.t 34, .fz)], vb := .but [3, 12], vl := .but [3, 12] },
    { dst := some 36, k := .ld (.t 3) 4 true, vb := .only [3] },
    { dst := some 37, k := .call 36 [(.t 36, .fz)], vb := .but [12], vl := .but [12] },
    { dst := some 38, k := .app (.t 35) (.t 37) 1 16 },
    { dst := some 39, k := .call 24 [(.t 33, .fz), (.t 38, .fz)] },
    { dst := some 4, k := .mv (.t 39) },
    { dst := some 5, k := .mv (.c (.bool true)) }])
  (.ret)))))))
theorem chk_spec_UnifyTerms : fnOK Try.prog 2 Try.f29 ac_spec_UnifyTerms [(.tmp 4, .fz), (.tmp 5, .fz)] = true := by kernel_rfl
def wp_spec_UnifyTerms (p0 : Tm) (p1 : Tm) (post : ((List Bd) × Bool) → Prop) : Prop :=
  LOOP (fun (N23 : T_spec_l8Equations → Prop) (s1 : T_spec_l8Equations) => (((decide (((List.length (T_spec_l8Equations.left_ s1) : Nat) : Int) > (0 : Int))) = true → (∃ r28 : Bool × T_spec_l8Equations, C_spec_l8Step s1 r28 ∧ (((!r28.1) = true → post (([] : List Bd), false)) ∧ ((!r28.1) = false → (∃ r31 : Bool, C_spec_l8Large (T_spec_l8Equations.subst r28.2) r31 ∧ ((r31 = true → post (([] : List Bd), false)) ∧ (r31 = false → N23 r28.2))))))) ∧ ((decide (((List.length (T_spec_l8Equations.left_ s1) : Nat) : Int) > (0 : Int))) = false → (∃ r34 : (List Str), C_spec_VarsOfTerm p0 r34 ∧ (∃ r36 : (List Str), C_spec_VarsOfTerm p1 r36 ∧ ((List.length r34 + List.length r36) * 16 ≤ 140737488355328 ∧ (∃ r39 : (List Bd), C_spec_RestrictSubst (T_spec_l8Equations.subst s1) (r34 ++ r36) r39 ∧ post (r39, true)))))))) (T_spec_l8Equations.mk ([p0] : List Tm) ([p1] : List Tm) ([] : List Bd))
theorem w_spec_UnifyTerms (p0 : Tm) (p1 : Tm) (post : ((List Bd) × Bool) → Prop) (h : wp_spec_UnifyTerms p0 p1 post) : ∃ r, post r ∧ C_spec_UnifyTerms p0 p1 r := by
  unfold wp_spec_UnifyTerms at h
  refine evs_of (encR := fun r : (List Bd) × Bool => .tup [.l (.fz (.slice (e_Bd r.1))), .l (.fz (.bool r.2))]) (encO := fun r => []) 2 [(.tmp 4, .fz), (.tmp 5, .fz)] [.fz, .fz] Try.func29 chk_spec_UnifyTerms rfl rfl [(1, .p (.agg (Tm.cells p1))), (0, .p (.agg (Tm.cells p0)))] [] [] rfl ?_
  refine aw_seq (s_reg ?_)
  refine s_run 4 [(5, pB false), (4, pL (e_Bd ([] : List Bd))), (3, .ptr 3 0), (2, .ptr 2 0)] [(3, [pI (Tm.kind p1), pI (Tm.n p1), pS (Tm.name p1), pL (Tm.encL (Tm.args p1))]), (2, [pI (Tm.kind p0), pI (Tm.n p0), pS (Tm.name p0), pL (Tm.encL (Tm.args p0))])] [] rfl ?_
  refine seq_n (aw_wk (St [(2, .ptr 2 0), (3, .ptr 3 0)] [(2, [pI (Tm.kind p0), pI (Tm.n p0), pS (Tm.name p0), pL (Tm.encL (Tm.args p0))]), (3, [pI (Tm.kind p1), pI (Tm.n p1), pS (Tm.name p1), pL (Tm.encL (Tm.args p1))])] []) (wk_St ⟨le_rfl _, le_rfl _, trivial⟩ ⟨box_rfl rfl, box_rfl rfl, trivial⟩ trivial rfl ⟨rfl, rfl, trivial⟩ ⟨rfl, rfl, trivial⟩) ?_)
  refine aw_seq (s_reg ?_)
  refine s_run 1 [(7, .agg [pI (Tm.kind p0), pI (Tm.n p0), pS (Tm.name p0), pL (Tm.encL (Tm.args p0))])] [] [] rfl ?_
  refine s_bs rfl rfl (enc_cons (e := Tm.encL) p0 (enc_nil (e := Tm.encL))) ?_
  refine s_run 1 [(9, .agg [pI (Tm.kind p1), pI (Tm.n p1), pS (Tm.name p1), pL (Tm.encL (Tm.args p1))])] [] [] rfl ?_
  refine s_bs rfl rfl (enc_cons (e := Tm.encL) p1 (enc_nil (e := Tm.encL))) ?_
  refine s_run 3 [(6, .ptr 12 0), (12, .ptr 12 0), (11, .agg [.tip (0, 8, 0) (0) (Tm.encL ([p0] : List Tm)), .tip (0, 10, 0) (0) (Tm.encL ([p1] : List Tm)), pL (e_Bd ([] : List Bd))])] [(12, [.tip (0, 8, 0) (0) (Tm.encL ([p0] : List Tm)), .tip (0, 10, 0) (0) (Tm.encL ([p1] : List Tm)), pL (e_Bd ([] : List Bd))])] [] rfl ?_
  refine seq_n (aw_wk (St [(2, .ptr 2 0), (3, .ptr 3 0), (6, .ptr 12 0)] [(2, [pI (Tm.kind p0), pI (Tm.n p0), pS (Tm.name p0), pL (Tm.encL (Tm.args p0))]), (3, [pI (Tm.kind p1), pI (Tm.n p1), pS (Tm.name p1), pL (Tm.encL (Tm.args p1))]), (12, [.tip (0, 8, 0) (0) (Tm.encL ([p0] : List Tm)), .tip (0, 10, 0) (0) (Tm.encL ([p1] : List Tm)), pL (e_Bd ([] : List Bd))])] [((0, 8, 0), 0, .tip (Tm.encL ([p0] : List Tm)).length 4), ((0, 10, 0), 0, .tip (Tm.encL ([p1] : List Tm)).length 4)]) (wk_St ⟨le_rfl _, le_rfl _, le_rfl _, trivial⟩ ⟨box_rfl rfl, box_rfl rfl, box_rfl rfl, trivial⟩ ⟨rfl, rfl, trivial⟩ rfl ⟨rfl, rfl, trivial⟩ ⟨rfl, rfl, trivial⟩) ?_)
  refine aw_seq (aw_blk ?_)
  obtain ⟨I25, m26, h0, h⟩ := h
  refine aw_loop' (ι := { y : T_spec_l8Equations // I25 y }) (fun x24 => St [(2, .ptr 2 0), (3, .ptr 3 0), (6, .ptr 12 0)] [(2, [pI (Tm.kind p0), pI (Tm.n p0), pS (Tm.name p0), pL (Tm.encL (Tm.args p0))]), (3, [pI (Tm.kind p1), pI (Tm.n p1), pS (Tm.name p1), pL (Tm.encL (Tm.args p1))]), (12, [pL (Tm.encL (T_spec_l8Equations.left_ x24.1)), pL (Tm.encL (T_spec_l8Equations.right_ x24.1)), pL (e_Bd (T_spec_l8Equations.subst x24.1))])] []) (fun x24 => m26 x24.1) ⟨_, h0⟩ ?_ ?_
  · exact wk_St ⟨le_rfl _, le_rfl _, le_rfl _, trivial⟩ ⟨box_rfl rfl, box_rfl rfl, box_le rfl ⟨le_fz rfl, le_fz rfl, le_rfl _, trivial⟩, trivial⟩ trivial rfl ⟨rfl, rfl, trivial⟩ ⟨rfl, rfl, trivial⟩
  · rintro ⟨s1, hs1⟩
    replace h := h s1 hs1
    refine aw_seq (aw_seq (s_reg ?_))
    refine s_run 4 [(16, pL (Tm.encL (T_spec_l8Equations.left_ s1))), (15, .ptr 12 0), (14, .ptr 12 0), (13, .ptr 12 0)] [] [] rfl ?_
    refine s_len rfl (enc_len (e := Tm.encL) _) ?_
    refine s_run 1 [(18, pB (decide (((List.length (T_spec_l8Equations.left_ s1) : Nat) : Int) > (0 : Int))))] [] [] rfl ?_
    refine seq_n (s_if rfl (fun c27 => ?_) (fun c27 => ?_))
    · have h := h.1 c27
      refine aw_skip (seq_n (aw_wk (St [(2, .ptr 2 0), (3, .ptr 3 0), (6, .ptr 12 0)] [(2, [pI (Tm.kind p0), pI (Tm.n p0), pS (Tm.name p0), pL (Tm.encL (Tm.args p0))]), (3, [pI (Tm.kind p1), pI (Tm.n p1), pS (Tm.name p1), pL (Tm.encL (Tm.args p1))]), (12, [pL (Tm.encL (T_spec_l8Equations.left_ s1)), pL (Tm.encL (T_spec_l8Equations.right_ s1)), pL (e_Bd (T_spec_l8Equations.subst s1))])] []) (wk_St ⟨le_rfl _, le_rfl _, le_rfl _, trivial⟩ ⟨box_rfl rfl, box_rfl rfl, box_rfl rfl, trivial⟩ trivial rfl ⟨rfl, rfl, trivial⟩ ⟨rfl, rfl, trivial⟩) ?_))
      refine aw_blk (aw_seq (s_reg ?_))
      refine s_run 1 [(19, .ptr 12 0)] [] [] rfl ?_
      obtain ⟨r28, k29, h⟩ := h
      refine s_call (pB r28.1) [(12, [pL (Tm.encL (T_spec_l8Equations.left_ r28.2)), pL (Tm.encL (T_spec_l8Equations.right_ r28.2)), pL (e_Bd (T_spec_l8Equations.subst r28.2))])] [] rfl k29 rfl ?_
      refine s_run 2 [(22, pB (!r28.1)), (21, pB (!r28.1))] [] [] rfl ?_
      refine s_op_if rfl rfl (fun c30 => ?_) (fun c30 => ?_)
      · have h := h.1 c30
        refine s_run 6 [(28, pB true), (27, .p (.tup [])), (26, .p (.tup [])), (25, .p (.tup [])), (24, .p (.tup [])), (23, .p (.tup []))] [] [] rfl ?_
        refine seq_n (aw_wk (St [(2, .ptr 2 0), (3, .ptr 3 0), (6, .ptr 12 0), (28, pB true)] [(2, [pI (Tm.kind p0), pI (Tm.n p0), pS (Tm.name p0), pL (Tm.encL (Tm.args p0))]), (3, [pI (Tm.kind p1), pI (Tm.n p1), pS (Tm.name p1), pL (Tm.encL (Tm.args p1))]), (12, [pL (Tm.encL (T_spec_l8Equations.left_ r28.2)), pL (Tm.encL (T_spec_l8Equations.right_ r28.2)), pL (e_Bd (T_spec_l8Equations.subst r28.2))])] []) (wk_St ⟨le_rfl _, le_rfl _, le_rfl _, le_rfl _, trivial⟩ ⟨box_rfl rfl, box_rfl rfl, box_rfl rfl, trivial⟩ trivial rfl ⟨rfl, rfl, trivial⟩ ⟨rfl, rfl, trivial⟩) ?_)
        refine s_yes rfl (aw_seq (s_reg ?_))
        refine s_bs rfl rfl (enc_nil (e := e_Bd)) ?_
        refine s_run 2 [(5, pB false), (4, .tip (0, 29, 0) (0) (e_Bd ([] : List Bd)))] [] [] rfl ?_
        refine seq_n (aw_ret ?_)
        exact endp_ret _ h rfl
      · have h := h.2 c30
        refine s_run 4 [(26, pL (e_Bd (T_spec_l8Equations.subst r28.2))), (25, .ptr 12 2), (24, .ptr 12 0), (23, .ptr 12 0)] [] [] rfl ?_
        refine s_on rfl ?_
        obtain ⟨r31, k32, h⟩ := h
        refine s_call (pB r31) [] [] rfl k32 rfl ?_
        refine s_run 1 [(28, pB r31)] [] [] rfl ?_
        refine seq_n (aw_wk (St [(2, .ptr 2 0), (3, .ptr 3 0), (6, .ptr 12 0), (28, pB r31)] [(2, [pI (Tm.kind p0), pI (Tm.n p0), pS (Tm.name p0), pL (Tm.encL (Tm.args p0))]), (3, [pI (Tm.kind p1), pI (Tm.n p1), pS (Tm.name p1), pL (Tm.encL (Tm.args p1))]), (12, [pL (Tm.encL (T_spec_l8Equations.left_ r28.2)), pL (Tm.encL (T_spec_l8Equations.right_ r28.2)), pL (e_Bd (T_spec_l8Equations.subst r28.2))])] []) (wk_St ⟨le_rfl _, le_rfl _, le_rfl _, le_rfl _, trivial⟩ ⟨box_rfl rfl, box_rfl rfl, box_rfl rfl, trivial⟩ trivial rfl ⟨rfl, rfl, trivial⟩ ⟨rfl, rfl, trivial⟩) ?_)
        refine s_if rfl (fun c33 => ?_) (fun c33 => ?_)
        · have h := h.1 c33
          refine aw_seq (s_reg ?_)
          refine s_bs rfl rfl (enc_nil (e := e_Bd)) ?_
          refine s_run 2 [(5, pB false), (4, .tip (0, 29, 0) (0) (e_Bd ([] : List Bd)))] [] [] rfl ?_
          refine seq_n (aw_ret ?_)
          exact endp_ret _ h rfl
        · have h := h.2 c33
          refine aw_skip (blk_n ?_)
          exact loop_n ⟨_, h.1⟩ h.2 (wk_St ⟨le_rfl _, le_rfl _, le_rfl _, trivial⟩ ⟨box_rfl rfl, box_rfl rfl, box_rfl rfl, trivial⟩ trivial rfl ⟨rfl, rfl, trivial⟩ ⟨rfl, rfl, trivial⟩)
    · have h := h.2 c27
      refine aw_exit (seq_x (loop_x (blk_x (seq_n (aw_wk (St [(2, .ptr 2 0), (3, .ptr 3 0), (6, .ptr 12 0)] [(2, [pI (Tm.kind p0), pI (Tm.n p0), pS (Tm.name p0), pL (Tm.encL (Tm.args p0))]), (3, [pI (Tm.kind p1), pI (Tm.n p1), pS (Tm.name p1), pL (Tm.encL (Tm.args p1))]), (12, [pL (Tm.encL (T_spec_l8Equations.left_ s1)), pL (Tm.encL (T_spec_l8Equations.right_ s1)), pL (e_Bd (T_spec_l8Equations.subst s1))])] []) (wk_St ⟨le_rfl _, le_rfl _, le_rfl _, trivial⟩ ⟨box_rfl rfl, box_rfl rfl, box_rfl rfl, trivial⟩ trivial rfl ⟨rfl, rfl, trivial⟩ ⟨rfl, rfl, trivial⟩) ?_)))))
      refine aw_seq (s_reg ?_)
      refine s_run 5 [(34, .agg [pI (Tm.kind p0), pI (Tm.n p0), pS (Tm.name p0), pL (Tm.encL (Tm.args p0))]), (33, pL (e_Bd (T_spec_l8Equations.subst s1))), (32, .ptr 12 2), (31, .ptr 12 0), (30, .ptr 12 0)] [] [] rfl ?_
      obtain ⟨r34, k35, h⟩ := h
      refine s_call (.tip (0, 35, 0) (0) (e_str r34)) [] [((0, 35, 0), 0, .tip (e_str r34).length 1)] (args_one rfl (args_nil)) k35 rfl ?_
      refine s_run 1 [(36, .agg [pI (Tm.kind p1), pI (Tm.n p1), pS (Tm.name p1), pL (Tm.encL (Tm.args p1))])] [] [] rfl ?_
      obtain ⟨r36, k37, h⟩ := h
      refine s_call (.tip (0, 37, 0) (0) (e_str r36)) [] [((0, 37, 0), 0, .tip (e_str r36).length 1)] (args_one rfl (args_nil)) k37 rfl ?_
      obtain ⟨g38, h⟩ := h
      refine s_app rfl rfl rfl (enc_sz (e := e_str) _) (enc_len (e := e_str) _) (enc_len (e := e_str) _) g38 (enc_app (e := e_str) _ _) ?_
      obtain ⟨r39, k40, h⟩ := h
      refine s_call (pL (e_Bd r39)) [] [] rfl k40 rfl ?_
      refine s_run 2 [(5, pB true), (4, pL (e_Bd r39))] [] [] rfl ?_
      refine seq_n (aw_ret ?_)
      exact endp_ret _ h rfl


def ac_slices_Concat_Bind : AC :=
  .seq (.reg false [
    { dst := some 2, k := .mv (.c (.slice [])) }])
  (.seq (.reg false [
    { dst := some 3, k := .mv (.c (.int .i64 (0))) }])
  (.seq (.seq (.reg false [
    { dst := some 9, k := .mv (.t 0) },
    { dst := some 10, k := .len (.t 9) },
    { dst := some 11, k := .mv (.c (.int .i64 (0))) }])
  (.block 0 (.loop (.seq (.reg false [
        { dst := some 12, k := .bin .lss (.t 11) (.t 10) }])
      (.seq (.cond (.t 12) (.skip)
      (.exit 0))
      (.seq (.block 1 (.seq (.reg false [
          { dst := some 13, k := .ia (.t 9) (.t 11) 1 },
          { dst := some 14, k := .ld (.t 13) 1 false },
          { dst := some 5, k := .mv (.t 14) }])
        (.seq (.reg false [
          { dst := some 15, k := .mv (.t 3) },
          { dst := some 16, k := .mv (.t 5) },
          { dst := some 17, k := .len (.t 16) },
          { dst := some 18, k := .bin .add (.t 15) (.t 17) },
          { dst := some 3, k := .mv (.t 18) }])
        (.seq (.reg false [
          { dst := some 19, k := .mv (.t 3) },
          { dst := some 20, k := .bin .lss (.t 19) (.c (.int .i64 (0))) }])
        (.cond (.t 20) (.bad)
        (.skip))))))
      (.reg false [
        { dst := some 22, k := .bin .add (.t 11) (.c (.int .i64 (1))) },
        { dst := some 11, k := .mv (.t 22) }])))))))
  (.wk (.seq (.reg false [
    { dst := some 23, k := .mv (.t 3) },
    { dst := some 24, k := .call 75 [(.nl 5, .ow), (.t 23, .fz)] },
    { dst := some 6, k := .asgo (.t 24) }])
  (.wk (.seq (.seq (.reg false [
    { dst := some 25, k := .mv (.t 0) },
    { dst := some 26, k := .len (.t 25) },
    { dst := some 27, k := .mv (.c (.int .i64 (0))) }])
  (.block 2 (.loop (.seq (.reg false [
        { dst := some 28, k := .bin .lss (.t 27) (.t 26) }])
      (.seq (.cond (.t 28) (.skip)
      (.exit 2))
      (.seq (.block 3 (.seq (.reg false [
          { dst := some 29, k := .ia (.t 25) (.t 27) 1 },
          { dst := some 30, k := .ld (.t 29) 1 false },
          { dst := some 8, k := .mv (.t 30) }])
        (.reg false [
          { dst := some 31, k := .mv (.t 6) },
          { dst := some 32, k := .mv (.t 8) },
          { dst := some 33, k := .app (.t 31) (.t 32) 5 72 },
          { dst := some 6, k := .mv (.t 33) }])))
      (.reg false [
        { dst := some 34, k := .bin .add (.t 27) (.c (.int .i64 (1))) },
        { dst := some 27, k := .mv (.t 34) }])))))))
  (.seq (.reg false [
    { dst := some 35, k := .mv (.t 6) },
    { dst := some 2, k := .mv (.t 35) }])
  (.ret))))))))
theorem chk_slices_Concat_Bind : fnOK Try.prog 1 Try.f54 ac_slices_Concat_Bind [(.tmp 2, .fz)] = true := by kernel_rfl
def wp_slices_Concat_Bind (p0 : (List (List Bd))) (post : (List Bd) → Prop) : Prop :=
  LOOP (fun (N10 : (Int × Int) → Prop) (s1 : Int × Int) => (((decide (s1.1 < ((List.length p0 : Nat) : Int))) = true → (∃ u15, GETI p0 s1.1 u15 ∧ (((decide ((IntKind.i64.wrap (s1.2 + ((List.length u15 : Nat) : Int))) < (0 : Int))) = true → False) ∧ ((decide ((IntKind.i64.wrap (s1.2 + ((List.length u15 : Nat) : Int))) < (0 : Int))) = false → N10 ((IntKind.i64.wrap (s1.1 + (1 : Int))), (IntKind.i64.wrap (s1.2 + ((List.length u15 : Nat) : Int)))))))) ∧ ((decide (s1.1 < ((List.length p0 : Nat) : Int))) = false → (∃ r18 : (List Bd), C_slices_Grow_Bind ([] : List Bd) s1.2 r18 ∧ LOOP (fun (N29 : (Int × (List Bd)) → Prop) (s20 : Int × (List Bd)) => (((decide (s20.1 < ((List.length p0 : Nat) : Int))) = true → (∃ u34, GETI p0 s20.1 u34 ∧ ((List.length s20.2 + List.length u34) * 72 ≤ 140737488355328 ∧ N29 ((IntKind.i64.wrap (s20.1 + (1 : Int))), (s20.2 ++ u34))))) ∧ ((decide (s20.1 < ((List.length p0 : Nat) : Int))) = false → post s20.2))) ((0 : Int), r18))))) ((0 : Int), (0 : Int))
theorem w_slices_Concat_Bind (p0 : (List (List Bd))) (post : (List Bd) → Prop) (h : wp_slices_Concat_Bind p0 post) : ∃ r, post r ∧ C_slices_Concat_Bind p0 r := by
  unfold wp_slices_Concat_Bind at h
  refine evs_of (encR := fun r : (List Bd) => .one (.l (.fz (.slice (e_Bd r))))) (encO := fun r => []) 1 [(.tmp 2, .fz)] [.fz] Try.func54 chk_slices_Concat_Bind rfl rfl [(0, pL (e_l_Bd p0))] [] [] rfl ?_
  refine aw_seq (s_reg ?_)
  refine s_run 1 [(2, pL (e_Bd ([] : List Bd)))] [] [] rfl ?_
  refine seq_n (aw_seq (s_reg ?_))
  refine s_run 1 [(3, pI (0 : Int))] [] [] rfl ?_
  refine seq_n (aw_seq (aw_seq (s_reg ?_)))
  refine s_run 1 [(9, pL (e_l_Bd p0))] [] [] rfl ?_
  refine s_len rfl (enc_len (e := e_l_Bd) _) ?_
  refine s_run 1 [(11, pI (0 : Int))] [] [] rfl ?_
  refine seq_n (aw_blk ?_)
  obtain ⟨I12, m13, h0, h⟩ := h
  refine aw_loop' (ι := { y : Int × Int // I12 y }) (fun x11 => St [(0, pL (e_l_Bd p0)), (3, pI x11.1.2), (9, pL (e_l_Bd p0)), (10, pI ((List.length p0 : Nat) : Int)), (11, pI x11.1.1)] [] []) (fun x11 => m13 x11.1) ⟨_, h0⟩ ?_ ?_
  · exact wk_St ⟨le_rfl _, le_rfl _, le_rfl _, le_rfl _, le_rfl _, trivial⟩ trivial trivial rfl ⟨rfl, trivial⟩ ⟨rfl, trivial⟩
  · rintro ⟨s1, hs1⟩
    replace h := h s1 hs1
    refine aw_seq (s_reg ?_)
    refine s_run 1 [(12, pB (decide (s1.1 < ((List.length p0 : Nat) : Int))))] [] [] rfl ?_
    refine seq_n (aw_seq (s_if rfl (fun c14 => ?_) (fun c14 => ?_)))
    · have h := h.1 c14
      refine aw_skip (seq_n (aw_seq (aw_blk (aw_seq (s_reg ?_)))))
      obtain ⟨u15, ⟨g16a, g16b⟩, h⟩ := h
      refine s_ia rfl rfl g16a (enc_get (e := e_l_Bd) g16b) rfl ?_
      refine s_run 2 [(5, pL (e_Bd u15)), (14, pL (e_Bd u15))] [] [] rfl ?_
      refine seq_n (aw_seq (s_reg ?_))
      refine s_run 2 [(16, pL (e_Bd u15)), (15, pI s1.2)] [] [] rfl ?_
      refine s_len rfl (enc_len (e := e_Bd) _) ?_
      refine s_run 2 [(3, pI (IntKind.i64.wrap (s1.2 + ((List.length u15 : Nat) : Int)))), (18, pI (IntKind.i64.wrap (s1.2 + ((List.length u15 : Nat) : Int))))] [] [] rfl ?_
      refine seq_n (aw_seq (s_reg ?_))
      refine s_run 2 [(20, pB (decide ((IntKind.i64.wrap (s1.2 + ((List.length u15 : Nat) : Int))) < (0 : Int)))), (19, pI (IntKind.i64.wrap (s1.2 + ((List.length u15 : Nat) : Int))))] [] [] rfl ?_
      refine seq_n (s_if rfl (fun c17 => ?_) (fun c17 => ?_))
      · have h := h.1 c17
        exact h.elim
      · have h := h.2 c17
        refine aw_skip (blk_n (seq_n (s_reg ?_)))
        refine s_run 2 [(11, pI (IntKind.i64.wrap (s1.1 + (1 : Int)))), (22, pI (IntKind.i64.wrap (s1.1 + (1 : Int))))] [] [] rfl ?_
        exact loop_n ⟨_, h.1⟩ h.2 (wk_St ⟨le_rfl _, le_rfl _, le_rfl _, le_rfl _, le_rfl _, trivial⟩ trivial trivial rfl ⟨rfl, trivial⟩ ⟨rfl, trivial⟩)
    · have h := h.2 c14
      refine aw_exit (seq_x (loop_x (blk_x (seq_n (aw_wk (St [(0, pL (e_l_Bd p0)), (3, pI s1.2)] [] []) (wk_St ⟨le_rfl _, le_rfl _, trivial⟩ trivial trivial rfl ⟨rfl, trivial⟩ ⟨rfl, trivial⟩) ?_)))))
      refine aw_seq (s_reg ?_)
      refine s_run 1 [(23, pI s1.2)] [] [] rfl ?_
      obtain ⟨r18, k19, h⟩ := h
      refine s_call (.tip (0, 24, 0) (0) (e_Bd r18)) [] [((0, 24, 0), 0, .tip (e_Bd r18).length 5)] (args_one (arg_nil rfl) (args_one rfl (args_nil))) k19 rfl ?_
      refine s_asgo (g := (0, 24, 0)) (r := 0) (q := 0) (sz := 5) (xs := e_Bd r18) rfl rfl (by decide) rfl ?_
      refine seq_n (aw_wk (St [(0, pL (e_l_Bd p0)), (6, .tip (0, 6, 0) (0) (e_Bd r18))] [] [((0, 6, 0), 0, .tip (e_Bd r18).length 5)]) (wk_St ⟨le_rfl _, le_rfl _, trivial⟩ trivial ⟨rfl, trivial⟩ rfl ⟨rfl, trivial⟩ ⟨rfl, trivial⟩) ?_)
      refine aw_seq (aw_seq (s_reg ?_))
      refine s_run 1 [(25, pL (e_l_Bd p0))] [] [] rfl ?_
      refine s_len rfl (enc_len (e := e_l_Bd) _) ?_
      refine s_run 1 [(27, pI (0 : Int))] [] [] rfl ?_
      refine seq_n (aw_blk ?_)
      obtain ⟨I31, m32, h0, h⟩ := h
      refine aw_loop' (ι := { y : Int × (List Bd) // I31 y }) (fun x30 => St [(6, .tip (0, 6, 0) (0) (e_Bd x30.1.2)), (25, pL (e_l_Bd p0)), (26, pI ((List.length p0 : Nat) : Int)), (27, pI x30.1.1)] [] [((0, 6, 0), 0, .tip (e_Bd x30.1.2).length 5)]) (fun x30 => m32 x30.1) ⟨_, h0⟩ ?_ ?_
      · exact wk_St ⟨le_rfl _, le_rfl _, le_rfl _, le_rfl _, trivial⟩ trivial ⟨rfl, trivial⟩ rfl ⟨rfl, trivial⟩ ⟨rfl, trivial⟩
      · rintro ⟨s20, hs20⟩
        replace h := h s20 hs20
        refine aw_seq (s_reg ?_)
        refine s_run 1 [(28, pB (decide (s20.1 < ((List.length p0 : Nat) : Int))))] [] [] rfl ?_
        refine seq_n (aw_seq (s_if rfl (fun c33 => ?_) (fun c33 => ?_)))
        · have h := h.1 c33
          refine aw_skip (seq_n (aw_seq (aw_blk (aw_seq (s_reg ?_)))))
          obtain ⟨u34, ⟨g35a, g35b⟩, h⟩ := h
          refine s_ia rfl rfl g35a (enc_get (e := e_l_Bd) g35b) rfl ?_
          refine s_run 2 [(8, pL (e_Bd u34)), (30, pL (e_Bd u34))] [] [] rfl ?_
          refine seq_n (s_reg ?_)
          refine s_run 2 [(32, pL (e_Bd u34)), (31, .tip (0, 6, 0) (0) (e_Bd s20.2))] [] [] rfl ?_
          obtain ⟨g36, h⟩ := h
          refine s_app rfl rfl rfl (enc_sz (e := e_Bd) _) (enc_len (e := e_Bd) _) (enc_len (e := e_Bd) _) g36 (enc_app (e := e_Bd) _ _) ?_
          refine s_run 1 [(6, .tip (0, 6, 0) (0) (e_Bd (s20.2 ++ u34)))] [] [] rfl ?_
          refine blk_n (seq_n (s_reg ?_))
          refine s_run 2 [(27, pI (IntKind.i64.wrap (s20.1 + (1 : Int)))), (34, pI (IntKind.i64.wrap (s20.1 + (1 : Int))))] [] [] rfl ?_
          exact loop_n ⟨_, h.1⟩ h.2 (wk_St ⟨le_rfl _, le_rfl _, le_rfl _, le_rfl _, trivial⟩ trivial ⟨rfl, trivial⟩ rfl ⟨rfl, trivial⟩ ⟨rfl, trivial⟩)
        · have h := h.2 c33
          refine aw_exit (seq_x (loop_x (blk_x (seq_n (aw_seq (s_reg ?_))))))
          refine s_run 2 [(2, .tip (0, 6, 0) (0) (e_Bd s20.2)), (35, .tip (0, 6, 0) (0) (e_Bd s20.2))] [] [] rfl ?_
          refine seq_n (aw_ret ?_)
          exact endp_ret _ h rfl



def ac_spec_l1Below : AC :=
  .seq (.reg false [
    { dst := some 4, k := .mv (.c (.int .i64 (0))) }])
  (.seq (.seq (.reg false [
    { dst := some 9, k := .mv (.t 1) },
    { dst := some 10, k := .bin .leq (.t 9) (.c (.int .i64 (0))) }])
  (.cond (.t 10) (.seq (.reg false [
      { dst := some 4, k := .mv (.c (.int .i64 (0))) }])
    (.ret))
  (.skip)))
  (.seq (.seq (.reg false [
    { dst := some 11, k := .mv (.t 1) },
    { dst := some 12, k := .bin .leq (.t 11) (.c (.int .i64 (256))) }])
  (.cond (.t 12) (.seq (.reg false [
      { dst := some 13, k := .mv (.t 0) },
      { dst := some 14, k := .call 71 [(.t 13, .io [false, false, false])] },
      { dst := some 15, k := .mv (.t 1) },
      { dst := some 16, k := .bin .rem (.t 14) (.t 15) },
      { dst := some 4, k := .mv (.t 16) }])
    (.ret))
  (.skip)))
  (.wk (.seq (.reg false [
    { dst := some 17, k := .mv (.t 0) },
    { dst := some 18, k := .call 71 [(.t 17, .io [false, false, false])] },
    { dst := some 5, k := .mv (.t 18) }])
  (.wk (.seq (.reg false [
    { dst := some 19, k := .mv (.t 0) },
    { dst := some 20, k := .call 71 [(.t 19, .io [false, false, false])] },
    { dst := some 6, k := .mv (.t 20) }])
  (.wk (.seq (.reg false [
    { dst := some 21, k := .mv (.t 0) },
    { dst := some 22, k := .call 71 [(.t 21, .io [false, false, false])] },
    { dst := some 7, k := .mv (.t 22) }])
  (.wk (.seq (.reg false [
    { dst := some 23, k := .mv (.t 0) },
    { dst := some 24, k := .call 71 [(.t 23, .io [false, false, false])] },
    { dst := some 8, k := .mv (.t 24) }])
  (.wk (.seq (.reg false [
    { dst := some 25, k := .mv (.t 5) },
    { dst := some 26, k := .bin .mul (.t 25) (.c (.int .i64 (16777216))) },
    { dst := some 27, k := .mv (.t 6) },
    { dst := some 28, k := .bin .mul (.t 27) (.c (.int .i64 (65536))) },
    { dst := some 29, k := .bin .add (.t 26) (.t 28) },
    { dst := some 30, k := .mv (.t 7) },
    { dst := some 31, k := .bin .mul (.t 30) (.c (.int .i64 (256))) },
    { dst := some 32, k := .bin .add (.t 29) (.t 31) },
    { dst := some 33, k := .mv (.t 8) },
    { dst := some 34, k := .bin .add (.t 32) (.t 33) },
    { dst := some 35, k := .mv (.t 1) },
    { dst := some 36, k := .bin .rem (.t 34) (.t 35) },
    { dst := some 4, k := .mv (.t 36) }])
  (.ret)))))))))))))
theorem chk_spec_l1Below : fnOK Try.prog 2 Try.f49 ac_spec_l1Below [(.tmp 4, .fz)] = true := by kernel_rfl
def wp_spec_l1Below (p0 : T_spec_l1Cur) (p1 : Int) (post : (Int × T_spec_l1Cur) → Prop) : Prop :=
  (((decide (p1 ≤ (0 : Int))) = true → post ((0 : Int), p0)) ∧ ((decide (p1 ≤ (0 : Int))) = false → (((decide (p1 ≤ (256 : Int))) = true → (∃ r3 : Int × T_spec_l1Cur, C_spec_l1Byte p0 r3 ∧ (p1 ≠ 0 ∧ post ((Int.tmod r3.1 p1), r3.2)))) ∧ ((decide (p1 ≤ (256 : Int))) = false → (∃ r6 : Int × T_spec_l1Cur, C_spec_l1Byte p0 r6 ∧ (∃ r8 : Int × T_spec_l1Cur, C_spec_l1Byte r6.2 r8 ∧ (∃ r10 : Int × T_spec_l1Cur, C_spec_l1Byte r8.2 r10 ∧ (∃ r12 : Int × T_spec_l1Cur, C_spec_l1Byte r10.2 r12 ∧ (p1 ≠ 0 ∧ post ((Int.tmod (IntKind.i64.wrap ((IntKind.i64.wrap ((IntKind.i64.wrap ((IntKind.i64.wrap (r6.1 * (16777216 : Int))) + (IntKind.i64.wrap (r8.1 * (65536 : Int))))) + (IntKind.i64.wrap (r10.1 * (256 : Int))))) + r12.1)) p1), r12.2))))))))))
theorem w_spec_l1Below (p0 : T_spec_l1Cur) (p1 : Int) (post : (Int × T_spec_l1Cur) → Prop) (h : wp_spec_l1Below p0 p1 post) : ∃ r, post r ∧ C_spec_l1Below p0 p1 r := by
  unfold wp_spec_l1Below at h
  refine evs_of (encR := fun r : Int × T_spec_l1Cur => .one (.l (.fz (.int .i64 r.1)))) (encO := fun r => [.ptr [.fz (.slice (e_u8 (T_spec_l1Cur.b r.2))), .fz (.int .i64 (T_spec_l1Cur.i r.2)), .fz (.int .i64 (T_spec_l1Cur.h r.2))]]) 2 [(.tmp 4, .fz)] [.io [false, false, false], .fz] Try.func49 chk_spec_l1Below rfl rfl [(1, pI p1), (0, .ptr 0 0)] [(0, [pL (e_u8 (T_spec_l1Cur.b p0)), pI (T_spec_l1Cur.i p0), pI (T_spec_l1Cur.h p0)])] [] rfl ?_
  refine aw_seq (s_reg ?_)
  refine s_run 1 [(4, pI (0 : Int))] [] [] rfl ?_
  refine seq_n (aw_seq (aw_seq (s_reg ?_)))
  refine s_run 2 [(10, pB (decide (p1 ≤ (0 : Int)))), (9, pI p1)] [] [] rfl ?_
  refine seq_n (s_if rfl (fun c1 => ?_) (fun c1 => ?_))
  · have h := h.1 c1
    refine aw_seq (s_reg ?_)
    refine s_run 1 [(4, pI (0 : Int))] [] [] rfl ?_
    refine seq_n (aw_ret ?_)
    exact endp_ret _ h rfl
  · have h := h.2 c1
    refine aw_skip (seq_n (aw_seq (aw_seq (s_reg ?_))))
    refine s_run 2 [(12, pB (decide (p1 ≤ (256 : Int)))), (11, pI p1)] [] [] rfl ?_
    refine seq_n (s_if rfl (fun c2 => ?_) (fun c2 => ?_))
    · have h := h.1 c2
      refine aw_seq (s_reg ?_)
      refine s_run 1 [(13, .ptr 0 0)] [] [] rfl ?_
      obtain ⟨r3, k4, h⟩ := h
      refine s_call (pI r3.1) [(0, [pL (e_u8 (T_spec_l1Cur.b r3.2)), pI (T_spec_l1Cur.i r3.2), pI (T_spec_l1Cur.h r3.2)])] [] rfl k4 rfl ?_
      refine s_run 1 [(15, pI p1)] [] [] rfl ?_
      obtain ⟨g5, h⟩ := h
      refine s_rem rfl rfl g5 ?_
      refine s_run 1 [(4, pI (Int.tmod r3.1 p1))] [] [] rfl ?_
      refine seq_n (aw_ret ?_)
      exact endp_ret _ h rfl
    · have h := h.2 c2
      refine aw_skip (seq_n (aw_wk (St [(0, .ptr 0 0), (1, pI p1)] [(0, [pL (e_u8 (T_spec_l1Cur.b p0)), pI (T_spec_l1Cur.i p0), pI (T_spec_l1Cur.h p0)])] []) (wk_St ⟨le_rfl _, le_rfl _, trivial⟩ ⟨box_rfl rfl, trivial⟩ trivial rfl ⟨rfl, rfl, trivial⟩ ⟨rfl, rfl, trivial⟩) ?_))
      refine aw_seq (s_reg ?_)
      refine s_run 1 [(17, .ptr 0 0)] [] [] rfl ?_
      obtain ⟨r6, k7, h⟩ := h
      refine s_call (pI r6.1) [(0, [pL (e_u8 (T_spec_l1Cur.b r6.2)), pI (T_spec_l1Cur.i r6.2), pI (T_spec_l1Cur.h r6.2)])] [] rfl k7 rfl ?_
      refine s_run 1 [(5, pI r6.1)] [] [] rfl ?_
      refine seq_n (aw_wk (St [(0, .ptr 0 0), (1, pI p1), (5, pI r6.1)] [(0, [pL (e_u8 (T_spec_l1Cur.b r6.2)), pI (T_spec_l1Cur.i r6.2), pI (T_spec_l1Cur.h r6.2)])] []) (wk_St ⟨le_rfl _, le_rfl _, le_rfl _, trivial⟩ ⟨box_rfl rfl, trivial⟩ trivial rfl ⟨rfl, rfl, trivial⟩ ⟨rfl, rfl, trivial⟩) ?_)
      refine aw_seq (s_reg ?_)
      refine s_run 1 [(19, .ptr 0 0)] [] [] rfl ?_
      obtain ⟨r8, k9, h⟩ := h
      refine s_call (pI r8.1) [(0, [pL (e_u8 (T_spec_l1Cur.b r8.2)), pI (T_spec_l1Cur.i r8.2), pI (T_spec_l1Cur.h r8.2)])] [] rfl k9 rfl ?_
      refine s_run 1 [(6, pI r8.1)] [] [] rfl ?_
      refine seq_n (aw_wk (St [(0, .ptr 0 0), (1, pI p1), (5, pI r6.1), (6, pI r8.1)] [(0, [pL (e_u8 (T_spec_l1Cur.b r8.2)), pI (T_spec_l1Cur.i r8.2), pI (T_spec_l1Cur.h r8.2)])] []) (wk_St ⟨le_rfl _, le_rfl _, le_rfl _, le_rfl _, trivial⟩ ⟨box_rfl rfl, trivial⟩ trivial rfl ⟨rfl, rfl, trivial⟩ ⟨rfl, rfl, trivial⟩) ?_)
      refine aw_seq (s_reg ?_)
      refine s_run 1 [(21, .ptr 0 0)] [] [] rfl ?_
      obtain ⟨r10, k11, h⟩ := h
      refine s_call (pI r10.1) [(0, [pL (e_u8 (T_spec_l1Cur.b r10.2)), pI (T_spec_l1Cur.i r10.2), pI (T_spec_l1Cur.h r10.2)])] [] rfl k11 rfl ?_
      refine s_run 1 [(7, pI r10.1)] [] [] rfl ?_
      refine seq_n (aw_wk (St [(0, .ptr 0 0), (1, pI p1), (5, pI r6.1), (6, pI r8.1), (7, pI r10.1)] [(0, [pL (e_u8 (T_spec_l1Cur.b r10.2)), pI (T_spec_l1Cur.i r10.2), pI (T_spec_l1Cur.h r10.2)])] []) (wk_St ⟨le_rfl _, le_rfl _, le_rfl _, le_rfl _, le_rfl _, trivial⟩ ⟨box_rfl rfl, trivial⟩ trivial rfl ⟨rfl, rfl, trivial⟩ ⟨rfl, rfl, trivial⟩) ?_)
      refine aw_seq (s_reg ?_)
      refine s_run 1 [(23, .ptr 0 0)] [] [] rfl ?_
      obtain ⟨r12, k13, h⟩ := h
      refine s_call (pI r12.1) [(0, [pL (e_u8 (T_spec_l1Cur.b r12.2)), pI (T_spec_l1Cur.i r12.2), pI (T_spec_l1Cur.h r12.2)])] [] rfl k13 rfl ?_
      refine s_run 1 [(8, pI r12.1)] [] [] rfl ?_
      refine seq_n (aw_wk (St [(1, pI p1), (5, pI r6.1), (6, pI r8.1), (7, pI r10.1), (8, pI r12.1)] [(0, [pL (e_u8 (T_spec_l1Cur.b r12.2)), pI (T_spec_l1Cur.i r12.2), pI (T_spec_l1Cur.h r12.2)])] []) (wk_St ⟨le_rfl _, le_rfl _, le_rfl _, le_rfl _, le_rfl _, trivial⟩ ⟨box_rfl rfl, trivial⟩ trivial rfl ⟨rfl, rfl, trivial⟩ ⟨rfl, rfl, trivial⟩) ?_)
      refine aw_seq (s_reg ?_)
      refine s_run 11 [(35, pI p1), (34, pI (IntKind.i64.wrap ((IntKind.i64.wrap ((IntKind.i64.wrap ((IntKind.i64.wrap (r6.1 * (16777216 : Int))) + (IntKind.i64.wrap (r8.1 * (65536 : Int))))) + (IntKind.i64.wrap (r10.1 * (256 : Int))))) + r12.1))), (33, pI r12.1), (32, pI (IntKind.i64.wrap ((IntKind.i64.wrap ((IntKind.i64.wrap (r6.1 * (16777216 : Int))) + (IntKind.i64.wrap (r8.1 * (65536 : Int))))) + (IntKind.i64.wrap (r10.1 * (256 : Int)))))), (31, pI (IntKind.i64.wrap (r10.1 * (256 : Int)))), (30, pI r10.1), (29, pI (IntKind.i64.wrap ((IntKind.i64.wrap (r6.1 * (16777216 : Int))) + (IntKind.i64.wrap (r8.1 * (65536 : Int)))))), (28, pI (IntKind.i64.wrap (r8.1 * (65536 : Int)))), (27, pI r8.1), (26, pI (IntKind.i64.wrap (r6.1 * (16777216 : Int)))), (25, pI r6.1)] [] [] rfl ?_
      obtain ⟨g14, h⟩ := h
      refine s_rem rfl rfl g14 ?_
      refine s_run 1 [(4, pI (Int.tmod (IntKind.i64.wrap ((IntKind.i64.wrap ((IntKind.i64.wrap ((IntKind.i64.wrap (r6.1 * (16777216 : Int))) + (IntKind.i64.wrap (r8.1 * (65536 : Int))))) + (IntKind.i64.wrap (r10.1 * (256 : Int))))) + r12.1)) p1))] [] [] rfl ?_
      refine seq_n (aw_ret ?_)
      exact endp_ret _ h rfl


def ac_impl_RestrictSubst : AC :=
  .seq (.reg false [
    { dst := some 4, k := .mv (.c (.slice [])) }])
  (.seq (.reg false [
    { dst := some 5, k := .asg (.nl 5) }])
  (.seq (.seq (.reg false [
    { dst := some 10, k := .mv (.t 1) },
    { dst := some 11, k := .call 50 [(.t 10, .fz)] },
    { dst := some 12, k := .len (.t 11) },
    { dst := some 13, k := .mv (.c (.int .i64 (0))) }])
  (.wk (.block 0 (.loop (.seq (.reg false [
        { dst := some 14, k := .bin .lss (.t 13) (.t 12) }])
      (.seq (.cond (.t 14) (.skip)
      (.exit 0))
      (.seq (.block 1 (.seq (.reg false [
          { dst := some 15, k := .ia (.t 11) (.t 13) 1 },
          { dst := some 16, k := .ld (.t 15) 1 false },
          { dst := some 7, k := .mv (.t 16) }])
        (.seq (.reg false [
          { dst := some 18, k := .mv (.t 0) },
          { dst := some 19, k := .mv (.t 7) },
          { dst := some 20, k := .call 51 [(.t 18, .fz), (.t 19, .fz)] },
          { dst := some 17, k := .mv (.t 20) },
          { dst := some 21, k := .ex (.t 17) 0 },
          { dst := some 22, k := .ex (.t 17) 1 },
          { dst := some 8, k := .al [.p (.int .i64 0), .p (.int .i64 0), .p (.str []), .p (.slice [])] },
          { dst := none, k := .st (.t 8) (.t 21) 4 8 },
          { dst := some 9, k := .mv (.t 22) }])
        (.wk (.seq (.reg false [
          { dst := some 23, k := .mv (.t 9) }])
        (.cond (.t 23) (.reg false [
            { dst := some 24, k := .mv (.t 5) },
            { dst := some 25, k := .mv (.t 7) },
            { dst := some 26, k := .ld (.t 8) 4 true },
            { dst := some 27, k := .bd [.p (.str []), .p (.int .i64 0), .p (.int .i64 0), .p (.str []), .p (.slice [])] [(0, 1, .t 25), (1, 4, .t 26)] },
            { dst := some 28, k := .bs 5 [.t 27] },
            { dst := some 29, k := .app (.t 24) (.t 28) 5 72 },
            { dst := some 5, k := .mv (.t 29) }])
        (.skip)))))))
      (.reg false [
        { dst := some 30, k := .bin .add (.t 13) (.c (.int .i64 (1))) },
        { dst := some 13, k := .mv (.t 30) }]))))))))
  (.seq (.reg false [
    { dst := some 31, k := .mv (.t 5) },
    { dst := some 4, k := .mv (.t 31) }])
  (.ret))))
theorem chk_impl_RestrictSubst : fnOK Try.prog 2 Try.f22 ac_impl_RestrictSubst [(.tmp 4, .fz)] = true := by kernel_rfl
def wp_impl_RestrictSubst (p0 : (List Bd)) (p1 : (List Str)) (post : (List Bd) → Prop) : Prop :=
  (∃ r1 : (List Str), C_impl_SortNames p1 r1 ∧ LOOP (fun (N18 : (Int × (List Bd)) → Prop) (s3 : Int × (List Bd)) => (((decide (s3.1 < ((List.length r1 : Nat) : Int))) = true → (∃ u23, GETI r1 s3.1 u23 ∧ (∃ r25 : Tm × Bool, C_impl_FindBind p0 u23 r25 ∧ ((r25.2 = true → ((List.length s3.2 + List.length ([(Bd.mk u23 r25.1)] : List Bd)) * 72 ≤ 140737488355328 ∧ N18 ((IntKind.i64.wrap (s3.1 + (1 : Int))), (s3.2 ++ ([(Bd.mk u23 r25.1)] : List Bd))))) ∧ (r25.2 = false → N18 ((IntKind.i64.wrap (s3.1 + (1 : Int))), s3.2)))))) ∧ ((decide (s3.1 < ((List.length r1 : Nat) : Int))) = false → post s3.2))) ((0 : Int), ([] : List Bd)))
theorem w_impl_RestrictSubst (p0 : (List Bd)) (p1 : (List Str)) (post : (List Bd) → Prop) (h : wp_impl_RestrictSubst p0 p1 post) : ∃ r, post r ∧ C_impl_RestrictSubst p0 p1 r := by
  unfold wp_impl_RestrictSubst at h
  refine evs_of (encR := fun r : (List Bd) => .one (.l (.fz (.slice (e_Bd r))))) (encO := fun r => []) 2 [(.tmp 4, .fz)] [.fz, .fz] Try.func22 chk_impl_RestrictSubst rfl rfl [(1, pL (e_str p1)), (0, pL (e_Bd p0))] [] [] rfl ?_
  refine aw_seq (s_reg ?_)
  refine s_run 1 [(4, pL (e_Bd ([] : List Bd)))] [] [] rfl ?_
  refine seq_n (aw_seq (s_reg ?_))
  refine s_run 1 [(5, .tip (0, 5, 0) (0) (e_Bd ([] : List Bd)))] [] [((0, 5, 0), 0, .tip (e_Bd ([] : List Bd)).length 5)] rfl ?_
  refine seq_n (aw_seq (aw_seq (s_reg ?_)))
  refine s_run 1 [(10, pL (e_str p1))] [] [] rfl ?_
  obtain ⟨r1, k2, h⟩ := h
  refine s_call (.tip (0, 11, 0) (0) (e_str r1)) [] [((0, 11, 0), 0, .tip (e_str r1).length 1)] (args_one rfl (args_nil)) k2 rfl ?_
  refine s_len rfl (enc_len (e := e_str) _) ?_
  refine s_run 1 [(13, pI (0 : Int))] [] [] rfl ?_
  refine seq_n (aw_wk (St [(0, pL (e_Bd p0)), (5, .tip (0, 5, 0) (0) (e_Bd ([] : List Bd))), (11, .tip (0, 11, 0) (0) (e_str r1)), (12, pI ((List.length r1 : Nat) : Int)), (13, pI (0 : Int))] [] [((0, 5, 0), 0, .tip (e_Bd ([] : List Bd)).length 5), ((0, 11, 0), 0, .tip (e_str r1).length 1)]) (wk_St ⟨le_rfl _, le_rfl _, le_rfl _, le_rfl _, le_rfl _, trivial⟩ trivial ⟨rfl, rfl, trivial⟩ rfl ⟨rfl, rfl, trivial⟩ ⟨rfl, rfl, trivial⟩) ?_)
  refine aw_blk ?_
  obtain ⟨I20, m21, h0, h⟩ := h
  refine aw_loop' (ι := { y : Int × (List Bd) // I20 y }) (fun x19 => St [(0, pL (e_Bd p0)), (5, .tip (0, 5, 0) (0) (e_Bd x19.1.2)), (11, .tip (0, 11, 0) (0) (e_str r1)), (12, pI ((List.length r1 : Nat) : Int)), (13, pI x19.1.1)] [] [((0, 5, 0), 0, .tip (e_Bd x19.1.2).length 5), ((0, 11, 0), 0, .tip (e_str r1).length 1)]) (fun x19 => m21 x19.1) ⟨_, h0⟩ ?_ ?_
  · exact wk_St ⟨le_rfl _, le_rfl _, le_rfl _, le_rfl _, le_rfl _, trivial⟩ trivial ⟨rfl, rfl, trivial⟩ rfl ⟨rfl, rfl, trivial⟩ ⟨rfl, rfl, trivial⟩
  · rintro ⟨s3, hs3⟩
    replace h := h s3 hs3
    refine aw_seq (s_reg ?_)
    refine s_run 1 [(14, pB (decide (s3.1 < ((List.length r1 : Nat) : Int))))] [] [] rfl ?_
    refine seq_n (aw_seq (s_if rfl (fun c22 => ?_) (fun c22 => ?_)))
    · have h := h.1 c22
      refine aw_skip (seq_n (aw_seq (aw_blk (aw_seq (s_reg ?_)))))
      obtain ⟨u23, ⟨g24a, g24b⟩, h⟩ := h
      refine s_ia rfl rfl g24a (enc_get (e := e_str) g24b) rfl ?_
      refine s_run 2 [(7, pS u23), (16, pS u23)] [] [] rfl ?_
      refine seq_n (aw_seq (s_reg ?_))
      refine s_run 2 [(19, pS u23), (18, pL (e_Bd p0))] [] [] rfl ?_
      obtain ⟨r25, k26, h⟩ := h
      refine s_call (.tup [.p (.agg (Tm.cells r25.1)), pB r25.2]) [] [] rfl k26 rfl ?_
      refine s_run 6 [(9, pB r25.2), (8, .ptr 8 0), (22, pB r25.2), (21, .p (.agg (Tm.cells r25.1))), (17, .tup [.p (.agg (Tm.cells r25.1)), pB r25.2])] [(8, [pI (Tm.kind r25.1), pI (Tm.n r25.1), pS (Tm.name r25.1), pL (Tm.encL (Tm.args r25.1))]), (8, [pI (0 : Int), pI (0 : Int), pS ([] : Str), pL (Tm.encL ([] : List Tm))])] [] rfl ?_
      refine seq_n (aw_wk (St [(0, pL (e_Bd p0)), (5, .tip (0, 5, 0) (0) (e_Bd s3.2)), (7, pS u23), (8, .ptr 8 0), (9, pB r25.2), (11, .tip (0, 11, 0) (0) (e_str r1)), (12, pI ((List.length r1 : Nat) : Int)), (13, pI s3.1)] [(8, [pI (Tm.kind r25.1), pI (Tm.n r25.1), pS (Tm.name r25.1), pL (Tm.encL (Tm.args r25.1))])] [((0, 5, 0), 0, .tip (e_Bd s3.2).length 5), ((0, 11, 0), 0, .tip (e_str r1).length 1)]) (wk_St ⟨le_rfl _, le_rfl _, le_rfl _, le_rfl _, le_rfl _, le_rfl _, le_rfl _, le_rfl _, trivial⟩ ⟨box_rfl rfl, trivial⟩ ⟨rfl, rfl, trivial⟩ rfl ⟨rfl, rfl, trivial⟩ ⟨rfl, rfl, trivial⟩) ?_)
      refine aw_seq (s_reg ?_)
      refine s_run 1 [(23, pB r25.2)] [] [] rfl ?_
      refine seq_n (s_if rfl (fun c27 => ?_) (fun c27 => ?_))
      · have h := h.1 c27
        refine s_reg ?_
        refine s_run 4 [(27, .agg [pS u23, pI (Tm.kind r25.1), pI (Tm.n r25.1), pS (Tm.name r25.1), pL (Tm.encL (Tm.args r25.1))]), (26, .agg [pI (Tm.kind r25.1), pI (Tm.n r25.1), pS (Tm.name r25.1), pL (Tm.encL (Tm.args r25.1))]), (25, pS u23), (24, .tip (0, 5, 0) (0) (e_Bd s3.2))] [] [] rfl ?_
        refine s_bs rfl rfl (enc_cons (e := e_Bd) (Bd.mk u23 r25.1) (enc_nil (e := e_Bd))) ?_
        obtain ⟨g28, h⟩ := h
        refine s_app rfl rfl rfl (enc_sz (e := e_Bd) _) (enc_len (e := e_Bd) _) (enc_len (e := e_Bd) _) g28 (enc_app (e := e_Bd) _ _) ?_
        refine s_run 1 [(5, .tip (0, 5, 0) (0) (e_Bd (s3.2 ++ ([(Bd.mk u23 r25.1)] : List Bd))))] [] [] rfl ?_
        refine blk_n (seq_n (s_reg ?_))
        refine s_run 2 [(13, pI (IntKind.i64.wrap (s3.1 + (1 : Int)))), (30, pI (IntKind.i64.wrap (s3.1 + (1 : Int))))] [] [] rfl ?_
        exact loop_n ⟨_, h.1⟩ h.2 (wk_St ⟨le_rfl _, le_rfl _, le_rfl _, le_rfl _, le_rfl _, trivial⟩ trivial ⟨rfl, rfl, trivial⟩ rfl ⟨rfl, rfl, trivial⟩ ⟨rfl, rfl, trivial⟩)
      · have h := h.2 c27
        refine aw_skip (blk_n (seq_n (s_reg ?_)))
        refine s_run 2 [(13, pI (IntKind.i64.wrap (s3.1 + (1 : Int)))), (30, pI (IntKind.i64.wrap (s3.1 + (1 : Int))))] [] [] rfl ?_
        exact loop_n ⟨_, h.1⟩ h.2 (wk_St ⟨le_rfl _, le_rfl _, le_rfl _, le_rfl _, le_rfl _, trivial⟩ trivial ⟨rfl, rfl, trivial⟩ rfl ⟨rfl, rfl, trivial⟩ ⟨rfl, rfl, trivial⟩)
    · have h := h.2 c22
      refine aw_exit (seq_x (loop_x (blk_x (seq_n (aw_seq (s_reg ?_))))))
      refine s_run 2 [(4, .tip (0, 5, 0) (0) (e_Bd s3.2)), (31, .tip (0, 5, 0) (0) (e_Bd s3.2))] [] [] rfl ?_
      refine seq_n (aw_ret ?_)
      exact endp_ret _ h rfl


def ac_spec_DrawIsVariant : AC :=
  .seq (.reg false [
    { dst := some 2, k := .al [.p (.int .i64 0), .p (.int .i64 0), .p (.str []), .p (.slice [])] },
    { dst := some 3, k := .al [.p (.int .i64 0), .p (.int .i64 0), .p (.str []), .p (.slice [])] }])
  (.seq (.reg false [
    { dst := some 8, k := .mv (.t 0) },
    { dst := some 9, k := .call 32 [(.t 8, .fz)] },
    { dst := some 7, k := .mv (.t 9) },
    { dst := some 10, k := .ex (.t 7) 0 },
    { dst := some 11, k := .ex (.t 7) 1 },
    { dst := some 4, k := .al [.p (.int .i64 0), .p (.int .i64 0), .p (.str []), .p (.slice [])] },
    { dst := some 5, k := .al [.p (.int .i64 0), .p (.int .i64 0), .p (.str []), .p (.slice [])] },
    { dst := none, k := .st (.t 4) (.t 10) 4 4 },
    { dst := none, k := .st (.t 5) (.t 11) 4 5 }])
  (.wk (.seq (.reg false [
    { dst := some 12, k := .mv (.t 0) },
    { dst := some 13, k := .call 38 [(.t 12, .fz)] },
    { dst := some 6, k := .mv (.t 13) }])
  (.wk (.seq (.seq (.reg false [
    { dst := some 14, k := .mv (.t 6) },
    { dst := some 15, k := .call 39 [(.t 14, .io [false, false, false]), (.c (.int .i64 (2)), .fz)] }])
  (.wk (.cond (.t 15) (.seq (.reg true [
      { dst := some 16, k := .ld (.t 4) 4 true, vb := .only [4] },
      { dst := some 17, k := .ld (.t 4) 4 true, vb := .only [4] },
      { dst := some 18, k := .call 40 [(.t 17, .fz), (.c (.str [49]), .fz)], vb := .but [4], vl := .but [4] },
      { dst := none, k := .st (.t 2) (.t 16) 4 2, vb := .only [2] },
      { dst := none, k := .st (.t 3) (.t 18) 4 3, vb := .only [3] }])
    (.ret))
  (.skip))))
  (.wk (.seq (.reg true [
    { dst := some 19, k := .ld (.t 4) 4 true, vb := .only [4] },
    { dst := some 20, k := .ld (.t 5) 4 true, vb := .only [5] },
    { dst := none, k := .st (.t 2) (.t 19) 4 2, vb := .only [2] },
    { dst := none, k := .st (.t 3) (.t 20) 4 3, vb := .only [3] }])
  (.ret))))))))
theorem chk_spec_DrawIsVariant : fnOK Try.prog 1 Try.f12 ac_spec_DrawIsVariant [(.cell 2 4 true, .fz), (.cell 3 4 true, .fz)] = true := by kernel_rfl
def wp_spec_DrawIsVariant (p0 : (List Int)) (post : (Tm × Tm) → Prop) : Prop :=
  (∃ r1 : Tm × Tm, C_spec_l8Two p0 r1 ∧ (∃ r3 : T_spec_l1Cur, C_spec_l1New p0 r3 ∧ (∃ r5 : Bool × T_spec_l1Cur, C_spec_l1Once r3 (2 : Int) r5 ∧ ((r5.1 = true → (∃ r8 : Tm, C_spec_RenameVars r1.1 ([49] : Str) r8 ∧ post (r1.1, r8))) ∧ (r5.1 = false → post (r1.1, r1.2))))))
theorem w_spec_DrawIsVariant (p0 : (List Int)) (post : (Tm × Tm) → Prop) (h : wp_spec_DrawIsVariant p0 post) : ∃ r, post r ∧ C_spec_DrawIsVariant p0 r := by
  unfold wp_spec_DrawIsVariant at h
  refine evs_of (encR := fun r : Tm × Tm => .tup [.l (.fz (.agg (Tm.cells r.1))), .l (.fz (.agg (Tm.cells r.2)))]) (encO := fun r => []) 1 [(.cell 2 4 true, .fz), (.cell 3 4 true, .fz)] [.fz] Try.func12 chk_spec_DrawIsVariant rfl rfl [(0, pL (e_u8 p0))] [] [] rfl ?_
  refine aw_seq (s_reg ?_)
  refine s_run 2 [(3, .ptr 3 0), (2, .ptr 2 0)] [(3, [pI (0 : Int), pI (0 : Int), pS ([] : Str), pL (Tm.encL ([] : List Tm))]), (2, [pI (0 : Int), pI (0 : Int), pS ([] : Str), pL (Tm.encL ([] : List Tm))])] [] rfl ?_
  refine seq_n (aw_seq (s_reg ?_))
  refine s_run 1 [(8, pL (e_u8 p0))] [] [] rfl ?_
  obtain ⟨r1, k2, h⟩ := h
  refine s_call (.tup [.p (.agg (Tm.cells r1.1)), .p (.agg (Tm.cells r1.2))]) [] [] rfl k2 rfl ?_
  refine s_run 7 [(5, .ptr 5 0), (4, .ptr 4 0), (11, .p (.agg (Tm.cells r1.2))), (10, .p (.agg (Tm.cells r1.1))), (7, .tup [.p (.agg (Tm.cells r1.1)), .p (.agg (Tm.cells r1.2))])] [(5, [pI (Tm.kind r1.2), pI (Tm.n r1.2), pS (Tm.name r1.2), pL (Tm.encL (Tm.args r1.2))]), (4, [pI (Tm.kind r1.1), pI (Tm.n r1.1), pS (Tm.name r1.1), pL (Tm.encL (Tm.args r1.1))]), (5, [pI (0 : Int), pI (0 : Int), pS ([] : Str), pL (Tm.encL ([] : List Tm))]), (4, [pI (0 : Int), pI (0 : Int), pS ([] : Str), pL (Tm.encL ([] : List Tm))])] [] rfl ?_
  refine seq_n (aw_wk (St [(0, pL (e_u8 p0)), (2, .ptr 2 0), (3, .ptr 3 0), (4, .ptr 4 0), (5, .ptr 5 0)] [(2, [pI (0 : Int), pI (0 : Int), pS ([] : Str), pL (Tm.encL ([] : List Tm))]), (3, [pI (0 : Int), pI (0 : Int), pS ([] : Str), pL (Tm.encL ([] : List Tm))]), (4, [pI (Tm.kind r1.1), pI (Tm.n r1.1), pS (Tm.name r1.1), pL (Tm.encL (Tm.args r1.1))]), (5, [pI (Tm.kind r1.2), pI (Tm.n r1.2), pS (Tm.name r1.2), pL (Tm.encL (Tm.args r1.2))])] []) (wk_St ⟨le_rfl _, le_rfl _, le_rfl _, le_rfl _, le_rfl _, trivial⟩ ⟨box_rfl rfl, box_rfl rfl, box_rfl rfl, box_rfl rfl, trivial⟩ trivial rfl ⟨rfl, trivial⟩ ⟨rfl, trivial⟩) ?_)
  refine aw_seq (s_reg ?_)
  refine s_run 1 [(12, pL (e_u8 p0))] [] [] rfl ?_
  obtain ⟨r3, k4, h⟩ := h
  refine s_call (.ptr 13 0) [(13, [pL (e_u8 (T_spec_l1Cur.b r3)), pI (T_spec_l1Cur.i r3), pI (T_spec_l1Cur.h r3)])] [] rfl k4 rfl ?_
  refine s_run 1 [(6, .ptr 13 0)] [] [] rfl ?_
  refine seq_n (aw_wk (St [(2, .ptr 2 0), (3, .ptr 3 0), (4, .ptr 4 0), (5, .ptr 5 0), (6, .ptr 13 0)] [(2, [pI (0 : Int), pI (0 : Int), pS ([] : Str), pL (Tm.encL ([] : List Tm))]), (3, [pI (0 : Int), pI (0 : Int), pS ([] : Str), pL (Tm.encL ([] : List Tm))]), (4, [pI (Tm.kind r1.1), pI (Tm.n r1.1), pS (Tm.name r1.1), pL (Tm.encL (Tm.args r1.1))]), (5, [pI (Tm.kind r1.2), pI (Tm.n r1.2), pS (Tm.name r1.2), pL (Tm.encL (Tm.args r1.2))]), (13, [pL (e_u8 (T_spec_l1Cur.b r3)), pI (T_spec_l1Cur.i r3), pI (T_spec_l1Cur.h r3)])] []) (wk_St ⟨le_rfl _, le_rfl _, le_rfl _, le_rfl _, le_rfl _, trivial⟩ ⟨box_rfl rfl, box_rfl rfl, box_rfl rfl, box_rfl rfl, box_rfl rfl, trivial⟩ trivial rfl ⟨rfl, trivial⟩ ⟨rfl, trivial⟩) ?_)
  refine aw_seq (aw_seq (s_reg ?_))
  refine s_run 1 [(14, .ptr 13 0)] [] [] rfl ?_
  obtain ⟨r5, k6, h⟩ := h
  refine s_call (pB r5.1) [(13, [pL (e_u8 (T_spec_l1Cur.b r5.2)), pI (T_spec_l1Cur.i r5.2), pI (T_spec_l1Cur.h r5.2)])] [] rfl k6 rfl ?_
  refine seq_n (aw_wk (St [(2, .ptr 2 0), (3, .ptr 3 0), (4, .ptr 4 0), (5, .ptr 5 0), (15, pB r5.1)] [(2, [pI (0 : Int), pI (0 : Int), pS ([] : Str), pL (Tm.encL ([] : List Tm))]), (3, [pI (0 : Int), pI (0 : Int), pS ([] : Str), pL (Tm.encL ([] : List Tm))]), (4, [pI (Tm.kind r1.1), pI (Tm.n r1.1), pS (Tm.name r1.1), pL (Tm.encL (Tm.args r1.1))]), (5, [pI (Tm.kind r1.2), pI (Tm.n r1.2), pS (Tm.name r1.2), pL (Tm.encL (Tm.args r1.2))])] []) (wk_St ⟨le_rfl _, le_rfl _, le_rfl _, le_rfl _, le_rfl _, trivial⟩ ⟨box_rfl rfl, box_rfl rfl, box_rfl rfl, box_rfl rfl, trivial⟩ trivial rfl ⟨rfl, trivial⟩ ⟨rfl, trivial⟩) ?_)
  refine s_if rfl (fun c7 => ?_) (fun c7 => ?_)
  · have h := h.1 c7
    refine aw_seq (s_reg ?_)
    refine s_run 2 [(17, .agg [pI (Tm.kind r1.1), pI (Tm.n r1.1), pS (Tm.name r1.1), pL (Tm.encL (Tm.args r1.1))]), (16, .agg [pI (Tm.kind r1.1), pI (Tm.n r1.1), pS (Tm.name r1.1), pL (Tm.encL (Tm.args r1.1))])] [] [] rfl ?_
    obtain ⟨r8, k9, h⟩ := h
    refine s_call (.p (.agg (Tm.cells r8))) [] [] rfl k9 rfl ?_
    refine s_run 2 [] [(3, [pI (Tm.kind r8), pI (Tm.n r8), pS (Tm.name r8), pL (Tm.encL (Tm.args r8))]), (2, [pI (Tm.kind r1.1), pI (Tm.n r1.1), pS (Tm.name r1.1), pL (Tm.encL (Tm.args r1.1))])] [] rfl ?_
    refine seq_n (aw_ret ?_)
    exact endp_ret _ h rfl
  · have h := h.2 c7
    refine aw_skip (seq_n (aw_wk (St [(2, .ptr 2 0), (3, .ptr 3 0), (4, .ptr 4 0), (5, .ptr 5 0)] [(2, [pI (0 : Int), pI (0 : Int), pS ([] : Str), pL (Tm.encL ([] : List Tm))]), (3, [pI (0 : Int), pI (0 : Int), pS ([] : Str), pL (Tm.encL ([] : List Tm))]), (4, [pI (Tm.kind r1.1), pI (Tm.n r1.1), pS (Tm.name r1.1), pL (Tm.encL (Tm.args r1.1))]), (5, [pI (Tm.kind r1.2), pI (Tm.n r1.2), pS (Tm.name r1.2), pL (Tm.encL (Tm.args r1.2))])] []) (wk_St ⟨le_rfl _, le_rfl _, le_rfl _, le_rfl _, trivial⟩ ⟨box_rfl rfl, box_rfl rfl, box_rfl rfl, box_rfl rfl, trivial⟩ trivial rfl ⟨rfl, trivial⟩ ⟨rfl, trivial⟩) ?_))
    refine aw_seq (s_reg ?_)
    refine s_run 4 [(20, .agg [pI (Tm.kind r1.2), pI (Tm.n r1.2), pS (Tm.name r1.2), pL (Tm.encL (Tm.args r1.2))]), (19, .agg [pI (Tm.kind r1.1), pI (Tm.n r1.1), pS (Tm.name r1.1), pL (Tm.encL (Tm.args r1.1))])] [(3, [pI (Tm.kind r1.2), pI (Tm.n r1.2), pS (Tm.name r1.2), pL (Tm.encL (Tm.args r1.2))]), (2, [pI (Tm.kind r1.1), pI (Tm.n r1.1), pS (Tm.name r1.1), pL (Tm.encL (Tm.args r1.1))])] [] rfl ?_
    refine seq_n (aw_ret ?_)
    exact endp_ret _ h rfl


def ac_spec_l13Ints : AC :=
  .seq (.reg false [
    { dst := some 4, k := .mv (.c (.bool false)) }])
  (.seq (.seq (.reg false [
    { dst := some 6, k := .mv (.t 0) },
    { dst := some 7, k := .len (.t 6) },
    { dst := some 8, k := .mv (.t 1) },
    { dst := some 9, k := .len (.t 8) },
    { dst := some 10, k := .bin .neq (.t 7) (.t 9) }])
  (.cond (.t 10) (.seq (.reg false [
      { dst := some 4, k := .mv (.c (.bool false)) }])
    (.ret))
  (.skip)))
  (.wk (.seq (.seq (.reg false [
    { dst := some 5, k := .mv (.c (.int .i64 (0))) }])
  (.block 0 (.loop (.seq (.seq (.reg false [
        { dst := some 11, k := .mv (.t 5) },
        { dst := some 12, k := .mv (.t 0) },
        { dst := some 13, k := .len (.t 12) },
        { dst := some 14, k := .bin .lss (.t 11) (.t 13) }])
      (.cond (.t 14) (.skip)
      (.exit 0)))
      (.wk (.seq (.block 1 (.seq (.reg true [
          { dst := some 17, k := .mv (.t 0) },
          { dst := some 18, k := .mv (.t 5) },
          { dst := some 19, k := .ia (.t 17) (.t 18) 1 },
          { dst := some 20, k := .ld (.t 19) 1 false, vb := .only [] },
          { dst := some 21, k := .mv (.t 1) },
          { dst := some 22, k := .mv (.t 5) },
          { dst := some 23, k := .ia (.t 21) (.t 22) 1 },
          { dst := some 24, k := .ld (.t 23) 1 false, vb := .only [] },
          { dst := some 25, k := .bin .neq (.t 20) (.t 24) }])
        (.cond (.t 25) (.seq (.reg false [
            { dst := some 4, k := .mv (.c (.bool false)) }])
          (.ret))
        (.skip))))
      (.wk (.reg false [
        { dst := some 15, k := .mv (.t 5) },
        { dst := some 16, k := .bin .add (.t 15) (.c (.int .i64 (1))) },
        { dst := some 5, k := .mv (.t 16) }]))))))))
  (.seq (.reg false [
    { dst := some 4, k := .mv (.c (.bool true)) }])
  (.ret)))))
theorem chk_spec_l13Ints : fnOK Try.prog 2 Try.f65 ac_spec_l13Ints [(.tmp 4, .fz)] = true := by kernel_rfl
def wp_spec_l13Ints (p0 : (List Int)) (p1 : (List Int)) (post : Bool → Prop) : Prop :=
  (((((List.length p0 : Nat) : Int) != ((List.length p1 : Nat) : Int)) = true → post false) ∧ ((((List.length p0 : Nat) : Int) != ((List.length p1 : Nat) : Int)) = false → LOOP (fun (N15 : Int → Prop) (s2 : Int) => (((decide (s2 < ((List.length p0 : Nat) : Int))) = true → (∃ u20, GETI p0 s2 u20 ∧ (∃ u22, GETI p1 s2 u22 ∧ (((u20 != u22) = true → post false) ∧ ((u20 != u22) = false → N15 (IntKind.i64.wrap (s2 + (1 : Int)))))))) ∧ ((decide (s2 < ((List.length p0 : Nat) : Int))) = false → post true))) (0 : Int)))
theorem w_spec_l13Ints (p0 : (List Int)) (p1 : (List Int)) (post : Bool → Prop) (h : wp_spec_l13Ints p0 p1 post) : ∃ r, post r ∧ C_spec_l13Ints p0 p1 r := by
  unfold wp_spec_l13Ints at h
  refine evs_of (encR := fun r : Bool => .one (.l (.fz (.bool r)))) (encO := fun r => []) 2 [(.tmp 4, .fz)] [.fz, .fz] Try.func65 chk_spec_l13Ints rfl rfl [(1, pL (e_i64 p1)), (0, pL (e_i64 p0))] [] [] rfl ?_
  refine aw_seq (s_reg ?_)
  refine s_run 1 [(4, pB false)] [] [] rfl ?_
  refine seq_n (aw_seq (aw_seq (s_reg ?_)))
  refine s_run 1 [(6, pL (e_i64 p0))] [] [] rfl ?_
  refine s_len rfl (enc_len (e := e_i64) _) ?_
  refine s_run 1 [(8, pL (e_i64 p1))] [] [] rfl ?_
  refine s_len rfl (enc_len (e := e_i64) _) ?_
  refine s_run 1 [(10, pB (((List.length p0 : Nat) : Int) != ((List.length p1 : Nat) : Int)))] [] [] rfl ?_
  refine seq_n (s_if rfl (fun c1 => ?_) (fun c1 => ?_))
  · have h := h.1 c1
    refine aw_seq (s_reg ?_)
    refine s_run 1 [(4, pB false)] [] [] rfl ?_
    refine seq_n (aw_ret ?_)
    exact endp_ret _ h rfl
  · have h := h.2 c1
    refine aw_skip (seq_n (aw_wk (St [(0, pL (e_i64 p0)), (1, pL (e_i64 p1))] [] []) (wk_St ⟨le_rfl _, le_rfl _, trivial⟩ trivial trivial rfl ⟨rfl, rfl, trivial⟩ ⟨rfl, rfl, trivial⟩) ?_))
    refine aw_seq (aw_seq (s_reg ?_))
    refine s_run 1 [(5, pI (0 : Int))] [] [] rfl ?_
    refine seq_n (aw_blk ?_)
    obtain ⟨I17, m18, h0, h⟩ := h
    refine aw_loop' (ι := { y : Int // I17 y }) (fun x16 => St [(0, pL (e_i64 p0)), (1, pL (e_i64 p1)), (5, pI x16.1)] [] []) (fun x16 => m18 x16.1) ⟨_, h0⟩ ?_ ?_
    · exact wk_St ⟨le_rfl _, le_rfl _, le_rfl _, trivial⟩ trivial trivial rfl ⟨rfl, rfl, trivial⟩ ⟨rfl, rfl, trivial⟩
    · rintro ⟨s2, hs2⟩
      replace h := h s2 hs2
      refine aw_seq (aw_seq (s_reg ?_))
      refine s_run 2 [(12, pL (e_i64 p0)), (11, pI s2)] [] [] rfl ?_
      refine s_len rfl (enc_len (e := e_i64) _) ?_
      refine s_run 1 [(14, pB (decide (s2 < ((List.length p0 : Nat) : Int))))] [] [] rfl ?_
      refine seq_n (s_if rfl (fun c19 => ?_) (fun c19 => ?_))
      · have h := h.1 c19
        refine aw_skip (seq_n (aw_wk (St [(0, pL (e_i64 p0)), (1, pL (e_i64 p1)), (5, pI s2)] [] []) (wk_St ⟨le_rfl _, le_rfl _, le_rfl _, trivial⟩ trivial trivial rfl ⟨rfl, rfl, trivial⟩ ⟨rfl, rfl, trivial⟩) ?_))
        refine aw_seq (aw_blk (aw_seq (s_reg ?_)))
        refine s_run 2 [(18, pI s2), (17, pL (e_i64 p0))] [] [] rfl ?_
        obtain ⟨u20, ⟨g21a, g21b⟩, h⟩ := h
        refine s_ia rfl rfl g21a (enc_get (e := e_i64) g21b) rfl ?_
        refine s_run 3 [(22, pI s2), (21, pL (e_i64 p1)), (20, pI u20)] [] [] rfl ?_
        obtain ⟨u22, ⟨g23a, g23b⟩, h⟩ := h
        refine s_ia rfl rfl g23a (enc_get (e := e_i64) g23b) rfl ?_
        refine s_run 2 [(25, pB (u20 != u22)), (24, pI u22)] [] [] rfl ?_
        refine seq_n (s_if rfl (fun c24 => ?_) (fun c24 => ?_))
        · have h := h.1 c24
          refine aw_seq (s_reg ?_)
          refine s_run 1 [(4, pB false)] [] [] rfl ?_
          refine seq_n (aw_ret ?_)
          exact endp_ret _ h rfl
        · have h := h.2 c24
          refine aw_skip (blk_n (seq_n (aw_wk (St [(0, pL (e_i64 p0)), (1, pL (e_i64 p1)), (5, pI s2)] [] []) (wk_St ⟨le_rfl _, le_rfl _, le_rfl _, trivial⟩ trivial trivial rfl ⟨rfl, rfl, trivial⟩ ⟨rfl, rfl, trivial⟩) ?_)))
          refine s_reg ?_
          refine s_run 3 [(5, pI (IntKind.i64.wrap (s2 + (1 : Int)))), (16, pI (IntKind.i64.wrap (s2 + (1 : Int)))), (15, pI s2)] [] [] rfl ?_
          exact loop_n ⟨_, h.1⟩ h.2 (wk_St ⟨le_rfl _, le_rfl _, le_rfl _, trivial⟩ trivial trivial rfl ⟨rfl, rfl, trivial⟩ ⟨rfl, rfl, trivial⟩)
      · have h := h.2 c19
        refine aw_exit (seq_x (loop_x (blk_x (seq_n (aw_seq (s_reg ?_))))))
        refine s_run 1 [(4, pB true)] [] [] rfl ?_
        refine seq_n (aw_ret ?_)
        exact endp_ret _ h rfl


def ac_spec_MatchTerm : AC :=
  .seq (.reg false [
    { dst := some 2, k := .bx (.t 0) 4 },
    { dst := some 3, k := .bx (.t 1) 4 },
    { dst := some 4, k := .mv (.c (.slice [])) },
    { dst := some 5, k := .mv (.c (.bool false)) }])
  (.wk (.seq (.reg false [
    { dst := some 9, k := .ld (.t 2) 4 true },
    { dst := some 10, k := .ld (.t 3) 4 true },
    { dst := some 11, k := .bs 5 [] },
    { dst := some 12, k := .call 35 [(.t 9, .fz), (.t 10, .fz), (.t 11, .ow)] },
    { dst := some 8, k := .mv (.t 12) },
    { dst := some 13, k := .ex (.t 8) 0 },
    { dst := some 14, k := .ex (.t 8) 1 },
    { dst := some 6, k := .mv (.t 13) },
    { dst := some 7, k := .mv (.t 14) }])
  (.wk (.seq (.seq (.reg false [
    { dst := some 15, k := .mv (.t 7) },
    { dst := some 16, k := .un .not (.t 15) }])
  (.cond (.t 16) (.seq (.reg false [
      { dst := some 17, k := .bs 5 [] },
      { dst := some 4, k := .mv (.t 17) },
      { dst := some 5, k := .mv (.c (.bool false)) }])
    (.ret))
  (.skip)))
  (.wk (.seq (.reg false [
    { dst := some 18, k := .mv (.t 6) },
    { dst := some 19, k := .ld (.t 2) 4 true },
    { dst := some 20, k := .call 36 [(.t 19, .fz)] },
    { dst := some 21, k := .call 24 [(.t 18, .fz), (.t 20, .fz)] },
    { dst := some 4, k := .mv (.t 21) },
    { dst := some 5, k := .mv (.c (.bool true)) }])
  (.ret)))))))
theorem chk_spec_MatchTerm : fnOK Try.prog 2 Try.f9 ac_spec_MatchTerm [(.tmp 4, .fz), (.tmp 5, .fz)] = true := by kernel_rfl
def wp_spec_MatchTerm (p0 : Tm) (p1 : Tm) (post : ((List Bd) × Bool) → Prop) : Prop :=
  (∃ r1 : (List Bd) × Bool, C_spec_l8Match p0 p1 ([] : List Bd) r1 ∧ ((r1.2 = true → (∃ r4 : (List Str), C_spec_VarsOfTerm p0 r4 ∧ (∃ r6 : (List Bd), C_spec_RestrictSubst r1.1 r4 r6 ∧ post (r6, true)))) ∧ (r1.2 = false → post (([] : List Bd), false))))
theorem w_spec_MatchTerm (p0 : Tm) (p1 : Tm) (post : ((List Bd) × Bool) → Prop) (h : wp_spec_MatchTerm p0 p1 post) : ∃ r, post r ∧ C_spec_MatchTerm p0 p1 r := by
  unfold wp_spec_MatchTerm at h
  refine evs_of (encR := fun r : (List Bd) × Bool => .tup [.l (.fz (.slice (e_Bd r.1))), .l (.fz (.bool r.2))]) (encO := fun r => []) 2 [(.tmp 4, .fz), (.tmp 5, .fz)] [.fz, .fz] Try.func9 chk_spec_MatchTerm rfl rfl [(1, .p (.agg (Tm.cells p1))), (0, .p (.agg (Tm.cells p0)))] [] [] rfl ?_
  refine aw_seq (s_reg ?_)
  refine s_run 4 [(5, pB false), (4, pL (e_Bd ([] : List Bd))), (3, .ptr 3 0), (2, .ptr 2 0)] [(3, [pI (Tm.kind p1), pI (Tm.n p1), pS (Tm.name p1), pL (Tm.encL (Tm.args p1))]), (2, [pI (Tm.kind p0), pI (Tm.n p0), pS (Tm.name p0), pL (Tm.encL (Tm.args p0))])] [] rfl ?_
  refine seq_n (aw_wk (St [(2, .ptr 2 0), (3, .ptr 3 0)] [(2, [pI (Tm.kind p0), pI (Tm.n p0), pS (Tm.name p0), pL (Tm.encL (Tm.args p0))]), (3, [pI (Tm.kind p1), pI (Tm.n p1), pS (Tm.name p1), pL (Tm.encL (Tm.args p1))])] []) (wk_St ⟨le_rfl _, le_rfl _, trivial⟩ ⟨box_rfl rfl, box_rfl rfl, trivial⟩ trivial rfl ⟨rfl, rfl, trivial⟩ ⟨rfl, rfl, trivial⟩) ?_)
  refine aw_seq (s_reg ?_)
  refine s_run 2 [(10, .agg [pI (Tm.kind p1), pI (Tm.n p1), pS (Tm.name p1), pL (Tm.encL (Tm.args p1))]), (9, .agg [pI (Tm.kind p0), pI (Tm.n p0), pS (Tm.name p0), pL (Tm.encL (Tm.args p0))])] [] [] rfl ?_
  refine s_bs rfl rfl (enc_nil (e := e_Bd)) ?_
  obtain ⟨r1, k2, h⟩ := h
  cases b3 : r1.2 with
  | true =>
    have h := h.1 b3
    unfold C_spec_l8Match at k2
    rw [b3] at k2
    refine s_call (.tup [.tip (0, 12, 0) (0) (e_Bd r1.1), pB true]) [] [((0, 11, 0), 1, .spent), ((0, 12, 0), 0, .tip (e_Bd r1.1).length 5)] (args_one rfl (args_one rfl (args_one (arg_own rfl rfl) (args_nil)))) k2 rfl ?_
    refine s_run 5 [(7, pB true), (6, .tip (0, 12, 0) (0) (e_Bd r1.1)), (14, pB true), (13, .tip (0, 12, 0) (0) (e_Bd r1.1)), (8, .tup [.tip (0, 12, 0) (0) (e_Bd r1.1), pB true])] [] [] rfl ?_
    refine seq_n (aw_wk (St [(2, .ptr 2 0), (6, .tip (0, 12, 0) (0) (e_Bd r1.1)), (7, pB true)] [(2, [pI (Tm.kind p0), pI (Tm.n p0), pS (Tm.name p0), pL (Tm.encL (Tm.args p0))])] [((0, 12, 0), 0, .tip (e_Bd r1.1).length 5)]) (wk_St ⟨le_rfl _, le_rfl _, le_rfl _, trivial⟩ ⟨box_rfl rfl, trivial⟩ ⟨rfl, trivial⟩ rfl ⟨rfl, rfl, trivial⟩ ⟨rfl, rfl, trivial⟩) ?_)
    refine aw_seq (aw_seq (s_reg ?_))
    refine s_run 2 [(16, pB false), (15, pB true)] [] [] rfl ?_
    refine seq_n (s_no rfl (aw_skip (seq_n (aw_wk (St [(2, .ptr 2 0), (6, .tip (0, 12, 0) (0) (e_Bd r1.1))] [(2, [pI (Tm.kind p0), pI (Tm.n p0), pS (Tm.name p0), pL (Tm.encL (Tm.args p0))])] [((0, 12, 0), 0, .tip (e_Bd r1.1).length 5)]) (wk_St ⟨le_rfl _, le_rfl _, trivial⟩ ⟨box_rfl rfl, trivial⟩ ⟨rfl, trivial⟩ rfl ⟨rfl, rfl, trivial⟩ ⟨rfl, rfl, trivial⟩) ?_))))
    refine aw_seq (s_reg ?_)
    refine s_run 2 [(19, .agg [pI (Tm.kind p0), pI (Tm.n p0), pS (Tm.name p0), pL (Tm.encL (Tm.args p0))]), (18, .tip (0, 12, 0) (0) (e_Bd r1.1))] [] [] rfl ?_
    obtain ⟨r4, k5, h⟩ := h
    refine s_call (.tip (0, 20, 0) (0) (e_str r4)) [] [((0, 20, 0), 0, .tip (e_str r4).length 1)] (args_one rfl (args_nil)) k5 rfl ?_
    obtain ⟨r6, k7, h⟩ := h
    refine s_call (pL (e_Bd r6)) [] [] rfl k7 rfl ?_
    refine s_run 2 [(5, pB true), (4, pL (e_Bd r6))] [] [] rfl ?_
    refine seq_n (aw_ret ?_)
    exact endp_ret _ h rfl
  | false =>
    have h := h.2 b3
    unfold C_spec_l8Match at k2
    rw [b3] at k2
    refine s_call (.tup [pL (e_Bd r1.1), pB false]) [] [((0, 11, 0), 1, .spent)] (args_one rfl (args_one rfl (args_one (arg_own rfl rfl) (args_nil)))) k2 rfl ?_
    refine s_run 5 [(7, pB false), (6, pL (e_Bd r1.1)), (14, pB false), (13, pL (e_Bd r1.1)), (8, .tup [pL (e_Bd r1.1), pB false])] [] [] rfl ?_
    refine seq_n (aw_wk (St [(2, .ptr 2 0), (6, pL (e_Bd r1.1)), (7, pB false)] [(2, [pI (Tm.kind p0), pI (Tm.n p0), pS (Tm.name p0), pL (Tm.encL (Tm.args p0))])] []) (wk_St ⟨le_rfl _, le_rfl _, le_rfl _, trivial⟩ ⟨box_rfl rfl, trivial⟩ trivial rfl ⟨rfl, rfl, trivial⟩ ⟨rfl, rfl, trivial⟩) ?_)
    refine aw_seq (aw_seq (s_reg ?_))
    refine s_run 2 [(16, pB true), (15, pB false)] [] [] rfl ?_
    refine seq_n (s_yes rfl (aw_seq (s_reg ?_)))
    refine s_bs rfl rfl (enc_nil (e := e_Bd)) ?_
    refine s_run 2 [(5, pB false), (4, .tip (0, 17, 0) (0) (e_Bd ([] : List Bd)))] [] [] rfl ?_
    refine seq_n (aw_ret ?_)
    exact endp_ret _ h rfl


def ac_spec_l7At : AC :=
  .seq (.reg false [
    { dst := some 4, k := .mv (.c (.int .i64 (0))) }])
  (.seq (.seq (.reg false [
    { dst := some 5, k := .mv (.c (.int .i64 (0))) }])
  (.block 0 (.loop (.seq (.seq (.reg false [
        { dst := some 6, k := .mv (.t 5) },
        { dst := some 7, k := .mv (.t 0) },
        { dst := some 8, k := .len (.t 7) },
        { dst := some 9, k := .bin .lss (.t 6) (.t 8) }])
      (.cond (.t 9) (.skip)
      (.exit 0)))
      (.wk (.seq (.block 1 (.seq (.reg false [
          { dst := some 12, k := .mv (.t 0) },
          { dst := some 13, k := .mv (.t 5) },
          { dst := some 14, k := .ia (.t 12) (.t 13) 5 },
          { dst := some 15, k := .fa (.t 14) 0 },
          { dst := some 16, k := .ld (.t 15) 1 false },
          { dst := some 17, k := .mv (.t 1) },
          { dst := some 18, k := .bin .eql (.t 16) (.t 17) }])
        (.cond (.t 18) (.seq (.reg false [
            { dst := some 19, k := .mv (.t 5) },
            { dst := some 4, k := .mv (.t 19) }])
          (.ret))
        (.skip))))
      (.wk (.reg false [
        { dst := some 10, k := .mv (.t 5) },
        { dst := some 11, k := .bin .add (.t 10) (.c (.int .i64 (1))) },
        { dst := some 5, k := .mv (.t 11) }]))))))))
  (.seq (.reg false [
    { dst := some 4, k := .mv (.c (.int .i64 (-1))) }])
  (.ret)))
theorem chk_spec_l7At : fnOK Try.prog 2 Try.f47 ac_spec_l7At [(.tmp 4, .fz)] = true := by kernel_rfl
def wp_spec_l7At (p0 : (List Bd)) (p1 : Str) (post : Int → Prop) : Prop :=
  LOOP (fun (N10 : Int → Prop) (s1 : Int) => (((decide (s1 < ((List.length p0 : Nat) : Int))) = true → (∃ u15, GETI p0 s1 u15 ∧ ((((Bd.name u15) == p1) = true → post s1) ∧ (((Bd.name u15) == p1) = false → N10 (IntKind.i64.wrap (s1 + (1 : Int))))))) ∧ ((decide (s1 < ((List.length p0 : Nat) : Int))) = false → post (-1 : Int)))) (0 : Int)
theorem w_spec_l7At (p0 : (List Bd)) (p1 : Str) (post : Int → Prop) (h : wp_spec_l7At p0 p1 post) : ∃ r, post r ∧ C_spec_l7At p0 p1 r := by
  unfold wp_spec_l7At at h
  refine evs_of (encR := fun r : Int => .one (.l (.fz (.int .i64 r)))) (encO := fun r => []) 2 [(.tmp 4, .fz)] [.fz, .fz] Try.func47 chk_spec_l7At rfl rfl [(1, pS p1), (0, pL (e_Bd p0))] [] [] rfl ?_
  refine aw_seq (s_reg ?_)
  refine s_run 1 [(4, pI (0 : Int))] [] [] rfl ?_
  refine seq_n (aw_seq (aw_seq (s_reg ?_)))
  refine s_run 1 [(5, pI (0 : Int))] [] [] rfl ?_
  refine seq_n (aw_blk ?_)
  obtain ⟨I12, m13, h0, h⟩ := h
  refine aw_loop' (ι := { y : Int // I12 y }) (fun x11 => St [(0, pL (e_Bd p0)), (1, pS p1), (5, pI x11.1)] [] []) (fun x11 => m13 x11.1) ⟨_, h0⟩ ?_ ?_
  · exact wk_St ⟨le_rfl _, le_rfl _, le_rfl _, trivial⟩ trivial trivial rfl ⟨rfl, rfl, trivial⟩ ⟨rfl, rfl, trivial⟩
  · rintro ⟨s1, hs1⟩
    replace h := h s1 hs1
    refine aw_seq (aw_seq (s_reg ?_))
    refine s_run 2 [(7, pL (e_Bd p0)), (6, pI s1)] [] [] rfl ?_
    refine s_len rfl (enc_len (e := e_Bd) _) ?_
    refine s_run 1 [(9, pB (decide (s1 < ((List.length p0 : Nat) : Int))))] [] [] rfl ?_
    refine seq_n (s_if rfl (fun c14 => ?_) (fun c14 => ?_))
    · have h := h.1 c14
      refine aw_skip (seq_n (aw_wk (St [(0, pL (e_Bd p0)), (1, pS p1), (5, pI s1)] [] []) (wk_St ⟨le_rfl _, le_rfl _, le_rfl _, trivial⟩ trivial trivial rfl ⟨rfl, rfl, trivial⟩ ⟨rfl, rfl, trivial⟩) ?_))
      refine aw_seq (aw_blk (aw_seq (s_reg ?_)))
      refine s_run 2 [(13, pI s1), (12, pL (e_Bd p0))] [] [] rfl ?_
      obtain ⟨u15, ⟨g16a, g16b⟩, h⟩ := h
      refine s_ia rfl rfl g16a (enc_get (e := e_Bd) g16b) rfl ?_
      refine s_run 4 [(18, pB ((Bd.name u15) == p1)), (17, pS p1), (16, pS (Bd.name u15)), (15, .p (.cptr (Bd.cells u15)))] [] [] rfl ?_
      refine seq_n (s_if rfl (fun c17 => ?_) (fun c17 => ?_))
      · have h := h.1 c17
        refine aw_seq (s_reg ?_)
        refine s_run 2 [(4, pI s1), (19, pI s1)] [] [] rfl ?_
        refine seq_n (aw_ret ?_)
        exact endp_ret _ h rfl
      · have h := h.2 c17
        refine aw_skip (blk_n (seq_n (aw_wk (St [(0, pL (e_Bd p0)), (1, pS p1), (5, pI s1)] [] []) (wk_St ⟨le_rfl _, le_rfl _, le_rfl _, trivial⟩ trivial trivial rfl ⟨rfl, rfl, trivial⟩ ⟨rfl, rfl, trivial⟩) ?_)))
        refine s_reg ?_
        refine s_run 3 [(5, pI (IntKind.i64.wrap (s1 + (1 : Int)))), (11, pI (IntKind.i64.wrap (s1 + (1 : Int)))), (10, pI s1)] [] [] rfl ?_
        exact loop_n ⟨_, h.1⟩ h.2 (wk_St ⟨le_rfl _, le_rfl _, le_rfl _, trivial⟩ trivial trivial rfl ⟨rfl, rfl, trivial⟩ ⟨rfl, rfl, trivial⟩)
    · have h := h.2 c14
      refine aw_exit (seq_x (loop_x (blk_x (seq_n (aw_seq (s_reg ?_))))))
      refine s_run 1 [(4, pI (-1 : Int))] [] [] rfl ?_
      refine seq_n (aw_ret ?_)
      exact endp_ret _ h rfl


def ac_slices_Index_string : AC :=
  .seq (.reg false [
    { dst := some 4, k := .mv (.c (.int .i64 (0))) }])
  (.seq (.seq (.reg false [
    { dst := some 6, k := .mv (.t 0) },
    { dst := some 7, k := .len (.t 6) },
    { dst := some 8, k := .mv (.c (.int .i64 (0))) }])
  (.block 0 (.loop (.seq (.reg false [
        { dst := some 9, k := .bin .lss (.t 8) (.t 7) }])
      (.seq (.cond (.t 9) (.skip)
      (.exit 0))
      (.seq (.block 1 (.seq (.reg false [
          { dst := some 10, k := .mv (.t 8) },
          { dst := some 5, k := .mv (.t 10) }])
        (.seq (.reg false [
          { dst := some 11, k := .mv (.t 1) },
          { dst := some 12, k := .mv (.t 0) },
          { dst := some 13, k := .mv (.t 5) },
          { dst := some 14, k := .ia (.t 12) (.t 13) 1 },
          { dst := some 15, k := .ld (.t 14) 1 false },
          { dst := some 16, k := .bin .eql (.t 11) (.t 15) }])
        (.cond (.t 16) (.seq (.reg false [
            { dst := some 17, k := .mv (.t 5) },
            { dst := some 4, k := .mv (.t 17) }])
          (.ret))
        (.skip)))))
      (.reg false [
        { dst := some 18, k := .bin .add (.t 8) (.c (.int .i64 (1))) },
        { dst := some 8, k := .mv (.t 18) }])))))))
  (.seq (.reg false [
    { dst := some 4, k := .mv (.c (.int .i64 (-1))) }])
  (.ret)))
theorem chk_slices_Index_string : fnOK Try.prog 2 Try.f84 ac_slices_Index_string [(.tmp 4, .fz)] = true := by kernel_rfl
def wp_slices_Index_string (p0 : (List Str)) (p1 : Str) (post : Int → Prop) : Prop :=
  LOOP (fun (N10 : Int → Prop) (s1 : Int) => (((decide (s1 < ((List.length p0 : Nat) : Int))) = true → (∃ u15, GETI p0 s1 u15 ∧ (((p1 == u15) = true → post s1) ∧ ((p1 == u15) = false → N10 (IntKind.i64.wrap (s1 + (1 : Int))))))) ∧ ((decide (s1 < ((List.length p0 : Nat) : Int))) = false → post (-1 : Int)))) (0 : Int)
theorem w_slices_Index_string (p0 : (List Str)) (p1 : Str) (post : Int → Prop) (h : wp_slices_Index_string p0 p1 post) : ∃ r, post r ∧ C_slices_Index_string p0 p1 r := by
  unfold wp_slices_Index_string at h
  refine evs_of (encR := fun r : Int => .one (.l (.fz (.int .i64 r)))) (encO := fun r => []) 2 [(.tmp 4, .fz)] [.fz, .fz] Try.func84 chk_slices_Index_string rfl rfl [(1, pS p1), (0, pL (e_str p0))] [] [] rfl ?_
  refine aw_seq (s_reg ?_)
  refine s_run 1 [(4, pI (0 : Int))] [] [] rfl ?_
  refine seq_n (aw_seq (aw_seq (s_reg ?_)))
  refine s_run 1 [(6, pL (e_str p0))] [] [] rfl ?_
  refine s_len rfl (enc_len (e := e_str) _) ?_
  refine s_run 1 [(8, pI (0 : Int))] [] [] rfl ?_
  refine seq_n (aw_blk ?_)
  obtain ⟨I12, m13, h0, h⟩ := h
  refine aw_loop' (ι := { y : Int // I12 y }) (fun x11 => St [(0, pL (e_str p0)), (1, pS p1), (7, pI ((List.length p0 : Nat) : Int)), (8, pI x11.1)] [] []) (fun x11 => m13 x11.1) ⟨_, h0⟩ ?_ ?_
  · exact wk_St ⟨le_rfl _, le_rfl _, le_rfl _, le_rfl _, trivial⟩ trivial trivial rfl ⟨rfl, rfl, trivial⟩ ⟨rfl, rfl, trivial⟩
  · rintro ⟨s1, hs1⟩
    replace h := h s1 hs1
    refine aw_seq (s_reg ?_)
    refine s_run 1 [(9, pB (decide (s1 < ((List.length p0 : Nat) : Int))))] [] [] rfl ?_
    refine seq_n (aw_seq (s_if rfl (fun c14 => ?_) (fun c14 => ?_)))
    · have h := h.1 c14
      refine aw_skip (seq_n (aw_seq (aw_blk (aw_seq (s_reg ?_)))))
      refine s_run 2 [(5, pI s1), (10, pI s1)] [] [] rfl ?_
      refine seq_n (aw_seq (s_reg ?_))
      refine s_run 3 [(13, pI s1), (12, pL (e_str p0)), (11, pS p1)] [] [] rfl ?_
      obtain ⟨u15, ⟨g16a, g16b⟩, h⟩ := h
      refine s_ia rfl rfl g16a (enc_get (e := e_str) g16b) rfl ?_
      refine s_run 2 [(16, pB (p1 == u15)), (15, pS u15)] [] [] rfl ?_
      refine seq_n (s_if rfl (fun c17 => ?_) (fun c17 => ?_))
      · have h := h.1 c17
        refine aw_seq (s_reg ?_)
        refine s_run 2 [(4, pI s1), (17, pI s1)] [] [] rfl ?_
        refine seq_n (aw_ret ?_)
        exact endp_ret _ h rfl
      · have h := h.2 c17
        refine aw_skip (blk_n (seq_n (s_reg ?_)))
        refine s_run 2 [(8, pI (IntKind.i64.wrap (s1 + (1 : Int)))), (18, pI (IntKind.i64.wrap (s1 + (1 : Int))))] [] [] rfl ?_
        exact loop_n ⟨_, h.1⟩ h.2 (wk_St ⟨le_rfl _, le_rfl _, le_rfl _, le_rfl _, trivial⟩ trivial trivial rfl ⟨rfl, rfl, trivial⟩ ⟨rfl, rfl, trivial⟩)
    · have h := h.2 c14
      refine aw_exit (seq_x (loop_x (blk_x (seq_n (aw_seq (s_reg ?_))))))
      refine s_run 1 [(4, pI (-1 : Int))] [] [] rfl ?_
      refine seq_n (aw_ret ?_)
      exact endp_ret _ h rfl


def ac_spec_DrawApplySubst : AC :=
  .seq (.reg false [
    { dst := some 2, k := .mv (.c (.slice [])) },
    { dst := some 3, k := .al [.p (.int .i64 0), .p (.int .i64 0), .p (.str []), .p (.slice [])] }])
  (.seq (.reg false [
    { dst := some 5, k := .mv (.t 0) },
    { dst := some 6, k := .call 38 [(.t 5, .fz)] },
    { dst := some 4, k := .mv (.t 6) }])
  (.wk (.seq (.reg false [
    { dst := some 7, k := .mv (.t 4) },
    { dst := some 8, k := .call 43 [(.t 7, .io [false, false, false])] },
    { dst := some 9, k := .mv (.t 4) },
    { dst := some 10, k := .call 44 [(.t 9, .io [false, false, false])] },
    { dst := some 2, k := .mv (.t 8) },
    { dst := none, k := .st (.t 3) (.t 10) 4 3 }])
  (.ret))))
theorem chk_spec_DrawApplySubst : fnOK Try.prog 1 Try.f18 ac_spec_DrawApplySubst [(.tmp 2, .fz), (.cell 3 4 true, .fz)] = true := by kernel_rfl
def wp_spec_DrawApplySubst (p0 : (List Int)) (post : ((List Bd) × Tm) → Prop) : Prop :=
  (∃ r1 : T_spec_l1Cur, C_spec_l1New p0 r1 ∧ (∃ r3 : (List Bd) × T_spec_l1Cur, C_spec_l7Draw r1 r3 ∧ (∃ r5 : Tm × T_spec_l1Cur, C_spec_l3Bent r3.2 r5 ∧ post (r3.1, r5.1))))
theorem w_spec_DrawApplySubst (p0 : (List Int)) (post : ((List Bd) × Tm) → Prop) (h : wp_spec_DrawApplySubst p0 post) : ∃ r, post r ∧ C_spec_DrawApplySubst p0 r := by
  unfold wp_spec_DrawApplySubst at h
  refine evs_of (encR := fun r : (List Bd) × Tm => .tup [.l (.fz (.slice (e_Bd r.1))), .l (.fz (.agg (Tm.cells r.2)))]) (encO := fun r => []) 1 [(.tmp 2, .fz), (.cell 3 4 true, .fz)] [.fz] Try.func18 chk_spec_DrawApplySubst rfl rfl [(0, pL (e_u8 p0))] [] [] rfl ?_
  refine aw_seq (s_reg ?_)
  refine s_run 2 [(3, .ptr 3 0), (2, pL (e_Bd ([] : List Bd)))] [(3, [pI (0 : Int), pI (0 : Int), pS ([] : Str), pL (Tm.encL ([] : List Tm))])] [] rfl ?_
  refine seq_n (aw_seq (s_reg ?_))
  refine s_run 1 [(5, pL (e_u8 p0))] [] [] rfl ?_
  obtain ⟨r1, k2, h⟩ := h
  refine s_call (.ptr 6 0) [(6, [pL (e_u8 (T_spec_l1Cur.b r1)), pI (T_spec_l1Cur.i r1), pI (T_spec_l1Cur.h r1)])] [] rfl k2 rfl ?_
  refine s_run 1 [(4, .ptr 6 0)] [] [] rfl ?_
  refine seq_n (aw_wk (St [(3, .ptr 3 0), (4, .ptr 6 0)] [(3, [pI (0 : Int), pI (0 : Int), pS ([] : Str), pL (Tm.encL ([] : List Tm))]), (6, [pL (e_u8 (T_spec_l1Cur.b r1)), pI (T_spec_l1Cur.i r1), pI (T_spec_l1Cur.h r1)])] []) (wk_St ⟨le_rfl _, le_rfl _, trivial⟩ ⟨box_rfl rfl, box_rfl rfl, trivial⟩ trivial rfl ⟨rfl, trivial⟩ ⟨rfl, trivial⟩) ?_)
  refine aw_seq (s_reg ?_)
  refine s_run 1 [(7, .ptr 6 0)] [] [] rfl ?_
  obtain ⟨r3, k4, h⟩ := h
  refine s_call (pL (e_Bd r3.1)) [(6, [pL (e_u8 (T_spec_l1Cur.b r3.2)), pI (T_spec_l1Cur.i r3.2), pI (T_spec_l1Cur.h r3.2)])] [] rfl k4 rfl ?_
  refine s_run 1 [(9, .ptr 6 0)] [] [] rfl ?_
  obtain ⟨r5, k6, h⟩ := h
  refine s_call (.p (.agg (Tm.cells r5.1))) [(6, [pL (e_u8 (T_spec_l1Cur.b r5.2)), pI (T_spec_l1Cur.i r5.2), pI (T_spec_l1Cur.h r5.2)])] [] rfl k6 rfl ?_
  refine s_run 2 [(2, pL (e_Bd r3.1))] [(3, [pI (Tm.kind r5.1), pI (Tm.n r5.1), pS (Tm.name r5.1), pL (Tm.encL (Tm.args r5.1))])] [] rfl ?_
  refine seq_n (aw_ret ?_)
  exact endp_ret _ h rfl


def ac_laws_sameBinds : AC :=
  .seq (.reg false [
    { dst := some 4, k := .mv (.c (.bool false)) }])
  (.seq (.reg false [
    { dst := some 5, k := .mv (.t 0) },
    { dst := some 6, k := .bd [.p (.int .i64 0), .p (.slice []), .p (.int .i64 0), .p (.slice [])] [(3, 1, .t 5)] },
    { dst := some 7, k := .bs 4 [.t 6] },
    { dst := some 8, k := .bd [.p (.slice [])] [(0, 1, .t 7)] },
    { dst := some 9, k := .mv (.t 1) },
    { dst := some 10, k := .bd [.p (.int .i64 0), .p (.slice []), .p (.int .i64 0), .p (.slice [])] [(3, 1, .t 9)] },
    { dst := some 11, k := .bs 4 [.t 10] },
    { dst := some 12, k := .bd [.p (.slice [])] [(0, 1, .t 11)] },
    { dst := some 13, k := .call 37 [(.t 8, .fz), (.t 12, .fz)] },
    { dst := some 4, k := .mv (.t 13) }])
  (.ret))
theorem chk_laws_sameBinds : fnOK Try.prog 2 Try.f10 ac_laws_sameBinds [(.tmp 4, .fz)] = true := by kernel_rfl
def wp_laws_sameBinds (p0 : (List Bd)) (p1 : (List Bd)) (post : Bool → Prop) : Prop :=
  (∃ r1 : Bool, C_spec_EqualProof (T_impl_Proof.mk ([(T_impl_ProofNode.mk (0 : Int) ([] : List Int) (0 : Int) p0)] : List T_impl_ProofNode)) (T_impl_Proof.mk ([(T_impl_ProofNode.mk (0 : Int) ([] : List Int) (0 : Int) p1)] : List T_impl_ProofNode)) r1 ∧ post r1)
theorem w_laws_sameBinds (p0 : (List Bd)) (p1 : (List Bd)) (post : Bool → Prop) (h : wp_laws_sameBinds p0 p1 post) : ∃ r, post r ∧ C_laws_sameBinds p0 p1 r := by
  unfold wp_laws_sameBinds at h
  refine evs_of (encR := fun r : Bool => .one (.l (.fz (.bool r)))) (encO := fun r => []) 2 [(.tmp 4, .fz)] [.fz, .fz] Try.func10 chk_laws_sameBinds rfl rfl [(1, pL (e_Bd p1)), (0, pL (e_Bd p0))] [] [] rfl ?_
  refine aw_seq (s_reg ?_)
  refine s_run 1 [(4, pB false)] [] [] rfl ?_
  refine seq_n (aw_seq (s_reg ?_))
  refine s_run 2 [(6, .agg [pI (0 : Int), pL (e_i64 ([] : List Int)), pI (0 : Int), pL (e_Bd p0)]), (5, pL (e_Bd p0))] [] [] rfl ?_
  refine s_bs rfl rfl (enc_cons (e := e_T_impl_ProofNode) (T_impl_ProofNode.mk (0 : Int) ([] : List Int) (0 : Int) p0) (enc_nil (e := e_T_impl_ProofNode))) ?_
  refine s_run 3 [(10, .agg [pI (0 : Int), pL (e_i64 ([] : List Int)), pI (0 : Int), pL (e_Bd p1)]), (9, pL (e_Bd p1)), (8, .agg [.tip (0, 7, 0) (0) (e_T_impl_ProofNode ([(T_impl_ProofNode.mk (0 : Int) ([] : List Int) (0 : Int) p0)] : List T_impl_ProofNode))])] [] [] rfl ?_
  refine s_bs rfl rfl (enc_cons (e := e_T_impl_ProofNode) (T_impl_ProofNode.mk (0 : Int) ([] : List Int) (0 : Int) p1) (enc_nil (e := e_T_impl_ProofNode))) ?_
  refine s_run 1 [(12, .agg [.tip (0, 11, 0) (0) (e_T_impl_ProofNode ([(T_impl_ProofNode.mk (0 : Int) ([] : List Int) (0 : Int) p1)] : List T_impl_ProofNode))])] [] [] rfl ?_
  obtain ⟨r1, k2, h⟩ := h
  refine s_call (pB r1) [] [] rfl k2 rfl ?_
  refine s_run 1 [(4, pB r1)] [] [] rfl ?_
  refine seq_n (aw_ret ?_)
  exact endp_ret _ h rfl


def ac_spec_VarsOfTerm : AC :=
  .seq (.reg false [
    { dst := some 1, k := .bx (.t 0) 4 },
    { dst := some 2, k := .asg (.nl 1) }])
  (.seq (.reg false [
    { dst := some 3, k := .ld (.t 1) 4 true },
    { dst := some 4, k := .bs 1 [] },
    { dst := some 5, k := .call 62 [(.t 3, .fz), (.t 4, .ow)] },
    { dst := some 6, k := .call 52 [(.t 5, .fz)] },
    { dst := some 2, k := .mv (.t 6) }])
  (.ret))
theorem chk_spec_VarsOfTerm : fnOK Try.prog 1 Try.f36 ac_spec_VarsOfTerm [(.tmp 2, .ow)] = true := by kernel_rfl
def wp_spec_VarsOfTerm (p0 : Tm) (post : (List Str) → Prop) : Prop :=
  (∃ r1 : (List Str), C_spec_l3Vars p0 ([] : List Str) r1 ∧ (∃ r3 : (List Str), C_spec_SortNames r1 r3 ∧ post r3))
theorem w_spec_VarsOfTerm (p0 : Tm) (post : (List Str) → Prop) (h : wp_spec_VarsOfTerm p0 post) : ∃ r, post r ∧ C_spec_VarsOfTerm p0 r := by
  unfold wp_spec_VarsOfTerm at h
  refine evs_of (encR := fun r : (List Str) => .one (.l (.ow 1 (e_str r)))) (encO := fun r => []) 1 [(.tmp 2, .ow)] [.fz] Try.func36 chk_spec_VarsOfTerm rfl rfl [(0, .p (.agg (Tm.cells p0)))] [] [] rfl ?_
  refine aw_seq (s_reg ?_)
  refine s_run 2 [(2, .tip (0, 2, 0) (0) (e_str ([] : List Str))), (1, .ptr 1 0)] [(1, [pI (Tm.kind p0), pI (Tm.n p0), pS (Tm.name p0), pL (Tm.encL (Tm.args p0))])] [((0, 2, 0), 0, .tip (e_str ([] : List Str)).length 1)] rfl ?_
  refine seq_n (aw_seq (s_reg ?_))
  refine s_run 1 [(3, .agg [pI (Tm.kind p0), pI (Tm.n p0), pS (Tm.name p0), pL (Tm.encL (Tm.args p0))])] [] [] rfl ?_
  refine s_bs rfl rfl (enc_nil (e := e_str)) ?_
  obtain ⟨r1, k2, h⟩ := h
  refine s_call (.tip (0, 5, 0) (0) (e_str r1)) [] [((0, 4, 0), 1, .spent), ((0, 5, 0), 0, .tip (e_str r1).length 1)] (args_one rfl (args_one (arg_own rfl rfl) (args_nil))) k2 rfl ?_
  obtain ⟨r3, k4, h⟩ := h
  refine s_call (.tip (0, 6, 0) (0) (e_str r3)) [] [((0, 6, 0), 0, .tip (e_str r3).length 1)] (args_one rfl (args_nil)) k4 rfl ?_
  refine s_run 1 [(2, .tip (0, 6, 0) (0) (e_str r3))] [] [] rfl ?_
  refine seq_n (aw_ret ?_)
  exact endp_ret _ h (endB_of (end_one rfl (arg_own rfl rfl) (end_nil)) (end_nil) (of_decide_eq_true rfl) rfl rfl)


def ac_spec_DrawMatchTerm : AC :=
  .seq (.reg false [
    { dst := some 2, k := .al [.p (.int .i64 0), .p (.int .i64 0), .p (.str []), .p (.slice [])] },
    { dst := some 3, k := .al [.p (.int .i64 0), .p (.int .i64 0), .p (.str []), .p (.slice [])] }])
  (.seq (.reg false [
    { dst := some 4, k := .mv (.t 0) },
    { dst := some 5, k := .call 32 [(.t 4, .fz)] },
    { dst := some 6, k := .ex (.t 5) 0 },
    { dst := some 7, k := .ex (.t 5) 1 },
    { dst := none, k := .st (.t 2) (.t 6) 4 2 },
    { dst := none, k := .st (.t 3) (.t 7) 4 3 }])
  (.ret))
theorem chk_spec_DrawMatchTerm : fnOK Try.prog 1 Try.f7 ac_spec_DrawMatchTerm [(.cell 2 4 true, .fz), (.cell 3 4 true, .fz)] = true := by kernel_rfl
def wp_spec_DrawMatchTerm (p0 : (List Int)) (post : (Tm × Tm) → Prop) : Prop :=
  (∃ r1 : Tm × Tm, C_spec_l8Two p0 r1 ∧ post (r1.1, r1.2))
theorem w_spec_DrawMatchTerm (p0 : (List Int)) (post : (Tm × Tm) → Prop) (h : wp_spec_DrawMatchTerm p0 post) : ∃ r, post r ∧ C_spec_DrawMatchTerm p0 r := by
  unfold wp_spec_DrawMatchTerm at h
  refine evs_of (encR := fun r : Tm × Tm => .tup [.l (.fz (.agg (Tm.cells r.1))), .l (.fz (.agg (Tm.cells r.2)))]) (encO := fun r => []) 1 [(.cell 2 4 true, .fz), (.cell 3 4 true, .fz)] [.fz] Try.func7 chk_spec_DrawMatchTerm rfl rfl [(0, pL (e_u8 p0))] [] [] rfl ?_
  refine aw_seq (s_reg ?_)
  refine s_run 2 [(3, .ptr 3 0), (2, .ptr 2 0)] [(3, [pI (0 : Int), pI (0 : Int), pS ([] : Str), pL (Tm.encL ([] : List Tm))]), (2, [pI (0 : Int), pI (0 : Int), pS ([] : Str), pL (Tm.encL ([] : List Tm))])] [] rfl ?_
  refine seq_n (aw_seq (s_reg ?_))
  refine s_run 1 [(4, pL (e_u8 p0))] [] [] rfl ?_
  obtain ⟨r1, k2, h⟩ := h
  refine s_call (.tup [.p (.agg (Tm.cells r1.1)), .p (.agg (Tm.cells r1.2))]) [] [] rfl k2 rfl ?_
  refine s_run 4 [(7, .p (.agg (Tm.cells r1.2))), (6, .p (.agg (Tm.cells r1.1)))] [(3, [pI (Tm.kind r1.2), pI (Tm.n r1.2), pS (Tm.name r1.2), pL (Tm.encL (Tm.args r1.2))]), (2, [pI (Tm.kind r1.1), pI (Tm.n r1.1), pS (Tm.name r1.1), pL (Tm.encL (Tm.args r1.1))])] [] rfl ?_
  refine seq_n (aw_ret ?_)
  exact endp_ret _ h rfl


def ac_spec_l3Word : AC :=
  .seq (.reg false [
    { dst := some 2, k := .al [.p (.int .i64 0), .p (.int .i64 0), .p (.str []), .nil 4] }])
  (.seq (.reg false [
    { dst := some 3, k := .mv (.t 0) },
    { dst := some 4, k := .bd [.p (.int .i64 0), .p (.int .i64 0), .p (.str []), .nil 4] [(0, 1, .c (.int .i64 (3))), (1, 1, .t 3)] },
    { dst := none, k := .stn (.t 2) (.t 4) 4 2 }])
  (.ret))
theorem chk_spec_l3Word : fnOK Try.prog 1 Try.f69 ac_spec_l3Word [(.cell 2 4 true, .ag [false, false, false, true])] = true := by kernel_rfl
def wp_spec_l3Word (p0 : Int) (post : Tm → Prop) : Prop :=
  post (Tm.mk (3 : Int) p0 ([] : Str) ([] : List Tm))
theorem w_spec_l3Word (p0 : Int) (post : Tm → Prop) (h : wp_spec_l3Word p0 post) : ∃ r, post r ∧ C_spec_l3Word p0 r := by
  unfold wp_spec_l3Word at h
  refine evs_of (encR := fun r : Tm => .one (.agg [.fz (.int .i64 (Tm.kind r)), .fz (.int .i64 (Tm.n r)), .fz (.str (Tm.name r)), .ow 4 (Tm.encL (Tm.args r))])) (encO := fun r => []) 1 [(.cell 2 4 true, .ag [false, false, false, true])] [.fz] Try.func69 chk_spec_l3Word rfl rfl [(0, pI p0)] [] [] rfl ?_
  refine aw_seq (s_reg ?_)
  refine s_run 1 [(2, .ptr 2 0)] [(2, [pI (0 : Int), pI (0 : Int), pS ([] : Str), .tip (1, 2, 3) (0) (Tm.encL ([] : List Tm))])] [((1, 2, 3), 0, .tip (Tm.encL ([] : List Tm)).length 4)] rfl ?_
  refine seq_n (aw_seq (s_reg ?_))
  refine s_run 3 [(4, .agg [pI (3 : Int), pI p0, pS ([] : Str), .nil 4]), (3, pI p0)] [(2, [pI (3 : Int), pI p0, pS ([] : Str), .tip (3, 2, 3) (0) (Tm.encL ([] : List Tm))])] [((3, 2, 3), 0, .tip (Tm.encL ([] : List Tm)).length 4)] rfl ?_
  refine seq_n (aw_ret ?_)
  exact endp_ret _ h (endB_of (end_one rfl (arg_ag rfl (leaves_one (rfl) (leaves_one (rfl) (leaves_one (rfl) (leaves_one (leaf_own rfl rfl) (leaves_nil)))))) (end_nil)) (end_nil) (of_decide_eq_true rfl) rfl rfl)


def ac_impl_value : AC :=
  .seq (.reg false [
    { dst := some 4, k := .al [.p (.int .i64 0), .p (.int .i64 0), .p (.str []), .p (.slice [])] }])
  (.seq (.reg false [
    { dst := some 5, k := .mv (.t 0) },
    { dst := some 6, k := .mv (.t 1) },
    { dst := some 7, k := .bd [.p (.int .i64 0), .p (.int .i64 0), .p (.str []), .p (.slice [])] [(0, 1, .c (.int .i64 (1))), (2, 1, .t 6)] },
    { dst := some 8, k := .call 14 [(.t 5, .fz), (.t 7, .fz)] },
    { dst := none, k := .st (.t 4) (.t 8) 4 4 }])
  (.ret))
theorem chk_impl_value : fnOK Try.prog 2 Try.f56 ac_impl_value [(.cell 4 4 true, .fz)] = true := by kernel_rfl
def wp_impl_value (p0 : (List Bd)) (p1 : Str) (post : Tm → Prop) : Prop :=
  (∃ r1 : Tm, C_impl_ApplySubst p0 (Tm.mk (1 : Int) (0 : Int) p1 ([] : List Tm)) r1 ∧ post r1)
theorem w_impl_value (p0 : (List Bd)) (p1 : Str) (post : Tm → Prop) (h : wp_impl_value p0 p1 post) : ∃ r, post r ∧ C_impl_value p0 p1 r := by
  unfold wp_impl_value at h
  refine evs_of (encR := fun r : Tm => .one (.l (.fz (.agg (Tm.cells r))))) (encO := fun r => []) 2 [(.cell 4 4 true, .fz)] [.fz, .fz] Try.func56 chk_impl_value rfl rfl [(1, pS p1), (0, pL (e_Bd p0))] [] [] rfl ?_
  refine aw_seq (s_reg ?_)
  refine s_run 1 [(4, .ptr 4 0)] [(4, [pI (0 : Int), pI (0 : Int), pS ([] : Str), pL (Tm.encL ([] : List Tm))])] [] rfl ?_
  refine seq_n (aw_seq (s_reg ?_))
  refine s_run 3 [(7, .agg [pI (1 : Int), pI (0 : Int), pS p1, pL (Tm.encL ([] : List Tm))]), (6, pS p1), (5, pL (e_Bd p0))] [] [] rfl ?_
  obtain ⟨r1, k2, h⟩ := h
  refine s_call (.p (.agg (Tm.cells r1))) [] [] rfl k2 rfl ?_
  refine s_run 1 [] [(4, [pI (Tm.kind r1), pI (Tm.n r1), pS (Tm.name r1), pL (Tm.encL (Tm.args r1))])] [] rfl ?_
  refine seq_n (aw_ret ?_)
  exact endp_ret _ h rfl


end Go.Proofs.Ytfhgjhchjekbgaa
