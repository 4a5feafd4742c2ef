/-
  The data of the program and the contracts of its functions, printed by wp.py.
-/
import Derived.Test.YtfhgjhchjekbgaaE3
import Derived.Test.YtfhgjhchjekbgaaProg
set_option linter.unusedVariables false
set_option linter.unusedSimpArgs false
namespace Go.Proofs.Ytfhgjhchjekbgaa
open Go

structure T_impl_equation where
  mk ::
  x : Tm
  y : Tm
def T_impl_equation.cells (x : T_impl_equation) : List PV := [.int .i64 (Tm.kind (T_impl_equation.x x)), .int .i64 (Tm.n (T_impl_equation.x x)), .str (Tm.name (T_impl_equation.x x)), .slice (Tm.encL (Tm.args (T_impl_equation.x x))), .int .i64 (Tm.kind (T_impl_equation.y x)), .int .i64 (Tm.n (T_impl_equation.y x)), .str (Tm.name (T_impl_equation.y x)), .slice (Tm.encL (Tm.args (T_impl_equation.y x)))]
def e_T_impl_equation (xs : List T_impl_equation) : List (List PV) := xs.map T_impl_equation.cells
instance : EncF e_T_impl_equation T_impl_equation.cells 8 := ⟨fun _ => rfl, fun _ => rfl⟩
structure T_impl_ProofNode where
  mk ::
  kind : Int
  next_ : (List Int)
  claim : Int
  subst : (List Bd)
def T_impl_ProofNode.cells (x : T_impl_ProofNode) : List PV := [.int .i64 (T_impl_ProofNode.kind x), .slice (e_i64 (T_impl_ProofNode.next_ x)), .int .i64 (T_impl_ProofNode.claim x), .slice (e_Bd (T_impl_ProofNode.subst x))]
def e_T_impl_ProofNode (xs : List T_impl_ProofNode) : List (List PV) := xs.map T_impl_ProofNode.cells
instance : EncF e_T_impl_ProofNode T_impl_ProofNode.cells 4 := ⟨fun _ => rfl, fun _ => rfl⟩
structure T_impl_Proof where
  mk ::
  nodes : (List T_impl_ProofNode)
def T_impl_Proof.cells (x : T_impl_Proof) : List PV := [.slice (e_T_impl_ProofNode (T_impl_Proof.nodes x))]
def e_T_impl_Proof (xs : List T_impl_Proof) : List (List PV) := xs.map T_impl_Proof.cells
instance : EncF e_T_impl_Proof T_impl_Proof.cells 1 := ⟨fun _ => rfl, fun _ => rfl⟩
structure T_spec_l1Cur where
  mk ::
  b : (List Int)
  i : Int
  h : Int
def T_spec_l1Cur.cells (x : T_spec_l1Cur) : List PV := [.slice (e_u8 (T_spec_l1Cur.b x)), .int .i64 (T_spec_l1Cur.i x), .int .i64 (T_spec_l1Cur.h x)]
def e_T_spec_l1Cur (xs : List T_spec_l1Cur) : List (List PV) := xs.map T_spec_l1Cur.cells
instance : EncF e_T_spec_l1Cur T_spec_l1Cur.cells 3 := ⟨fun _ => rfl, fun _ => rfl⟩
structure T_spec_l8Equations where
  mk ::
  left_ : (List Tm)
  right_ : (List Tm)
  subst : (List Bd)
def T_spec_l8Equations.cells (x : T_spec_l8Equations) : List PV := [.slice (Tm.encL (T_spec_l8Equations.left_ x)), .slice (Tm.encL (T_spec_l8Equations.right_ x)), .slice (e_Bd (T_spec_l8Equations.subst x))]
def e_T_spec_l8Equations (xs : List T_spec_l8Equations) : List (List PV) := xs.map T_spec_l8Equations.cells
instance : EncF e_T_spec_l8Equations T_spec_l8Equations.cells 3 := ⟨fun _ => rfl, fun _ => rfl⟩
def c_l_Bd (x : (List Bd)) : List PV := [.slice (e_Bd x)]
def e_l_Bd (xs : List (List Bd)) : List (List PV) := xs.map c_l_Bd
instance : EncF e_l_Bd c_l_Bd 1 := ⟨fun _ => rfl, fun _ => rfl⟩

def C_impl_MatchTerm (p0 : Tm) (p1 : Tm) (r : (List Bd) × Bool) : Prop := Ev Try.prog 8 [.l (.fz (.agg (Tm.cells p0))), .l (.fz (.agg (Tm.cells p1)))] (.tup [.l (.fz (.slice (e_Bd r.1))), .l (.fz (.bool r.2))]) []
def C_impl_IsInstance (p0 : Tm) (p1 : Tm) (r : Bool) : Prop := Ev Try.prog 11 [.l (.fz (.agg (Tm.cells p0))), .l (.fz (.agg (Tm.cells p1)))] (.one (.l (.fz (.bool r)))) []
def C_impl_ApplySubst (p0 : (List Bd)) (p1 : Tm) (r : Tm) : Prop := Ev Try.prog 14 [.l (.fz (.slice (e_Bd p0))), .l (.fz (.agg (Tm.cells p1)))] (.one (.l (.fz (.agg (Tm.cells r))))) []
def C_impl_IsVariant (p0 : Tm) (p1 : Tm) (r : Bool) : Prop := Ev Try.prog 15 [.l (.fz (.agg (Tm.cells p0))), .l (.fz (.agg (Tm.cells p1)))] (.one (.l (.fz (.bool r)))) []
def C_impl_ComposeSubst (p0 : (List Bd)) (p1 : (List Bd)) (r : (List Bd)) : Prop := Ev Try.prog 19 [.l (.fz (.slice (e_Bd p0))), .l (.fz (.slice (e_Bd p1)))] (.one (.l (.fz (.slice (e_Bd r))))) []
def C_impl_RestrictSubst (p0 : (List Bd)) (p1 : (List Str)) (r : (List Bd)) : Prop := Ev Try.prog 22 [.l (.fz (.slice (e_Bd p0))), .l (.fz (.slice (e_str p1)))] (.one (.l (.fz (.slice (e_Bd r))))) []
def C_impl_SameSubst (p0 : (List Bd)) (p1 : (List Bd)) (r : Bool) : Prop := Ev Try.prog 25 [.l (.fz (.slice (e_Bd p0))), .l (.fz (.slice (e_Bd p1)))] (.one (.l (.fz (.bool r)))) []
def C_impl_UnifyTerms (p0 : Tm) (p1 : Tm) (r : (List Bd) × Bool) : Prop := Ev Try.prog 28 [.l (.fz (.agg (Tm.cells p0))), .l (.fz (.agg (Tm.cells p1)))] (.tup [.l (.fz (.slice (e_Bd r.1))), .l (.fz (.bool r.2))]) []
def C_impl_match (p0 : Tm) (p1 : Tm) (p2 : (List Bd)) (r : (List Bd) × Bool) : Prop := Ev Try.prog 33 [.l (.fz (.agg (Tm.cells p0))), .l (.fz (.agg (Tm.cells p1))), .l (.ow 5 (e_Bd p2))] (.tup [.l (.ow 5 (e_Bd r.1)), .l (.fz (.bool r.2))]) []
def C_impl_VarsOfTerm (p0 : Tm) (r : (List Str)) : Prop := Ev Try.prog 34 [.l (.fz (.agg (Tm.cells p0)))] (.one (.l (.ow 1 (e_str r)))) []
def C_impl_bound (p0 : (List Bd)) (p1 : Str) (r : Tm × Bool) : Prop := Ev Try.prog 41 [.l (.fz (.slice (e_Bd p0))), .l (.fz (.str p1))] (.tup [.l (.fz (.agg (Tm.cells r.1))), .l (.fz (.bool r.2))]) []
def C_impl_copyTerm (p0 : Tm) (r : Tm) : Prop := Ev Try.prog 42 [.l (.fz (.agg (Tm.cells p0)))] (.one (.l (.fz (.agg (Tm.cells r))))) []
def C_impl_copyBind (p0 : Bd) (r : Bd) : Prop := Ev Try.prog 45 [.l (.fz (.agg (Bd.cells p0)))] (.one (.l (.fz (.agg (Bd.cells r))))) []
def C_impl_SortNames (p0 : (List Str)) (r : (List Str)) : Prop := Ev Try.prog 50 [.l (.fz (.slice (e_str p0)))] (.one (.l (.ow 1 (e_str r)))) []
def C_impl_FindBind (p0 : (List Bd)) (p1 : Str) (r : Tm × Bool) : Prop := Ev Try.prog 51 [.l (.fz (.slice (e_Bd p0))), .l (.fz (.str p1))] (.tup [.l (.fz (.agg (Tm.cells r.1))), .l (.fz (.bool r.2))]) []
def C_impl_EqualTerm (p0 : Tm) (p1 : Tm) (r : Bool) : Prop := Ev Try.prog 55 [.l (.fz (.agg (Tm.cells p0))), .l (.fz (.agg (Tm.cells p1)))] (.one (.l (.fz (.bool r)))) []
def C_impl_value (p0 : (List Bd)) (p1 : Str) (r : Tm) : Prop := Ev Try.prog 56 [.l (.fz (.slice (e_Bd p0))), .l (.fz (.str p1))] (.one (.l (.fz (.agg (Tm.cells r))))) []
def C_impl_treat (p0 : T_impl_equation) (p1 : (List Bd)) (r : (List Bd) × (List T_impl_equation) × Bool) : Prop := Ev Try.prog 58 [.l (.fz (.agg (T_impl_equation.cells p0))), .l (.fz (.slice (e_Bd p1)))] (.tup [.l (.fz (.slice (e_Bd r.1))), .l (.ow 8 (e_T_impl_equation r.2.1)), .l (.fz (.bool r.2.2))]) []
def C_impl_CountTerm (p0 : Tm) (r : Int) : Prop := Ev Try.prog 59 [.l (.fz (.agg (Tm.cells p0)))] (.one (.l (.fz (.int .i64 r)))) []
def C_impl_namesIn (p0 : Tm) (r : (List Str)) : Prop := Ev Try.prog 64 [.l (.fz (.agg (Tm.cells p0)))] (.one (.l (.fz (.slice (e_str r))))) []
def C_spec_DrawMatchTerm (p0 : (List Int)) (r : Tm × Tm) : Prop := Ev Try.prog 7 [.l (.fz (.slice (e_u8 p0)))] (.tup [.l (.fz (.agg (Tm.cells r.1))), .l (.fz (.agg (Tm.cells r.2)))]) []
def C_spec_MatchTerm (p0 : Tm) (p1 : Tm) (r : (List Bd) × Bool) : Prop := Ev Try.prog 9 [.l (.fz (.agg (Tm.cells p0))), .l (.fz (.agg (Tm.cells p1)))] (.tup [.l (.fz (.slice (e_Bd r.1))), .l (.fz (.bool r.2))]) []
def C_spec_DrawIsVariant (p0 : (List Int)) (r : Tm × Tm) : Prop := Ev Try.prog 12 [.l (.fz (.slice (e_u8 p0)))] (.tup [.l (.fz (.agg (Tm.cells r.1))), .l (.fz (.agg (Tm.cells r.2)))]) []
def C_spec_EqualTerm (p0 : Tm) (p1 : Tm) (r : Bool) : Prop := Ev Try.prog 13 [.l (.fz (.agg (Tm.cells p0))), .l (.fz (.agg (Tm.cells p1)))] (.one (.l (.fz (.bool r)))) []
def C_spec_IsVariant (p0 : Tm) (p1 : Tm) (r : Bool) : Prop := Ev Try.prog 16 [.l (.fz (.agg (Tm.cells p0))), .l (.fz (.agg (Tm.cells p1)))] (.one (.l (.fz (.bool r)))) []
def C_spec_DrawComposeSubst (p0 : (List Int)) (r : (List Bd) × (List Bd)) : Prop := Ev Try.prog 17 [.l (.fz (.slice (e_u8 p0)))] (.tup [.l (.fz (.slice (e_Bd r.1))), .l (.fz (.slice (e_Bd r.2)))]) []
def C_spec_DrawApplySubst (p0 : (List Int)) (r : (List Bd) × Tm) : Prop := Ev Try.prog 18 [.l (.fz (.slice (e_u8 p0)))] (.tup [.l (.fz (.slice (e_Bd r.1))), .l (.fz (.agg (Tm.cells r.2)))]) []
def C_spec_ComposeSubst (p0 : (List Bd)) (p1 : (List Bd)) (r : (List Bd)) : Prop := Ev Try.prog 20 [.l (.fz (.slice (e_Bd p0))), .l (.fz (.slice (e_Bd p1)))] (.one (.l (.fz (.slice (e_Bd r))))) []
def C_spec_DrawRestrictSubst (p0 : (List Int)) (r : (List Bd) × (List Str)) : Prop := Ev Try.prog 21 [.l (.fz (.slice (e_u8 p0)))] (.tup [.l (.fz (.slice (e_Bd r.1))), .l (.fz (.slice (e_str r.2)))]) []
def C_spec_DrawSameSubst (p0 : (List Int)) (r : (List Bd) × (List Bd)) : Prop := Ev Try.prog 23 [.l (.fz (.slice (e_u8 p0)))] (.tup [.l (.fz (.slice (e_Bd r.1))), .l (.fz (.slice (e_Bd r.2)))]) []
def C_spec_RestrictSubst (p0 : (List Bd)) (p1 : (List Str)) (r : (List Bd)) : Prop := Ev Try.prog 24 [.l (.fz (.slice (e_Bd p0))), .l (.fz (.slice (e_str p1)))] (.one (.l (.fz (.slice (e_Bd r))))) []
def C_spec_SameSubst (p0 : (List Bd)) (p1 : (List Bd)) (r : Bool) : Prop := Ev Try.prog 26 [.l (.fz (.slice (e_Bd p0))), .l (.fz (.slice (e_Bd p1)))] (.one (.l (.fz (.bool r)))) []
def C_spec_DrawUnifyTerms (p0 : (List Int)) (r : Tm × Tm) : Prop := Ev Try.prog 27 [.l (.fz (.slice (e_u8 p0)))] (.tup [.l (.fz (.agg (Tm.cells r.1))), .l (.fz (.agg (Tm.cells r.2)))]) []
def C_spec_UnifyTerms (p0 : Tm) (p1 : Tm) (r : (List Bd) × Bool) : Prop := Ev Try.prog 29 [.l (.fz (.agg (Tm.cells p0))), .l (.fz (.agg (Tm.cells p1)))] (.tup [.l (.fz (.slice (e_Bd r.1))), .l (.fz (.bool r.2))]) []
def C_spec_IsGround (p0 : Tm) (r : Bool) : Prop := Ev Try.prog 30 [.l (.fz (.agg (Tm.cells p0)))] (.one (.l (.fz (.bool r)))) []
def C_spec_IsInstance (p0 : Tm) (p1 : Tm) (r : Bool) : Prop := Ev Try.prog 31 [.l (.fz (.agg (Tm.cells p0))), .l (.fz (.agg (Tm.cells p1)))] (.one (.l (.fz (.bool r)))) []
def C_spec_l8Two (p0 : (List Int)) (r : Tm × Tm) : Prop := Ev Try.prog 32 [.l (.fz (.slice (e_u8 p0)))] (.tup [.l (.fz (.agg (Tm.cells r.1))), .l (.fz (.agg (Tm.cells r.2)))]) []
def C_spec_l8Match (p0 : Tm) (p1 : Tm) (p2 : (List Bd)) (r : (List Bd) × Bool) : Prop := Ev Try.prog 35 [.l (.fz (.agg (Tm.cells p0))), .l (.fz (.agg (Tm.cells p1))), .l (.ow 5 (e_Bd p2))] (.tup [cond r.2 (.l (.ow 5 (e_Bd r.1))) (.l (.fz (.slice (e_Bd r.1)))), .l (.fz (.bool r.2))]) []
def C_spec_VarsOfTerm (p0 : Tm) (r : (List Str)) : Prop := Ev Try.prog 36 [.l (.fz (.agg (Tm.cells p0)))] (.one (.l (.ow 1 (e_str r)))) []
def C_spec_EqualProof (p0 : T_impl_Proof) (p1 : T_impl_Proof) (r : Bool) : Prop := Ev Try.prog 37 [.l (.fz (.agg (T_impl_Proof.cells p0))), .l (.fz (.agg (T_impl_Proof.cells p1)))] (.one (.l (.fz (.bool r)))) []
def C_spec_l1New (p0 : (List Int)) (r : T_spec_l1Cur) : Prop := Ev Try.prog 38 [.l (.fz (.slice (e_u8 p0)))] (.one (.ptr [.fz (.slice (e_u8 (T_spec_l1Cur.b r))), .fz (.int .i64 (T_spec_l1Cur.i r)), .fz (.int .i64 (T_spec_l1Cur.h r))])) []
def C_spec_l1Once (p0 : T_spec_l1Cur) (p1 : Int) (r : Bool × T_spec_l1Cur) : Prop := Ev Try.prog 39 [.ptr [.fz (.slice (e_u8 (T_spec_l1Cur.b p0))), .fz (.int .i64 (T_spec_l1Cur.i p0)), .fz (.int .i64 (T_spec_l1Cur.h p0))], .l (.fz (.int .i64 p1))] (.one (.l (.fz (.bool r.1)))) [.ptr [.fz (.slice (e_u8 (T_spec_l1Cur.b r.2))), .fz (.int .i64 (T_spec_l1Cur.i r.2)), .fz (.int .i64 (T_spec_l1Cur.h r.2))]]
def C_spec_RenameVars (p0 : Tm) (p1 : Str) (r : Tm) : Prop := Ev Try.prog 40 [.l (.fz (.agg (Tm.cells p0))), .l (.fz (.str p1))] (.one (.l (.fz (.agg (Tm.cells r))))) []
def C_spec_l7Draw (p0 : T_spec_l1Cur) (r : (List Bd) × T_spec_l1Cur) : Prop := Ev Try.prog 43 [.ptr [.fz (.slice (e_u8 (T_spec_l1Cur.b p0))), .fz (.int .i64 (T_spec_l1Cur.i p0)), .fz (.int .i64 (T_spec_l1Cur.h p0))]] (.one (.l (.fz (.slice (e_Bd r.1))))) [.ptr [.fz (.slice (e_u8 (T_spec_l1Cur.b r.2))), .fz (.int .i64 (T_spec_l1Cur.i r.2)), .fz (.int .i64 (T_spec_l1Cur.h r.2))]]
def C_spec_l3Bent (p0 : T_spec_l1Cur) (r : Tm × T_spec_l1Cur) : Prop := Ev Try.prog 44 [.ptr [.fz (.slice (e_u8 (T_spec_l1Cur.b p0))), .fz (.int .i64 (T_spec_l1Cur.i p0)), .fz (.int .i64 (T_spec_l1Cur.h p0))]] (.one (.l (.fz (.agg (Tm.cells r.1))))) [.ptr [.fz (.slice (e_u8 (T_spec_l1Cur.b r.2))), .fz (.int .i64 (T_spec_l1Cur.i r.2)), .fz (.int .i64 (T_spec_l1Cur.h r.2))]]
def C_spec_ApplySubst (p0 : (List Bd)) (p1 : Tm) (r : Tm) : Prop := Ev Try.prog 46 [.l (.fz (.slice (e_Bd p0))), .l (.fz (.agg (Tm.cells p1)))] (.one (.l (.fz (.agg (Tm.cells r))))) []
def C_spec_l7At (p0 : (List Bd)) (p1 : Str) (r : Int) : Prop := Ev Try.prog 47 [.l (.fz (.slice (e_Bd p0))), .l (.fz (.str p1))] (.one (.l (.fz (.int .i64 r)))) []
def C_spec_l3Copy (p0 : Tm) (r : Tm) : Prop := Ev Try.prog 48 [.l (.fz (.agg (Tm.cells p0)))] (.one (.l (.fz (.agg (Tm.cells r))))) []
def C_spec_l1Below (p0 : T_spec_l1Cur) (p1 : Int) (r : Int × T_spec_l1Cur) : Prop := Ev Try.prog 49 [.ptr [.fz (.slice (e_u8 (T_spec_l1Cur.b p0))), .fz (.int .i64 (T_spec_l1Cur.i p0)), .fz (.int .i64 (T_spec_l1Cur.h p0))], .l (.fz (.int .i64 p1))] (.one (.l (.fz (.int .i64 r.1)))) [.ptr [.fz (.slice (e_u8 (T_spec_l1Cur.b r.2))), .fz (.int .i64 (T_spec_l1Cur.i r.2)), .fz (.int .i64 (T_spec_l1Cur.h r.2))]]
def C_spec_SortNames (p0 : (List Str)) (r : (List Str)) : Prop := Ev Try.prog 52 [.l (.fz (.slice (e_str p0)))] (.one (.l (.ow 1 (e_str r)))) []
def C_spec_FindBind (p0 : (List Bd)) (p1 : Str) (r : Tm × Bool) : Prop := Ev Try.prog 53 [.l (.fz (.slice (e_Bd p0))), .l (.fz (.str p1))] (.tup [.l (.fz (.agg (Tm.cells r.1))), .l (.fz (.bool r.2))]) []
def C_spec_l3Var (p0 : Str) (r : Tm) : Prop := Ev Try.prog 57 [.l (.fz (.str p0))] (.one (.agg [.fz (.int .i64 (Tm.kind r)), .fz (.int .i64 (Tm.n r)), .fz (.str (Tm.name r)), .ow 4 (Tm.encL (Tm.args r))])) []
def C_spec_l8Step (p0 : T_spec_l8Equations) (r : Bool × T_spec_l8Equations) : Prop := Ev Try.prog 60 [.ptr [.fz (.slice (Tm.encL (T_spec_l8Equations.left_ p0))), .fz (.slice (Tm.encL (T_spec_l8Equations.right_ p0))), .fz (.slice (e_Bd (T_spec_l8Equations.subst p0)))]] (.one (.l (.fz (.bool r.1)))) [.ptr [.fz (.slice (Tm.encL (T_spec_l8Equations.left_ r.2))), .fz (.slice (Tm.encL (T_spec_l8Equations.right_ r.2))), .fz (.slice (e_Bd (T_spec_l8Equations.subst r.2)))]]
def C_spec_l8Large (p0 : (List Bd)) (r : Bool) : Prop := Ev Try.prog 61 [.l (.fz (.slice (e_Bd p0)))] (.one (.l (.fz (.bool r)))) []
def C_spec_l3Vars (p0 : Tm) (p1 : (List Str)) (r : (List Str)) : Prop := Ev Try.prog 62 [.l (.fz (.agg (Tm.cells p0))), .l (.ow 1 (e_str p1))] (.one (.l (.ow 1 (e_str r)))) []
def C_spec_l3Draw (p0 : T_spec_l1Cur) (p1 : Int) (p2 : Bool) (r : Tm × T_spec_l1Cur) : Prop := Ev Try.prog 63 [.ptr [.fz (.slice (e_u8 (T_spec_l1Cur.b p0))), .fz (.int .i64 (T_spec_l1Cur.i p0)), .fz (.int .i64 (T_spec_l1Cur.h p0))], .l (.fz (.int .i64 p1)), .l (.fz (.bool p2))] (.one (.agg [.fz (.int .i64 (Tm.kind r.1)), .fz (.int .i64 (Tm.n r.1)), .fz (.str (Tm.name r.1)), .ow 4 (Tm.encL (Tm.args r.1))])) [.ptr [.fz (.slice (e_u8 (T_spec_l1Cur.b r.2))), .fz (.int .i64 (T_spec_l1Cur.i r.2)), .fz (.int .i64 (T_spec_l1Cur.h r.2))]]
def C_spec_l13Ints (p0 : (List Int)) (p1 : (List Int)) (r : Bool) : Prop := Ev Try.prog 65 [.l (.fz (.slice (e_i64 p0))), .l (.fz (.slice (e_i64 p1)))] (.one (.l (.fz (.bool r)))) []
def C_spec_l22Binds (p0 : (List Bd)) (p1 : (List Bd)) (r : Bool) : Prop := Ev Try.prog 66 [.l (.fz (.slice (e_Bd p0))), .l (.fz (.slice (e_Bd p1)))] (.one (.l (.fz (.bool r)))) []
def C_spec_l1Pick (p0 : T_spec_l1Cur) (p1 : (List Str)) (r : Str × T_spec_l1Cur) : Prop := Ev Try.prog 67 [.ptr [.fz (.slice (e_u8 (T_spec_l1Cur.b p0))), .fz (.int .i64 (T_spec_l1Cur.i p0)), .fz (.int .i64 (T_spec_l1Cur.h p0))], .l (.fz (.slice (e_str p1)))] (.one (.l (.fz (.str r.1)))) [.ptr [.fz (.slice (e_u8 (T_spec_l1Cur.b r.2))), .fz (.int .i64 (T_spec_l1Cur.i r.2)), .fz (.int .i64 (T_spec_l1Cur.h r.2))]]
def C_spec_l1PickInt (p0 : T_spec_l1Cur) (p1 : (List Int)) (r : Int × T_spec_l1Cur) : Prop := Ev Try.prog 68 [.ptr [.fz (.slice (e_u8 (T_spec_l1Cur.b p0))), .fz (.int .i64 (T_spec_l1Cur.i p0)), .fz (.int .i64 (T_spec_l1Cur.h p0))], .l (.fz (.slice (e_i64 p1)))] (.one (.l (.fz (.int .i64 r.1)))) [.ptr [.fz (.slice (e_u8 (T_spec_l1Cur.b r.2))), .fz (.int .i64 (T_spec_l1Cur.i r.2)), .fz (.int .i64 (T_spec_l1Cur.h r.2))]]
def C_spec_l3Word (p0 : Int) (r : Tm) : Prop := Ev Try.prog 69 [.l (.fz (.int .i64 p0))] (.one (.agg [.fz (.int .i64 (Tm.kind r)), .fz (.int .i64 (Tm.n r)), .fz (.str (Tm.name r)), .ow 4 (Tm.encL (Tm.args r))])) []
def C_spec_l3One (p0 : Str) (p1 : Tm) (r : Tm) : Prop := Ev Try.prog 70 [.l (.fz (.str p0)), .l (.fz (.agg (Tm.cells p1)))] (.one (.agg [.fz (.int .i64 (Tm.kind r)), .fz (.int .i64 (Tm.n r)), .fz (.str (Tm.name r)), .ow 4 (Tm.encL (Tm.args r))])) []
def C_spec_l1Byte (p0 : T_spec_l1Cur) (r : Int × T_spec_l1Cur) : Prop := Ev Try.prog 71 [.ptr [.fz (.slice (e_u8 (T_spec_l1Cur.b p0))), .fz (.int .i64 (T_spec_l1Cur.i p0)), .fz (.int .i64 (T_spec_l1Cur.h p0))]] (.one (.l (.fz (.int .i64 r.1)))) [.ptr [.fz (.slice (e_u8 (T_spec_l1Cur.b r.2))), .fz (.int .i64 (T_spec_l1Cur.i r.2)), .fz (.int .i64 (T_spec_l1Cur.h r.2))]]
def C_spec_l8Bind (p0 : T_spec_l8Equations) (p1 : Str) (p2 : Tm) (r : Bool × T_spec_l8Equations) : Prop := Ev Try.prog 78 [.ptr [.fz (.slice (Tm.encL (T_spec_l8Equations.left_ p0))), .fz (.slice (Tm.encL (T_spec_l8Equations.right_ p0))), .fz (.slice (e_Bd (T_spec_l8Equations.subst p0)))], .l (.fz (.str p1)), .l (.fz (.agg (Tm.cells p2)))] (.one (.l (.fz (.bool r.1)))) [.ptr [.fz (.slice (Tm.encL (T_spec_l8Equations.left_ r.2))), .fz (.slice (Tm.encL (T_spec_l8Equations.right_ r.2))), .fz (.slice (e_Bd (T_spec_l8Equations.subst r.2)))]]
def C_spec_l8Left (p0 : Tm) (p1 : Int) (r : Int) : Prop := Ev Try.prog 79 [.l (.fz (.agg (Tm.cells p0))), .l (.fz (.int .i64 p1))] (.one (.l (.fz (.int .i64 r)))) []
def C_spec_l3App (p0 : Str) (p1 : (List Tm)) (r : Tm) : Prop := Ev Try.prog 80 [.l (.fz (.str p0)), .l (.ow 4 (Tm.encL p1))] (.one (.agg [.fz (.int .i64 (Tm.kind r)), .fz (.int .i64 (Tm.n r)), .fz (.str (Tm.name r)), .ow 4 (Tm.encL (Tm.args r))])) []
def C_spec_l3Pair (p0 : Str) (p1 : Tm) (p2 : Tm) (r : Tm) : Prop := Ev Try.prog 81 [.l (.fz (.str p0)), .l (.fz (.agg (Tm.cells p1))), .l (.fz (.agg (Tm.cells p2)))] (.one (.agg [.fz (.int .i64 (Tm.kind r)), .fz (.int .i64 (Tm.n r)), .fz (.str (Tm.name r)), .ow 4 (Tm.encL (Tm.args r))])) []
def C_spec_IndexOf (p0 : (List Str)) (p1 : Str) (r : Int) : Prop := Ev Try.prog 85 [.l (.fz (.slice (e_str p0))), .l (.fz (.str p1))] (.one (.l (.fz (.int .i64 r)))) []
def C_laws_FnMatched (p0 : (List Int)) (r : Bool) : Prop := Ev Try.prog 3 [.l (.fz (.slice (e_u8 p0)))] (.one (.l (.fz (.bool r)))) []
def C_laws_FnSubst (p0 : (List Int)) (r : Bool) : Prop := Ev Try.prog 4 [.l (.fz (.slice (e_u8 p0)))] (.one (.l (.fz (.bool r)))) []
def C_laws_FnUnified (p0 : (List Int)) (r : Bool) : Prop := Ev Try.prog 5 [.l (.fz (.slice (e_u8 p0)))] (.one (.l (.fz (.bool r)))) []
def C_laws_big (p0 : (List Int)) (r : Bool) : Prop := Ev Try.prog 6 [.l (.fz (.slice (e_u8 p0)))] (.one (.l (.fz (.bool r)))) []
def C_laws_sameBinds (p0 : (List Bd)) (p1 : (List Bd)) (r : Bool) : Prop := Ev Try.prog 10 [.l (.fz (.slice (e_Bd p0))), .l (.fz (.slice (e_Bd p1)))] (.one (.l (.fz (.bool r)))) []
def C_slices_Contains_string (p0 : (List Str)) (p1 : Str) (r : Bool) : Prop := Ev Try.prog 77 [.l (.fz (.slice (e_str p0))), .l (.fz (.str p1))] (.one (.l (.fz (.bool r)))) []
def C_slices_Index_string (p0 : (List Str)) (p1 : Str) (r : Int) : Prop := Ev Try.prog 84 [.l (.fz (.slice (e_str p0))), .l (.fz (.str p1))] (.one (.l (.fz (.int .i64 r)))) []
def C_slices_Concat_Bind (p0 : (List (List Bd))) (r : (List Bd)) : Prop := Ev Try.prog 54 [.l (.fz (.slice (e_l_Bd p0)))] (.one (.l (.fz (.slice (e_Bd r))))) []
def C_slices_EqualFunc_Term (p0 : (List Tm)) (p1 : (List Tm)) (p2 : Clo) (r : Bool) : Prop := Ev Try.prog 76 [.l (.fz (.slice (Tm.encL p0))), .l (.fz (.slice (Tm.encL p1))), .l (.fz (.clo (Prod.fst p2) (Prod.snd p2)))] (.one (.l (.fz (.bool r)))) []
def C_slices_Grow_Bind (p0 : (List Bd)) (p1 : Int) (r : (List Bd)) : Prop := Ev Try.prog 75 [.l (.ow 5 (e_Bd p0)), .l (.fz (.int .i64 p1))] (.one (.l (.ow 5 (e_Bd r)))) []

end Go.Proofs.Ytfhgjhchjekbgaa
