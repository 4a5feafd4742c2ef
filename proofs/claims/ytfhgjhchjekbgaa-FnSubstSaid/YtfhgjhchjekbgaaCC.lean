/-
  slices.Concat of two substitutions.
-/
import Derived.Test.YtfhgjhchjekbgaaOA
import Derived.Test.YtfhgjhchjekbgaaGR
import Derived.Test.YtfhgjhchjekbgaaGA0
import Derived.Test.YtfhgjhchjekbgaaGA1
import Derived.Test.YtfhgjhchjekbgaaGA2
import Derived.Test.YtfhgjhchjekbgaaGA3
set_option linter.unusedVariables false
set_option linter.unusedSimpArgs false
namespace Go.Proofs.Ytfhgjhchjekbgaa
open Go

theorem two_at {α : Type} {a b u : α} {k : Nat} (h : [a, b][k]? = some u) : (k = 0 ∧ u = a) ∨ (k = 1 ∧ u = b) := by
  match k with
  | 0 => simp at h; exact .inl ⟨rfl, h.symm⟩
  | 1 => simp at h; exact .inr ⟨rfl, h.symm⟩
  | k + 2 => simp at h
theorem ok_Concat (a b : List Bd) (h : a.length + b.length < 68719476735) : C_slices_Concat_Bind [a, b] (a ++ b) := by
  refine via (w_slices_Concat_Bind [a, b] (· = a ++ b) ?_)
  refine LOOP.up 2 (fun k => if k = 0 then (0 : Int) else if k = 1 then (a.length : Int) else ((a.length + b.length : Nat) : Int)) (by decide) rfl ?_
  intro k hk N hN
  refine ⟨fun h1 => ?_, fun h1 => ?_⟩
  · obtain ⟨u, hu⟩ := get_k h1
    refine ⟨u, geti hu, fun h2 => ?_, fun h2 => hN (lt_k h1) _ ?_⟩
    · have := of_decide_eq_true h2
      rcases two_at hu with ⟨rfl, rfl⟩ | ⟨rfl, rfl⟩
      · simp only [if_true] at this
        rw [i64_wrap (by omega) (by omega)] at this
        omega
      · simp only [Nat.one_ne_zero, if_false, if_true] at this
        rw [i64_wrap (by omega) (by omega)] at this
        omega
    · rcases two_at hu with ⟨rfl, rfl⟩ | ⟨rfl, rfl⟩
      · simp only [if_true]
        rw [i64_wrap (by omega) (by omega)]
        simp
      · simp only [Nat.one_ne_zero, if_false, if_true]
        rw [i64_wrap (by omega) (by omega)]
        simp
  · have hk2 : k = 2 := by
      have := ge_k h1
      have : [a, b].length = 2 := rfl
      omega
    subst hk2
    refine ⟨[], ok_GrowBind (a.length + b.length) (by omega), ?_⟩
    refine LOOP.up 2 (fun k => if k = 0 then [] else if k = 1 then a else a ++ b) (by decide) rfl ?_
    intro k hk N hN
    refine ⟨fun h1 => ?_, fun h1 => ?_⟩
    · obtain ⟨u, hu⟩ := get_k h1
      refine ⟨u, geti hu, bnd ?_ (by decide), hN (lt_k h1) _ ?_⟩
      · rcases two_at hu with ⟨rfl, rfl⟩ | ⟨rfl, rfl⟩
        · simp
          omega
        · simp
          omega
      · rcases two_at hu with ⟨rfl, rfl⟩ | ⟨rfl, rfl⟩
        · simp
        · simp
    · have hk2 : k = 2 := by
        have := ge_k h1
        have : [a, b].length = 2 := rfl
        omega
      subst hk2
      rfl

end Go.Proofs.Ytfhgjhchjekbgaa
