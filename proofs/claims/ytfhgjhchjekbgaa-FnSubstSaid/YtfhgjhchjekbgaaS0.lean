/-
  Sorted names: what sorting and compacting gives is what putting each name in its place gives.
-/
import Derived.Test.YtfhgjhchjekbgaaOA
import Derived.Lib.SlicesCompact
import Derived.Sort.Walk0
set_option linter.unusedVariables false
set_option linter.unusedSimpArgs false
namespace Go.Proofs.Ytfhgjhchjekbgaa
open Go

theorem bl_iff (x y : Str) : Op.bytesLess x y = true ↔ x < y := by rw [bytesLess_eq]; simp
theorem insN_sorted (s : Str) : ∀ {l : List Str}, l.Pairwise (· < ·) → (insN s l).Pairwise (· < ·)
  | [], _ => by simp [insN]
  | x :: xs, h => by
    rw [List.pairwise_cons] at h
    simp only [insN]
    split
    · rename_i e
      have e' := (bl_iff x s).1 e
      rw [List.pairwise_cons]
      refine ⟨fun y hy => ?_, insN_sorted s h.2⟩
      rw [insN_mem] at hy
      rcases hy with rfl | hy
      · exact e'
      · exact h.1 y hy
    · rename_i e
      have e' : ¬ x < s := fun hh => e ((bl_iff x s).2 hh)
      split
      · rw [List.pairwise_cons]
        exact h
      · rename_i e2
        have e3 : s < x := by
          rcases List.le_iff_lt_or_eq.1 (List.not_lt.1 e') with h | h
          · exact h
          · subst h
            simp at e2
        rw [List.pairwise_cons, List.pairwise_cons]
        refine ⟨fun y hy => ?_, h⟩
        rcases List.mem_cons.1 hy with rfl | hy
        · exact e3
        · exact List.lt_trans e3 (h.1 y hy)
theorem foldN_sorted (l : List Str) : ∀ {o : List Str}, o.Pairwise (· < ·) → (l.foldl (fun o s => insN s o) o).Pairwise (· < ·) := by
  induction l with
  | nil => intro o h; exact h
  | cons x l ih => intro o h; exact ih (insN_sorted x h)
theorem sortN_sorted (l : List Str) : (sortN l).Pairwise (· < ·) := foldN_sorted l .nil
theorem sorted_ext : ∀ {a b : List Str}, a.Pairwise (· < ·) → b.Pairwise (· < ·) → (∀ x, x ∈ a ↔ x ∈ b) → a = b
  | [], [], _, _, _ => rfl
  | [], y :: b, _, _, h => by have := (h y).2 (by simp); cases this
  | x :: a, [], _, _, h => by have := (h x).1 (by simp); cases this
  | x :: a, y :: b, ha, hb, h => by
    rw [List.pairwise_cons] at ha hb
    have irr : ∀ z : Str, ¬ z < z := List.lt_irrefl
    have e : x = y := by
      rcases List.mem_cons.1 ((h x).1 (by simp)) with e | e
      · exact e
      · rcases List.mem_cons.1 ((h y).2 (by simp)) with e2 | e2
        · exact e2.symm
        · exact absurd (List.lt_trans (hb.1 x e) (ha.1 y e2)) (irr _)
    subst e
    congr 1
    refine sorted_ext ha.2 hb.2 fun z => ⟨fun hz => ?_, fun hz => ?_⟩
    · rcases List.mem_cons.1 ((h z).1 (by simp [hz])) with e | e
      · subst e
        exact absurd (ha.1 z hz) (irr _)
      · exact e
    · rcases List.mem_cons.1 ((h z).2 (by simp [hz])) with e | e
      · subst e
        exact absurd (hb.1 z hz) (irr _)
      · exact e
theorem compact_sorted {zs : List Str} (hz : zs.Pairwise (· ≤ ·)) : (Lib.compact zs).Pairwise (· < ·) ∧ ∀ x, x ∈ Lib.compact zs ↔ x ∈ zs := by
  have get : ∀ j, j < zs.length → zs.toArray[j]! = zs[j]?.getD default := fun j hj => by simp
  have mono : ∀ i j, i < j → j < zs.length → zs.toArray[i]! ≤ zs.toArray[j]! := fun i j hij hj => by
    have := List.pairwise_iff_getElem.1 hz i j (by omega) hj hij
    simpa [getElem!_pos, hj, show i < zs.length by omega] using this
  have key : ∀ m, m ≤ zs.length → (Lib.compactUpTo zs.toArray m).Pairwise (· < ·) ∧ ∀ x, x ∈ Lib.compactUpTo zs.toArray m ↔ ∃ j, j < m ∧ zs.toArray[j]! = x := by
    intro m
    induction m with
    | zero =>
      intro _
      constructor
      · simp [Lib.compactUpTo]
      · intro x
        simp [Lib.compactUpTo]
    | succ m ih =>
      intro hm
      obtain ⟨h1, h2⟩ := ih (by omega)
      rw [Lib.compactUpTo_succ]
      cases hk : Lib.keeps zs.toArray m with
      | true =>
        simp only [if_true]
        refine ⟨List.pairwise_append.2 ⟨h1, by simp, fun x hx y hy => ?_⟩, fun x => ?_⟩
        · simp only [List.mem_singleton] at hy
          subst hy
          obtain ⟨j, hj, rfl⟩ := (h2 x).1 hx
          simp only [Lib.keeps, decide_eq_true_eq] at hk
          have hne := hk.resolve_left (by omega)
          have hlt : zs.toArray[m - 1]! < zs.toArray[m]! := by
            rcases List.le_iff_lt_or_eq.1 (mono (m - 1) m (by omega) (by omega)) with h | h
            · exact h
            · exact absurd h.symm hne
          by_cases e : j = m - 1
          · rw [e]
            exact hlt
          · exact List.lt_of_le_of_lt (mono j (m - 1) (by omega) (by omega)) hlt
        · rw [List.mem_append, h2, List.mem_singleton]
          constructor
          · rintro (⟨j, hj, rfl⟩ | rfl)
            · exact ⟨j, by omega, rfl⟩
            · exact ⟨m, by omega, rfl⟩
          · rintro ⟨j, hj, rfl⟩
            by_cases e : j = m
            · subst e
              exact .inr rfl
            · exact .inl ⟨j, by omega, rfl⟩
      | false =>
        simp only [Bool.false_eq_true, if_false, List.append_nil]
        refine ⟨h1, fun x => ?_⟩
        rw [h2]
        simp only [Lib.keeps, decide_eq_false_iff_not, not_or, Decidable.not_not] at hk
        obtain ⟨hk1, hk2⟩ := hk
        constructor
        · rintro ⟨j, hj, rfl⟩
          exact ⟨j, by omega, rfl⟩
        · rintro ⟨j, hj, rfl⟩
          by_cases e : j = m
          · subst e
            exact ⟨j - 1, by omega, hk2.symm⟩
          · exact ⟨j, by omega, rfl⟩
  obtain ⟨h1, h2⟩ := key zs.length (Nat.le_refl _)
  refine ⟨h1, fun x => ?_⟩
  unfold Lib.compact
  rw [h2]
  constructor
  · rintro ⟨j, hj, rfl⟩
    rw [getElem!_pos _ j (by simpa using hj)]
    simp
  · intro hx
    obtain ⟨j, hj, rfl⟩ := List.mem_iff_getElem.1 hx
    exact ⟨j, hj, by rw [getElem!_pos _ j (by simpa using hj)]; simp⟩
theorem compact_merge (l : List Str) : Lib.compact (l.mergeSort fun x y => decide (x ≤ y)) = sortN l := by
  have hs : (l.mergeSort fun x y => decide (x ≤ y)).Pairwise (· ≤ ·) := by
    have := List.pairwise_mergeSort (le := fun x y : Str => decide (x ≤ y)) (fun a b c h1 h2 => by
      simp only [decide_eq_true_eq] at h1 h2 ⊢
      exact List.le_trans h1 h2) (fun a b => by
      simp only [Bool.or_eq_true, decide_eq_true_eq]
      exact List.le_total a b) l
    exact this.imp fun h => by simpa using h
  obtain ⟨h1, h2⟩ := compact_sorted hs
  refine sorted_ext h1 (sortN_sorted l) fun x => ?_
  rw [h2, sortN_mem, List.mem_mergeSort]

end Go.Proofs.Ytfhgjhchjekbgaa
